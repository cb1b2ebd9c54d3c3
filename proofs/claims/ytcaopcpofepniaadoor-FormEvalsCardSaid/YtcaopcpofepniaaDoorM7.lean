/- Plain laws, data behind worlds, and contracts of functions, for the last text. No conditions. -/
import Derived.Test.YtcaopcpofepniaaDoorM6
set_option linter.unusedSimpArgs false
set_option linter.unusedVariables false
set_option linter.unnecessarySimpa false
set_option linter.unusedSectionVars false
namespace Go.Proofs.YtcaopcpofepniaaDoor
open Go.RowKit

theorem PartsN.le {f : List GNode} {k i e : Nat} (h : PartsN f k i e) : k + i ≤ e := by
  induction h with
  | nil e => omega
  | cons h h2 ih => have := h.lt; omega
theorem PartsN.zero {f : List GNode} {i e : Nat} (h : PartsN f 0 i e) : i = e := by cases h; rfl
theorem PartsN.len {f : List GNode} {k i e : Nat} (h : PartsN f (k + 1) i e) : e ≤ f.length := by
  generalize hk : k + 1 = q at h
  induction h generalizing k with
  | nil e => omega
  | cons h h2 ih =>
    rename_i q' i' m' e'
    cases q' with
    | zero => have := h2.zero; have := h.lt; omega
    | succ q'' => exact ih rfl
theorem usesN_parts {n : GNode} (h : partsOf n.op ≠ 0) (v : Int) : usesN n v = false := by
  unfold partsOf at h
  have hp : n.op = 5 ∨ n.op = 8 ∨ n.op = 9 ∨ n.op = 6 ∨ n.op = 7 := by
    split at h
    · omega
    · split at h
      · omega
      · exact absurd rfl h
  unfold usesN
  rw [if_neg (by omega), decide_eq_false (show ¬ (n.op = 3 ∨ n.op = 4) by omega), decide_eq_false (show ¬ n.op = 4 by omega)]; rfl
/-- What is still to be looked at: so many parts, with what is free in them. -/
def RestR (G : World → Prop) (f : List GNode) (v : Nat) : Nat → Nat → Bool → Prop
  | 0, _, b => b = false
  | r + 1, j, b => ∃ m b1 b2, Snd Tryd.prog G 58 [tForm f, tNat j, tNat v] (.bool b1) ∧ Part f j m ∧ RestR G f v r m b2 ∧ b = (b1 || b2)
section
variable {G : World → Prop} (hG : Lasting G)
include hG
set_option maxHeartbeats 4000000 in
theorem REndOf_snd {f : List GNode} {i e : Nat} (h : Part f i e) (hl : f.length ≤ 40) : Snd Tryd.prog G 60 [tForm f, tNat i] (tNat e) := by
  have hpt : PartsN f 1 i e := .cons h (.nil e)
  have hie := h.lt
  refine snd_of_body (n := 20) (tm := [(0, .t (tForm f)), (1, .t (tNat i))]) (rs := [.tmp 4]) tt_ok Tryd.func60 rfl rfl rfl rfl rfl ?_
  have htb : Tab.ok Tryd.prog G [] := Tab.nil
  unfold tForm
  repeat' (first | (with_reducible first | apply w1 | apply w2 | apply w3 | apply w4 | apply w5 | apply w6 | apply w7 | apply w8 | apply w9 | apply wa | apply wb | apply wc) | ((with_reducible apply wd); focus decide) | ((with_reducible apply we); focus exact rfl) | ((with_reducible apply wf); focus exact rfl) | ((first | (with_reducible apply SW_run tt_ok hG htb) | ((with_reducible apply SW_draw rfl tt_ok hG htb); (focus kernel_rfl); focus simp only [List.range, List.range.loop, List.size_toArray, List.length_cons, List.length_nil, Nat.reduceAdd])); focus ((repeat' (first | (with_reducible first | exact wg | exact wh) | ((with_reducible first | apply wi | apply wj); focus (simp (discharger := omega) only [go_sem, simprocAttr]; with_reducible rfl)))); done)))
  refine SW_loop (fun mm s => ∃ (j k : Nat), mm = e - j ∧ s = ⟨20, [(0, .t (.list (f.map tNode))), (1, .t (tNat j)), (5, .t (tNat k))], []⟩ ∧ PartsN f k j e) (e - i)
    ⟨_, Norm.headS (own := []) (keep := [0, 1, 5]) (by refine ⟨?_, ?_⟩; (simp (discharger := omega) only [go_sem, simprocAttr]; with_reducible rfl); refine ⟨?_, ?_, ?_, ?_⟩ <;> (simp only [go_sem, simprocAttr]; with_reducible rfl)), i, 1, rfl, rfl, hpt⟩ ?_
  rintro mm s ⟨j, k, rfl, rfl, hP⟩
  have hle := hP.le
  cases k with
  | zero =>
    obtain rfl := hP.zero
    repeat' (first | (with_reducible first | apply w1 | apply w2 | apply w3 | apply w4 | apply w5 | apply w6 | apply w7 | apply w8 | apply w9 | apply wa | apply wb | apply wc) | ((with_reducible apply wd); focus decide) | ((with_reducible apply we); focus exact rfl) | ((with_reducible apply wf); focus exact rfl) | ((first | (with_reducible apply SW_run tt_ok hG htb) | ((with_reducible apply SW_draw rfl tt_ok hG htb); (focus kernel_rfl); focus simp only [List.range, List.range.loop, List.size_toArray, List.length_cons, List.length_nil, Nat.reduceAdd])); focus ((repeat' (first | (with_reducible first | exact wg | exact wh) | ((with_reducible first | apply wi | apply wj); focus (simp (discharger := omega) only [go_sem, simprocAttr]; with_reducible rfl)))); done)))
    exact (by simp (discharger := omega) only [go_sem, simprocAttr])
  | succ k =>
    obtain ⟨n, hn, hP2⟩ := hP.step
    have hlen := hP.len
    have hjl := (List.getElem?_eq_some_iff.1 hn).1
    have hn1 : f[j]! = n := by rw [getElem!_pos f j hjl]; exact (List.getElem?_eq_some_iff.1 hn).2
    have c1 := RPartsOf_snd hG n.op
    have hpc := parts_cases n.op
    have hkk : (k : Int) + partsOf n.op = ((k + (partsOf n.op).toNat : Nat) : Int) := by omega
    have hk1 : ((k + 1 : Nat) : Int) - 1 + partsOf n.op = ((k + (partsOf n.op).toNat : Nat) : Int) := by omega
    generalize k + (partsOf n.op).toNat = kk at *
    generalize partsOf n.op = pp at *
    have htb := Tab.cons c1 Tab.nil
    repeat' (first | (with_reducible first | apply w1 | apply w2 | apply w3 | apply w4 | apply w5 | apply w6 | apply w7 | apply w8 | apply w9 | apply wa | apply wb | apply wc) | ((with_reducible apply wd); focus decide) | ((with_reducible apply we); focus exact rfl) | ((with_reducible apply wf); focus exact rfl) | ((first | (with_reducible apply SW_run tt_ok hG htb) | ((with_reducible apply SW_draw rfl tt_ok hG htb); (focus kernel_rfl); focus simp only [List.range, List.range.loop, List.size_toArray, List.length_cons, List.length_nil, Nat.reduceAdd])); focus ((repeat' (first | (with_reducible first | exact wg | exact wh) | ((with_reducible first | apply wi | apply wj); focus (simp (discharger := omega) only [go_sem, hn1, tNode, hk1, simprocAttr]; with_reducible rfl)))); done)))
    exact ⟨e - (j + 1), _, by omega, Norm.headS (own := []) (keep := [0, 1, 5]) (by refine ⟨?_, ?_⟩; (simp (discharger := omega) only [go_sem, simprocAttr]; with_reducible rfl); refine ⟨?_, ?_, ?_, ?_⟩ <;> (simp only [go_sem, simprocAttr]; with_reducible rfl)), j + 1, kk, rfl, rfl, hP2⟩
set_option maxHeartbeats 4000000 in
theorem Ruses_snd (n : GNode) (v : Nat) (hv : v < 1000) (hc : n.coefs.length ≤ 1000) : Snd Tryd.prog G 77 [tNode n, tNat v] (.bool (usesN n v)) := by
  obtain ⟨op, var, other, word, word2, num, coefs⟩ := n
  have hc : coefs.length ≤ 1000 := hc
  refine snd_of_body (n := 51) (tm := [(0, .t (tNode ⟨op, var, other, word, word2, num, coefs⟩)), (1, .t (tNat v))]) (rs := [.tmp 4]) tt_ok Tryd.func77 rfl rfl rfl rfl rfl ?_
  have htb : Tab.ok Tryd.prog G [] := Tab.nil
  by_cases hl : op = 1 ∨ op = 2
  · have e : usesN ⟨op, var, other, word, word2, num, coefs⟩ v = (decide ((v : Int) < coefs.length) && decide (coefs.getD v 0 ≠ 0)) := by unfold usesN; rw [if_pos hl]; simp
    rw [e]
    by_cases hvl : v < coefs.length
    · obtain ⟨x, hx⟩ : ∃ x, coefs[v]! = x := ⟨_, rfl⟩
      rw [bang_D hx hvl, decide_eq_true (show (v : Int) < coefs.length by omega), Bool.true_and]
      by_cases h0 : x = 0
      · rw [decide_eq_false (by omega)]
        rcases hl with rfl | rfl
        · repeat' (first | (with_reducible first | apply w1 | apply w2 | apply w3 | apply w4 | apply w5 | apply w6 | apply w7 | apply w8 | apply w9 | apply wa | apply wb | apply wc) | ((with_reducible apply wd); focus decide) | ((with_reducible apply we); focus exact rfl) | ((with_reducible apply wf); focus exact rfl) | ((first | (with_reducible apply SW_run tt_ok hG htb) | ((with_reducible apply SW_draw rfl tt_ok hG htb); (focus kernel_rfl); focus simp only [List.range, List.range.loop, List.size_toArray, List.length_cons, List.length_nil, Nat.reduceAdd])); focus ((repeat' (first | (with_reducible first | exact wg | exact wh) | ((with_reducible first | apply wi | apply wj); focus (simp (discharger := omega) only [go_sem, tNode, hx, h0, simprocAttr]; with_reducible rfl)))); done)))
          exact (by simp (discharger := omega) only [go_sem, simprocAttr])
        · repeat' (first | (with_reducible first | apply w1 | apply w2 | apply w3 | apply w4 | apply w5 | apply w6 | apply w7 | apply w8 | apply w9 | apply wa | apply wb | apply wc) | ((with_reducible apply wd); focus decide) | ((with_reducible apply we); focus exact rfl) | ((with_reducible apply wf); focus exact rfl) | ((first | (with_reducible apply SW_run tt_ok hG htb) | ((with_reducible apply SW_draw rfl tt_ok hG htb); (focus kernel_rfl); focus simp only [List.range, List.range.loop, List.size_toArray, List.length_cons, List.length_nil, Nat.reduceAdd])); focus ((repeat' (first | (with_reducible first | exact wg | exact wh) | ((with_reducible first | apply wi | apply wj); focus (simp (discharger := omega) only [go_sem, tNode, hx, h0, simprocAttr]; with_reducible rfl)))); done)))
          exact (by simp (discharger := omega) only [go_sem, simprocAttr])
      · rw [decide_eq_true h0]
        rcases hl with rfl | rfl
        · repeat' (first | (with_reducible first | apply w1 | apply w2 | apply w3 | apply w4 | apply w5 | apply w6 | apply w7 | apply w8 | apply w9 | apply wa | apply wb | apply wc) | ((with_reducible apply wd); focus decide) | ((with_reducible apply we); focus exact rfl) | ((with_reducible apply wf); focus exact rfl) | ((first | (with_reducible apply SW_run tt_ok hG htb) | ((with_reducible apply SW_draw rfl tt_ok hG htb); (focus kernel_rfl); focus simp only [List.range, List.range.loop, List.size_toArray, List.length_cons, List.length_nil, Nat.reduceAdd])); focus ((repeat' (first | (with_reducible first | exact wg | exact wh) | ((with_reducible first | apply wi | apply wj); focus (simp (discharger := omega) only [go_sem, tNode, hx, h0, simprocAttr]; with_reducible rfl)))); done)))
          exact (by simp (discharger := omega) only [go_sem, simprocAttr])
        · repeat' (first | (with_reducible first | apply w1 | apply w2 | apply w3 | apply w4 | apply w5 | apply w6 | apply w7 | apply w8 | apply w9 | apply wa | apply wb | apply wc) | ((with_reducible apply wd); focus decide) | ((with_reducible apply we); focus exact rfl) | ((with_reducible apply wf); focus exact rfl) | ((first | (with_reducible apply SW_run tt_ok hG htb) | ((with_reducible apply SW_draw rfl tt_ok hG htb); (focus kernel_rfl); focus simp only [List.range, List.range.loop, List.size_toArray, List.length_cons, List.length_nil, Nat.reduceAdd])); focus ((repeat' (first | (with_reducible first | exact wg | exact wh) | ((with_reducible first | apply wi | apply wj); focus (simp (discharger := omega) only [go_sem, tNode, hx, h0, simprocAttr]; with_reducible rfl)))); done)))
          exact (by simp (discharger := omega) only [go_sem, simprocAttr])
    · rw [decide_eq_false (show ¬ (v : Int) < coefs.length by omega), Bool.false_and]
      rcases hl with rfl | rfl
      · repeat' (first | (with_reducible first | apply w1 | apply w2 | apply w3 | apply w4 | apply w5 | apply w6 | apply w7 | apply w8 | apply w9 | apply wa | apply wb | apply wc) | ((with_reducible apply wd); focus decide) | ((with_reducible apply we); focus exact rfl) | ((with_reducible apply wf); focus exact rfl) | ((first | (with_reducible apply SW_run tt_ok hG htb) | ((with_reducible apply SW_draw rfl tt_ok hG htb); (focus kernel_rfl); focus simp only [List.range, List.range.loop, List.size_toArray, List.length_cons, List.length_nil, Nat.reduceAdd])); focus ((repeat' (first | (with_reducible first | exact wg | exact wh) | ((with_reducible first | apply wi | apply wj); focus (simp (discharger := omega) only [go_sem, tNode, simprocAttr]; with_reducible rfl)))); done)))
        exact (by simp (discharger := omega) only [go_sem, simprocAttr])
      · repeat' (first | (with_reducible first | apply w1 | apply w2 | apply w3 | apply w4 | apply w5 | apply w6 | apply w7 | apply w8 | apply w9 | apply wa | apply wb | apply wc) | ((with_reducible apply wd); focus decide) | ((with_reducible apply we); focus exact rfl) | ((with_reducible apply wf); focus exact rfl) | ((first | (with_reducible apply SW_run tt_ok hG htb) | ((with_reducible apply SW_draw rfl tt_ok hG htb); (focus kernel_rfl); focus simp only [List.range, List.range.loop, List.size_toArray, List.length_cons, List.length_nil, Nat.reduceAdd])); focus ((repeat' (first | (with_reducible first | exact wg | exact wh) | ((with_reducible first | apply wi | apply wj); focus (simp (discharger := omega) only [go_sem, tNode, simprocAttr]; with_reducible rfl)))); done)))
        exact (by simp (discharger := omega) only [go_sem, simprocAttr])
  · have h1 : ¬ op = 1 := fun e => hl (.inl e)
    have h2 : ¬ op = 2 := fun e => hl (.inr e)
    have e : usesN ⟨op, var, other, word, word2, num, coefs⟩ v = ((decide (op = 3 ∨ op = 4) && decide (var = v)) || (decide (op = 4) && decide (other = v))) := by unfold usesN; rw [if_neg hl]
    rw [e]
    by_cases h3 : op = 3
    · subst h3
      by_cases hv : var = v
      · rw [decide_eq_true hv]
        repeat' (first | (with_reducible first | apply w1 | apply w2 | apply w3 | apply w4 | apply w5 | apply w6 | apply w7 | apply w8 | apply w9 | apply wa | apply wb | apply wc) | ((with_reducible apply wd); focus decide) | ((with_reducible apply we); focus exact rfl) | ((with_reducible apply wf); focus exact rfl) | ((first | (with_reducible apply SW_run tt_ok hG htb) | ((with_reducible apply SW_draw rfl tt_ok hG htb); (focus kernel_rfl); focus simp only [List.range, List.range.loop, List.size_toArray, List.length_cons, List.length_nil, Nat.reduceAdd])); focus ((repeat' (first | (with_reducible first | exact wg | exact wh) | ((with_reducible first | apply wi | apply wj); focus (simp (discharger := omega) only [go_sem, tNode, hv, simprocAttr]; with_reducible rfl)))); done)))
        exact (by simp (discharger := omega) only [go_sem, simprocAttr])
      · rw [decide_eq_false hv]
        repeat' (first | (with_reducible first | apply w1 | apply w2 | apply w3 | apply w4 | apply w5 | apply w6 | apply w7 | apply w8 | apply w9 | apply wa | apply wb | apply wc) | ((with_reducible apply wd); focus decide) | ((with_reducible apply we); focus exact rfl) | ((with_reducible apply wf); focus exact rfl) | ((first | (with_reducible apply SW_run tt_ok hG htb) | ((with_reducible apply SW_draw rfl tt_ok hG htb); (focus kernel_rfl); focus simp only [List.range, List.range.loop, List.size_toArray, List.length_cons, List.length_nil, Nat.reduceAdd])); focus ((repeat' (first | (with_reducible first | exact wg | exact wh) | ((with_reducible first | apply wi | apply wj); focus (simp (discharger := omega) only [go_sem, tNode, hv, simprocAttr]; with_reducible rfl)))); done)))
        exact (by simp (discharger := omega) only [go_sem, simprocAttr])
    · by_cases h4 : op = 4
      · subst h4
        by_cases hv : var = v
        · rw [decide_eq_true hv]
          repeat' (first | (with_reducible first | apply w1 | apply w2 | apply w3 | apply w4 | apply w5 | apply w6 | apply w7 | apply w8 | apply w9 | apply wa | apply wb | apply wc) | ((with_reducible apply wd); focus decide) | ((with_reducible apply we); focus exact rfl) | ((with_reducible apply wf); focus exact rfl) | ((first | (with_reducible apply SW_run tt_ok hG htb) | ((with_reducible apply SW_draw rfl tt_ok hG htb); (focus kernel_rfl); focus simp only [List.range, List.range.loop, List.size_toArray, List.length_cons, List.length_nil, Nat.reduceAdd])); focus ((repeat' (first | (with_reducible first | exact wg | exact wh) | ((with_reducible first | apply wi | apply wj); focus (simp (discharger := omega) only [go_sem, tNode, hv, simprocAttr]; with_reducible rfl)))); done)))
          exact (by simp (discharger := omega) only [go_sem, simprocAttr])
        · rw [decide_eq_false hv]
          by_cases ho : other = v
          · rw [decide_eq_true ho]
            repeat' (first | (with_reducible first | apply w1 | apply w2 | apply w3 | apply w4 | apply w5 | apply w6 | apply w7 | apply w8 | apply w9 | apply wa | apply wb | apply wc) | ((with_reducible apply wd); focus decide) | ((with_reducible apply we); focus exact rfl) | ((with_reducible apply wf); focus exact rfl) | ((first | (with_reducible apply SW_run tt_ok hG htb) | ((with_reducible apply SW_draw rfl tt_ok hG htb); (focus kernel_rfl); focus simp only [List.range, List.range.loop, List.size_toArray, List.length_cons, List.length_nil, Nat.reduceAdd])); focus ((repeat' (first | (with_reducible first | exact wg | exact wh) | ((with_reducible first | apply wi | apply wj); focus (simp (discharger := omega) only [go_sem, tNode, hv, ho, simprocAttr]; with_reducible rfl)))); done)))
            exact (by simp (discharger := omega) only [go_sem, simprocAttr])
          · rw [decide_eq_false ho]
            repeat' (first | (with_reducible first | apply w1 | apply w2 | apply w3 | apply w4 | apply w5 | apply w6 | apply w7 | apply w8 | apply w9 | apply wa | apply wb | apply wc) | ((with_reducible apply wd); focus decide) | ((with_reducible apply we); focus exact rfl) | ((with_reducible apply wf); focus exact rfl) | ((first | (with_reducible apply SW_run tt_ok hG htb) | ((with_reducible apply SW_draw rfl tt_ok hG htb); (focus kernel_rfl); focus simp only [List.range, List.range.loop, List.size_toArray, List.length_cons, List.length_nil, Nat.reduceAdd])); focus ((repeat' (first | (with_reducible first | exact wg | exact wh) | ((with_reducible first | apply wi | apply wj); focus (simp (discharger := omega) only [go_sem, tNode, hv, ho, simprocAttr]; with_reducible rfl)))); done)))
            exact (by simp (discharger := omega) only [go_sem, simprocAttr])
      · rw [decide_eq_false (show ¬ (op = 3 ∨ op = 4) by omega), decide_eq_false h4]
        repeat' (first | (with_reducible first | apply w1 | apply w2 | apply w3 | apply w4 | apply w5 | apply w6 | apply w7 | apply w8 | apply w9 | apply wa | apply wb | apply wc) | ((with_reducible apply wd); focus decide) | ((with_reducible apply we); focus exact rfl) | ((with_reducible apply wf); focus exact rfl) | ((first | (with_reducible apply SW_run tt_ok hG htb) | ((with_reducible apply SW_draw rfl tt_ok hG htb); (focus kernel_rfl); focus simp only [List.range, List.range.loop, List.size_toArray, List.length_cons, List.length_nil, Nat.reduceAdd])); focus ((repeat' (first | (with_reducible first | exact wg | exact wh) | ((with_reducible first | apply wi | apply wj); focus (simp (discharger := omega) only [go_sem, tNode, h1, h2, h3, h4, simprocAttr]; with_reducible rfl)))); done)))
        exact (by simp (discharger := omega) only [go_sem, simprocAttr])
set_option maxHeartbeats 8000000 in
theorem RfreeIn_step {f : List GNode} {i : Nat} {n : GNode} (hl : f.length ≤ 40) (hn : f[i]? = some n) (hc : n.coefs.length ≤ 1000) (v : Nat) (hv : v < 1000) (b : Bool)
    (h8 : (n.op = 8 ∨ n.op = 9) ∧ n.var = v → b = false) (hb : ¬ ((n.op = 8 ∨ n.op = 9) ∧ n.var = v) → ∃ b', RestR G f v (partsOf n.op).toNat (i + 1) b' ∧ b = (usesN n v || b')) :
    Snd Tryd.prog G 58 [tForm f, tNat i, tNat v] (.bool b) := by
  have hil := (List.getElem?_eq_some_iff.1 hn).1
  have hn1 : f[i]! = n := by rw [getElem!_pos f i hil]; exact (List.getElem?_eq_some_iff.1 hn).2
  have cU := Ruses_snd hG n v hv hc
  have cP := RPartsOf_snd hG n.op
  have hpc := parts_cases n.op
  obtain ⟨op, var, other, word, word2, num, coefs⟩ := n
  simp only at h8 hb cP hpc
  refine snd_of_body (n := 50) (tm := [(0, .t (tForm f)), (1, .t (tNat i)), (2, .t (tNat v))]) (rs := [.tmp 6]) tt_ok Tryd.func58 rfl rfl rfl rfl rfl ?_
  unfold tForm
  have htb : Tab.ok Tryd.prog G [] := Tab.nil
  have hc : coefs.length ≤ 1000 := hc
  -- the test of a variable that is bound here
  by_cases h89 : op = 8 ∨ op = 9
  · by_cases hvv : var = v
    · rw [h8 ⟨h89, hvv⟩]
      rcases h89 with rfl | rfl
      · repeat' (first | (with_reducible first | apply w1 | apply w2 | apply w3 | apply w4 | apply w5 | apply w6 | apply w7 | apply w8 | apply w9 | apply wa | apply wb | apply wc) | ((with_reducible apply wd); focus decide) | ((with_reducible apply we); focus exact rfl) | ((with_reducible apply wf); focus exact rfl) | ((first | (with_reducible apply SW_run tt_ok hG htb) | ((with_reducible apply SW_draw rfl tt_ok hG htb); (focus kernel_rfl); focus simp only [List.range, List.range.loop, List.size_toArray, List.length_cons, List.length_nil, Nat.reduceAdd])); focus ((repeat' (first | (with_reducible first | exact wg | exact wh) | ((with_reducible first | apply wi | apply wj); focus (simp (discharger := omega) only [go_sem, hn1, tNode, hvv, simprocAttr]; with_reducible rfl)))); done)))
        exact (by simp (discharger := omega) only [go_sem, simprocAttr])
      · repeat' (first | (with_reducible first | apply w1 | apply w2 | apply w3 | apply w4 | apply w5 | apply w6 | apply w7 | apply w8 | apply w9 | apply wa | apply wb | apply wc) | ((with_reducible apply wd); focus decide) | ((with_reducible apply we); focus exact rfl) | ((with_reducible apply wf); focus exact rfl) | ((first | (with_reducible apply SW_run tt_ok hG htb) | ((with_reducible apply SW_draw rfl tt_ok hG htb); (focus kernel_rfl); focus simp only [List.range, List.range.loop, List.size_toArray, List.length_cons, List.length_nil, Nat.reduceAdd])); focus ((repeat' (first | (with_reducible first | exact wg | exact wh) | ((with_reducible first | apply wi | apply wj); focus (simp (discharger := omega) only [go_sem, hn1, tNode, hvv, simprocAttr]; with_reducible rfl)))); done)))
        exact (by simp (discharger := omega) only [go_sem, simprocAttr])
    · obtain ⟨b', hR, rfl⟩ := hb fun e => hvv e.2
      clear h8 hb
      have hu : usesN ⟨op, var, other, word, word2, num, coefs⟩ v = false := by
        unfold usesN
        rw [if_neg (by simp only; omega), decide_eq_false (show ¬ (op = 3 ∨ op = 4) by omega), decide_eq_false (show ¬ op = 4 by omega)]; rfl
      rw [hu] at cU ⊢
      rw [Bool.false_or]
      have hp : partsOf op = 1 := by unfold partsOf; rw [if_pos (by omega)]
      rw [hp] at cP hR
      have htb := Tab.cons cU (Tab.cons cP Tab.nil)
      rcases h89 with rfl | rfl
      · repeat' (first | (with_reducible first | apply w1 | apply w2 | apply w3 | apply w4 | apply w5 | apply w6 | apply w7 | apply w8 | apply w9 | apply wa | apply wb | apply wc) | ((with_reducible apply wd); focus decide) | ((with_reducible apply we); focus exact rfl) | ((with_reducible apply wf); focus exact rfl) | ((first | (with_reducible apply SW_run tt_ok hG htb) | ((with_reducible apply SW_draw rfl tt_ok hG htb); (focus kernel_rfl); focus simp only [List.range, List.range.loop, List.size_toArray, List.length_cons, List.length_nil, Nat.reduceAdd])); focus ((repeat' (first | (with_reducible first | exact wg | exact wh) | ((with_reducible first | apply wi | apply wj); focus (simp (discharger := omega) only [go_sem, hn1, tNode, hvv, simprocAttr]; with_reducible rfl)))); done)))
        refine SW_loop (fun mm s => ∃ (k j : Nat), mm = 1 - k ∧ s = ⟨50, [(0, .t (.list (f.map tNode))), (1, .t (tNat j)), (2, .t (tInt v)), (7, .bptr 0 0), (9, .t (tNat k))], [.box [.t (tInt 8), .t (tInt var), .t (tInt other), .t (tInt word), .t (tInt word2), .t (tInt num), .t (tInts coefs)]]⟩ ∧ k ≤ 1 ∧ RestR G f v (1 - k) j b') (1)
          ⟨_, Norm.headS (own := []) (keep := [0, 1, 2, 7, 9]) (by refine ⟨?_, ?_⟩; (simp (discharger := omega) only [go_sem, simprocAttr]; with_reducible rfl); refine ⟨?_, ?_, ?_, ?_⟩ <;> (simp only [go_sem, simprocAttr]; with_reducible rfl)), 0, i + 1, rfl, rfl, Nat.zero_le _, hR⟩ ?_
        rintro mm s ⟨k, j, rfl, rfl, hk, hRk⟩
        clear htb hR
        by_cases hlt : k < 1
        · obtain ⟨r, hr⟩ : ∃ r, 1 - k = r + 1 := ⟨1 - k - 1, by omega⟩
          rw [hr] at hRk
          obtain ⟨m, b1, b2, c1, hpt, hR2, rfl⟩ := hRk
          have hml := hpt.lt
          have c2 := REndOf_snd hG hpt hl
          have htb := Tab.cons cP (Tab.cons c1 (Tab.cons c2 Tab.nil))
          unfold tForm at htb
          cases b1 with
          | true =>
            rw [Bool.true_or]
            repeat' (first | (with_reducible first | apply w1 | apply w2 | apply w3 | apply w4 | apply w5 | apply w6 | apply w7 | apply w8 | apply w9 | apply wa | apply wb | apply wc) | ((with_reducible apply wd); focus decide) | ((with_reducible apply we); focus exact rfl) | ((with_reducible apply wf); focus exact rfl) | ((first | (with_reducible apply SW_run tt_ok hG htb) | ((with_reducible apply SW_draw rfl tt_ok hG htb); (focus kernel_rfl); focus simp only [List.range, List.range.loop, List.size_toArray, List.length_cons, List.length_nil, Nat.reduceAdd])); focus ((repeat' (first | (with_reducible first | exact wg | exact wh) | ((with_reducible first | apply wi | apply wj); focus (simp (discharger := omega) only [go_sem, tNode, simprocAttr]; with_reducible rfl)))); done)))
            exact (by simp (discharger := omega) only [go_sem, simprocAttr])
          | false =>
            rw [Bool.false_or]
            repeat' (first | (with_reducible first | apply w1 | apply w2 | apply w3 | apply w4 | apply w5 | apply w6 | apply w7 | apply w8 | apply w9 | apply wa | apply wb | apply wc) | ((with_reducible apply wd); focus decide) | ((with_reducible apply we); focus exact rfl) | ((with_reducible apply wf); focus exact rfl) | ((first | (with_reducible apply SW_run tt_ok hG htb) | ((with_reducible apply SW_draw rfl tt_ok hG htb); (focus kernel_rfl); focus simp only [List.range, List.range.loop, List.size_toArray, List.length_cons, List.length_nil, Nat.reduceAdd])); focus ((repeat' (first | (with_reducible first | exact wg | exact wh) | ((with_reducible first | apply wi | apply wj); focus (simp (discharger := omega) only [go_sem, tNode, simprocAttr]; with_reducible rfl)))); done)))
            exact ⟨1 - (k + 1), _, by omega, Norm.headS (own := []) (keep := [0, 1, 2, 7, 9]) (by refine ⟨?_, ?_⟩; (simp (discharger := omega) only [go_sem, simprocAttr]; with_reducible rfl); refine ⟨?_, ?_, ?_, ?_⟩ <;> (simp only [go_sem, simprocAttr]; with_reducible rfl)), k + 1, m, rfl, rfl, by omega, by rw [show 1 - (k + 1) = r by omega]; exact hR2⟩
        · rw [show 1 - k = 0 by omega] at hRk
          rw [show b' = false from hRk]
          have htb := Tab.cons cP Tab.nil
          repeat' (first | (with_reducible first | apply w1 | apply w2 | apply w3 | apply w4 | apply w5 | apply w6 | apply w7 | apply w8 | apply w9 | apply wa | apply wb | apply wc) | ((with_reducible apply wd); focus decide) | ((with_reducible apply we); focus exact rfl) | ((with_reducible apply wf); focus exact rfl) | ((first | (with_reducible apply SW_run tt_ok hG htb) | ((with_reducible apply SW_draw rfl tt_ok hG htb); (focus kernel_rfl); focus simp only [List.range, List.range.loop, List.size_toArray, List.length_cons, List.length_nil, Nat.reduceAdd])); focus ((repeat' (first | (with_reducible first | exact wg | exact wh) | ((with_reducible first | apply wi | apply wj); focus (simp (discharger := omega) only [go_sem, tNode, simprocAttr]; with_reducible rfl)))); done)))
          exact (by simp (discharger := omega) only [go_sem, simprocAttr])
      · repeat' (first | (with_reducible first | apply w1 | apply w2 | apply w3 | apply w4 | apply w5 | apply w6 | apply w7 | apply w8 | apply w9 | apply wa | apply wb | apply wc) | ((with_reducible apply wd); focus decide) | ((with_reducible apply we); focus exact rfl) | ((with_reducible apply wf); focus exact rfl) | ((first | (with_reducible apply SW_run tt_ok hG htb) | ((with_reducible apply SW_draw rfl tt_ok hG htb); (focus kernel_rfl); focus simp only [List.range, List.range.loop, List.size_toArray, List.length_cons, List.length_nil, Nat.reduceAdd])); focus ((repeat' (first | (with_reducible first | exact wg | exact wh) | ((with_reducible first | apply wi | apply wj); focus (simp (discharger := omega) only [go_sem, hn1, tNode, hvv, simprocAttr]; with_reducible rfl)))); done)))
        refine SW_loop (fun mm s => ∃ (k j : Nat), mm = 1 - k ∧ s = ⟨50, [(0, .t (.list (f.map tNode))), (1, .t (tNat j)), (2, .t (tInt v)), (7, .bptr 0 0), (9, .t (tNat k))], [.box [.t (tInt 9), .t (tInt var), .t (tInt other), .t (tInt word), .t (tInt word2), .t (tInt num), .t (tInts coefs)]]⟩ ∧ k ≤ 1 ∧ RestR G f v (1 - k) j b') (1)
          ⟨_, Norm.headS (own := []) (keep := [0, 1, 2, 7, 9]) (by refine ⟨?_, ?_⟩; (simp (discharger := omega) only [go_sem, simprocAttr]; with_reducible rfl); refine ⟨?_, ?_, ?_, ?_⟩ <;> (simp only [go_sem, simprocAttr]; with_reducible rfl)), 0, i + 1, rfl, rfl, Nat.zero_le _, hR⟩ ?_
        rintro mm s ⟨k, j, rfl, rfl, hk, hRk⟩
        clear htb hR
        by_cases hlt : k < 1
        · obtain ⟨r, hr⟩ : ∃ r, 1 - k = r + 1 := ⟨1 - k - 1, by omega⟩
          rw [hr] at hRk
          obtain ⟨m, b1, b2, c1, hpt, hR2, rfl⟩ := hRk
          have hml := hpt.lt
          have c2 := REndOf_snd hG hpt hl
          have htb := Tab.cons cP (Tab.cons c1 (Tab.cons c2 Tab.nil))
          unfold tForm at htb
          cases b1 with
          | true =>
            rw [Bool.true_or]
            repeat' (first | (with_reducible first | apply w1 | apply w2 | apply w3 | apply w4 | apply w5 | apply w6 | apply w7 | apply w8 | apply w9 | apply wa | apply wb | apply wc) | ((with_reducible apply wd); focus decide) | ((with_reducible apply we); focus exact rfl) | ((with_reducible apply wf); focus exact rfl) | ((first | (with_reducible apply SW_run tt_ok hG htb) | ((with_reducible apply SW_draw rfl tt_ok hG htb); (focus kernel_rfl); focus simp only [List.range, List.range.loop, List.size_toArray, List.length_cons, List.length_nil, Nat.reduceAdd])); focus ((repeat' (first | (with_reducible first | exact wg | exact wh) | ((with_reducible first | apply wi | apply wj); focus (simp (discharger := omega) only [go_sem, tNode, simprocAttr]; with_reducible rfl)))); done)))
            exact (by simp (discharger := omega) only [go_sem, simprocAttr])
          | false =>
            rw [Bool.false_or]
            repeat' (first | (with_reducible first | apply w1 | apply w2 | apply w3 | apply w4 | apply w5 | apply w6 | apply w7 | apply w8 | apply w9 | apply wa | apply wb | apply wc) | ((with_reducible apply wd); focus decide) | ((with_reducible apply we); focus exact rfl) | ((with_reducible apply wf); focus exact rfl) | ((first | (with_reducible apply SW_run tt_ok hG htb) | ((with_reducible apply SW_draw rfl tt_ok hG htb); (focus kernel_rfl); focus simp only [List.range, List.range.loop, List.size_toArray, List.length_cons, List.length_nil, Nat.reduceAdd])); focus ((repeat' (first | (with_reducible first | exact wg | exact wh) | ((with_reducible first | apply wi | apply wj); focus (simp (discharger := omega) only [go_sem, tNode, simprocAttr]; with_reducible rfl)))); done)))
            exact ⟨1 - (k + 1), _, by omega, Norm.headS (own := []) (keep := [0, 1, 2, 7, 9]) (by refine ⟨?_, ?_⟩; (simp (discharger := omega) only [go_sem, simprocAttr]; with_reducible rfl); refine ⟨?_, ?_, ?_, ?_⟩ <;> (simp only [go_sem, simprocAttr]; with_reducible rfl)), k + 1, m, rfl, rfl, by omega, by rw [show 1 - (k + 1) = r by omega]; exact hR2⟩
        · rw [show 1 - k = 0 by omega] at hRk
          rw [show b' = false from hRk]
          have htb := Tab.cons cP Tab.nil
          repeat' (first | (with_reducible first | apply w1 | apply w2 | apply w3 | apply w4 | apply w5 | apply w6 | apply w7 | apply w8 | apply w9 | apply wa | apply wb | apply wc) | ((with_reducible apply wd); focus decide) | ((with_reducible apply we); focus exact rfl) | ((with_reducible apply wf); focus exact rfl) | ((first | (with_reducible apply SW_run tt_ok hG htb) | ((with_reducible apply SW_draw rfl tt_ok hG htb); (focus kernel_rfl); focus simp only [List.range, List.range.loop, List.size_toArray, List.length_cons, List.length_nil, Nat.reduceAdd])); focus ((repeat' (first | (with_reducible first | exact wg | exact wh) | ((with_reducible first | apply wi | apply wj); focus (simp (discharger := omega) only [go_sem, tNode, simprocAttr]; with_reducible rfl)))); done)))
          exact (by simp (discharger := omega) only [go_sem, simprocAttr])
  · have n8 : ¬ op = 8 := fun e => h89 (.inl e)
    have n9 : ¬ op = 9 := fun e => h89 (.inr e)
    obtain ⟨b', hR, rfl⟩ := hb fun e => h89 e.1
    clear h8 hb
    generalize usesN ⟨op, var, other, word, word2, num, coefs⟩ v = u at *
    cases u with
    | true =>
      rw [Bool.true_or]
      have htb := Tab.cons cU Tab.nil
      repeat' (first | (with_reducible first | apply w1 | apply w2 | apply w3 | apply w4 | apply w5 | apply w6 | apply w7 | apply w8 | apply w9 | apply wa | apply wb | apply wc) | ((with_reducible apply wd); focus decide) | ((with_reducible apply we); focus exact rfl) | ((with_reducible apply wf); focus exact rfl) | ((first | (with_reducible apply SW_run tt_ok hG htb) | ((with_reducible apply SW_draw rfl tt_ok hG htb); (focus kernel_rfl); focus simp only [List.range, List.range.loop, List.size_toArray, List.length_cons, List.length_nil, Nat.reduceAdd])); focus ((repeat' (first | (with_reducible first | exact wg | exact wh) | ((with_reducible first | apply wi | apply wj); focus (simp (discharger := omega) only [go_sem, hn1, tNode, n8, n9, simprocAttr]; with_reducible rfl)))); done)))
      exact (by simp (discharger := omega) only [go_sem, simprocAttr])
    | false =>
      rw [Bool.false_or]
      generalize hpE : partsOf op = pp at *
      have htb := Tab.cons cU (Tab.cons cP Tab.nil)
      repeat' (first | (with_reducible first | apply w1 | apply w2 | apply w3 | apply w4 | apply w5 | apply w6 | apply w7 | apply w8 | apply w9 | apply wa | apply wb | apply wc) | ((with_reducible apply wd); focus decide) | ((with_reducible apply we); focus exact rfl) | ((with_reducible apply wf); focus exact rfl) | ((first | (with_reducible apply SW_run tt_ok hG htb) | ((with_reducible apply SW_draw rfl tt_ok hG htb); (focus kernel_rfl); focus simp only [List.range, List.range.loop, List.size_toArray, List.length_cons, List.length_nil, Nat.reduceAdd])); focus ((repeat' (first | (with_reducible first | exact wg | exact wh) | ((with_reducible first | apply wi | apply wj); focus (simp (discharger := omega) only [go_sem, hn1, tNode, n8, n9, simprocAttr]; with_reducible rfl)))); done)))
      refine SW_loop (fun mm s => ∃ (k j : Nat), mm = pp.toNat - k ∧ s = ⟨50, [(0, .t (.list (f.map tNode))), (1, .t (tNat j)), (2, .t (tInt v)), (7, .bptr 0 0), (9, .t (tNat k))], [.box [.t (tInt op), .t (tInt var), .t (tInt other), .t (tInt word), .t (tInt word2), .t (tInt num), .t (tInts coefs)]]⟩ ∧ k ≤ pp.toNat ∧ RestR G f v (pp.toNat - k) j b') (pp.toNat)
        ⟨_, Norm.headS (own := []) (keep := [0, 1, 2, 7, 9]) (by refine ⟨?_, ?_⟩; (simp (discharger := omega) only [go_sem, simprocAttr]; with_reducible rfl); refine ⟨?_, ?_, ?_, ?_⟩ <;> (simp only [go_sem, simprocAttr]; with_reducible rfl)), 0, i + 1, rfl, rfl, Nat.zero_le _, hR⟩ ?_
      rintro mm s ⟨k, j, rfl, rfl, hk, hRk⟩
      clear htb hR
      by_cases hlt : k < pp.toNat
      · obtain ⟨r, hr⟩ : ∃ r, pp.toNat - k = r + 1 := ⟨pp.toNat - k - 1, by omega⟩
        rw [hr] at hRk
        obtain ⟨m, b1, b2, c1, hpt, hR2, rfl⟩ := hRk
        have hml := hpt.lt
        have c2 := REndOf_snd hG hpt hl
        have htb := Tab.cons cP (Tab.cons c1 (Tab.cons c2 Tab.nil))
        unfold tForm at htb
        cases b1 with
        | true =>
          rw [Bool.true_or]
          repeat' (first | (with_reducible first | apply w1 | apply w2 | apply w3 | apply w4 | apply w5 | apply w6 | apply w7 | apply w8 | apply w9 | apply wa | apply wb | apply wc) | ((with_reducible apply wd); focus decide) | ((with_reducible apply we); focus exact rfl) | ((with_reducible apply wf); focus exact rfl) | ((first | (with_reducible apply SW_run tt_ok hG htb) | ((with_reducible apply SW_draw rfl tt_ok hG htb); (focus kernel_rfl); focus simp only [List.range, List.range.loop, List.size_toArray, List.length_cons, List.length_nil, Nat.reduceAdd])); focus ((repeat' (first | (with_reducible first | exact wg | exact wh) | ((with_reducible first | apply wi | apply wj); focus (simp (discharger := omega) only [go_sem, tNode, simprocAttr]; with_reducible rfl)))); done)))
          exact (by simp (discharger := omega) only [go_sem, simprocAttr])
        | false =>
          rw [Bool.false_or]
          repeat' (first | (with_reducible first | apply w1 | apply w2 | apply w3 | apply w4 | apply w5 | apply w6 | apply w7 | apply w8 | apply w9 | apply wa | apply wb | apply wc) | ((with_reducible apply wd); focus decide) | ((with_reducible apply we); focus exact rfl) | ((with_reducible apply wf); focus exact rfl) | ((first | (with_reducible apply SW_run tt_ok hG htb) | ((with_reducible apply SW_draw rfl tt_ok hG htb); (focus kernel_rfl); focus simp only [List.range, List.range.loop, List.size_toArray, List.length_cons, List.length_nil, Nat.reduceAdd])); focus ((repeat' (first | (with_reducible first | exact wg | exact wh) | ((with_reducible first | apply wi | apply wj); focus (simp (discharger := omega) only [go_sem, tNode, simprocAttr]; with_reducible rfl)))); done)))
          exact ⟨pp.toNat - (k + 1), _, by omega, Norm.headS (own := []) (keep := [0, 1, 2, 7, 9]) (by refine ⟨?_, ?_⟩; (simp (discharger := omega) only [go_sem, simprocAttr]; with_reducible rfl); refine ⟨?_, ?_, ?_, ?_⟩ <;> (simp only [go_sem, simprocAttr]; with_reducible rfl)), k + 1, m, rfl, rfl, by omega, by rw [show pp.toNat - (k + 1) = r by omega]; exact hR2⟩
      · rw [show pp.toNat - k = 0 by omega] at hRk
        rw [show b' = false from hRk]
        have htb := Tab.cons cP Tab.nil
        repeat' (first | (with_reducible first | apply w1 | apply w2 | apply w3 | apply w4 | apply w5 | apply w6 | apply w7 | apply w8 | apply w9 | apply wa | apply wb | apply wc) | ((with_reducible apply wd); focus decide) | ((with_reducible apply we); focus exact rfl) | ((with_reducible apply wf); focus exact rfl) | ((first | (with_reducible apply SW_run tt_ok hG htb) | ((with_reducible apply SW_draw rfl tt_ok hG htb); (focus kernel_rfl); focus simp only [List.range, List.range.loop, List.size_toArray, List.length_cons, List.length_nil, Nat.reduceAdd])); focus ((repeat' (first | (with_reducible first | exact wg | exact wh) | ((with_reducible first | apply wi | apply wj); focus (simp (discharger := omega) only [go_sem, tNode, simprocAttr]; with_reducible rfl)))); done)))
        exact (by simp (discharger := omega) only [go_sem, simprocAttr])
theorem RfreeIn_snd {f : List GNode} (hl : f.length ≤ 40) (hc : ∀ n ∈ f, n.coefs.length ≤ 1000) (v : Nat) (hv : v < 1000) {i e : Nat} (h : Part f i e) : Snd Tryd.prog G 58 [tForm f, tNat i, tNat v] (.bool (freeP f i v)) := by
  induction h with
  | leaf hn hp =>
    refine RfreeIn_step hG hl hn (hc _ (List.mem_of_getElem? hn)) v hv _ (fun e => ?_) fun _ => ⟨false, by rw [hp]; rfl, by rw [freeP_leaf hn hp]; simp⟩
    have := e.1
    unfold partsOf at hp
    rw [if_pos (by omega)] at hp
    omega
  | one hn hp h1 ih =>
    have e1 := freeP_one hn hp h1 v
    refine RfreeIn_step hG hl hn (hc _ (List.mem_of_getElem? hn)) v hv _ (fun e => by rw [e1, if_pos e]) fun e => ⟨_, by rw [hp]; exact ⟨_, _, false, ih, h1, rfl, rfl⟩, ?_⟩
    rw [e1, if_neg e, Bool.or_false]
    have hu : usesN _ v = false := usesN_parts (by rw [hp]; decide) _
    rw [hu, Bool.false_or]
  | two hn hp h1 h2 ih1 ih2 =>
    have e1 := freeP_two hn hp h1 h2 v
    refine RfreeIn_step hG hl hn (hc _ (List.mem_of_getElem? hn)) v hv _ (fun e => ?_) fun _ => ⟨_, by rw [hp]; exact ⟨_, _, _, ih1, h1, ⟨_, _, false, ih2, h2, rfl, rfl⟩, rfl⟩, ?_⟩
    · have := e.1
      unfold partsOf at hp
      rw [if_pos (by omega)] at hp
      omega
    · have hu : usesN _ v = false := usesN_parts (by rw [hp]; decide) _
      rw [e1, hu, Bool.false_or, Bool.or_false]
omit hG in
/-- The free variables, the first ones. -/
theorem freeL_take (f : List GNode) : freeL f = ((List.range 5).filter fun k => freeP f 0 (k : Nat)).map fun k => ((k : Nat) : Int) := by
  unfold freeL
  rw [List.filter_map]; rfl
set_option maxHeartbeats 4000000 in
theorem RFreeOf_snd {f : List GNode} (hl : f.length ≤ 40) (hc : ∀ n ∈ f, n.coefs.length ≤ 1000) {e : Nat} (h : Part f 0 e) : Snd Tryd.prog G 29 [tForm f, tInt 0] (tInts (freeL f)) := by
  rw [freeL_take]
  refine snd_of_body (n := 22) (tm := [(0, .t (tForm f)), (1, .t (tInt 0))]) (rs := [.tmp 4]) tt_ok Tryd.func29 rfl rfl rfl rfl rfl ?_
  have htb : Tab.ok Tryd.prog G [] := Tab.nil
  repeat' (first | (with_reducible first | apply w1 | apply w2 | apply w3 | apply w4 | apply w5 | apply w6 | apply w7 | apply w8 | apply w9 | apply wa | apply wb | apply wc) | ((with_reducible apply wd); focus decide) | ((with_reducible apply we); focus exact rfl) | ((with_reducible apply wf); focus exact rfl) | ((first | (with_reducible apply SW_run tt_ok hG htb) | ((with_reducible apply SW_draw rfl tt_ok hG htb); (focus kernel_rfl); focus simp only [List.range, List.range.loop, List.size_toArray, List.length_cons, List.length_nil, Nat.reduceAdd])); focus ((repeat' (first | (with_reducible first | exact wg | exact wh) | ((with_reducible first | apply wi | apply wj); focus (simp (discharger := omega) only [go_sem, simprocAttr]; with_reducible rfl)))); done)))
  refine SW_loop (fun mm s => ∃ (i : Nat) (ot : List T), mm = 5 - i ∧ s = ⟨22, [(0, .t (tForm f)), (1, .t (tInt 0)), (5, .sref 0), (6, .t (tNat i))], [.row 3 1 false ot]⟩ ∧ i ≤ 5 ∧ ot = (((List.range i).filter fun k => freeP f 0 (k : Nat)).map fun k => ((k : Nat) : Int)).map tInt ∧ ot.length ≤ i) 5
    ⟨_, Norm.headS (own := [(5, 3, 1, false)]) (keep := [0, 1, 5, 6]) (by refine ⟨?_, ?_⟩; (simp (discharger := omega) only [go_sem, simprocAttr]; with_reducible rfl); refine ⟨?_, ?_, ?_, ?_⟩ <;> (simp only [go_sem, simprocAttr]; with_reducible rfl)), 0, _, rfl, rfl, by omega, rfl, Nat.le_refl _⟩ ?_
  rintro mm s ⟨i, ot, rfl, rfl, hi, hot, hol⟩
  by_cases hlt : i < 5
  · have c1 : Snd Tryd.prog G 58 [tForm f, tInt 0, tNat i] (.bool (freeP f 0 (i : Nat))) := RfreeIn_snd hG hl hc i (by omega) h
    clear htb
    have htb := Tab.cons c1 Tab.nil
    have hcons : ∀ b, freeP f 0 (i : Nat) = b → ((List.range (i + 1)).filter fun k => freeP f 0 (k : Nat)) = ((List.range i).filter fun k => freeP f 0 (k : Nat)) ++ (if b = true then [i] else []) := fun b hb => by
      rw [List.range_succ, List.filter_append]
      congr 1
      simp only [List.filter_cons, List.filter_nil, hb]
    cases hb : freeP f 0 (i : Nat) with
    | true =>
      rw [hb] at htb
      repeat' (first | (with_reducible first | apply w1 | apply w2 | apply w3 | apply w4 | apply w5 | apply w6 | apply w7 | apply w8 | apply w9 | apply wa | apply wb | apply wc) | ((with_reducible apply wd); focus decide) | ((with_reducible apply we); focus exact rfl) | ((with_reducible apply wf); focus exact rfl) | ((first | (with_reducible apply SW_run tt_ok hG htb) | ((with_reducible apply SW_draw rfl tt_ok hG htb); (focus kernel_rfl); focus simp only [List.range, List.range.loop, List.size_toArray, List.length_cons, List.length_nil, Nat.reduceAdd])); focus ((repeat' (first | (with_reducible first | exact wg | exact wh) | ((with_reducible first | apply wi | apply wj); focus (simp (discharger := omega) only [go_sem, simprocAttr]; with_reducible rfl)))); done)))
      exact ⟨5 - (i + 1), _, by omega, Norm.headS (own := [(5, 3, 1, false)]) (keep := [0, 1, 5, 6]) (by refine ⟨?_, ?_⟩; (simp (discharger := omega) only [go_sem, simprocAttr]; with_reducible rfl); refine ⟨?_, ?_, ?_, ?_⟩ <;> (simp only [go_sem, simprocAttr]; with_reducible rfl)), i + 1, _, rfl, rfl, by omega, by rw [hcons _ hb, if_pos rfl, List.map_append, List.map_append, hot]; rfl, by simp; omega⟩
    | false =>
      rw [hb] at htb
      repeat' (first | (with_reducible first | apply w1 | apply w2 | apply w3 | apply w4 | apply w5 | apply w6 | apply w7 | apply w8 | apply w9 | apply wa | apply wb | apply wc) | ((with_reducible apply wd); focus decide) | ((with_reducible apply we); focus exact rfl) | ((with_reducible apply wf); focus exact rfl) | ((first | (with_reducible apply SW_run tt_ok hG htb) | ((with_reducible apply SW_draw rfl tt_ok hG htb); (focus kernel_rfl); focus simp only [List.range, List.range.loop, List.size_toArray, List.length_cons, List.length_nil, Nat.reduceAdd])); focus ((repeat' (first | (with_reducible first | exact wg | exact wh) | ((with_reducible first | apply wi | apply wj); focus (simp (discharger := omega) only [go_sem, simprocAttr]; with_reducible rfl)))); done)))
      exact ⟨5 - (i + 1), _, by omega, Norm.headS (own := [(5, 3, 1, false)]) (keep := [0, 1, 5, 6]) (by refine ⟨?_, ?_⟩; (simp (discharger := omega) only [go_sem, simprocAttr]; with_reducible rfl); refine ⟨?_, ?_, ?_, ?_⟩ <;> (simp only [go_sem, simprocAttr]; with_reducible rfl)), i + 1, _, rfl, rfl, by omega, by rw [hcons _ hb, if_neg (by decide), List.append_nil, hot], by omega⟩
  · obtain rfl : i = 5 := by omega
    clear hlt hi
    generalize ((List.range 5).filter fun k => freeP f 0 (k : Nat)).map (fun k => ((k : Nat) : Int)) = out at *
    subst hot
    repeat' (first | (with_reducible first | apply w1 | apply w2 | apply w3 | apply w4 | apply w5 | apply w6 | apply w7 | apply w8 | apply w9 | apply wa | apply wb | apply wc) | ((with_reducible apply wd); focus decide) | ((with_reducible apply we); focus exact rfl) | ((with_reducible apply wf); focus exact rfl) | ((first | (with_reducible apply SW_run tt_ok hG htb) | ((with_reducible apply SW_draw rfl tt_ok hG htb); (focus kernel_rfl); focus simp only [List.range, List.range.loop, List.size_toArray, List.length_cons, List.length_nil, Nat.reduceAdd])); focus ((repeat' (first | (with_reducible first | exact wg | exact wh) | ((with_reducible first | apply wi | apply wj); focus (simp (discharger := omega) only [go_sem, simprocAttr]; with_reducible rfl)))); done)))
    exact (by simp (discharger := omega) only [go_sem, simprocAttr])
end
end Go.Proofs.YtcaopcpofepniaaDoor
namespace Go.Proofs.YtcaopcpofepniaaDoor

def S5 (g : Nat → Int) : Int := g 0 + g 1 + g 2 + g 3 + g 4
/-- Each variable goes to another one. -/
structure Turn (to : List Int) (s : Nat → Nat) : Prop where
  len : to.length = 5
  go : toGo to 5 0 = 0
  eq : ∀ v, v < 5 → to.getD v 0 = ((s v : Nat) : Int)
  sum : ∀ g : Nat → Int, S5 (fun v => g (s v)) = S5 g
  sur : ∀ v, v < 5 → ∃ u, u < 5 ∧ s u = v
theorem Turn.ok {to : List Int} {s : Nat → Nat} (h : Turn to s) : ToOk to := to_ok h.len h.go
theorem Turn.lt {to : List Int} {s : Nat → Nat} (h : Turn to s) {v : Nat} (hv : v < 5) : s v < 5 := by
  have := h.ok.rg v hv
  rw [h.eq v hv] at this; omega
theorem Turn.inj {to : List Int} {s : Nat → Nat} (h : Turn to s) {u v : Nat} (hu : u < 5) (hv : v < 5) (e : s u = s v) : u = v :=
  h.ok.inj u v hu hv (by rw [h.eq u hu, h.eq v hv, e])
def toL (s : Nat → Nat) : List Int := (List.range 5).map fun v => ((s v : Nat) : Int)
/-- Coefficients without zeros behind. -/
def Trim (l : List Int) : Prop := l.length ≤ 5 ∧ (0 < l.length → l.getD (l.length - 1) 0 ≠ 0)
section
variable {coefs to : List Int} {s : Nat → Nat}
end
/-- Nodes in which nothing is wrong. -/
def GoodN (n : GNode) : Prop :=
  ((n.op = 1 ∨ n.op = 2) ∧ n.var = 0 ∧ n.other = 0 ∧ n.word = 0 ∧ n.word2 = 0 ∧ sizeA n.coefs ≤ 12 ∧ -60 ≤ n.num ∧ n.num ≤ 60 ∧ Trim n.coefs) ∨
  (n.op = 3 ∧ (0 ≤ n.var ∧ n.var < 5) ∧ n.other = 0 ∧ (0 ≤ n.word ∧ n.word < 3) ∧ n.word2 = 0 ∧ 0 ≤ n.num ∧ n.num ≤ 9 ∧ n.coefs = []) ∨
  (n.op = 4 ∧ (0 ≤ n.var ∧ n.var < 5) ∧ (0 ≤ n.other ∧ n.other < 5) ∧ (0 ≤ n.word ∧ n.word < 3) ∧ (0 ≤ n.word2 ∧ n.word2 < 3) ∧ n.num = 0 ∧ n.coefs = []) ∨
  ((n.op = 8 ∨ n.op = 9) ∧ (0 ≤ n.var ∧ n.var < 5) ∧ n.other = 0 ∧ n.word = 0 ∧ n.word2 = 0 ∧ n.num = 0 ∧ n.coefs = []) ∨
  ((n.op = 5 ∨ n.op = 6 ∨ n.op = 7) ∧ n.var = 0 ∧ n.other = 0 ∧ n.word = 0 ∧ n.word2 = 0 ∧ n.num = 0 ∧ n.coefs = [])
theorem goodN {n : GNode} (h : nodeErr n = 0) : GoodN n := by
  obtain ⟨h1, h9, hok, hm⟩ := node_ok h
  have hlast : ¬ (0 < n.coefs.length ∧ n.coefs[n.coefs.length - 1]! = 0) := fun q => by
    unfold nodeErr at h
    rw [if_neg (by omega), if_neg (by rw [hok]; decide), if_neg (by rw [hm]; decide), if_pos q] at h
    exact absurd h (by decide)
  obtain ⟨op, var, other, word, word2, num, coefs⟩ := n
  simp only at h1 h9 hlast
  unfold nodeMore at hm
  simp only [Bool.or_eq_false_iff, decide_eq_false_iff_not, ne_eq, Classical.not_not] at hm
  obtain ⟨⟨⟨⟨⟨m1, m2⟩, m3⟩, m4⟩, m5⟩, m6⟩ := hm
  have hc : op = 1 ∨ op = 2 ∨ op = 3 ∨ op = 4 ∨ op = 5 ∨ op = 6 ∨ op = 7 ∨ op = 8 ∨ op = 9 := by omega
  unfold GoodN
  simp only
  have trim : coefs.length ≤ 5 → Trim coefs := fun q => ⟨q, fun hp e => hlast ⟨hp, by rw [getElem!_pos coefs _ (by omega)]; rwa [getD_lt (by omega)] at e⟩⟩
  rcases hc with rfl | rfl | rfl | rfl | rfl | rfl | rfl | rfl | rfl <;> simp [nodeOk, isVar, usedN] at hok m1 m2 m3 m4 m5 m6 ⊢
  · exact ⟨m1, m2, m3, m4, hok.1.1.2, hok.1.2, hok.2, trim hok.1.1.1⟩
  · exact ⟨m1, m2, m3, m4, hok.1.1.2, hok.1.2, hok.2, trim hok.1.1.1⟩
  · exact ⟨hok.1.1.1.1, m2, ⟨hok.1.1.1.2, hok.1.1.2⟩, m4, hok.1.2, hok.2, m6⟩
  · exact ⟨hok.1.1.1.1.1, hok.1.1.1.1.2, ⟨hok.1.1.1.2, hok.1.1.2⟩, ⟨hok.1.2, hok.2⟩, m5, m6⟩
  · exact ⟨m1, m2, m3, m4, m5, m6⟩
  · exact ⟨m1, m2, m3, m4, m5, m6⟩
  · exact ⟨m1, m2, m3, m4, m5, m6⟩
  · exact ⟨hok, m2, m3, m4, m5, m6⟩
  · exact ⟨hok, m2, m3, m4, m5, m6⟩
theorem GoodN.err {n : GNode} (h : GoodN n) : nodeErr n = 0 := by
  obtain ⟨op, var, other, word, word2, num, coefs⟩ := n
  unfold GoodN at h
  simp only at h
  rcases h with ⟨ho, rfl, rfl, rfl, rfl, h1, h2, h3, h4, h5⟩ | ⟨rfl, h1, rfl, h2, rfl, h3, h4, rfl⟩ | ⟨rfl, h1, h2, h3, h4, rfl, rfl⟩ | ⟨ho, h1, rfl, rfl, rfl, rfl, rfl⟩ | ⟨ho, rfl, rfl, rfl, rfl, rfl, rfl⟩
  · have hl : ¬ (0 < coefs.length ∧ coefs[coefs.length - 1]! = 0) := fun q => h5 q.1 (by rw [getD_lt (by omega)]; have := q.2; rwa [getElem!_pos coefs _ (by omega)] at this)
    rcases ho with rfl | rfl <;> (unfold nodeErr; rw [if_neg (by simp only; decide), if_neg (by simp [nodeOk]; omega), if_neg (by simp [nodeMore, usedN]), if_neg hl])
  · unfold nodeErr
    rw [if_neg (by simp only; decide), if_neg (by simp [nodeOk, isVar]; omega), if_neg (by simp [nodeMore, usedN]), if_neg (by simp)]
  · unfold nodeErr
    rw [if_neg (by simp only; decide), if_neg (by simp [nodeOk, isVar]; omega), if_neg (by simp [nodeMore, usedN]), if_neg (by simp)]
  · rcases ho with rfl | rfl <;> (unfold nodeErr; rw [if_neg (by simp only; decide), if_neg (by simp [nodeOk, isVar]; omega), if_neg (by simp [nodeMore, usedN]), if_neg (by simp)])
  · rcases ho with rfl | rfl | rfl <;> (unfold nodeErr; rw [if_neg (by simp only; decide), if_neg (by simp [nodeOk]), if_neg (by simp [nodeMore, usedN]), if_neg (by simp)])
section
variable {to : List Int} {s : Nat → Nat} {n : GNode}
end
theorem Part.map {f : List GNode} {F : GNode → GNode} (ho : ∀ n ∈ f, (F n).op = n.op) {i e : Nat} (h : Part f i e) : Part (f.map F) i e := by
  have hg : ∀ {i : Nat} {n : GNode}, f[i]? = some n → (f.map F)[i]? = some (F n) ∧ (F n).op = n.op := fun {i n} h => ⟨by rw [List.getElem?_map, h]; rfl, ho n (List.mem_of_getElem? h)⟩
  induction h with
  | leaf h hp => exact .leaf (hg h).1 (by rw [(hg h).2]; exact hp)
  | one h hp h1 ih => exact .one (hg h).1 (by rw [(hg h).2]; exact hp) ih
  | two h hp h1 h2 ih1 ih2 => exact .two (hg h).1 (by rw [(hg h).2]; exact hp) ih1 ih2
section
variable {f : List GNode} {to : List Int} {s : Nat → Nat}
theorem mem_freeL {v : Int} : v ∈ freeL f ↔ (0 ≤ v ∧ v < 5) ∧ freeP f 0 v = true := by
  unfold freeL
  rw [List.mem_filter, List.mem_map]
  refine and_congr_left fun _ => ⟨?_, fun h => ⟨v.toNat, List.mem_range.2 (by omega), by omega⟩⟩
  rintro ⟨k, hk, rfl⟩
  have := List.mem_range.1 hk
  omega
end
end Go.Proofs.YtcaopcpofepniaaDoor
namespace Go.Proofs.YtcaopcpofepniaaDoor
open Go.RowKit

theorem map_inj {α β : Type} {f : α → β} (hf : ∀ a b, f a = f b → a = b) : ∀ {l m : List α}, l.map f = m.map f → l = m
  | [], [], _ => rfl
  | [], _ :: _, h => by simp at h
  | _ :: _, [], h => by simp at h
  | a :: l, b :: m, h => by
    rw [List.map_cons, List.map_cons, List.cons.injEq] at h
    rw [hf a b h.1, map_inj hf h.2]
theorem tInt_inj (a b : Int) (h : tInt a = tInt b) : a = b := by
  unfold tInt at h
  simpa using h
theorem tInts_inj (a b : List Int) (h : tInts a = tInts b) : a = b := by
  unfold tInts at h
  rw [T.list.injEq] at h
  exact map_inj tInt_inj h
theorem tOut_inj {a b : GOut} (h : tOut a = tOut b) : a = b := by
  obtain ⟨a1, a2, a3⟩ := a
  obtain ⟨b1, b2, b3⟩ := b
  unfold tOut tIntss at h
  simp only [T.agg.injEq, List.cons.injEq, T.list.injEq, and_true] at h
  obtain ⟨h1, h2, h3⟩ := h
  rw [tInt_inj _ _ h1, map_inj tInts_inj h2, tInts_inj _ _ h3]
section
variable {G : World → Prop} (hG : Lasting G)
include hG
set_option maxHeartbeats 16000000 in
set_option maxRecDepth 100000 in
theorem tr_leaf {f : List GNode} {ws : List GOut} {ns : List Int} {i : Nat} {n : GNode} (hl : f.length ≤ 40) (hn : f[i]? = some n) (hg : GoodN n) (hp : partsOf n.op = 0) (hB : numsBad ns = false) (hO : ∀ o ∈ ws, outErr o = 0) (hw : wordNeed n ws.length = false) (hv : ∀ v : Int, 0 ≤ v → v < 5 → usesN n v = true → v < ns.length) :
    Snd Tryd.prog G 30 [tForm f, tNat i, tOutL ws, tInts ns] (.bool (evalP f ws ns i)) := by
  have hil := (List.getElem?_eq_some_iff.1 hn).1
  have hn1 : f[i]! = n := by rw [getElem!_pos f i hil]; exact (List.getElem?_eq_some_iff.1 hn).2
  rw [evalP_leaf hn hp]
  have hnb : ∀ j (hj : j < ns.length), 0 ≤ ns[j] ∧ ns[j] ≤ 1099511627776 := fun j hj => by
    unfold numsBad at hB
    have := List.any_eq_false.1 hB ns[j] (List.getElem_mem _)
    simp only [Bool.or_eq_true, decide_eq_true_eq] at this; omega
  have hsaid : ∀ (g : GOut) (x : Int), g ∈ ws → 0 ≤ x → x ≤ 1099511627776 → Snd Tryd.prog G 59 [tOut g, tInt x] (tInt (atOf g x)) := fun g x hgm h0 h1 => by
    have ok := out_ok (hO g hgm)
    rw [(ok.at h0 h1).2]
    exact Said_snd hG g x ok h0 h1
  obtain ⟨op, var, other, word, word2, num, coefs⟩ := n
  refine snd_of_body (n := 151) (tm := [(0, .t (tForm f)), (1, .t (tNat i)), (2, .t (tOutL ws)), (3, .t (tInts ns))]) (rs := [.tmp 8]) tt_ok Tryd.func30 rfl rfl rfl rfl rfl ?_
  unfold tForm tOutL
  have htb : Tab.ok Tryd.prog G [] := Tab.nil
  unfold GoodN at hg
  simp only at hg
  rcases hg with ⟨ho, rfl, rfl, rfl, rfl, h1, h2, h3, h4⟩ | ⟨rfl, h1, rfl, h2, rfl, h3, h4, rfl⟩ | ⟨rfl, h1, h2, h3, h4, rfl, rfl⟩ | ⟨ho, h1, rfl, rfl, rfl, rfl, rfl⟩ | ⟨ho, rfl, rfl, rfl, rfl, rfl, rfl⟩
  · have hus : ∀ j, j < coefs.length → coefs.getD j 0 ≠ 0 → j < ns.length := fun j hj hc => by
      have := hv j (by omega) (by have := h4.1; omega) (by unfold usesN; rw [if_pos ho]; simp only [Int.toNat_natCast]; rw [decide_eq_true (by omega), decide_eq_true hc]; rfl)
      omega
    have hl5 : coefs.length ≤ 5 := h4.1
    rcases ho with rfl | rfl
    · repeat' (first | (with_reducible first | apply w1 | apply w2 | apply w3 | apply w4 | apply w5 | apply w6 | apply w7 | apply w8 | apply w9 | apply wa | apply wb | apply wc) | ((with_reducible apply wd); focus decide) | ((with_reducible apply we); focus exact rfl) | ((with_reducible apply wf); focus exact rfl) | ((first | (with_reducible apply SW_run tt_ok hG htb) | ((with_reducible apply SW_draw rfl tt_ok hG htb); (focus kernel_rfl); focus simp only [List.range, List.range.loop, List.size_toArray, List.length_cons, List.length_nil, Nat.reduceAdd])); focus ((repeat' (first | (with_reducible first | exact wg | exact wh) | ((with_reducible first | apply wi | apply wj); focus (simp (discharger := omega) only [go_sem, hn1, tNode, simprocAttr]; with_reducible rfl)))); done)))
      refine SW_loop (fun mm s => ∃ (j : Nat) (q : Int), mm = coefs.length - j ∧ s = ⟨151, [(3, .t (tInts ns)), (9, .bptr 0 0), (10, .t (tInt q)), (11, .t (tNat j))], [.box [.t (tInt 1), .t (tInt 0), .t (tInt 0), .t (tInt 0), .t (tInt 0), .t (tInt num), .t (tInts coefs)]]⟩ ∧ j ≤ coefs.length ∧ q = num + dotN coefs (fun v => ns.getD v 0) j) coefs.length
        ⟨_, Norm.headS (own := []) (keep := [3, 9, 10, 11]) (by refine ⟨?_, ?_⟩; (simp (discharger := omega) only [go_sem, simprocAttr]; with_reducible rfl); refine ⟨?_, ?_, ?_, ?_⟩ <;> (simp only [go_sem, simprocAttr]; with_reducible rfl)), 0, _, rfl, rfl, Nat.zero_le _, (Int.add_zero num).symm⟩ ?_
      rintro mm s ⟨j, q, rfl, rfl, hj, hq⟩
      have hbd := dotN_num (coefs := coefs) (nums := ns) h1 hnb (i := j) hj
      by_cases hlt : j < coefs.length
      · obtain ⟨c, hc⟩ : ∃ c, coefs[j]! = c := ⟨_, rfl⟩
        have hcD : coefs.getD j 0 = c := bang_D hc hlt
        have hge := absN_ge coefs hlt
        rw [hcD] at hge
        unfold sizeA at h1
        by_cases h0 : c = 0
        · repeat' (first | (with_reducible first | apply w1 | apply w2 | apply w3 | apply w4 | apply w5 | apply w6 | apply w7 | apply w8 | apply w9 | apply wa | apply wb | apply wc) | ((with_reducible apply wd); focus decide) | ((with_reducible apply we); focus exact rfl) | ((with_reducible apply wf); focus exact rfl) | ((first | (with_reducible apply SW_run tt_ok hG htb) | ((with_reducible apply SW_draw rfl tt_ok hG htb); (focus kernel_rfl); focus simp only [List.range, List.range.loop, List.size_toArray, List.length_cons, List.length_nil, Nat.reduceAdd])); focus ((repeat' (first | (with_reducible first | exact wg | exact wh) | ((with_reducible first | apply wi | apply wj); focus (simp (discharger := omega) only [go_sem, hc, h0, simprocAttr]; with_reducible rfl)))); done)))
          exact ⟨coefs.length - (j + 1), _, by omega, Norm.headS (own := []) (keep := [3, 9, 10, 11]) (by refine ⟨?_, ?_⟩; (simp (discharger := omega) only [go_sem, simprocAttr]; with_reducible rfl); refine ⟨?_, ?_, ?_, ?_⟩ <;> (simp only [go_sem, simprocAttr]; with_reducible rfl)), j + 1, q, rfl, rfl, by omega, by rw [dotN, hcD, h0, Int.zero_mul, Int.add_zero]; exact hq⟩
        · have hjn := hus j hlt (by rw [hcD]; exact h0)
          obtain ⟨y, hy⟩ : ∃ y, ns[j]! = y := ⟨_, rfl⟩
          have hyb := hnb j hjn
          rw [bang_at hy hjn] at hyb
          have hyx : -13194139533312 ≤ c * y ∧ c * y ≤ 13194139533312 := by
            have m1 : c * y ≤ 12 * y := Int.mul_le_mul_of_nonneg_right (by omega) (by omega)
            have m2 : (-12) * y ≤ c * y := Int.mul_le_mul_of_nonneg_right (by omega) (by omega)
            omega
          repeat' (first | (with_reducible first | apply w1 | apply w2 | apply w3 | apply w4 | apply w5 | apply w6 | apply w7 | apply w8 | apply w9 | apply wa | apply wb | apply wc) | ((with_reducible apply wd); focus decide) | ((with_reducible apply we); focus exact rfl) | ((with_reducible apply wf); focus exact rfl) | ((first | (with_reducible apply SW_run tt_ok hG htb) | ((with_reducible apply SW_draw rfl tt_ok hG htb); (focus kernel_rfl); focus simp only [List.range, List.range.loop, List.size_toArray, List.length_cons, List.length_nil, Nat.reduceAdd])); focus ((repeat' (first | (with_reducible first | exact wg | exact wh) | ((with_reducible first | apply wi | apply wj); focus (simp (discharger := omega) only [go_sem, hc, h0, hy, simprocAttr]; with_reducible rfl)))); done)))
          exact ⟨coefs.length - (j + 1), _, by omega, Norm.headS (own := []) (keep := [3, 9, 10, 11]) (by refine ⟨?_, ?_⟩; (simp (discharger := omega) only [go_sem, simprocAttr]; with_reducible rfl); refine ⟨?_, ?_, ?_, ?_⟩ <;> (simp only [go_sem, simprocAttr]; with_reducible rfl)), j + 1, q + c * y, rfl, rfl, by omega, by rw [dotN, hcD, bang_D hy hjn, ← Int.add_assoc, ← hq]⟩
      · obtain rfl : j = coefs.length := by omega
        have key : leafV ws ns ⟨1, 0, 0, 0, 0, num, coefs⟩ = decide (q = 0) := by
          unfold leafV lineSum
          simp only [if_true]
          rw [hq]
        rw [key]
        clear hq hbd key
        by_cases h0 : q = 0
        · rw [decide_eq_true h0]
          repeat' (first | (with_reducible first | apply w1 | apply w2 | apply w3 | apply w4 | apply w5 | apply w6 | apply w7 | apply w8 | apply w9 | apply wa | apply wb | apply wc) | ((with_reducible apply wd); focus decide) | ((with_reducible apply we); focus exact rfl) | ((with_reducible apply wf); focus exact rfl) | ((first | (with_reducible apply SW_run tt_ok hG htb) | ((with_reducible apply SW_draw rfl tt_ok hG htb); (focus kernel_rfl); focus simp only [List.range, List.range.loop, List.size_toArray, List.length_cons, List.length_nil, Nat.reduceAdd])); focus ((repeat' (first | (with_reducible first | exact wg | exact wh) | ((with_reducible first | apply wi | apply wj); focus (simp (discharger := omega) only [go_sem, h0, simprocAttr]; with_reducible rfl)))); done)))
          exact (by simp (discharger := omega) only [go_sem, simprocAttr])
        · rw [decide_eq_false h0]
          repeat' (first | (with_reducible first | apply w1 | apply w2 | apply w3 | apply w4 | apply w5 | apply w6 | apply w7 | apply w8 | apply w9 | apply wa | apply wb | apply wc) | ((with_reducible apply wd); focus decide) | ((with_reducible apply we); focus exact rfl) | ((with_reducible apply wf); focus exact rfl) | ((first | (with_reducible apply SW_run tt_ok hG htb) | ((with_reducible apply SW_draw rfl tt_ok hG htb); (focus kernel_rfl); focus simp only [List.range, List.range.loop, List.size_toArray, List.length_cons, List.length_nil, Nat.reduceAdd])); focus ((repeat' (first | (with_reducible first | exact wg | exact wh) | ((with_reducible first | apply wi | apply wj); focus (simp (discharger := omega) only [go_sem, h0, simprocAttr]; with_reducible rfl)))); done)))
          exact (by simp (discharger := omega) only [go_sem, simprocAttr])
    · repeat' (first | (with_reducible first | apply w1 | apply w2 | apply w3 | apply w4 | apply w5 | apply w6 | apply w7 | apply w8 | apply w9 | apply wa | apply wb | apply wc) | ((with_reducible apply wd); focus decide) | ((with_reducible apply we); focus exact rfl) | ((with_reducible apply wf); focus exact rfl) | ((first | (with_reducible apply SW_run tt_ok hG htb) | ((with_reducible apply SW_draw rfl tt_ok hG htb); (focus kernel_rfl); focus simp only [List.range, List.range.loop, List.size_toArray, List.length_cons, List.length_nil, Nat.reduceAdd])); focus ((repeat' (first | (with_reducible first | exact wg | exact wh) | ((with_reducible first | apply wi | apply wj); focus (simp (discharger := omega) only [go_sem, hn1, tNode, simprocAttr]; with_reducible rfl)))); done)))
      refine SW_loop (fun mm s => ∃ (j : Nat) (q : Int), mm = coefs.length - j ∧ s = ⟨151, [(3, .t (tInts ns)), (9, .bptr 0 0), (10, .t (tInt q)), (11, .t (tNat j))], [.box [.t (tInt 2), .t (tInt 0), .t (tInt 0), .t (tInt 0), .t (tInt 0), .t (tInt num), .t (tInts coefs)]]⟩ ∧ j ≤ coefs.length ∧ q = num + dotN coefs (fun v => ns.getD v 0) j) coefs.length
        ⟨_, Norm.headS (own := []) (keep := [3, 9, 10, 11]) (by refine ⟨?_, ?_⟩; (simp (discharger := omega) only [go_sem, simprocAttr]; with_reducible rfl); refine ⟨?_, ?_, ?_, ?_⟩ <;> (simp only [go_sem, simprocAttr]; with_reducible rfl)), 0, _, rfl, rfl, Nat.zero_le _, (Int.add_zero num).symm⟩ ?_
      rintro mm s ⟨j, q, rfl, rfl, hj, hq⟩
      have hbd := dotN_num (coefs := coefs) (nums := ns) h1 hnb (i := j) hj
      by_cases hlt : j < coefs.length
      · obtain ⟨c, hc⟩ : ∃ c, coefs[j]! = c := ⟨_, rfl⟩
        have hcD : coefs.getD j 0 = c := bang_D hc hlt
        have hge := absN_ge coefs hlt
        rw [hcD] at hge
        unfold sizeA at h1
        by_cases h0 : c = 0
        · repeat' (first | (with_reducible first | apply w1 | apply w2 | apply w3 | apply w4 | apply w5 | apply w6 | apply w7 | apply w8 | apply w9 | apply wa | apply wb | apply wc) | ((with_reducible apply wd); focus decide) | ((with_reducible apply we); focus exact rfl) | ((with_reducible apply wf); focus exact rfl) | ((first | (with_reducible apply SW_run tt_ok hG htb) | ((with_reducible apply SW_draw rfl tt_ok hG htb); (focus kernel_rfl); focus simp only [List.range, List.range.loop, List.size_toArray, List.length_cons, List.length_nil, Nat.reduceAdd])); focus ((repeat' (first | (with_reducible first | exact wg | exact wh) | ((with_reducible first | apply wi | apply wj); focus (simp (discharger := omega) only [go_sem, hc, h0, simprocAttr]; with_reducible rfl)))); done)))
          exact ⟨coefs.length - (j + 1), _, by omega, Norm.headS (own := []) (keep := [3, 9, 10, 11]) (by refine ⟨?_, ?_⟩; (simp (discharger := omega) only [go_sem, simprocAttr]; with_reducible rfl); refine ⟨?_, ?_, ?_, ?_⟩ <;> (simp only [go_sem, simprocAttr]; with_reducible rfl)), j + 1, q, rfl, rfl, by omega, by rw [dotN, hcD, h0, Int.zero_mul, Int.add_zero]; exact hq⟩
        · have hjn := hus j hlt (by rw [hcD]; exact h0)
          obtain ⟨y, hy⟩ : ∃ y, ns[j]! = y := ⟨_, rfl⟩
          have hyb := hnb j hjn
          rw [bang_at hy hjn] at hyb
          have hyx : -13194139533312 ≤ c * y ∧ c * y ≤ 13194139533312 := by
            have m1 : c * y ≤ 12 * y := Int.mul_le_mul_of_nonneg_right (by omega) (by omega)
            have m2 : (-12) * y ≤ c * y := Int.mul_le_mul_of_nonneg_right (by omega) (by omega)
            omega
          repeat' (first | (with_reducible first | apply w1 | apply w2 | apply w3 | apply w4 | apply w5 | apply w6 | apply w7 | apply w8 | apply w9 | apply wa | apply wb | apply wc) | ((with_reducible apply wd); focus decide) | ((with_reducible apply we); focus exact rfl) | ((with_reducible apply wf); focus exact rfl) | ((first | (with_reducible apply SW_run tt_ok hG htb) | ((with_reducible apply SW_draw rfl tt_ok hG htb); (focus kernel_rfl); focus simp only [List.range, List.range.loop, List.size_toArray, List.length_cons, List.length_nil, Nat.reduceAdd])); focus ((repeat' (first | (with_reducible first | exact wg | exact wh) | ((with_reducible first | apply wi | apply wj); focus (simp (discharger := omega) only [go_sem, hc, h0, hy, simprocAttr]; with_reducible rfl)))); done)))
          exact ⟨coefs.length - (j + 1), _, by omega, Norm.headS (own := []) (keep := [3, 9, 10, 11]) (by refine ⟨?_, ?_⟩; (simp (discharger := omega) only [go_sem, simprocAttr]; with_reducible rfl); refine ⟨?_, ?_, ?_, ?_⟩ <;> (simp only [go_sem, simprocAttr]; with_reducible rfl)), j + 1, q + c * y, rfl, rfl, by omega, by rw [dotN, hcD, bang_D hy hjn, ← Int.add_assoc, ← hq]⟩
      · obtain rfl : j = coefs.length := by omega
        have key : leafV ws ns ⟨2, 0, 0, 0, 0, num, coefs⟩ = decide (q < 0) := by
          unfold leafV lineSum
          simp only [show ((2 : Int) = 1) = False by decide, if_false, if_true]
          rw [hq]
        rw [key]
        clear hq hbd key
        by_cases h0 : q < 0
        · rw [decide_eq_true h0]
          repeat' (first | (with_reducible first | apply w1 | apply w2 | apply w3 | apply w4 | apply w5 | apply w6 | apply w7 | apply w8 | apply w9 | apply wa | apply wb | apply wc) | ((with_reducible apply wd); focus decide) | ((with_reducible apply we); focus exact rfl) | ((with_reducible apply wf); focus exact rfl) | ((first | (with_reducible apply SW_run tt_ok hG htb) | ((with_reducible apply SW_draw rfl tt_ok hG htb); (focus kernel_rfl); focus simp only [List.range, List.range.loop, List.size_toArray, List.length_cons, List.length_nil, Nat.reduceAdd])); focus ((repeat' (first | (with_reducible first | exact wg | exact wh) | ((with_reducible first | apply wi | apply wj); focus (simp (discharger := omega) only [go_sem, h0, simprocAttr]; with_reducible rfl)))); done)))
          exact (by simp (discharger := omega) only [go_sem, simprocAttr])
        · rw [decide_eq_false h0]
          repeat' (first | (with_reducible first | apply w1 | apply w2 | apply w3 | apply w4 | apply w5 | apply w6 | apply w7 | apply w8 | apply w9 | apply wa | apply wb | apply wc) | ((with_reducible apply wd); focus decide) | ((with_reducible apply we); focus exact rfl) | ((with_reducible apply wf); focus exact rfl) | ((first | (with_reducible apply SW_run tt_ok hG htb) | ((with_reducible apply SW_draw rfl tt_ok hG htb); (focus kernel_rfl); focus simp only [List.range, List.range.loop, List.size_toArray, List.length_cons, List.length_nil, Nat.reduceAdd])); focus ((repeat' (first | (with_reducible first | exact wg | exact wh) | ((with_reducible first | apply wi | apply wj); focus (simp (discharger := omega) only [go_sem, h0, simprocAttr]; with_reducible rfl)))); done)))
          exact (by simp (discharger := omega) only [go_sem, simprocAttr])
  · have hwl : word.toNat < ws.length := by
      simp [wordNeed] at hw; omega
    have hvl : var.toNat < ns.length := by
      have := hv var h1.1 h1.2 (by simp [usesN])
      omega
    obtain ⟨g, hgE⟩ : ∃ g, ws[word.toNat]! = g := ⟨_, rfl⟩
    obtain ⟨x, hx⟩ : ∃ x, ns[var.toNat]! = x := ⟨_, rfl⟩
    have hA : wordAt ws ns word var = atOf g x := by unfold wordAt; rw [bang_D hgE hwl, bang_D hx hvl]
    have hxb := hnb _ hvl
    rw [bang_at hx hvl] at hxb
    have c1 := hsaid g x (bang_mem hgE hwl) hxb.1 hxb.2
    generalize atOf g x = a at *
    have key : leafV ws ns ⟨3, var, 0, word, 0, num, []⟩ = decide (a = num) := by simp [leafV, hA]
    rw [key]
    clear htb
    have htb := Tab.cons c1 Tab.nil
    by_cases h0 : a = num
    · rw [decide_eq_true h0]
      subst h0
      repeat' (first | (with_reducible first | apply w1 | apply w2 | apply w3 | apply w4 | apply w5 | apply w6 | apply w7 | apply w8 | apply w9 | apply wa | apply wb | apply wc) | ((with_reducible apply wd); focus decide) | ((with_reducible apply we); focus exact rfl) | ((with_reducible apply wf); focus exact rfl) | ((first | (with_reducible apply SW_run tt_ok hG htb) | ((with_reducible apply SW_draw rfl tt_ok hG htb); (focus kernel_rfl); focus simp only [List.range, List.range.loop, List.size_toArray, List.length_cons, List.length_nil, Nat.reduceAdd])); focus ((repeat' (first | (with_reducible first | exact wg | exact wh) | ((with_reducible first | apply wi | apply wj); focus (simp (discharger := omega) only [go_sem, hn1, tNode, hgE, hx, tOut, simprocAttr]; with_reducible rfl)))); done)))
      exact (by simp (discharger := omega) only [go_sem, simprocAttr])
    · rw [decide_eq_false h0]
      repeat' (first | (with_reducible first | apply w1 | apply w2 | apply w3 | apply w4 | apply w5 | apply w6 | apply w7 | apply w8 | apply w9 | apply wa | apply wb | apply wc) | ((with_reducible apply wd); focus decide) | ((with_reducible apply we); focus exact rfl) | ((with_reducible apply wf); focus exact rfl) | ((first | (with_reducible apply SW_run tt_ok hG htb) | ((with_reducible apply SW_draw rfl tt_ok hG htb); (focus kernel_rfl); focus simp only [List.range, List.range.loop, List.size_toArray, List.length_cons, List.length_nil, Nat.reduceAdd])); focus ((repeat' (first | (with_reducible first | exact wg | exact wh) | ((with_reducible first | apply wi | apply wj); focus (simp (discharger := omega) only [go_sem, hn1, tNode, hgE, hx, tOut, h0, simprocAttr]; with_reducible rfl)))); done)))
      exact (by simp (discharger := omega) only [go_sem, simprocAttr])
  · have hw2 : word.toNat < ws.length ∧ word2.toNat < ws.length := by
      simp [wordNeed] at hw; omega
    have hvl : var.toNat < ns.length := by
      have := hv var h1.1 h1.2 (by simp [usesN])
      omega
    have hol : other.toNat < ns.length := by
      have := hv other h2.1 h2.2 (by simp [usesN])
      omega
    obtain ⟨g, hgE⟩ : ∃ g, ws[word.toNat]! = g := ⟨_, rfl⟩
    obtain ⟨x, hx⟩ : ∃ x, ns[var.toNat]! = x := ⟨_, rfl⟩
    obtain ⟨g2, hgE2⟩ : ∃ g, ws[word2.toNat]! = g := ⟨_, rfl⟩
    obtain ⟨x2, hx2⟩ : ∃ x, ns[other.toNat]! = x := ⟨_, rfl⟩
    have hA : wordAt ws ns word var = atOf g x := by unfold wordAt; rw [bang_D hgE hw2.1, bang_D hx hvl]
    have hA2 : wordAt ws ns word2 other = atOf g2 x2 := by unfold wordAt; rw [bang_D hgE2 hw2.2, bang_D hx2 hol]
    have hxb := hnb _ hvl
    rw [bang_at hx hvl] at hxb
    have hxb2 := hnb _ hol
    rw [bang_at hx2 hol] at hxb2
    have c1 := hsaid g x (bang_mem hgE hw2.1) hxb.1 hxb.2
    have c2 := hsaid g2 x2 (bang_mem hgE2 hw2.2) hxb2.1 hxb2.2
    have key : leafV ws ns ⟨4, var, other, word, word2, 0, []⟩ = decide (atOf g x = atOf g2 x2) := by simp [leafV, hA, hA2]
    rw [key]
    clear htb hsaid hA hA2 key
    by_cases hq : ([tOut g, tInt x] : List T) = [tOut g2, tInt x2]
    · have e1 : g = g2 := tOut_inj (List.cons.inj hq).1
      have e2 : x = x2 := tInt_inj _ _ (List.cons.inj (List.cons.inj hq).2).1
      subst e1 e2
      clear hq c2
      generalize atOf g x = a at *
      rw [decide_eq_true rfl]
      have htb := Tab.cons c1 Tab.nil
      repeat' (first | (with_reducible first | apply w1 | apply w2 | apply w3 | apply w4 | apply w5 | apply w6 | apply w7 | apply w8 | apply w9 | apply wa | apply wb | apply wc) | ((with_reducible apply wd); focus decide) | ((with_reducible apply we); focus exact rfl) | ((with_reducible apply wf); focus exact rfl) | ((first | (with_reducible apply SW_run tt_ok hG htb) | ((with_reducible apply SW_draw rfl tt_ok hG htb); (focus kernel_rfl); focus simp only [List.range, List.range.loop, List.size_toArray, List.length_cons, List.length_nil, Nat.reduceAdd])); focus ((repeat' (first | (with_reducible first | exact wg | exact wh) | ((with_reducible first | apply wi | apply wj); focus (simp (discharger := omega) only [go_sem, hn1, tNode, hgE, hx, hgE2, hx2, tOut, simprocAttr]; with_reducible rfl)))); done)))
      exact (by simp (discharger := omega) only [go_sem, simprocAttr])
    · generalize atOf g x = a at *
      generalize atOf g2 x2 = a2 at *
      have hq2 : ¬ ([tOut g2, tInt x2] : List T) = [tOut g, tInt x] := fun e => hq e.symm
      simp only [tOut, tIntss, tInts, tInt] at hq hq2
      have htb := Tab.cons c1 (Tab.cons c2 Tab.nil)
      by_cases h0 : a = a2
      · rw [decide_eq_true h0]
        subst h0
        repeat' (first | (with_reducible first | apply w1 | apply w2 | apply w3 | apply w4 | apply w5 | apply w6 | apply w7 | apply w8 | apply w9 | apply wa | apply wb | apply wc) | ((with_reducible apply wd); focus decide) | ((with_reducible apply we); focus exact rfl) | ((with_reducible apply wf); focus exact rfl) | ((first | (with_reducible apply SW_run tt_ok hG htb) | ((with_reducible apply SW_draw rfl tt_ok hG htb); (focus kernel_rfl); focus simp only [List.range, List.range.loop, List.size_toArray, List.length_cons, List.length_nil, Nat.reduceAdd])); focus ((repeat' (first | (with_reducible first | exact wg | exact wh) | ((with_reducible first | apply wi | apply wj); focus (simp (discharger := omega) only [go_sem, hn1, tNode, hgE, hx, hgE2, hx2, tOut, hq, hq2, simprocAttr]; with_reducible rfl)))); done)))
        exact (by simp (discharger := omega) only [go_sem, simprocAttr])
      · rw [decide_eq_false h0]
        repeat' (first | (with_reducible first | apply w1 | apply w2 | apply w3 | apply w4 | apply w5 | apply w6 | apply w7 | apply w8 | apply w9 | apply wa | apply wb | apply wc) | ((with_reducible apply wd); focus decide) | ((with_reducible apply we); focus exact rfl) | ((with_reducible apply wf); focus exact rfl) | ((first | (with_reducible apply SW_run tt_ok hG htb) | ((with_reducible apply SW_draw rfl tt_ok hG htb); (focus kernel_rfl); focus simp only [List.range, List.range.loop, List.size_toArray, List.length_cons, List.length_nil, Nat.reduceAdd])); focus ((repeat' (first | (with_reducible first | exact wg | exact wh) | ((with_reducible first | apply wi | apply wj); focus (simp (discharger := omega) only [go_sem, hn1, tNode, hgE, hx, hgE2, hx2, tOut, hq, hq2, h0, simprocAttr]; with_reducible rfl)))); done)))
        exact (by simp (discharger := omega) only [go_sem, simprocAttr])
  · rcases ho with rfl | rfl <;> exact absurd hp (by simp [partsOf])
  · rcases ho with rfl | rfl | rfl <;> exact absurd hp (by simp [partsOf])
set_option maxHeartbeats 16000000 in
set_option maxRecDepth 100000 in
theorem tr_one {f : List GNode} {ws : List GOut} {ns : List Int} {i e : Nat} {n : GNode} (hl : f.length ≤ 40) (hn : f[i]? = some n) (ho : n.op = 5) (hq : Part f (i + 1) e) (h1 : Snd Tryd.prog G 30 [tForm f, tNat (i + 1), tOutL ws, tInts ns] (.bool (evalP f ws ns (i + 1)))) :
    Snd Tryd.prog G 30 [tForm f, tNat i, tOutL ws, tInts ns] (.bool (evalP f ws ns i)) := by
  have hil := (List.getElem?_eq_some_iff.1 hn).1
  have hn1 : f[i]! = n := by rw [getElem!_pos f i hil]; exact (List.getElem?_eq_some_iff.1 hn).2
  rw [evalP_one hn (by rw [ho]; rfl) hq]
  have hlt := hq.lt
  generalize evalP f ws ns (i + 1) = b at *
  obtain ⟨op, var, other, word, word2, num, coefs⟩ := n
  simp only at ho
  subst ho
  refine snd_of_body (n := 151) (tm := [(0, .t (tForm f)), (1, .t (tNat i)), (2, .t (tOutL ws)), (3, .t (tInts ns))]) (rs := [.tmp 8]) tt_ok Tryd.func30 rfl rfl rfl rfl rfl ?_
  have h1 : Snd Tryd.prog G 30 [tForm f, tInt ((i : Int) + 1), tOutL ws, tInts ns] (.bool b) := h1
  unfold tForm tOutL at h1 ⊢
  have htb := Tab.cons h1 Tab.nil
  cases b
  · repeat' (first | (with_reducible first | apply w1 | apply w2 | apply w3 | apply w4 | apply w5 | apply w6 | apply w7 | apply w8 | apply w9 | apply wa | apply wb | apply wc) | ((with_reducible apply wd); focus decide) | ((with_reducible apply we); focus exact rfl) | ((with_reducible apply wf); focus exact rfl) | ((first | (with_reducible apply SW_run tt_ok hG htb) | ((with_reducible apply SW_draw rfl tt_ok hG htb); (focus kernel_rfl); focus simp only [List.range, List.range.loop, List.size_toArray, List.length_cons, List.length_nil, Nat.reduceAdd])); focus ((repeat' (first | (with_reducible first | exact wg | exact wh) | ((with_reducible first | apply wi | apply wj); focus (simp (discharger := omega) only [go_sem, hn1, tNode, simprocAttr]; with_reducible rfl)))); done)))
    exact (by simp (discharger := omega) only [go_sem, Bool.not_false, simprocAttr])
  · repeat' (first | (with_reducible first | apply w1 | apply w2 | apply w3 | apply w4 | apply w5 | apply w6 | apply w7 | apply w8 | apply w9 | apply wa | apply wb | apply wc) | ((with_reducible apply wd); focus decide) | ((with_reducible apply we); focus exact rfl) | ((with_reducible apply wf); focus exact rfl) | ((first | (with_reducible apply SW_run tt_ok hG htb) | ((with_reducible apply SW_draw rfl tt_ok hG htb); (focus kernel_rfl); focus simp only [List.range, List.range.loop, List.size_toArray, List.length_cons, List.length_nil, Nat.reduceAdd])); focus ((repeat' (first | (with_reducible first | exact wg | exact wh) | ((with_reducible first | apply wi | apply wj); focus (simp (discharger := omega) only [go_sem, hn1, tNode, simprocAttr]; with_reducible rfl)))); done)))
    exact (by simp (discharger := omega) only [go_sem, Bool.not_true, simprocAttr])
set_option maxHeartbeats 16000000 in
set_option maxRecDepth 100000 in
theorem tr_two {f : List GNode} {ws : List GOut} {ns : List Int} {i m e : Nat} {n : GNode} (hl : f.length ≤ 40) (hn : f[i]? = some n) (ho : n.op = 6 ∨ n.op = 7) (hq : Part f (i + 1) m) (hq2 : Part f m e) (h1 : Snd Tryd.prog G 30 [tForm f, tNat (i + 1), tOutL ws, tInts ns] (.bool (evalP f ws ns (i + 1))))
    (h2 : Snd Tryd.prog G 30 [tForm f, tNat m, tOutL ws, tInts ns] (.bool (evalP f ws ns m))) : Snd Tryd.prog G 30 [tForm f, tNat i, tOutL ws, tInts ns] (.bool (evalP f ws ns i)) := by
  have hil := (List.getElem?_eq_some_iff.1 hn).1
  have hn1 : f[i]! = n := by rw [getElem!_pos f i hil]; exact (List.getElem?_eq_some_iff.1 hn).2
  rw [evalP_two hn (by unfold partsOf; rw [if_neg (by omega), if_pos ho]) hq hq2]
  have hlt := hq.lt
  have hlt2 := hq2.lt
  have c3 := REndOf_snd hG hq hl
  generalize evalP f ws ns (i + 1) = b at *
  generalize evalP f ws ns m = d at *
  obtain ⟨op, var, other, word, word2, num, coefs⟩ := n
  simp only at ho ⊢
  refine snd_of_body (n := 151) (tm := [(0, .t (tForm f)), (1, .t (tNat i)), (2, .t (tOutL ws)), (3, .t (tInts ns))]) (rs := [.tmp 8]) tt_ok Tryd.func30 rfl rfl rfl rfl rfl ?_
  have h1 : Snd Tryd.prog G 30 [tForm f, tInt ((i : Int) + 1), tOutL ws, tInts ns] (.bool b) := h1
  have c3 : Snd Tryd.prog G 60 [tForm f, tInt ((i : Int) + 1)] (tNat m) := c3
  unfold tForm tOutL at h1 h2 ⊢
  unfold tForm at c3
  have htb := Tab.cons h1 Tab.nil
  rcases ho with rfl | rfl
  · rw [if_pos rfl]
    repeat' (first | (with_reducible first | apply w1 | apply w2 | apply w3 | apply w4 | apply w5 | apply w6 | apply w7 | apply w8 | apply w9 | apply wa | apply wb | apply wc) | ((with_reducible apply wd); focus decide) | ((with_reducible apply we); focus exact rfl) | ((with_reducible apply wf); focus exact rfl) | ((first | (with_reducible apply SW_run tt_ok hG htb) | ((with_reducible apply SW_draw rfl tt_ok hG htb); (focus kernel_rfl); focus simp only [List.range, List.range.loop, List.size_toArray, List.length_cons, List.length_nil, Nat.reduceAdd])); focus ((repeat' (first | (with_reducible first | exact wg | exact wh) | ((with_reducible first | apply wi | apply wj); focus (simp (discharger := omega) only [go_sem, hn1, tNode, simprocAttr]; with_reducible rfl)))); done)))
    clear htb
    have htb := Tab.cons c3 (Tab.cons h2 Tab.nil)
    cases b <;> cases d
    · repeat' (first | (with_reducible first | apply w1 | apply w2 | apply w3 | apply w4 | apply w5 | apply w6 | apply w7 | apply w8 | apply w9 | apply wa | apply wb | apply wc) | ((with_reducible apply wd); focus decide) | ((with_reducible apply we); focus exact rfl) | ((with_reducible apply wf); focus exact rfl) | ((first | (with_reducible apply SW_run tt_ok hG htb) | ((with_reducible apply SW_draw rfl tt_ok hG htb); (focus kernel_rfl); focus simp only [List.range, List.range.loop, List.size_toArray, List.length_cons, List.length_nil, Nat.reduceAdd])); focus ((repeat' (first | (with_reducible first | exact wg | exact wh) | ((with_reducible first | apply wi | apply wj); focus (simp (discharger := omega) only [go_sem, simprocAttr]; with_reducible rfl)))); done)))
      exact (by simp (discharger := omega) only [go_sem, Bool.and_true, Bool.and_false, Bool.or_true, Bool.or_false, simprocAttr])
    · repeat' (first | (with_reducible first | apply w1 | apply w2 | apply w3 | apply w4 | apply w5 | apply w6 | apply w7 | apply w8 | apply w9 | apply wa | apply wb | apply wc) | ((with_reducible apply wd); focus decide) | ((with_reducible apply we); focus exact rfl) | ((with_reducible apply wf); focus exact rfl) | ((first | (with_reducible apply SW_run tt_ok hG htb) | ((with_reducible apply SW_draw rfl tt_ok hG htb); (focus kernel_rfl); focus simp only [List.range, List.range.loop, List.size_toArray, List.length_cons, List.length_nil, Nat.reduceAdd])); focus ((repeat' (first | (with_reducible first | exact wg | exact wh) | ((with_reducible first | apply wi | apply wj); focus (simp (discharger := omega) only [go_sem, simprocAttr]; with_reducible rfl)))); done)))
      exact (by simp (discharger := omega) only [go_sem, Bool.and_true, Bool.and_false, Bool.or_true, Bool.or_false, simprocAttr])
    · repeat' (first | (with_reducible first | apply w1 | apply w2 | apply w3 | apply w4 | apply w5 | apply w6 | apply w7 | apply w8 | apply w9 | apply wa | apply wb | apply wc) | ((with_reducible apply wd); focus decide) | ((with_reducible apply we); focus exact rfl) | ((with_reducible apply wf); focus exact rfl) | ((first | (with_reducible apply SW_run tt_ok hG htb) | ((with_reducible apply SW_draw rfl tt_ok hG htb); (focus kernel_rfl); focus simp only [List.range, List.range.loop, List.size_toArray, List.length_cons, List.length_nil, Nat.reduceAdd])); focus ((repeat' (first | (with_reducible first | exact wg | exact wh) | ((with_reducible first | apply wi | apply wj); focus (simp (discharger := omega) only [go_sem, simprocAttr]; with_reducible rfl)))); done)))
      exact (by simp (discharger := omega) only [go_sem, Bool.and_true, Bool.and_false, Bool.or_true, Bool.or_false, simprocAttr])
    · repeat' (first | (with_reducible first | apply w1 | apply w2 | apply w3 | apply w4 | apply w5 | apply w6 | apply w7 | apply w8 | apply w9 | apply wa | apply wb | apply wc) | ((with_reducible apply wd); focus decide) | ((with_reducible apply we); focus exact rfl) | ((with_reducible apply wf); focus exact rfl) | ((first | (with_reducible apply SW_run tt_ok hG htb) | ((with_reducible apply SW_draw rfl tt_ok hG htb); (focus kernel_rfl); focus simp only [List.range, List.range.loop, List.size_toArray, List.length_cons, List.length_nil, Nat.reduceAdd])); focus ((repeat' (first | (with_reducible first | exact wg | exact wh) | ((with_reducible first | apply wi | apply wj); focus (simp (discharger := omega) only [go_sem, simprocAttr]; with_reducible rfl)))); done)))
      exact (by simp (discharger := omega) only [go_sem, Bool.and_true, Bool.and_false, Bool.or_true, Bool.or_false, simprocAttr])
  · rw [if_neg (by decide)]
    repeat' (first | (with_reducible first | apply w1 | apply w2 | apply w3 | apply w4 | apply w5 | apply w6 | apply w7 | apply w8 | apply w9 | apply wa | apply wb | apply wc) | ((with_reducible apply wd); focus decide) | ((with_reducible apply we); focus exact rfl) | ((with_reducible apply wf); focus exact rfl) | ((first | (with_reducible apply SW_run tt_ok hG htb) | ((with_reducible apply SW_draw rfl tt_ok hG htb); (focus kernel_rfl); focus simp only [List.range, List.range.loop, List.size_toArray, List.length_cons, List.length_nil, Nat.reduceAdd])); focus ((repeat' (first | (with_reducible first | exact wg | exact wh) | ((with_reducible first | apply wi | apply wj); focus (simp (discharger := omega) only [go_sem, hn1, tNode, simprocAttr]; with_reducible rfl)))); done)))
    clear htb
    have htb := Tab.cons c3 (Tab.cons h2 Tab.nil)
    cases b <;> cases d
    · repeat' (first | (with_reducible first | apply w1 | apply w2 | apply w3 | apply w4 | apply w5 | apply w6 | apply w7 | apply w8 | apply w9 | apply wa | apply wb | apply wc) | ((with_reducible apply wd); focus decide) | ((with_reducible apply we); focus exact rfl) | ((with_reducible apply wf); focus exact rfl) | ((first | (with_reducible apply SW_run tt_ok hG htb) | ((with_reducible apply SW_draw rfl tt_ok hG htb); (focus kernel_rfl); focus simp only [List.range, List.range.loop, List.size_toArray, List.length_cons, List.length_nil, Nat.reduceAdd])); focus ((repeat' (first | (with_reducible first | exact wg | exact wh) | ((with_reducible first | apply wi | apply wj); focus (simp (discharger := omega) only [go_sem, simprocAttr]; with_reducible rfl)))); done)))
      exact (by simp (discharger := omega) only [go_sem, Bool.and_true, Bool.and_false, Bool.or_true, Bool.or_false, simprocAttr])
    · repeat' (first | (with_reducible first | apply w1 | apply w2 | apply w3 | apply w4 | apply w5 | apply w6 | apply w7 | apply w8 | apply w9 | apply wa | apply wb | apply wc) | ((with_reducible apply wd); focus decide) | ((with_reducible apply we); focus exact rfl) | ((with_reducible apply wf); focus exact rfl) | ((first | (with_reducible apply SW_run tt_ok hG htb) | ((with_reducible apply SW_draw rfl tt_ok hG htb); (focus kernel_rfl); focus simp only [List.range, List.range.loop, List.size_toArray, List.length_cons, List.length_nil, Nat.reduceAdd])); focus ((repeat' (first | (with_reducible first | exact wg | exact wh) | ((with_reducible first | apply wi | apply wj); focus (simp (discharger := omega) only [go_sem, simprocAttr]; with_reducible rfl)))); done)))
      exact (by simp (discharger := omega) only [go_sem, Bool.and_true, Bool.and_false, Bool.or_true, Bool.or_false, simprocAttr])
    · repeat' (first | (with_reducible first | apply w1 | apply w2 | apply w3 | apply w4 | apply w5 | apply w6 | apply w7 | apply w8 | apply w9 | apply wa | apply wb | apply wc) | ((with_reducible apply wd); focus decide) | ((with_reducible apply we); focus exact rfl) | ((with_reducible apply wf); focus exact rfl) | ((first | (with_reducible apply SW_run tt_ok hG htb) | ((with_reducible apply SW_draw rfl tt_ok hG htb); (focus kernel_rfl); focus simp only [List.range, List.range.loop, List.size_toArray, List.length_cons, List.length_nil, Nat.reduceAdd])); focus ((repeat' (first | (with_reducible first | exact wg | exact wh) | ((with_reducible first | apply wi | apply wj); focus (simp (discharger := omega) only [go_sem, simprocAttr]; with_reducible rfl)))); done)))
      exact (by simp (discharger := omega) only [go_sem, Bool.and_true, Bool.and_false, Bool.or_true, Bool.or_false, simprocAttr])
    · repeat' (first | (with_reducible first | apply w1 | apply w2 | apply w3 | apply w4 | apply w5 | apply w6 | apply w7 | apply w8 | apply w9 | apply wa | apply wb | apply wc) | ((with_reducible apply wd); focus decide) | ((with_reducible apply we); focus exact rfl) | ((with_reducible apply wf); focus exact rfl) | ((first | (with_reducible apply SW_run tt_ok hG htb) | ((with_reducible apply SW_draw rfl tt_ok hG htb); (focus kernel_rfl); focus simp only [List.range, List.range.loop, List.size_toArray, List.length_cons, List.length_nil, Nat.reduceAdd])); focus ((repeat' (first | (with_reducible first | exact wg | exact wh) | ((with_reducible first | apply wi | apply wj); focus (simp (discharger := omega) only [go_sem, simprocAttr]; with_reducible rfl)))); done)))
      exact (by simp (discharger := omega) only [go_sem, Bool.and_true, Bool.and_false, Bool.or_true, Bool.or_false, simprocAttr])
theorem tr_all {f : List GNode} {ws : List GOut} {ns : List Int} (hl : f.length ≤ 40) (hne : ∀ n ∈ f, nodeErr n = 0) (hq : ∀ n ∈ f, quantN n = false) (hB : numsBad ns = false) (hO : ∀ o ∈ ws, outErr o = 0) (hw : ∀ n ∈ f, wordNeed n ws.length = false) {i e : Nat} (hp : Part f i e) :
    (∀ v : Int, 0 ≤ v → v < 5 → freeP f i v = true → v < ns.length) → Snd Tryd.prog G 30 [tForm f, tNat i, tOutL ws, tInts ns] (.bool (evalP f ws ns i)) := by
  have hop : ∀ {i : Nat} {n : GNode}, f[i]? = some n → ¬ (n.op = 8 ∨ n.op = 9) := fun {i n} h ho => by
    have := hq n (List.mem_of_getElem? h)
    unfold quantN at this
    simp only [Bool.or_eq_false_iff, decide_eq_false_iff_not] at this
    omega
  induction hp with
  | leaf h hp => exact fun hv => tr_leaf hG hl h (goodN (hne _ (List.mem_of_getElem? h))) hp hB hO (hw _ (List.mem_of_getElem? h)) fun v h0 h5 hu => hv v h0 h5 (by rw [freeP_leaf h hp]; exact hu)
  | one h hp h1 ih =>
    intro hv
    have hno := hop h
    refine tr_one hG hl h ?_ h1 (ih fun v h0 h5 hu => hv v h0 h5 (by rw [freeP_one h hp h1, if_neg (by omega)]; exact hu))
    unfold partsOf at hp
    split at hp
    · omega
    · split at hp <;> omega
  | two h hp h1 h2 ih1 ih2 =>
    intro hv
    refine tr_two hG hl h ?_ h1 h2 (ih1 fun v h0 h5 hu => hv v h0 h5 (by rw [freeP_two h hp h1 h2, hu]; rfl)) (ih2 fun v h0 h5 hu => hv v h0 h5 (by rw [freeP_two h hp h1 h2, hu, Bool.or_true]))
    unfold partsOf at hp
    split at hp
    · omega
    · split at hp
      · assumption
      · omega
end
end Go.Proofs.YtcaopcpofepniaaDoor
namespace Go.Proofs.YtcaopcpofepniaaDoor
open Go.RowKit

theorem outsErr_zero : ∀ {ws : List GOut}, outsErr ws = 0 → ∀ o ∈ ws, outErr o = 0
  | [], _, o, ho => by simp at ho
  | p :: r, h, o, ho => by
    rw [outsErr] at h
    split at h
    · omega
    · rename_i h0
      rcases List.mem_cons.1 ho with rfl | ho
      · omega
      · exact outsErr_zero h o ho
/-- The last of rising variables is the greatest. -/
theorem any_last {l : List Int} (h : l.Pairwise (· < ·)) (m : Int) : (l.any fun v => decide (m ≤ v)) = (decide (0 < l.length) && decide (m ≤ l[l.length - 1]!)) := by
  by_cases h0 : 0 < l.length
  · rw [decide_eq_true h0, Bool.true_and, getElem!_pos l _ (by omega)]
    by_cases hm : m ≤ l[l.length - 1]
    · rw [decide_eq_true hm]
      exact List.any_eq_true.2 ⟨_, List.getElem_mem (by omega), decide_eq_true hm⟩
    · rw [decide_eq_false hm]
      refine List.any_eq_false.2 fun v hv => ?_
      obtain ⟨i, hi, rfl⟩ := List.mem_iff_getElem.1 hv
      have : l[i] ≤ l[l.length - 1] := by
        by_cases e : i = l.length - 1
        · subst e; exact Int.le_refl _
        · exact Int.le_of_lt (List.pairwise_iff_getElem.1 h i (l.length - 1) hi (by omega) (by omega))
      simp only [decide_eq_true_eq]; omega
  · obtain rfl : l = [] := List.length_eq_zero_iff.1 (by omega)
    rfl
theorem freeL_rise (f : List GNode) : (freeL f).Pairwise (· < ·) := by
  unfold freeL
  exact List.Pairwise.filter _ (by decide)
section
variable {G : World → Prop} (hG : Lasting G)
include hG
set_option maxHeartbeats 16000000 in
set_option maxRecDepth 100000 in
theorem REvalOf_snd (f : List GNode) (ws : List GOut) (ns : List Int) : Snd Tryd.prog G 7 [tForm f, tOutL ws, tInts ns] (.tup [.bool (evalV f ws ns), tInt (evalErr f ws ns)]) := by
  have c1 := RFormFault_snd hG f
  refine snd_of_body (n := 69) (tm := [(0, .t (tForm f)), (1, .t (tOutL ws)), (2, .t (tInts ns))]) (rs := [.tmp 6, .tmp 7]) tt_ok Tryd.func7 rfl rfl rfl rfl rfl ?_
  have bad : ∀ e, evalErr f ws ns = e → e ≠ 0 → evalV f ws ns = false := fun e h h0 => by unfold evalV; rw [if_neg (by omega)]
  by_cases h : (formErr f).2 = 0
  · obtain ⟨h0, hl, hne, hp, e1⟩ := form_ok h
    rw [h, e1] at c1
    have c2 := RBare_snd hG f hl
    have c3 := RWordsFault_snd hG f hl ws
    have c4 := RFreeOf_snd (G := G) hG hl (fun n hn => by have := node_coefs (hne n hn); omega) hp
    cases hq : f.any quantN with
    | true =>
      have hE : evalErr f ws ns = 2 := by unfold evalErr; rw [if_neg (by omega), if_pos hq]
      rw [bad 2 hE (by decide), hE]
      rw [hq, Bool.not_true] at c2
      have htb := Tab.cons c1 (Tab.cons c2 Tab.nil)
      repeat' (first | (with_reducible first | apply w1 | apply w2 | apply w3 | apply w4 | apply w5 | apply w6 | apply w7 | apply w8 | apply w9 | apply wa | apply wb | apply wc) | ((with_reducible apply wd); focus decide) | ((with_reducible apply we); focus exact rfl) | ((with_reducible apply wf); focus exact rfl) | ((first | (with_reducible apply SW_run tt_ok hG htb) | ((with_reducible apply SW_draw rfl tt_ok hG htb); (focus kernel_rfl); focus simp only [List.range, List.range.loop, List.size_toArray, List.length_cons, List.length_nil, Nat.reduceAdd])); focus ((repeat' (first | (with_reducible first | exact wg | exact wh) | ((with_reducible first | apply wi | apply wj); focus (simp (discharger := omega) only [go_sem, simprocAttr]; with_reducible rfl)))); done)))
      exact (by simp (discharger := omega) only [go_sem, simprocAttr])
    | false =>
      rw [hq, Bool.not_false] at c2
      have hE : evalErr f ws ns = if wordsErr f ws ≠ 0 then wordsErr f ws else if ((freeL f).any fun v => decide ((ns.length : Int) ≤ v)) = true then 2 else if numsBad ns = true then 1 else 0 := by
        unfold evalErr; rw [if_neg (by omega), if_neg (by rw [hq]; decide)]
      by_cases hw : wordsErr f ws = 0
      · rw [if_neg (by omega)] at hE
        have hwO : outsErr ws = 0 ∧ ∀ n ∈ f, wordNeed n ws.length = false := by
          unfold wordsErr at hw
          split at hw
          · omega
          · split at hw
            · omega
            · split at hw
              · omega
              · rename_i h2 h3
                exact ⟨by omega, fun n hn => Bool.eq_false_iff.2 (List.any_eq_false.1 (Bool.eq_false_iff.2 h3) n hn)⟩
        have hqn : ∀ n ∈ f, quantN n = false := fun n hn => Bool.eq_false_iff.2 (List.any_eq_false.1 hq n hn)
        have hev := fun hB => tr_all (G := G) hG (ws := ws) (ns := ns) hl hne hqn hB (outsErr_zero hwO.1) hwO.2 hp
        have hfm := fun v => mem_freeL (f := f) (v := v)
        have hlast := any_last (freeL_rise f) (ns.length : Int)
        rw [hw] at c3
        have hfl5 : (freeL f).length ≤ 5 := by unfold freeL; exact Nat.le_trans (List.length_filter_le _ _) (by simp)
        have hflb : ∀ v ∈ freeL f, 0 ≤ v ∧ v < 5 := fun v hv => (mem_freeL.1 hv).1
        generalize freeL f = fl at *
        have hev : numsBad ns = false → (fl.any fun v => decide ((ns.length : Int) ≤ v)) = false → Snd Tryd.prog G 30 [tForm f, tInt 0, tOutL ws, tInts ns] (.bool (evalP f ws ns 0)) := fun hB hv => hev hB fun v h0 h5 hu => by
          have := List.any_eq_false.1 hv v ((hfm v).2 ⟨⟨h0, h5⟩, hu⟩)
          simpa using this
        have hbad := bad
        clear bad hfm hwO hqn hw hq
        have htb := Tab.cons c1 (Tab.cons c2 (Tab.cons c3 (Tab.cons c4 Tab.nil)))
        repeat' (first | (with_reducible first | apply w1 | apply w2 | apply w3 | apply w4 | apply w5 | apply w6 | apply w7 | apply w8 | apply w9 | apply wa | apply wb | apply wc) | ((with_reducible apply wd); focus decide) | ((with_reducible apply we); focus exact rfl) | ((with_reducible apply wf); focus exact rfl) | ((first | (with_reducible apply SW_run tt_ok hG htb) | ((with_reducible apply SW_draw rfl tt_ok hG htb); (focus kernel_rfl); focus simp only [List.range, List.range.loop, List.size_toArray, List.length_cons, List.length_nil, Nat.reduceAdd])); focus ((repeat' (first | (with_reducible first | exact wg | exact wh) | ((with_reducible first | apply wi | apply wj); focus (simp (discharger := omega) only [go_sem, simprocAttr]; with_reducible rfl)))); done)))
        clear htb
        have htb : Tab.ok Tryd.prog G [] := Tab.nil
        refine SW_len (t := 2) (l := ns.map tInt) rfl fun hns => ?_
        rw [List.length_map] at hns
        by_cases hA : (fl.any fun v => decide ((ns.length : Int) ≤ v)) = true
        · rw [if_pos hA] at hE
          rw [hbad 2 hE (by decide), hE]
          rw [hlast, Bool.and_eq_true, decide_eq_true_eq, decide_eq_true_eq] at hA
          obtain ⟨hA1, hA2⟩ := hA
          obtain ⟨v, hv⟩ : ∃ v, fl[fl.length - 1]! = v := ⟨_, rfl⟩
          rw [hv] at hA2
          have hi : ((fl.length : Int) - 1).toNat = fl.length - 1 := by omega
          repeat' (first | (with_reducible first | apply w1 | apply w2 | apply w3 | apply w4 | apply w5 | apply w6 | apply w7 | apply w8 | apply w9 | apply wa | apply wb | apply wc) | ((with_reducible apply wd); focus decide) | ((with_reducible apply we); focus exact rfl) | ((with_reducible apply wf); focus exact rfl) | ((first | (with_reducible apply SW_run tt_ok hG htb) | ((with_reducible apply SW_draw rfl tt_ok hG htb); (focus kernel_rfl); focus simp only [List.range, List.range.loop, List.size_toArray, List.length_cons, List.length_nil, Nat.reduceAdd])); focus ((repeat' (first | (with_reducible first | exact wg | exact wh) | ((with_reducible first | apply wi | apply wj); focus (simp (discharger := omega) only [go_sem, hi, hv, simprocAttr]; with_reducible rfl)))); done)))
          exact (by simp (discharger := omega) only [go_sem, simprocAttr])
        · have hx := Bool.eq_false_iff.2 hA
          have hev := fun hB => hev hB hx
          rw [if_neg hA] at hE
          rw [hlast, Bool.and_eq_false_iff, decide_eq_false_iff_not, decide_eq_false_iff_not] at hx
          by_cases hf0 : 0 < fl.length
          · obtain ⟨v, hv⟩ : ∃ v, fl[fl.length - 1]! = v := ⟨_, rfl⟩
            have hi : ((fl.length : Int) - 1).toNat = fl.length - 1 := by omega
            have hvn : ¬ (ns.length : Int) ≤ v := by rw [← hv]; rcases hx with q | q; exact absurd hf0 q; exact q
            repeat' (first | (with_reducible first | apply w1 | apply w2 | apply w3 | apply w4 | apply w5 | apply w6 | apply w7 | apply w8 | apply w9 | apply wa | apply wb | apply wc) | ((with_reducible apply wd); focus decide) | ((with_reducible apply we); focus exact rfl) | ((with_reducible apply wf); focus exact rfl) | ((first | (with_reducible apply SW_run tt_ok hG htb) | ((with_reducible apply SW_draw rfl tt_ok hG htb); (focus kernel_rfl); focus simp only [List.range, List.range.loop, List.size_toArray, List.length_cons, List.length_nil, Nat.reduceAdd])); focus ((repeat' (first | (with_reducible first | exact wg | exact wh) | ((with_reducible first | apply wi | apply wj); focus (simp (discharger := omega) only [go_sem, hi, hv, simprocAttr]; with_reducible rfl)))); done)))
            refine SW_loop (fun mm s => ∃ i : Nat, mm = ns.length - i ∧ s = ⟨69, [(0, .t (tForm f)), (1, .t (tOutL ws)), (2, .t (tInts ns)), (12, .t (tNat i))], []⟩ ∧ i ≤ ns.length ∧ numsBad ns = numsBad (ns.drop i)) ns.length
              ⟨_, Norm.headS (own := []) (keep := [0, 1, 2, 12]) (by refine ⟨?_, ?_⟩; (simp (discharger := omega) only [go_sem, simprocAttr]; with_reducible rfl); refine ⟨?_, ?_, ?_, ?_⟩ <;> (simp only [go_sem, simprocAttr]; with_reducible rfl)), 0, rfl, rfl, Nat.zero_le _, by rw [List.drop_zero]⟩ ?_
            rintro mm s ⟨i, rfl, rfl, hi, hx⟩
            by_cases hlt : i < ns.length
            · obtain ⟨v, hv⟩ : ∃ v, ns[i]! = v := ⟨_, rfl⟩
              rw [drop_cons (by rw [List.getElem?_eq_getElem hlt, bang_at hv hlt])] at hx
              have hx : numsBad ns = ((decide (v < 0) || decide (1099511627776 < v)) || numsBad (ns.drop (i + 1))) := hx
              by_cases h1 : v < 0
              · rw [decide_eq_true h1, Bool.true_or, Bool.true_or] at hx
                rw [if_pos hx] at hE
                rw [hbad 1 hE (by decide), hE]
                repeat' (first | (with_reducible first | apply w1 | apply w2 | apply w3 | apply w4 | apply w5 | apply w6 | apply w7 | apply w8 | apply w9 | apply wa | apply wb | apply wc) | ((with_reducible apply wd); focus decide) | ((with_reducible apply we); focus exact rfl) | ((with_reducible apply wf); focus exact rfl) | ((first | (with_reducible apply SW_run tt_ok hG htb) | ((with_reducible apply SW_draw rfl tt_ok hG htb); (focus kernel_rfl); focus simp only [List.range, List.range.loop, List.size_toArray, List.length_cons, List.length_nil, Nat.reduceAdd])); focus ((repeat' (first | (with_reducible first | exact wg | exact wh) | ((with_reducible first | apply wi | apply wj); focus (simp (discharger := omega) only [go_sem, hv, simprocAttr]; with_reducible rfl)))); done)))
                exact (by simp (discharger := omega) only [go_sem, simprocAttr])
              · by_cases h2 : 1099511627776 < v
                · rw [decide_eq_true h2, Bool.or_true, Bool.true_or] at hx
                  rw [if_pos hx] at hE
                  rw [hbad 1 hE (by decide), hE]
                  repeat' (first | (with_reducible first | apply w1 | apply w2 | apply w3 | apply w4 | apply w5 | apply w6 | apply w7 | apply w8 | apply w9 | apply wa | apply wb | apply wc) | ((with_reducible apply wd); focus decide) | ((with_reducible apply we); focus exact rfl) | ((with_reducible apply wf); focus exact rfl) | ((first | (with_reducible apply SW_run tt_ok hG htb) | ((with_reducible apply SW_draw rfl tt_ok hG htb); (focus kernel_rfl); focus simp only [List.range, List.range.loop, List.size_toArray, List.length_cons, List.length_nil, Nat.reduceAdd])); focus ((repeat' (first | (with_reducible first | exact wg | exact wh) | ((with_reducible first | apply wi | apply wj); focus (simp (discharger := omega) only [go_sem, hv, simprocAttr]; with_reducible rfl)))); done)))
                  exact (by simp (discharger := omega) only [go_sem, simprocAttr])
                · rw [decide_eq_false h1, decide_eq_false h2, Bool.false_or, Bool.false_or] at hx
                  repeat' (first | (with_reducible first | apply w1 | apply w2 | apply w3 | apply w4 | apply w5 | apply w6 | apply w7 | apply w8 | apply w9 | apply wa | apply wb | apply wc) | ((with_reducible apply wd); focus decide) | ((with_reducible apply we); focus exact rfl) | ((with_reducible apply wf); focus exact rfl) | ((first | (with_reducible apply SW_run tt_ok hG htb) | ((with_reducible apply SW_draw rfl tt_ok hG htb); (focus kernel_rfl); focus simp only [List.range, List.range.loop, List.size_toArray, List.length_cons, List.length_nil, Nat.reduceAdd])); focus ((repeat' (first | (with_reducible first | exact wg | exact wh) | ((with_reducible first | apply wi | apply wj); focus (simp (discharger := omega) only [go_sem, hv, simprocAttr]; with_reducible rfl)))); done)))
                  exact ⟨ns.length - (i + 1), _, by omega, Norm.headS (own := []) (keep := [0, 1, 2, 12]) (by refine ⟨?_, ?_⟩; (simp (discharger := omega) only [go_sem, simprocAttr]; with_reducible rfl); refine ⟨?_, ?_, ?_, ?_⟩ <;> (simp only [go_sem, simprocAttr]; with_reducible rfl)), i + 1, rfl, rfl, by omega, hx⟩
            · obtain rfl : i = ns.length := by omega
              have hB : numsBad ns = false := by rw [hx, List.drop_length]; rfl
              have h1 := hev hB
              rw [if_neg (by rw [hB]; decide)] at hE
              have hV : evalV f ws ns = evalP f ws ns 0 := by unfold evalV; rw [if_pos hE]
              rw [hV, hE]
              clear hx hE hV hev hbad
              generalize evalP f ws ns 0 = b at *
              clear htb
              have htb := Tab.cons h1 Tab.nil
              repeat' (first | (with_reducible first | apply w1 | apply w2 | apply w3 | apply w4 | apply w5 | apply w6 | apply w7 | apply w8 | apply w9 | apply wa | apply wb | apply wc) | ((with_reducible apply wd); focus decide) | ((with_reducible apply we); focus exact rfl) | ((with_reducible apply wf); focus exact rfl) | ((first | (with_reducible apply SW_run tt_ok hG htb) | ((with_reducible apply SW_draw rfl tt_ok hG htb); (focus kernel_rfl); focus simp only [List.range, List.range.loop, List.size_toArray, List.length_cons, List.length_nil, Nat.reduceAdd])); focus ((repeat' (first | (with_reducible first | exact wg | exact wh) | ((with_reducible first | apply wi | apply wj); focus (simp (discharger := omega) only [go_sem, simprocAttr]; with_reducible rfl)))); done)))
              exact (by simp (discharger := omega) only [go_sem, simprocAttr])
          · repeat' (first | (with_reducible first | apply w1 | apply w2 | apply w3 | apply w4 | apply w5 | apply w6 | apply w7 | apply w8 | apply w9 | apply wa | apply wb | apply wc) | ((with_reducible apply wd); focus decide) | ((with_reducible apply we); focus exact rfl) | ((with_reducible apply wf); focus exact rfl) | ((first | (with_reducible apply SW_run tt_ok hG htb) | ((with_reducible apply SW_draw rfl tt_ok hG htb); (focus kernel_rfl); focus simp only [List.range, List.range.loop, List.size_toArray, List.length_cons, List.length_nil, Nat.reduceAdd])); focus ((repeat' (first | (with_reducible first | exact wg | exact wh) | ((with_reducible first | apply wi | apply wj); focus (simp (discharger := omega) only [go_sem, simprocAttr]; with_reducible rfl)))); done)))
            refine SW_loop (fun mm s => ∃ i : Nat, mm = ns.length - i ∧ s = ⟨69, [(0, .t (tForm f)), (1, .t (tOutL ws)), (2, .t (tInts ns)), (12, .t (tNat i))], []⟩ ∧ i ≤ ns.length ∧ numsBad ns = numsBad (ns.drop i)) ns.length
              ⟨_, Norm.headS (own := []) (keep := [0, 1, 2, 12]) (by refine ⟨?_, ?_⟩; (simp (discharger := omega) only [go_sem, simprocAttr]; with_reducible rfl); refine ⟨?_, ?_, ?_, ?_⟩ <;> (simp only [go_sem, simprocAttr]; with_reducible rfl)), 0, rfl, rfl, Nat.zero_le _, by rw [List.drop_zero]⟩ ?_
            rintro mm s ⟨i, rfl, rfl, hi, hx⟩
            by_cases hlt : i < ns.length
            · obtain ⟨v, hv⟩ : ∃ v, ns[i]! = v := ⟨_, rfl⟩
              rw [drop_cons (by rw [List.getElem?_eq_getElem hlt, bang_at hv hlt])] at hx
              have hx : numsBad ns = ((decide (v < 0) || decide (1099511627776 < v)) || numsBad (ns.drop (i + 1))) := hx
              by_cases h1 : v < 0
              · rw [decide_eq_true h1, Bool.true_or, Bool.true_or] at hx
                rw [if_pos hx] at hE
                rw [hbad 1 hE (by decide), hE]
                repeat' (first | (with_reducible first | apply w1 | apply w2 | apply w3 | apply w4 | apply w5 | apply w6 | apply w7 | apply w8 | apply w9 | apply wa | apply wb | apply wc) | ((with_reducible apply wd); focus decide) | ((with_reducible apply we); focus exact rfl) | ((with_reducible apply wf); focus exact rfl) | ((first | (with_reducible apply SW_run tt_ok hG htb) | ((with_reducible apply SW_draw rfl tt_ok hG htb); (focus kernel_rfl); focus simp only [List.range, List.range.loop, List.size_toArray, List.length_cons, List.length_nil, Nat.reduceAdd])); focus ((repeat' (first | (with_reducible first | exact wg | exact wh) | ((with_reducible first | apply wi | apply wj); focus (simp (discharger := omega) only [go_sem, hv, simprocAttr]; with_reducible rfl)))); done)))
                exact (by simp (discharger := omega) only [go_sem, simprocAttr])
              · by_cases h2 : 1099511627776 < v
                · rw [decide_eq_true h2, Bool.or_true, Bool.true_or] at hx
                  rw [if_pos hx] at hE
                  rw [hbad 1 hE (by decide), hE]
                  repeat' (first | (with_reducible first | apply w1 | apply w2 | apply w3 | apply w4 | apply w5 | apply w6 | apply w7 | apply w8 | apply w9 | apply wa | apply wb | apply wc) | ((with_reducible apply wd); focus decide) | ((with_reducible apply we); focus exact rfl) | ((with_reducible apply wf); focus exact rfl) | ((first | (with_reducible apply SW_run tt_ok hG htb) | ((with_reducible apply SW_draw rfl tt_ok hG htb); (focus kernel_rfl); focus simp only [List.range, List.range.loop, List.size_toArray, List.length_cons, List.length_nil, Nat.reduceAdd])); focus ((repeat' (first | (with_reducible first | exact wg | exact wh) | ((with_reducible first | apply wi | apply wj); focus (simp (discharger := omega) only [go_sem, hv, simprocAttr]; with_reducible rfl)))); done)))
                  exact (by simp (discharger := omega) only [go_sem, simprocAttr])
                · rw [decide_eq_false h1, decide_eq_false h2, Bool.false_or, Bool.false_or] at hx
                  repeat' (first | (with_reducible first | apply w1 | apply w2 | apply w3 | apply w4 | apply w5 | apply w6 | apply w7 | apply w8 | apply w9 | apply wa | apply wb | apply wc) | ((with_reducible apply wd); focus decide) | ((with_reducible apply we); focus exact rfl) | ((with_reducible apply wf); focus exact rfl) | ((first | (with_reducible apply SW_run tt_ok hG htb) | ((with_reducible apply SW_draw rfl tt_ok hG htb); (focus kernel_rfl); focus simp only [List.range, List.range.loop, List.size_toArray, List.length_cons, List.length_nil, Nat.reduceAdd])); focus ((repeat' (first | (with_reducible first | exact wg | exact wh) | ((with_reducible first | apply wi | apply wj); focus (simp (discharger := omega) only [go_sem, hv, simprocAttr]; with_reducible rfl)))); done)))
                  exact ⟨ns.length - (i + 1), _, by omega, Norm.headS (own := []) (keep := [0, 1, 2, 12]) (by refine ⟨?_, ?_⟩; (simp (discharger := omega) only [go_sem, simprocAttr]; with_reducible rfl); refine ⟨?_, ?_, ?_, ?_⟩ <;> (simp only [go_sem, simprocAttr]; with_reducible rfl)), i + 1, rfl, rfl, by omega, hx⟩
            · obtain rfl : i = ns.length := by omega
              have hB : numsBad ns = false := by rw [hx, List.drop_length]; rfl
              have h1 := hev hB
              rw [if_neg (by rw [hB]; decide)] at hE
              have hV : evalV f ws ns = evalP f ws ns 0 := by unfold evalV; rw [if_pos hE]
              rw [hV, hE]
              clear hx hE hV hev hbad
              generalize evalP f ws ns 0 = b at *
              clear htb
              have htb := Tab.cons h1 Tab.nil
              repeat' (first | (with_reducible first | apply w1 | apply w2 | apply w3 | apply w4 | apply w5 | apply w6 | apply w7 | apply w8 | apply w9 | apply wa | apply wb | apply wc) | ((with_reducible apply wd); focus decide) | ((with_reducible apply we); focus exact rfl) | ((with_reducible apply wf); focus exact rfl) | ((first | (with_reducible apply SW_run tt_ok hG htb) | ((with_reducible apply SW_draw rfl tt_ok hG htb); (focus kernel_rfl); focus simp only [List.range, List.range.loop, List.size_toArray, List.length_cons, List.length_nil, Nat.reduceAdd])); focus ((repeat' (first | (with_reducible first | exact wg | exact wh) | ((with_reducible first | apply wi | apply wj); focus (simp (discharger := omega) only [go_sem, simprocAttr]; with_reducible rfl)))); done)))
              exact (by simp (discharger := omega) only [go_sem, simprocAttr])
      · rw [if_pos hw] at hE
        rw [hE, bad _ hE hw]
        clear hE bad
        generalize wordsErr f ws = e at *
        have htb := Tab.cons c1 (Tab.cons c2 (Tab.cons c3 Tab.nil))
        repeat' (first | (with_reducible first | apply w1 | apply w2 | apply w3 | apply w4 | apply w5 | apply w6 | apply w7 | apply w8 | apply w9 | apply wa | apply wb | apply wc) | ((with_reducible apply wd); focus decide) | ((with_reducible apply we); focus exact rfl) | ((with_reducible apply wf); focus exact rfl) | ((first | (with_reducible apply SW_run tt_ok hG htb) | ((with_reducible apply SW_draw rfl tt_ok hG htb); (focus kernel_rfl); focus simp only [List.range, List.range.loop, List.size_toArray, List.length_cons, List.length_nil, Nat.reduceAdd])); focus ((repeat' (first | (with_reducible first | exact wg | exact wh) | ((with_reducible first | apply wi | apply wj); focus (simp (discharger := omega) only [go_sem, hw, simprocAttr]; with_reducible rfl)))); done)))
        exact (by simp (discharger := omega) only [go_sem, hw, simprocAttr])
  · have hE : evalErr f ws ns = (formErr f).2 := by unfold evalErr; rw [if_pos h]
    rw [bad _ hE h, hE]
    clear hE bad
    generalize (formErr f).2 = e at *
    generalize (formErr f).1 = a at *
    have htb := Tab.cons c1 Tab.nil
    repeat' (first | (with_reducible first | apply w1 | apply w2 | apply w3 | apply w4 | apply w5 | apply w6 | apply w7 | apply w8 | apply w9 | apply wa | apply wb | apply wc) | ((with_reducible apply wd); focus decide) | ((with_reducible apply we); focus exact rfl) | ((with_reducible apply wf); focus exact rfl) | ((first | (with_reducible apply SW_run tt_ok hG htb) | ((with_reducible apply SW_draw rfl tt_ok hG htb); (focus kernel_rfl); focus simp only [List.range, List.range.loop, List.size_toArray, List.length_cons, List.length_nil, Nat.reduceAdd])); focus ((repeat' (first | (with_reducible first | exact wg | exact wh) | ((with_reducible first | apply wi | apply wj); focus (simp (discharger := omega) only [go_sem, h, simprocAttr]; with_reducible rfl)))); done)))
    exact (by simp (discharger := omega) only [go_sem, h, simprocAttr])
end
end Go.Proofs.YtcaopcpofepniaaDoor
namespace Go.Proofs.YtcaopcpofepniaaDoor
open Go.RowKit

def evCap : List SV := [.bptr 0 0, .bptr 1 0, .bptr 2 0, .bptr 3 0]
def evObs (f : List GNode) (ws : List GOut) (ns : List Int) : List Ob := [.box [.t (tForm f)], .box [.t (tInts ns)], .box [.t (tOutL ws)], .box [.fn 36 evCap]]
/-- What the closure gives of the part at a place. -/
def EvC (G : World → Prop) (f : List GNode) (ws : List GOut) (ns : List Int) (i e : Nat) : Prop :=
  SndC Tryd.prog G 36 (.t (tNat i) :: evCap) (evObs f ws ns) (.tup [.bool (evalP f ws ns i), tNat e]) (evObs f ws ns)
theorem ev_pins {f : List GNode} {ws : List GOut} {ns : List Int} (i : Nat) (l : List SV) (h : (evObs f ws ns)[i]? = some (.box l)) : i ∈ [0, 1, 2, 3] ∧ ∃ l', (evObs f ws ns)[i]? = some (.box l') := by
  have := (List.getElem?_eq_some_iff.1 h).1
  have hi : i < 4 := this
  exact ⟨by simp; omega, l, h⟩
theorem ev_pins2 {f : List GNode} {ws : List GOut} {ns : List Int} : ∀ i ∈ [0, 1, 2, 3], ∃ l, (evObs f ws ns)[i]? = some (.box l) := fun i hi => by
  simp only [List.mem_cons, List.not_mem_nil, or_false] at hi
  rcases hi with rfl | rfl | rfl | rfl <;> exact ⟨_, rfl⟩
theorem ev_boxes {f : List GNode} {ws : List GOut} {ns : List Int} : ∀ x ∈ evObs f ws ns, ∃ l, x = .box l := fun x hx => by
  simp only [evObs, List.mem_cons, List.not_mem_nil, or_false] at hx
  rcases hx with rfl | rfl | rfl | rfl <;> exact ⟨_, rfl⟩
theorem ev_ren (f : List GNode) (ws : List GOut) (ns : List Int) : (evObs f ws ns).map (Ob.ren (upto (evObs f ws ns).length)) = evObs f ws ns := rfl
theorem ev_xren (k : T) : ((SV.t k) :: evCap).map (SV.ren (upto 4)) = (SV.t k) :: evCap := rfl
theorem four_pins {s' : St} {bs : Nat → Nat} (h0 : look s'.tmps 157 = some (.pin 0 (bs 0))) (h1 : look s'.tmps 158 = some (.pin 1 (bs 1))) (h2 : look s'.tmps 159 = some (.pin 2 (bs 2))) (h3 : look s'.tmps 160 = some (.pin 3 (bs 3))) : ∀ i ∈ [0, 1, 2, 3], look s'.tmps (157 + i) = some (.pin i (bs i)) := fun i hi => by
  simp only [List.mem_cons, List.not_mem_nil, or_false] at hi
  rcases hi with rfl | rfl | rfl | rfl
  · exact h0
  · exact h1
  · exact h2
  · exact h3
section
variable {G : World → Prop} (hG : Lasting G)
include hG
set_option maxHeartbeats 16000000 in
set_option maxRecDepth 100000 in
theorem ev_leaf {f : List GNode} {ws : List GOut} {ns : List Int} {i : Nat} {n : GNode} (hl : f.length ≤ 40) (hn : f[i]? = some n) (hg : GoodN n) (hp : partsOf n.op = 0) (hB : numsBad ns = false) (hw : wordNeed n ws.length = false) (hv : ∀ v : Int, 0 ≤ v → v < 5 → usesN n v = true → v < ns.length) : EvC G f ws ns i (i + 1) := by
  have hil := (List.getElem?_eq_some_iff.1 hn).1
  have hn1 : f[i]! = n := by rw [getElem!_pos f i hil]; exact (List.getElem?_eq_some_iff.1 hn).2
  unfold EvC
  rw [evalP_leaf hn hp]
  show SndC _ _ _ _ _ (.tup [.bool _, tInt ((i : Int) + 1)]) _
  have hnb : ∀ j (hj : j < ns.length), 0 ≤ ns[j] ∧ ns[j] ≤ 1099511627776 := fun j hj => by
    unfold numsBad at hB
    have := List.any_eq_false.1 hB ns[j] (List.getElem_mem _)
    simp only [Bool.or_eq_true, decide_eq_true_eq] at this; omega
  obtain ⟨op, var, other, word, word2, num, coefs⟩ := n
  refine sndC_of_body tt_ok Tryd.func36 rfl rfl (n := 157) rfl (tm := []) (rs := [.tmp 6, .tmp 7]) rfl rfl rfl [0, 1, 2, 3] ev_pins ev_pins2 fun bs => ?_
  show SW Tryd.prog G _ _ ⟨157, [(0, .t (tNat i)), (1, .bptr 0 0), (2, .bptr 1 0), (3, .bptr 2 0), (4, .bptr 3 0), (157, .pin 0 (bs 0)), (158, .pin 1 (bs 1)), (159, .pin 2 (bs 2)), (160, .pin 3 (bs 3))], [.box [.t (tForm f)], .box [.t (tInts ns)], .box [.t (tOutL ws)], .box [.fn 36 [.bptr 0 0, .bptr 1 0, .bptr 2 0, .bptr 3 0]]]⟩
  unfold tForm tOutL
  have htb : Tab.ok Tryd.prog G [] := Tab.nil
  unfold GoodN at hg
  simp only at hg
  rcases hg with ⟨ho, rfl, rfl, rfl, rfl, h1, h2, h3, h4⟩ | ⟨rfl, h1, rfl, h2, rfl, h3, h4, rfl⟩ | ⟨rfl, h1, h2, h3, h4, rfl, rfl⟩ | ⟨ho, h1, rfl, rfl, rfl, rfl, rfl⟩ | ⟨ho, rfl, rfl, rfl, rfl, rfl, rfl⟩
  · have hus : ∀ j, j < coefs.length → coefs.getD j 0 ≠ 0 → j < ns.length := fun j hj hc => by
      have := hv j (by omega) (by have := h4.1; omega) (by unfold usesN; rw [if_pos ho]; simp only [Int.toNat_natCast]; rw [decide_eq_true (by omega), decide_eq_true hc]; rfl)
      omega
    have hl5 : coefs.length ≤ 5 := h4.1
    rcases ho with rfl | rfl
    · repeat' (first | (with_reducible first | apply w1 | apply w2 | apply w3 | apply w4 | apply w5 | apply w6 | apply w7 | apply w8 | apply w9 | apply wa | apply wb | apply wc) | ((with_reducible apply wd); focus decide) | ((with_reducible apply we); focus exact rfl) | ((with_reducible apply wf); focus exact rfl) | ((first | (with_reducible apply SW_run tt_ok hG htb) | ((with_reducible apply SW_draw rfl tt_ok hG htb); (focus kernel_rfl); focus simp only [List.range, List.range.loop, List.size_toArray, List.length_cons, List.length_nil, Nat.reduceAdd])); focus ((repeat' (first | (with_reducible first | exact wg | exact wh) | ((with_reducible first | apply wi | apply wj); focus (simp (discharger := omega) only [go_sem, hn1, tNode, simprocAttr]; with_reducible rfl)))); done)))
      refine SW_loop (fun mm s => ∃ (j : Nat) (q : Int), mm = coefs.length - j ∧ s = ⟨157, [(157, .pin 0 (bs 0)), (158, .pin 1 (bs 1)), (159, .pin 2 (bs 2)), (160, .pin 3 (bs 3)), (0, .t (tNat i)), (2, .bptr 1 0), (8, .bptr 4 0), (9, .t (tInt q)), (32, .t (tInts coefs)), (33, .t (tInt coefs.length)), (34, .t (tNat j))], [.box [.t (.list (f.map tNode))], .box [.t (tInts ns)], .box [.t (.list (ws.map tOut))], .box [.fn 36 [.bptr 0 0, .bptr 1 0, .bptr 2 0, .bptr 3 0]], .box [.t (tInt 1), .t (tInt 0), .t (tInt 0), .t (tInt 0), .t (tInt 0), .t (tInt num), .t (tInts coefs)]]⟩ ∧ j ≤ coefs.length ∧ q = num + dotN coefs (fun v => ns.getD v 0) j) coefs.length
        ⟨_, Norm.headS (own := []) (keep := [157, 158, 159, 160, 0, 2, 8, 9, 32, 33, 34]) (by refine ⟨?_, ?_⟩; (simp (discharger := omega) only [go_sem, simprocAttr]; with_reducible rfl); refine ⟨?_, ?_, ?_, ?_⟩ <;> (simp only [go_sem, simprocAttr]; with_reducible rfl)), 0, _, rfl, rfl, Nat.zero_le _, (Int.add_zero num).symm⟩ ?_
      rintro mm s ⟨j, q, rfl, rfl, hj, hq⟩
      have hbd := dotN_num (coefs := coefs) (nums := ns) h1 hnb (i := j) hj
      by_cases hlt : j < coefs.length
      · obtain ⟨c, hc⟩ : ∃ c, coefs[j]! = c := ⟨_, rfl⟩
        have hcD : coefs.getD j 0 = c := bang_D hc hlt
        have hge := absN_ge coefs hlt
        rw [hcD] at hge
        unfold sizeA at h1
        by_cases h0 : c = 0
        · repeat' (first | (with_reducible first | apply w1 | apply w2 | apply w3 | apply w4 | apply w5 | apply w6 | apply w7 | apply w8 | apply w9 | apply wa | apply wb | apply wc) | ((with_reducible apply wd); focus decide) | ((with_reducible apply we); focus exact rfl) | ((with_reducible apply wf); focus exact rfl) | ((first | (with_reducible apply SW_run tt_ok hG htb) | ((with_reducible apply SW_draw rfl tt_ok hG htb); (focus kernel_rfl); focus simp only [List.range, List.range.loop, List.size_toArray, List.length_cons, List.length_nil, Nat.reduceAdd])); focus ((repeat' (first | (with_reducible first | exact wg | exact wh) | ((with_reducible first | apply wi | apply wj); focus (simp (discharger := omega) only [go_sem, hc, h0, simprocAttr]; with_reducible rfl)))); done)))
          exact ⟨coefs.length - (j + 1), _, by omega, Norm.headS (own := []) (keep := [157, 158, 159, 160, 0, 2, 8, 9, 32, 33, 34]) (by refine ⟨?_, ?_⟩; (simp (discharger := omega) only [go_sem, simprocAttr]; with_reducible rfl); refine ⟨?_, ?_, ?_, ?_⟩ <;> (simp only [go_sem, simprocAttr]; with_reducible rfl)), j + 1, q, rfl, rfl, by omega, by rw [dotN, hcD, h0, Int.zero_mul, Int.add_zero]; exact hq⟩
        · have hjn := hus j hlt (by rw [hcD]; exact h0)
          obtain ⟨y, hy⟩ : ∃ y, ns[j]! = y := ⟨_, rfl⟩
          have hyb := hnb j hjn
          rw [bang_at hy hjn] at hyb
          have hyx : -13194139533312 ≤ c * y ∧ c * y ≤ 13194139533312 := by
            have m1 : c * y ≤ 12 * y := Int.mul_le_mul_of_nonneg_right (by omega) (by omega)
            have m2 : (-12) * y ≤ c * y := Int.mul_le_mul_of_nonneg_right (by omega) (by omega)
            omega
          repeat' (first | (with_reducible first | apply w1 | apply w2 | apply w3 | apply w4 | apply w5 | apply w6 | apply w7 | apply w8 | apply w9 | apply wa | apply wb | apply wc) | ((with_reducible apply wd); focus decide) | ((with_reducible apply we); focus exact rfl) | ((with_reducible apply wf); focus exact rfl) | ((first | (with_reducible apply SW_run tt_ok hG htb) | ((with_reducible apply SW_draw rfl tt_ok hG htb); (focus kernel_rfl); focus simp only [List.range, List.range.loop, List.size_toArray, List.length_cons, List.length_nil, Nat.reduceAdd])); focus ((repeat' (first | (with_reducible first | exact wg | exact wh) | ((with_reducible first | apply wi | apply wj); focus (simp (discharger := omega) only [go_sem, hc, h0, hy, simprocAttr]; with_reducible rfl)))); done)))
          exact ⟨coefs.length - (j + 1), _, by omega, Norm.headS (own := []) (keep := [157, 158, 159, 160, 0, 2, 8, 9, 32, 33, 34]) (by refine ⟨?_, ?_⟩; (simp (discharger := omega) only [go_sem, simprocAttr]; with_reducible rfl); refine ⟨?_, ?_, ?_, ?_⟩ <;> (simp only [go_sem, simprocAttr]; with_reducible rfl)), j + 1, q + c * y, rfl, rfl, by omega, by rw [dotN, hcD, bang_D hy hjn, ← Int.add_assoc, ← hq]⟩
      · obtain rfl : j = coefs.length := by omega
        have key : leafV ws ns ⟨1, 0, 0, 0, 0, num, coefs⟩ = decide (q = 0) := by
          unfold leafV lineSum
          simp only [if_true]
          rw [hq]
        rw [key]
        clear hq hbd key
        by_cases h0 : q = 0
        · rw [decide_eq_true h0]
          repeat' (first | (with_reducible first | apply w1 | apply w2 | apply w3 | apply w4 | apply w5 | apply w6 | apply w7 | apply w8 | apply w9 | apply wa | apply wb | apply wc) | ((with_reducible apply wd); focus decide) | ((with_reducible apply we); focus exact rfl) | ((with_reducible apply wf); focus exact rfl) | ((first | (with_reducible apply SW_run tt_ok hG htb) | ((with_reducible apply SW_draw rfl tt_ok hG htb); (focus kernel_rfl); focus simp only [List.range, List.range.loop, List.size_toArray, List.length_cons, List.length_nil, Nat.reduceAdd])); focus ((repeat' (first | (with_reducible first | exact wg | exact wh) | ((with_reducible first | apply wi | apply wj); focus (simp (discharger := omega) only [go_sem, h0, simprocAttr]; with_reducible rfl)))); done)))
          refine SPostC_r ?_ (Norm.headS (own := []) (keep := [157, 158, 159, 160]) (by refine ⟨?_, ?_⟩; (simp (discharger := omega) only [go_sem, simprocAttr]; with_reducible rfl); refine ⟨?_, ?_, ?_, ?_⟩ <;> (simp only [go_sem, simprocAttr]; with_reducible rfl))) ?_ ?_
          · exact (by simp (discharger := omega) only [go_sem, simprocAttr])
          · rfl
          · exact four_pins rfl rfl rfl rfl
        · rw [decide_eq_false h0]
          repeat' (first | (with_reducible first | apply w1 | apply w2 | apply w3 | apply w4 | apply w5 | apply w6 | apply w7 | apply w8 | apply w9 | apply wa | apply wb | apply wc) | ((with_reducible apply wd); focus decide) | ((with_reducible apply we); focus exact rfl) | ((with_reducible apply wf); focus exact rfl) | ((first | (with_reducible apply SW_run tt_ok hG htb) | ((with_reducible apply SW_draw rfl tt_ok hG htb); (focus kernel_rfl); focus simp only [List.range, List.range.loop, List.size_toArray, List.length_cons, List.length_nil, Nat.reduceAdd])); focus ((repeat' (first | (with_reducible first | exact wg | exact wh) | ((with_reducible first | apply wi | apply wj); focus (simp (discharger := omega) only [go_sem, h0, simprocAttr]; with_reducible rfl)))); done)))
          refine SPostC_r ?_ (Norm.headS (own := []) (keep := [157, 158, 159, 160]) (by refine ⟨?_, ?_⟩; (simp (discharger := omega) only [go_sem, simprocAttr]; with_reducible rfl); refine ⟨?_, ?_, ?_, ?_⟩ <;> (simp only [go_sem, simprocAttr]; with_reducible rfl))) ?_ ?_
          · exact (by simp (discharger := omega) only [go_sem, simprocAttr])
          · rfl
          · exact four_pins rfl rfl rfl rfl
    · repeat' (first | (with_reducible first | apply w1 | apply w2 | apply w3 | apply w4 | apply w5 | apply w6 | apply w7 | apply w8 | apply w9 | apply wa | apply wb | apply wc) | ((with_reducible apply wd); focus decide) | ((with_reducible apply we); focus exact rfl) | ((with_reducible apply wf); focus exact rfl) | ((first | (with_reducible apply SW_run tt_ok hG htb) | ((with_reducible apply SW_draw rfl tt_ok hG htb); (focus kernel_rfl); focus simp only [List.range, List.range.loop, List.size_toArray, List.length_cons, List.length_nil, Nat.reduceAdd])); focus ((repeat' (first | (with_reducible first | exact wg | exact wh) | ((with_reducible first | apply wi | apply wj); focus (simp (discharger := omega) only [go_sem, hn1, tNode, simprocAttr]; with_reducible rfl)))); done)))
      refine SW_loop (fun mm s => ∃ (j : Nat) (q : Int), mm = coefs.length - j ∧ s = ⟨157, [(157, .pin 0 (bs 0)), (158, .pin 1 (bs 1)), (159, .pin 2 (bs 2)), (160, .pin 3 (bs 3)), (0, .t (tNat i)), (2, .bptr 1 0), (8, .bptr 4 0), (9, .t (tInt q)), (32, .t (tInts coefs)), (33, .t (tInt coefs.length)), (34, .t (tNat j))], [.box [.t (.list (f.map tNode))], .box [.t (tInts ns)], .box [.t (.list (ws.map tOut))], .box [.fn 36 [.bptr 0 0, .bptr 1 0, .bptr 2 0, .bptr 3 0]], .box [.t (tInt 2), .t (tInt 0), .t (tInt 0), .t (tInt 0), .t (tInt 0), .t (tInt num), .t (tInts coefs)]]⟩ ∧ j ≤ coefs.length ∧ q = num + dotN coefs (fun v => ns.getD v 0) j) coefs.length
        ⟨_, Norm.headS (own := []) (keep := [157, 158, 159, 160, 0, 2, 8, 9, 32, 33, 34]) (by refine ⟨?_, ?_⟩; (simp (discharger := omega) only [go_sem, simprocAttr]; with_reducible rfl); refine ⟨?_, ?_, ?_, ?_⟩ <;> (simp only [go_sem, simprocAttr]; with_reducible rfl)), 0, _, rfl, rfl, Nat.zero_le _, (Int.add_zero num).symm⟩ ?_
      rintro mm s ⟨j, q, rfl, rfl, hj, hq⟩
      have hbd := dotN_num (coefs := coefs) (nums := ns) h1 hnb (i := j) hj
      by_cases hlt : j < coefs.length
      · obtain ⟨c, hc⟩ : ∃ c, coefs[j]! = c := ⟨_, rfl⟩
        have hcD : coefs.getD j 0 = c := bang_D hc hlt
        have hge := absN_ge coefs hlt
        rw [hcD] at hge
        unfold sizeA at h1
        by_cases h0 : c = 0
        · repeat' (first | (with_reducible first | apply w1 | apply w2 | apply w3 | apply w4 | apply w5 | apply w6 | apply w7 | apply w8 | apply w9 | apply wa | apply wb | apply wc) | ((with_reducible apply wd); focus decide) | ((with_reducible apply we); focus exact rfl) | ((with_reducible apply wf); focus exact rfl) | ((first | (with_reducible apply SW_run tt_ok hG htb) | ((with_reducible apply SW_draw rfl tt_ok hG htb); (focus kernel_rfl); focus simp only [List.range, List.range.loop, List.size_toArray, List.length_cons, List.length_nil, Nat.reduceAdd])); focus ((repeat' (first | (with_reducible first | exact wg | exact wh) | ((with_reducible first | apply wi | apply wj); focus (simp (discharger := omega) only [go_sem, hc, h0, simprocAttr]; with_reducible rfl)))); done)))
          exact ⟨coefs.length - (j + 1), _, by omega, Norm.headS (own := []) (keep := [157, 158, 159, 160, 0, 2, 8, 9, 32, 33, 34]) (by refine ⟨?_, ?_⟩; (simp (discharger := omega) only [go_sem, simprocAttr]; with_reducible rfl); refine ⟨?_, ?_, ?_, ?_⟩ <;> (simp only [go_sem, simprocAttr]; with_reducible rfl)), j + 1, q, rfl, rfl, by omega, by rw [dotN, hcD, h0, Int.zero_mul, Int.add_zero]; exact hq⟩
        · have hjn := hus j hlt (by rw [hcD]; exact h0)
          obtain ⟨y, hy⟩ : ∃ y, ns[j]! = y := ⟨_, rfl⟩
          have hyb := hnb j hjn
          rw [bang_at hy hjn] at hyb
          have hyx : -13194139533312 ≤ c * y ∧ c * y ≤ 13194139533312 := by
            have m1 : c * y ≤ 12 * y := Int.mul_le_mul_of_nonneg_right (by omega) (by omega)
            have m2 : (-12) * y ≤ c * y := Int.mul_le_mul_of_nonneg_right (by omega) (by omega)
            omega
          repeat' (first | (with_reducible first | apply w1 | apply w2 | apply w3 | apply w4 | apply w5 | apply w6 | apply w7 | apply w8 | apply w9 | apply wa | apply wb | apply wc) | ((with_reducible apply wd); focus decide) | ((with_reducible apply we); focus exact rfl) | ((with_reducible apply wf); focus exact rfl) | ((first | (with_reducible apply SW_run tt_ok hG htb) | ((with_reducible apply SW_draw rfl tt_ok hG htb); (focus kernel_rfl); focus simp only [List.range, List.range.loop, List.size_toArray, List.length_cons, List.length_nil, Nat.reduceAdd])); focus ((repeat' (first | (with_reducible first | exact wg | exact wh) | ((with_reducible first | apply wi | apply wj); focus (simp (discharger := omega) only [go_sem, hc, h0, hy, simprocAttr]; with_reducible rfl)))); done)))
          exact ⟨coefs.length - (j + 1), _, by omega, Norm.headS (own := []) (keep := [157, 158, 159, 160, 0, 2, 8, 9, 32, 33, 34]) (by refine ⟨?_, ?_⟩; (simp (discharger := omega) only [go_sem, simprocAttr]; with_reducible rfl); refine ⟨?_, ?_, ?_, ?_⟩ <;> (simp only [go_sem, simprocAttr]; with_reducible rfl)), j + 1, q + c * y, rfl, rfl, by omega, by rw [dotN, hcD, bang_D hy hjn, ← Int.add_assoc, ← hq]⟩
      · obtain rfl : j = coefs.length := by omega
        have key : leafV ws ns ⟨2, 0, 0, 0, 0, num, coefs⟩ = decide (q < 0) := by
          unfold leafV lineSum
          simp only [show ((2 : Int) = 1) = False by decide, if_false, if_true]
          rw [hq]
        rw [key]
        clear hq hbd key
        by_cases h0 : q < 0
        · rw [decide_eq_true h0]
          repeat' (first | (with_reducible first | apply w1 | apply w2 | apply w3 | apply w4 | apply w5 | apply w6 | apply w7 | apply w8 | apply w9 | apply wa | apply wb | apply wc) | ((with_reducible apply wd); focus decide) | ((with_reducible apply we); focus exact rfl) | ((with_reducible apply wf); focus exact rfl) | ((first | (with_reducible apply SW_run tt_ok hG htb) | ((with_reducible apply SW_draw rfl tt_ok hG htb); (focus kernel_rfl); focus simp only [List.range, List.range.loop, List.size_toArray, List.length_cons, List.length_nil, Nat.reduceAdd])); focus ((repeat' (first | (with_reducible first | exact wg | exact wh) | ((with_reducible first | apply wi | apply wj); focus (simp (discharger := omega) only [go_sem, h0, simprocAttr]; with_reducible rfl)))); done)))
          refine SPostC_r ?_ (Norm.headS (own := []) (keep := [157, 158, 159, 160]) (by refine ⟨?_, ?_⟩; (simp (discharger := omega) only [go_sem, simprocAttr]; with_reducible rfl); refine ⟨?_, ?_, ?_, ?_⟩ <;> (simp only [go_sem, simprocAttr]; with_reducible rfl))) ?_ ?_
          · exact (by simp (discharger := omega) only [go_sem, simprocAttr])
          · rfl
          · exact four_pins rfl rfl rfl rfl
        · rw [decide_eq_false h0]
          repeat' (first | (with_reducible first | apply w1 | apply w2 | apply w3 | apply w4 | apply w5 | apply w6 | apply w7 | apply w8 | apply w9 | apply wa | apply wb | apply wc) | ((with_reducible apply wd); focus decide) | ((with_reducible apply we); focus exact rfl) | ((with_reducible apply wf); focus exact rfl) | ((first | (with_reducible apply SW_run tt_ok hG htb) | ((with_reducible apply SW_draw rfl tt_ok hG htb); (focus kernel_rfl); focus simp only [List.range, List.range.loop, List.size_toArray, List.length_cons, List.length_nil, Nat.reduceAdd])); focus ((repeat' (first | (with_reducible first | exact wg | exact wh) | ((with_reducible first | apply wi | apply wj); focus (simp (discharger := omega) only [go_sem, h0, simprocAttr]; with_reducible rfl)))); done)))
          refine SPostC_r ?_ (Norm.headS (own := []) (keep := [157, 158, 159, 160]) (by refine ⟨?_, ?_⟩; (simp (discharger := omega) only [go_sem, simprocAttr]; with_reducible rfl); refine ⟨?_, ?_, ?_, ?_⟩ <;> (simp only [go_sem, simprocAttr]; with_reducible rfl))) ?_ ?_
          · exact (by simp (discharger := omega) only [go_sem, simprocAttr])
          · rfl
          · exact four_pins rfl rfl rfl rfl
  · have hwl : word.toNat < ws.length := by
      simp [wordNeed] at hw; omega
    have hvl : var.toNat < ns.length := by
      have := hv var h1.1 h1.2 (by simp [usesN])
      omega
    obtain ⟨g, hgE⟩ : ∃ g, ws[word.toNat]! = g := ⟨_, rfl⟩
    obtain ⟨x, hx⟩ : ∃ x, ns[var.toNat]! = x := ⟨_, rfl⟩
    have hA : wordAt ws ns word var = atOf g x := by unfold wordAt; rw [bang_D hgE hwl, bang_D hx hvl]
    have c1 := At_snd hG g x
    generalize atOf g x = a at *
    generalize atErr g x = e at *
    have key : leafV ws ns ⟨3, var, 0, word, 0, num, []⟩ = decide (a = num) := by simp [leafV, hA]
    rw [key]
    clear htb
    have htb := Tab.cons c1 Tab.nil
    by_cases h0 : a = num
    · rw [decide_eq_true h0]
      subst h0
      repeat' (first | (with_reducible first | apply w1 | apply w2 | apply w3 | apply w4 | apply w5 | apply w6 | apply w7 | apply w8 | apply w9 | apply wa | apply wb | apply wc) | ((with_reducible apply wd); focus decide) | ((with_reducible apply we); focus exact rfl) | ((with_reducible apply wf); focus exact rfl) | ((first | (with_reducible apply SW_run tt_ok hG htb) | ((with_reducible apply SW_draw rfl tt_ok hG htb); (focus kernel_rfl); focus simp only [List.range, List.range.loop, List.size_toArray, List.length_cons, List.length_nil, Nat.reduceAdd])); focus ((repeat' (first | (with_reducible first | exact wg | exact wh) | ((with_reducible first | apply wi | apply wj); focus (simp (discharger := omega) only [go_sem, hn1, tNode, hgE, hx, tOut, tErr_flat, simprocAttr]; with_reducible rfl)))); done)))
      refine SPostC_r ?_ (Norm.headS (own := []) (keep := [157, 158, 159, 160]) (by refine ⟨?_, ?_⟩; (simp (discharger := omega) only [go_sem, simprocAttr]; with_reducible rfl); refine ⟨?_, ?_, ?_, ?_⟩ <;> (simp only [go_sem, simprocAttr]; with_reducible rfl))) ?_ ?_
      · exact (by simp (discharger := omega) only [go_sem, simprocAttr])
      · rfl
      · exact four_pins rfl rfl rfl rfl
    · rw [decide_eq_false h0]
      repeat' (first | (with_reducible first | apply w1 | apply w2 | apply w3 | apply w4 | apply w5 | apply w6 | apply w7 | apply w8 | apply w9 | apply wa | apply wb | apply wc) | ((with_reducible apply wd); focus decide) | ((with_reducible apply we); focus exact rfl) | ((with_reducible apply wf); focus exact rfl) | ((first | (with_reducible apply SW_run tt_ok hG htb) | ((with_reducible apply SW_draw rfl tt_ok hG htb); (focus kernel_rfl); focus simp only [List.range, List.range.loop, List.size_toArray, List.length_cons, List.length_nil, Nat.reduceAdd])); focus ((repeat' (first | (with_reducible first | exact wg | exact wh) | ((with_reducible first | apply wi | apply wj); focus (simp (discharger := omega) only [go_sem, hn1, tNode, hgE, hx, tOut, tErr_flat, h0, simprocAttr]; with_reducible rfl)))); done)))
      refine SPostC_r ?_ (Norm.headS (own := []) (keep := [157, 158, 159, 160]) (by refine ⟨?_, ?_⟩; (simp (discharger := omega) only [go_sem, simprocAttr]; with_reducible rfl); refine ⟨?_, ?_, ?_, ?_⟩ <;> (simp only [go_sem, simprocAttr]; with_reducible rfl))) ?_ ?_
      · exact (by simp (discharger := omega) only [go_sem, simprocAttr])
      · rfl
      · exact four_pins rfl rfl rfl rfl
  · have hw2 : word.toNat < ws.length ∧ word2.toNat < ws.length := by
      simp [wordNeed] at hw; omega
    have hvl : var.toNat < ns.length := by
      have := hv var h1.1 h1.2 (by simp [usesN])
      omega
    have hol : other.toNat < ns.length := by
      have := hv other h2.1 h2.2 (by simp [usesN])
      omega
    obtain ⟨g, hgE⟩ : ∃ g, ws[word.toNat]! = g := ⟨_, rfl⟩
    obtain ⟨x, hx⟩ : ∃ x, ns[var.toNat]! = x := ⟨_, rfl⟩
    obtain ⟨g2, hgE2⟩ : ∃ g, ws[word2.toNat]! = g := ⟨_, rfl⟩
    obtain ⟨x2, hx2⟩ : ∃ x, ns[other.toNat]! = x := ⟨_, rfl⟩
    have hA : wordAt ws ns word var = atOf g x := by unfold wordAt; rw [bang_D hgE hw2.1, bang_D hx hvl]
    have hA2 : wordAt ws ns word2 other = atOf g2 x2 := by unfold wordAt; rw [bang_D hgE2 hw2.2, bang_D hx2 hol]
    have c1 := At_snd hG g x
    have c2 := At_snd hG g2 x2
    generalize atOf g x = a at *
    generalize atErr g x = e at *
    generalize atOf g2 x2 = a2 at *
    generalize atErr g2 x2 = e2 at *
    have key : leafV ws ns ⟨4, var, other, word, word2, 0, []⟩ = decide (a = a2) := by simp [leafV, hA, hA2]
    rw [key]
    clear htb
    have htb := Tab.cons c1 Tab.nil
    repeat' (first | (with_reducible first | apply w1 | apply w2 | apply w3 | apply w4 | apply w5 | apply w6 | apply w7 | apply w8 | apply w9 | apply wa | apply wb | apply wc) | ((with_reducible apply wd); focus decide) | ((with_reducible apply we); focus exact rfl) | ((with_reducible apply wf); focus exact rfl) | ((first | (with_reducible apply SW_run tt_ok hG htb) | ((with_reducible apply SW_draw rfl tt_ok hG htb); (focus kernel_rfl); focus simp only [List.range, List.range.loop, List.size_toArray, List.length_cons, List.length_nil, Nat.reduceAdd])); focus ((repeat' (first | (with_reducible first | exact wg | exact wh) | ((with_reducible first | apply wi | apply wj); focus (simp (discharger := omega) only [go_sem, hn1, tNode, hgE, hx, tOut, tErr_flat, simprocAttr]; with_reducible rfl)))); done)))
    clear htb
    have htb := Tab.cons c2 Tab.nil
    repeat' (first | (with_reducible first | apply w1 | apply w2 | apply w3 | apply w4 | apply w5 | apply w6 | apply w7 | apply w8 | apply w9 | apply wa | apply wb | apply wc) | ((with_reducible apply wd); focus decide) | ((with_reducible apply we); focus exact rfl) | ((with_reducible apply wf); focus exact rfl) | ((first | (with_reducible apply SW_run tt_ok hG htb) | ((with_reducible apply SW_draw rfl tt_ok hG htb); (focus kernel_rfl); focus simp only [List.range, List.range.loop, List.size_toArray, List.length_cons, List.length_nil, Nat.reduceAdd])); focus ((repeat' (first | (with_reducible first | exact wg | exact wh) | ((with_reducible first | apply wi | apply wj); focus (simp (discharger := omega) only [go_sem, hgE2, hx2, tOut, tErr_flat, simprocAttr]; with_reducible rfl)))); done)))
    by_cases h0 : a = a2
    · rw [decide_eq_true h0]
      subst h0
      repeat' (first | (with_reducible first | apply w1 | apply w2 | apply w3 | apply w4 | apply w5 | apply w6 | apply w7 | apply w8 | apply w9 | apply wa | apply wb | apply wc) | ((with_reducible apply wd); focus decide) | ((with_reducible apply we); focus exact rfl) | ((with_reducible apply wf); focus exact rfl) | ((first | (with_reducible apply SW_run tt_ok hG htb) | ((with_reducible apply SW_draw rfl tt_ok hG htb); (focus kernel_rfl); focus simp only [List.range, List.range.loop, List.size_toArray, List.length_cons, List.length_nil, Nat.reduceAdd])); focus ((repeat' (first | (with_reducible first | exact wg | exact wh) | ((with_reducible first | apply wi | apply wj); focus (simp (discharger := omega) only [go_sem, simprocAttr]; with_reducible rfl)))); done)))
      refine SPostC_r ?_ (Norm.headS (own := []) (keep := [157, 158, 159, 160]) (by refine ⟨?_, ?_⟩; (simp (discharger := omega) only [go_sem, simprocAttr]; with_reducible rfl); refine ⟨?_, ?_, ?_, ?_⟩ <;> (simp only [go_sem, simprocAttr]; with_reducible rfl))) ?_ ?_
      · exact (by simp (discharger := omega) only [go_sem, simprocAttr])
      · rfl
      · exact four_pins rfl rfl rfl rfl
    · rw [decide_eq_false h0]
      repeat' (first | (with_reducible first | apply w1 | apply w2 | apply w3 | apply w4 | apply w5 | apply w6 | apply w7 | apply w8 | apply w9 | apply wa | apply wb | apply wc) | ((with_reducible apply wd); focus decide) | ((with_reducible apply we); focus exact rfl) | ((with_reducible apply wf); focus exact rfl) | ((first | (with_reducible apply SW_run tt_ok hG htb) | ((with_reducible apply SW_draw rfl tt_ok hG htb); (focus kernel_rfl); focus simp only [List.range, List.range.loop, List.size_toArray, List.length_cons, List.length_nil, Nat.reduceAdd])); focus ((repeat' (first | (with_reducible first | exact wg | exact wh) | ((with_reducible first | apply wi | apply wj); focus (simp (discharger := omega) only [go_sem, h0, simprocAttr]; with_reducible rfl)))); done)))
      refine SPostC_r ?_ (Norm.headS (own := []) (keep := [157, 158, 159, 160]) (by refine ⟨?_, ?_⟩; (simp (discharger := omega) only [go_sem, simprocAttr]; with_reducible rfl); refine ⟨?_, ?_, ?_, ?_⟩ <;> (simp only [go_sem, simprocAttr]; with_reducible rfl))) ?_ ?_
      · exact (by simp (discharger := omega) only [go_sem, simprocAttr])
      · rfl
      · exact four_pins rfl rfl rfl rfl
  · rcases ho with rfl | rfl <;> exact absurd hp (by simp [partsOf])
  · rcases ho with rfl | rfl | rfl <;> exact absurd hp (by simp [partsOf])
set_option maxHeartbeats 16000000 in
set_option maxRecDepth 100000 in
theorem ev_one {f : List GNode} {ws : List GOut} {ns : List Int} {i e : Nat} {n : GNode} (hl : f.length ≤ 40) (hn : f[i]? = some n) (ho : n.op = 5) (hq : Part f (i + 1) e) (h1 : EvC G f ws ns (i + 1) e) : EvC G f ws ns i e := by
  have hil := (List.getElem?_eq_some_iff.1 hn).1
  have hn1 : f[i]! = n := by rw [getElem!_pos f i hil]; exact (List.getElem?_eq_some_iff.1 hn).2
  unfold EvC
  rw [evalP_one hn (by rw [ho]; rfl) hq]
  unfold EvC at h1
  have hlt := hq.lt
  generalize evalP f ws ns (i + 1) = b at *
  obtain ⟨op, var, other, word, word2, num, coefs⟩ := n
  simp only at ho
  subst ho
  refine sndC_of_body tt_ok Tryd.func36 rfl rfl (n := 157) rfl (tm := []) (rs := [.tmp 6, .tmp 7]) rfl rfl rfl [0, 1, 2, 3] ev_pins ev_pins2 fun bs => ?_
  show SW Tryd.prog G _ _ ⟨157, [(0, .t (tNat i)), (1, .bptr 0 0), (2, .bptr 1 0), (3, .bptr 2 0), (4, .bptr 3 0), (157, .pin 0 (bs 0)), (158, .pin 1 (bs 1)), (159, .pin 2 (bs 2)), (160, .pin 3 (bs 3))], [.box [.t (tForm f)], .box [.t (tInts ns)], .box [.t (tOutL ws)], .box [.fn 36 [.bptr 0 0, .bptr 1 0, .bptr 2 0, .bptr 3 0]]]⟩
  unfold tForm tOutL
  have htb : Tab.ok Tryd.prog G [] := Tab.nil
  repeat' (first | (with_reducible first | apply w1 | apply w2 | apply w3 | apply w4 | apply w5 | apply w6 | apply w7 | apply w8 | apply w9 | apply wa | apply wb | apply wc) | ((with_reducible apply wd); focus decide) | ((with_reducible apply we); focus exact rfl) | ((with_reducible apply wf); focus exact rfl) | ((first | (with_reducible apply SW_run tt_ok hG htb) | ((with_reducible apply SW_draw rfl tt_ok hG htb); (focus kernel_rfl); focus simp only [List.range, List.range.loop, List.size_toArray, List.length_cons, List.length_nil, Nat.reduceAdd])); focus ((repeat' (first | (with_reducible first | exact wg | exact wh) | ((with_reducible first | apply wi | apply wj); focus (simp (discharger := omega) only [go_sem, hn1, tNode, simprocAttr]; with_reducible rfl)))); done)))
  refine SW_runCB tt_ok hG htb 3 rfl (by simp only [List.take_succ_cons, List.take_zero]; rfl) (by simp only [List.drop_succ_cons, List.drop_zero, Nat.reduceAdd]; rfl) (by (repeat' (first | (with_reducible exact runX_nil) | ((with_reducible apply runX_cons); focus (simp (discharger := omega) only [go_sem, simprocAttr]; with_reducible rfl))))) rfl rfl (g := 36) (cap := evCap) (obs := evObs f ws ns) (rst := ?zzr1) (r := ?zzt1) (s2 := ?zzs1) ?g11 ?g12 ?g13 ?g14 ev_boxes ?g15 ?g16 ?g17 ?g18 ?g19
  case g11 => rfl
  case g12 => rfl
  case g13 => rfl
  case g14 => rfl
  case g15 => exact h1
  case g16 => exact ev_ren f ws ns
  case g17 => exact ev_xren _
  case g18 => (repeat' (first | (with_reducible exact runX_nil) | ((with_reducible apply runX_cons); focus (simp (discharger := omega) only [go_sem, simprocAttr]; with_reducible rfl))))
  cases b
  · repeat' (first | (with_reducible first | apply w1 | apply w2 | apply w3 | apply w4 | apply w5 | apply w6 | apply w7 | apply w8 | apply w9 | apply wa | apply wb | apply wc) | ((with_reducible apply wd); focus decide) | ((with_reducible apply we); focus exact rfl) | ((with_reducible apply wf); focus exact rfl) | ((first | (with_reducible apply SW_run tt_ok hG htb) | ((with_reducible apply SW_draw rfl tt_ok hG htb); (focus kernel_rfl); focus simp only [List.range, List.range.loop, List.size_toArray, List.length_cons, List.length_nil, Nat.reduceAdd])); focus ((repeat' (first | (with_reducible first | exact wg | exact wh) | ((with_reducible first | apply wi | apply wj); focus (simp (discharger := omega) only [go_sem, simprocAttr]; with_reducible rfl)))); done)))
    refine SPostC_r ?_ (Norm.headS (own := []) (keep := [157, 158, 159, 160]) (by refine ⟨?_, ?_⟩; (simp (discharger := omega) only [go_sem, simprocAttr]; with_reducible rfl); refine ⟨?_, ?_, ?_, ?_⟩ <;> (simp only [go_sem, simprocAttr]; with_reducible rfl))) ?_ ?_
    · exact (by simp (discharger := omega) only [go_sem, simprocAttr])
    · rfl
    · exact four_pins rfl rfl rfl rfl
  · repeat' (first | (with_reducible first | apply w1 | apply w2 | apply w3 | apply w4 | apply w5 | apply w6 | apply w7 | apply w8 | apply w9 | apply wa | apply wb | apply wc) | ((with_reducible apply wd); focus decide) | ((with_reducible apply we); focus exact rfl) | ((with_reducible apply wf); focus exact rfl) | ((first | (with_reducible apply SW_run tt_ok hG htb) | ((with_reducible apply SW_draw rfl tt_ok hG htb); (focus kernel_rfl); focus simp only [List.range, List.range.loop, List.size_toArray, List.length_cons, List.length_nil, Nat.reduceAdd])); focus ((repeat' (first | (with_reducible first | exact wg | exact wh) | ((with_reducible first | apply wi | apply wj); focus (simp (discharger := omega) only [go_sem, simprocAttr]; with_reducible rfl)))); done)))
    refine SPostC_r ?_ (Norm.headS (own := []) (keep := [157, 158, 159, 160]) (by refine ⟨?_, ?_⟩; (simp (discharger := omega) only [go_sem, simprocAttr]; with_reducible rfl); refine ⟨?_, ?_, ?_, ?_⟩ <;> (simp only [go_sem, simprocAttr]; with_reducible rfl))) ?_ ?_
    · exact (by simp (discharger := omega) only [go_sem, simprocAttr])
    · rfl
    · exact four_pins rfl rfl rfl rfl
set_option maxHeartbeats 16000000 in
set_option maxRecDepth 100000 in
theorem ev_two {f : List GNode} {ws : List GOut} {ns : List Int} {i m e : Nat} {n : GNode} (hl : f.length ≤ 40) (hn : f[i]? = some n) (ho : n.op = 6 ∨ n.op = 7) (hq : Part f (i + 1) m) (hq2 : Part f m e) (h1 : EvC G f ws ns (i + 1) m) (h2 : EvC G f ws ns m e) : EvC G f ws ns i e := by
  have hil := (List.getElem?_eq_some_iff.1 hn).1
  have hn1 : f[i]! = n := by rw [getElem!_pos f i hil]; exact (List.getElem?_eq_some_iff.1 hn).2
  unfold EvC
  rw [evalP_two hn (by unfold partsOf; rw [if_neg (by omega), if_pos ho]) hq hq2]
  unfold EvC at h1 h2
  have hlt := hq.lt
  have hlt2 := hq2.lt
  generalize evalP f ws ns (i + 1) = b at *
  generalize evalP f ws ns m = d at *
  obtain ⟨op, var, other, word, word2, num, coefs⟩ := n
  simp only at ho ⊢
  rcases ho with rfl | rfl
  · refine sndC_of_body tt_ok Tryd.func36 rfl rfl (n := 157) rfl (tm := []) (rs := [.tmp 6, .tmp 7]) rfl rfl rfl [0, 1, 2, 3] ev_pins ev_pins2 fun bs => ?_
    show SW Tryd.prog G _ _ ⟨157, [(0, .t (tNat i)), (1, .bptr 0 0), (2, .bptr 1 0), (3, .bptr 2 0), (4, .bptr 3 0), (157, .pin 0 (bs 0)), (158, .pin 1 (bs 1)), (159, .pin 2 (bs 2)), (160, .pin 3 (bs 3))], [.box [.t (tForm f)], .box [.t (tInts ns)], .box [.t (tOutL ws)], .box [.fn 36 [.bptr 0 0, .bptr 1 0, .bptr 2 0, .bptr 3 0]]]⟩
    unfold tForm tOutL
    have htb : Tab.ok Tryd.prog G [] := Tab.nil
    repeat' (first | (with_reducible first | apply w1 | apply w2 | apply w3 | apply w4 | apply w5 | apply w6 | apply w7 | apply w8 | apply w9 | apply wa | apply wb | apply wc) | ((with_reducible apply wd); focus decide) | ((with_reducible apply we); focus exact rfl) | ((with_reducible apply wf); focus exact rfl) | ((first | (with_reducible apply SW_run tt_ok hG htb) | ((with_reducible apply SW_draw rfl tt_ok hG htb); (focus kernel_rfl); focus simp only [List.range, List.range.loop, List.size_toArray, List.length_cons, List.length_nil, Nat.reduceAdd])); focus ((repeat' (first | (with_reducible first | exact wg | exact wh) | ((with_reducible first | apply wi | apply wj); focus (simp (discharger := omega) only [go_sem, hn1, tNode, simprocAttr]; with_reducible rfl)))); done)))
    refine SW_runCB tt_ok hG htb 3 rfl (by simp only [List.take_succ_cons, List.take_zero]; rfl) (by simp only [List.drop_succ_cons, List.drop_zero, Nat.reduceAdd]; rfl) (by (repeat' (first | (with_reducible exact runX_nil) | ((with_reducible apply runX_cons); focus (simp (discharger := omega) only [go_sem, simprocAttr]; with_reducible rfl))))) rfl rfl (g := 36) (cap := evCap) (obs := evObs f ws ns) (rst := ?zzr2) (r := ?zzt2) (s2 := ?zzs2) ?g21 ?g22 ?g23 ?g24 ev_boxes ?g25 ?g26 ?g27 ?g28 ?g29
    case g21 => rfl
    case g22 => rfl
    case g23 => rfl
    case g24 => rfl
    case g25 => exact h1
    case g26 => exact ev_ren f ws ns
    case g27 => exact ev_xren _
    case g28 => (repeat' (first | (with_reducible exact runX_nil) | ((with_reducible apply runX_cons); focus (simp (discharger := omega) only [go_sem, simprocAttr]; with_reducible rfl))))
    repeat' (first | (with_reducible first | apply w1 | apply w2 | apply w3 | apply w4 | apply w5 | apply w6 | apply w7 | apply w8 | apply w9 | apply wa | apply wb | apply wc) | ((with_reducible apply wd); focus decide) | ((with_reducible apply we); focus exact rfl) | ((with_reducible apply wf); focus exact rfl) | ((first | (with_reducible apply SW_run tt_ok hG htb) | ((with_reducible apply SW_draw rfl tt_ok hG htb); (focus kernel_rfl); focus simp only [List.range, List.range.loop, List.size_toArray, List.length_cons, List.length_nil, Nat.reduceAdd])); focus ((repeat' (first | (with_reducible first | exact wg | exact wh) | ((with_reducible first | apply wi | apply wj); focus (simp (discharger := omega) only [go_sem, simprocAttr]; with_reducible rfl)))); done)))
    refine SW_norm (Norm.headS (own := []) (keep := [157, 158, 159, 160, 1, 2, 3, 4, 6, 7, 8]) (by refine ⟨?_, ?_⟩; (simp (discharger := omega) only [go_sem, simprocAttr]; with_reducible rfl); refine ⟨?_, ?_, ?_, ?_⟩ <;> (simp only [go_sem, simprocAttr]; with_reducible rfl))) ?_
    refine SW_runCB tt_ok hG htb 2 rfl (by simp only [List.take_succ_cons, List.take_zero]; rfl) (by simp only [List.drop_succ_cons, List.drop_zero, Nat.reduceAdd]; rfl) (by (repeat' (first | (with_reducible exact runX_nil) | ((with_reducible apply runX_cons); focus (simp (discharger := omega) only [go_sem, simprocAttr]; with_reducible rfl))))) rfl rfl (g := 36) (cap := evCap) (obs := evObs f ws ns) (rst := ?zzr3) (r := ?zzt3) (s2 := ?zzs3) ?g31 ?g32 ?g33 ?g34 ev_boxes ?g35 ?g36 ?g37 ?g38 ?g39
    case g31 => rfl
    case g32 => rfl
    case g33 => rfl
    case g34 => rfl
    case g35 => exact h2
    case g36 => exact ev_ren f ws ns
    case g37 => exact ev_xren _
    case g38 => (repeat' (first | (with_reducible exact runX_nil) | ((with_reducible apply runX_cons); focus (simp (discharger := omega) only [go_sem, simprocAttr]; with_reducible rfl))))
    rw [if_pos rfl]
    cases b <;> cases d
    · repeat' (first | (with_reducible first | apply w1 | apply w2 | apply w3 | apply w4 | apply w5 | apply w6 | apply w7 | apply w8 | apply w9 | apply wa | apply wb | apply wc) | ((with_reducible apply wd); focus decide) | ((with_reducible apply we); focus exact rfl) | ((with_reducible apply wf); focus exact rfl) | ((first | (with_reducible apply SW_run tt_ok hG htb) | ((with_reducible apply SW_draw rfl tt_ok hG htb); (focus kernel_rfl); focus simp only [List.range, List.range.loop, List.size_toArray, List.length_cons, List.length_nil, Nat.reduceAdd])); focus ((repeat' (first | (with_reducible first | exact wg | exact wh) | ((with_reducible first | apply wi | apply wj); focus (simp (discharger := omega) only [go_sem, simprocAttr]; with_reducible rfl)))); done)))
      refine SPostC_r ?_ (Norm.headS (own := []) (keep := [157, 158, 159, 160]) (by refine ⟨?_, ?_⟩; (simp (discharger := omega) only [go_sem, simprocAttr]; with_reducible rfl); refine ⟨?_, ?_, ?_, ?_⟩ <;> (simp only [go_sem, simprocAttr]; with_reducible rfl))) ?_ ?_
      · exact (by simp (discharger := omega) only [go_sem, simprocAttr])
      · rfl
      · exact four_pins rfl rfl rfl rfl
    · repeat' (first | (with_reducible first | apply w1 | apply w2 | apply w3 | apply w4 | apply w5 | apply w6 | apply w7 | apply w8 | apply w9 | apply wa | apply wb | apply wc) | ((with_reducible apply wd); focus decide) | ((with_reducible apply we); focus exact rfl) | ((with_reducible apply wf); focus exact rfl) | ((first | (with_reducible apply SW_run tt_ok hG htb) | ((with_reducible apply SW_draw rfl tt_ok hG htb); (focus kernel_rfl); focus simp only [List.range, List.range.loop, List.size_toArray, List.length_cons, List.length_nil, Nat.reduceAdd])); focus ((repeat' (first | (with_reducible first | exact wg | exact wh) | ((with_reducible first | apply wi | apply wj); focus (simp (discharger := omega) only [go_sem, simprocAttr]; with_reducible rfl)))); done)))
      refine SPostC_r ?_ (Norm.headS (own := []) (keep := [157, 158, 159, 160]) (by refine ⟨?_, ?_⟩; (simp (discharger := omega) only [go_sem, simprocAttr]; with_reducible rfl); refine ⟨?_, ?_, ?_, ?_⟩ <;> (simp only [go_sem, simprocAttr]; with_reducible rfl))) ?_ ?_
      · exact (by simp (discharger := omega) only [go_sem, simprocAttr])
      · rfl
      · exact four_pins rfl rfl rfl rfl
    · repeat' (first | (with_reducible first | apply w1 | apply w2 | apply w3 | apply w4 | apply w5 | apply w6 | apply w7 | apply w8 | apply w9 | apply wa | apply wb | apply wc) | ((with_reducible apply wd); focus decide) | ((with_reducible apply we); focus exact rfl) | ((with_reducible apply wf); focus exact rfl) | ((first | (with_reducible apply SW_run tt_ok hG htb) | ((with_reducible apply SW_draw rfl tt_ok hG htb); (focus kernel_rfl); focus simp only [List.range, List.range.loop, List.size_toArray, List.length_cons, List.length_nil, Nat.reduceAdd])); focus ((repeat' (first | (with_reducible first | exact wg | exact wh) | ((with_reducible first | apply wi | apply wj); focus (simp (discharger := omega) only [go_sem, simprocAttr]; with_reducible rfl)))); done)))
      refine SPostC_r ?_ (Norm.headS (own := []) (keep := [157, 158, 159, 160]) (by refine ⟨?_, ?_⟩; (simp (discharger := omega) only [go_sem, simprocAttr]; with_reducible rfl); refine ⟨?_, ?_, ?_, ?_⟩ <;> (simp only [go_sem, simprocAttr]; with_reducible rfl))) ?_ ?_
      · exact (by simp (discharger := omega) only [go_sem, simprocAttr])
      · rfl
      · exact four_pins rfl rfl rfl rfl
    · repeat' (first | (with_reducible first | apply w1 | apply w2 | apply w3 | apply w4 | apply w5 | apply w6 | apply w7 | apply w8 | apply w9 | apply wa | apply wb | apply wc) | ((with_reducible apply wd); focus decide) | ((with_reducible apply we); focus exact rfl) | ((with_reducible apply wf); focus exact rfl) | ((first | (with_reducible apply SW_run tt_ok hG htb) | ((with_reducible apply SW_draw rfl tt_ok hG htb); (focus kernel_rfl); focus simp only [List.range, List.range.loop, List.size_toArray, List.length_cons, List.length_nil, Nat.reduceAdd])); focus ((repeat' (first | (with_reducible first | exact wg | exact wh) | ((with_reducible first | apply wi | apply wj); focus (simp (discharger := omega) only [go_sem, simprocAttr]; with_reducible rfl)))); done)))
      refine SPostC_r ?_ (Norm.headS (own := []) (keep := [157, 158, 159, 160]) (by refine ⟨?_, ?_⟩; (simp (discharger := omega) only [go_sem, simprocAttr]; with_reducible rfl); refine ⟨?_, ?_, ?_, ?_⟩ <;> (simp only [go_sem, simprocAttr]; with_reducible rfl))) ?_ ?_
      · exact (by simp (discharger := omega) only [go_sem, simprocAttr])
      · rfl
      · exact four_pins rfl rfl rfl rfl
  · refine sndC_of_body tt_ok Tryd.func36 rfl rfl (n := 157) rfl (tm := []) (rs := [.tmp 6, .tmp 7]) rfl rfl rfl [0, 1, 2, 3] ev_pins ev_pins2 fun bs => ?_
    show SW Tryd.prog G _ _ ⟨157, [(0, .t (tNat i)), (1, .bptr 0 0), (2, .bptr 1 0), (3, .bptr 2 0), (4, .bptr 3 0), (157, .pin 0 (bs 0)), (158, .pin 1 (bs 1)), (159, .pin 2 (bs 2)), (160, .pin 3 (bs 3))], [.box [.t (tForm f)], .box [.t (tInts ns)], .box [.t (tOutL ws)], .box [.fn 36 [.bptr 0 0, .bptr 1 0, .bptr 2 0, .bptr 3 0]]]⟩
    unfold tForm tOutL
    have htb : Tab.ok Tryd.prog G [] := Tab.nil
    repeat' (first | (with_reducible first | apply w1 | apply w2 | apply w3 | apply w4 | apply w5 | apply w6 | apply w7 | apply w8 | apply w9 | apply wa | apply wb | apply wc) | ((with_reducible apply wd); focus decide) | ((with_reducible apply we); focus exact rfl) | ((with_reducible apply wf); focus exact rfl) | ((first | (with_reducible apply SW_run tt_ok hG htb) | ((with_reducible apply SW_draw rfl tt_ok hG htb); (focus kernel_rfl); focus simp only [List.range, List.range.loop, List.size_toArray, List.length_cons, List.length_nil, Nat.reduceAdd])); focus ((repeat' (first | (with_reducible first | exact wg | exact wh) | ((with_reducible first | apply wi | apply wj); focus (simp (discharger := omega) only [go_sem, hn1, tNode, simprocAttr]; with_reducible rfl)))); done)))
    refine SW_runCB tt_ok hG htb 3 rfl (by simp only [List.take_succ_cons, List.take_zero]; rfl) (by simp only [List.drop_succ_cons, List.drop_zero, Nat.reduceAdd]; rfl) (by (repeat' (first | (with_reducible exact runX_nil) | ((with_reducible apply runX_cons); focus (simp (discharger := omega) only [go_sem, simprocAttr]; with_reducible rfl))))) rfl rfl (g := 36) (cap := evCap) (obs := evObs f ws ns) (rst := ?zzr4) (r := ?zzt4) (s2 := ?zzs4) ?g41 ?g42 ?g43 ?g44 ev_boxes ?g45 ?g46 ?g47 ?g48 ?g49
    case g41 => rfl
    case g42 => rfl
    case g43 => rfl
    case g44 => rfl
    case g45 => exact h1
    case g46 => exact ev_ren f ws ns
    case g47 => exact ev_xren _
    case g48 => (repeat' (first | (with_reducible exact runX_nil) | ((with_reducible apply runX_cons); focus (simp (discharger := omega) only [go_sem, simprocAttr]; with_reducible rfl))))
    repeat' (first | (with_reducible first | apply w1 | apply w2 | apply w3 | apply w4 | apply w5 | apply w6 | apply w7 | apply w8 | apply w9 | apply wa | apply wb | apply wc) | ((with_reducible apply wd); focus decide) | ((with_reducible apply we); focus exact rfl) | ((with_reducible apply wf); focus exact rfl) | ((first | (with_reducible apply SW_run tt_ok hG htb) | ((with_reducible apply SW_draw rfl tt_ok hG htb); (focus kernel_rfl); focus simp only [List.range, List.range.loop, List.size_toArray, List.length_cons, List.length_nil, Nat.reduceAdd])); focus ((repeat' (first | (with_reducible first | exact wg | exact wh) | ((with_reducible first | apply wi | apply wj); focus (simp (discharger := omega) only [go_sem, simprocAttr]; with_reducible rfl)))); done)))
    refine SW_norm (Norm.headS (own := []) (keep := [157, 158, 159, 160, 1, 2, 3, 4, 6, 7, 8]) (by refine ⟨?_, ?_⟩; (simp (discharger := omega) only [go_sem, simprocAttr]; with_reducible rfl); refine ⟨?_, ?_, ?_, ?_⟩ <;> (simp only [go_sem, simprocAttr]; with_reducible rfl))) ?_
    refine SW_runCB tt_ok hG htb 2 rfl (by simp only [List.take_succ_cons, List.take_zero]; rfl) (by simp only [List.drop_succ_cons, List.drop_zero, Nat.reduceAdd]; rfl) (by (repeat' (first | (with_reducible exact runX_nil) | ((with_reducible apply runX_cons); focus (simp (discharger := omega) only [go_sem, simprocAttr]; with_reducible rfl))))) rfl rfl (g := 36) (cap := evCap) (obs := evObs f ws ns) (rst := ?zzr5) (r := ?zzt5) (s2 := ?zzs5) ?g51 ?g52 ?g53 ?g54 ev_boxes ?g55 ?g56 ?g57 ?g58 ?g59
    case g51 => rfl
    case g52 => rfl
    case g53 => rfl
    case g54 => rfl
    case g55 => exact h2
    case g56 => exact ev_ren f ws ns
    case g57 => exact ev_xren _
    case g58 => (repeat' (first | (with_reducible exact runX_nil) | ((with_reducible apply runX_cons); focus (simp (discharger := omega) only [go_sem, simprocAttr]; with_reducible rfl))))
    rw [if_neg (by decide)]
    cases b <;> cases d
    · repeat' (first | (with_reducible first | apply w1 | apply w2 | apply w3 | apply w4 | apply w5 | apply w6 | apply w7 | apply w8 | apply w9 | apply wa | apply wb | apply wc) | ((with_reducible apply wd); focus decide) | ((with_reducible apply we); focus exact rfl) | ((with_reducible apply wf); focus exact rfl) | ((first | (with_reducible apply SW_run tt_ok hG htb) | ((with_reducible apply SW_draw rfl tt_ok hG htb); (focus kernel_rfl); focus simp only [List.range, List.range.loop, List.size_toArray, List.length_cons, List.length_nil, Nat.reduceAdd])); focus ((repeat' (first | (with_reducible first | exact wg | exact wh) | ((with_reducible first | apply wi | apply wj); focus (simp (discharger := omega) only [go_sem, simprocAttr]; with_reducible rfl)))); done)))
      refine SPostC_r ?_ (Norm.headS (own := []) (keep := [157, 158, 159, 160]) (by refine ⟨?_, ?_⟩; (simp (discharger := omega) only [go_sem, simprocAttr]; with_reducible rfl); refine ⟨?_, ?_, ?_, ?_⟩ <;> (simp only [go_sem, simprocAttr]; with_reducible rfl))) ?_ ?_
      · exact (by simp (discharger := omega) only [go_sem, simprocAttr])
      · rfl
      · exact four_pins rfl rfl rfl rfl
    · repeat' (first | (with_reducible first | apply w1 | apply w2 | apply w3 | apply w4 | apply w5 | apply w6 | apply w7 | apply w8 | apply w9 | apply wa | apply wb | apply wc) | ((with_reducible apply wd); focus decide) | ((with_reducible apply we); focus exact rfl) | ((with_reducible apply wf); focus exact rfl) | ((first | (with_reducible apply SW_run tt_ok hG htb) | ((with_reducible apply SW_draw rfl tt_ok hG htb); (focus kernel_rfl); focus simp only [List.range, List.range.loop, List.size_toArray, List.length_cons, List.length_nil, Nat.reduceAdd])); focus ((repeat' (first | (with_reducible first | exact wg | exact wh) | ((with_reducible first | apply wi | apply wj); focus (simp (discharger := omega) only [go_sem, simprocAttr]; with_reducible rfl)))); done)))
      refine SPostC_r ?_ (Norm.headS (own := []) (keep := [157, 158, 159, 160]) (by refine ⟨?_, ?_⟩; (simp (discharger := omega) only [go_sem, simprocAttr]; with_reducible rfl); refine ⟨?_, ?_, ?_, ?_⟩ <;> (simp only [go_sem, simprocAttr]; with_reducible rfl))) ?_ ?_
      · exact (by simp (discharger := omega) only [go_sem, simprocAttr])
      · rfl
      · exact four_pins rfl rfl rfl rfl
    · repeat' (first | (with_reducible first | apply w1 | apply w2 | apply w3 | apply w4 | apply w5 | apply w6 | apply w7 | apply w8 | apply w9 | apply wa | apply wb | apply wc) | ((with_reducible apply wd); focus decide) | ((with_reducible apply we); focus exact rfl) | ((with_reducible apply wf); focus exact rfl) | ((first | (with_reducible apply SW_run tt_ok hG htb) | ((with_reducible apply SW_draw rfl tt_ok hG htb); (focus kernel_rfl); focus simp only [List.range, List.range.loop, List.size_toArray, List.length_cons, List.length_nil, Nat.reduceAdd])); focus ((repeat' (first | (with_reducible first | exact wg | exact wh) | ((with_reducible first | apply wi | apply wj); focus (simp (discharger := omega) only [go_sem, simprocAttr]; with_reducible rfl)))); done)))
      refine SPostC_r ?_ (Norm.headS (own := []) (keep := [157, 158, 159, 160]) (by refine ⟨?_, ?_⟩; (simp (discharger := omega) only [go_sem, simprocAttr]; with_reducible rfl); refine ⟨?_, ?_, ?_, ?_⟩ <;> (simp only [go_sem, simprocAttr]; with_reducible rfl))) ?_ ?_
      · exact (by simp (discharger := omega) only [go_sem, simprocAttr])
      · rfl
      · exact four_pins rfl rfl rfl rfl
    · repeat' (first | (with_reducible first | apply w1 | apply w2 | apply w3 | apply w4 | apply w5 | apply w6 | apply w7 | apply w8 | apply w9 | apply wa | apply wb | apply wc) | ((with_reducible apply wd); focus decide) | ((with_reducible apply we); focus exact rfl) | ((with_reducible apply wf); focus exact rfl) | ((first | (with_reducible apply SW_run tt_ok hG htb) | ((with_reducible apply SW_draw rfl tt_ok hG htb); (focus kernel_rfl); focus simp only [List.range, List.range.loop, List.size_toArray, List.length_cons, List.length_nil, Nat.reduceAdd])); focus ((repeat' (first | (with_reducible first | exact wg | exact wh) | ((with_reducible first | apply wi | apply wj); focus (simp (discharger := omega) only [go_sem, simprocAttr]; with_reducible rfl)))); done)))
      refine SPostC_r ?_ (Norm.headS (own := []) (keep := [157, 158, 159, 160]) (by refine ⟨?_, ?_⟩; (simp (discharger := omega) only [go_sem, simprocAttr]; with_reducible rfl); refine ⟨?_, ?_, ?_, ?_⟩ <;> (simp only [go_sem, simprocAttr]; with_reducible rfl))) ?_ ?_
      · exact (by simp (discharger := omega) only [go_sem, simprocAttr])
      · rfl
      · exact four_pins rfl rfl rfl rfl
theorem ev_all {f : List GNode} {ws : List GOut} {ns : List Int} (hl : f.length ≤ 40) (hne : ∀ n ∈ f, nodeErr n = 0) (hq : ∀ n ∈ f, quantN n = false) (hB : numsBad ns = false) (hw : ∀ n ∈ f, wordNeed n ws.length = false) {i e : Nat} (hp : Part f i e) :
    (∀ v : Int, 0 ≤ v → v < 5 → freeP f i v = true → v < ns.length) → EvC G f ws ns i e := by
  have hop : ∀ {i : Nat} {n : GNode}, f[i]? = some n → ¬ (n.op = 8 ∨ n.op = 9) := fun {i n} h ho => by
    have := hq n (List.mem_of_getElem? h)
    unfold quantN at this
    simp only [Bool.or_eq_false_iff, decide_eq_false_iff_not] at this
    omega
  induction hp with
  | leaf h hp => exact fun hv => ev_leaf hG hl h (goodN (hne _ (List.mem_of_getElem? h))) hp hB (hw _ (List.mem_of_getElem? h)) fun v h0 h5 hu => hv v h0 h5 (by rw [freeP_leaf h hp]; exact hu)
  | one h hp h1 ih =>
    intro hv
    have hno := hop h
    refine ev_one hG hl h ?_ h1 (ih fun v h0 h5 hu => hv v h0 h5 (by rw [freeP_one h hp h1, if_neg (by omega)]; exact hu))
    unfold partsOf at hp
    split at hp
    · omega
    · split at hp <;> omega
  | two h hp h1 h2 ih1 ih2 =>
    intro hv
    refine ev_two hG hl h ?_ h1 h2 (ih1 fun v h0 h5 hu => hv v h0 h5 (by rw [freeP_two h hp h1 h2, hu]; rfl)) (ih2 fun v h0 h5 hu => hv v h0 h5 (by rw [freeP_two h hp h1 h2, hu, Bool.or_true]))
    unfold partsOf at hp
    split at hp
    · omega
    · split at hp
      · assumption
      · omega
end
end Go.Proofs.YtcaopcpofepniaaDoor
namespace Go.Proofs.YtcaopcpofepniaaDoor
open Go.RowKit

/-- The variables of a node itself. -/
def usedL (n : GNode) : List Int := if n.op = 1 ∨ n.op = 2 then ((List.range n.coefs.length).filter fun k => decide (n.coefs.getD k 0 ≠ 0)).map (fun k => ((k : Nat) : Int)) else if n.op = 3 then [n.var] else if n.op = 4 then [n.var, n.other] else []
def tSet (b : Nat → Bool) : T := .agg [.bool (b 0), .bool (b 1), .bool (b 2), .bool (b 3), .bool (b 4)]
theorem usedL_bd {n : GNode} (h : nodeErr n = 0) : (∀ v ∈ usedL n, 0 ≤ v ∧ v < 5) ∧ (usedL n).length ≤ 5 := by
  have hc := node_coefs h
  obtain ⟨_, _, h3, _⟩ := node_ok h
  unfold usedL
  by_cases hl : n.op = 1 ∨ n.op = 2
  · rw [if_pos hl]
    refine ⟨fun v hv => ?_, ?_⟩
    · obtain ⟨k, hk, rfl⟩ := List.mem_map.1 hv
      have := List.mem_range.1 (List.mem_filter.1 hk).1
      omega
    · rw [List.length_map]
      refine Nat.le_trans (List.length_filter_le _ _) ?_
      rw [List.length_range]; exact hc
  · rw [if_neg hl]
    by_cases e3 : n.op = 3
    · rw [if_pos e3]
      unfold nodeOk at h3
      rw [if_neg hl, if_pos e3] at h3
      simp only [Bool.and_eq_true] at h3
      have := isVar_bd h3.1.1.1.1
      refine ⟨fun v hv => ?_, by simp⟩
      simp at hv; subst hv; exact this
    · rw [if_neg e3]
      by_cases e4 : n.op = 4
      · rw [if_pos e4]
        unfold nodeOk at h3
        rw [if_neg hl, if_neg e3, if_pos e4] at h3
        simp only [Bool.and_eq_true] at h3
        have h5 := isVar_bd h3.1.1.1.1.1
        have h6 := isVar_bd h3.1.1.1.1.2
        refine ⟨fun v hv => ?_, by simp⟩
        simp at hv
        rcases hv with rfl | rfl
        · exact h5
        · exact h6
      · rw [if_neg e4]
        exact ⟨fun v hv => by simp at hv, by simp⟩
theorem usedL_uses (n : GNode) (k : Nat) : (usedL n).contains (k : Int) = usesN n k := by
  unfold usedL usesN
  by_cases hl : n.op = 1 ∨ n.op = 2
  · rw [if_pos hl, if_pos hl, Int.toNat_natCast]
    have key : (((List.range n.coefs.length).filter fun k => decide (n.coefs.getD k 0 ≠ 0)).map (fun k => ((k : Nat) : Int))).contains (k : Int) = true ↔ (decide ((k : Int) < n.coefs.length) && decide (n.coefs.getD k 0 ≠ 0)) = true := by
      rw [List.contains_iff_mem, List.mem_map, Bool.and_eq_true, decide_eq_true_eq, decide_eq_true_eq]
      constructor
      · rintro ⟨j, hj, e⟩
        obtain rfl : j = k := by omega
        obtain ⟨h1, h2⟩ := List.mem_filter.1 hj
        have := List.mem_range.1 h1
        exact ⟨by omega, by simpa using h2⟩
      · rintro ⟨h1, h2⟩
        exact ⟨k, List.mem_filter.2 ⟨List.mem_range.2 (by omega), by simpa using h2⟩, rfl⟩
    exact Bool.eq_iff_iff.2 key
  · rw [if_neg hl, if_neg hl]
    by_cases e3 : n.op = 3
    · rw [if_pos e3, decide_eq_true (.inl e3), decide_eq_false (show ¬ n.op = 4 by omega), Bool.true_and, Bool.false_and, Bool.or_false]
      have key : ([n.var] : List Int).contains (k : Int) = true ↔ decide (n.var = k) = true := by
        rw [List.contains_iff_mem, decide_eq_true_eq, List.mem_singleton]
        exact eq_comm
      exact Bool.eq_iff_iff.2 key
    · rw [if_neg e3]
      by_cases e4 : n.op = 4
      · rw [if_pos e4, decide_eq_true (.inr e4), decide_eq_true e4, Bool.true_and, Bool.true_and]
        have key : ([n.var, n.other] : List Int).contains (k : Int) = true ↔ (decide (n.var = k) || decide (n.other = k)) = true := by
          rw [List.contains_iff_mem, Bool.or_eq_true, decide_eq_true_eq, decide_eq_true_eq]
          simp only [List.mem_cons, List.not_mem_nil, or_false]
          constructor
          · rintro (h | h)
            · exact .inl h.symm
            · exact .inr h.symm
          · rintro (h | h)
            · exact .inl h.symm
            · exact .inr h.symm
        exact Bool.eq_iff_iff.2 key
      · rw [if_neg e4, decide_eq_false (show ¬ (n.op = 3 ∨ n.op = 4) by omega), decide_eq_false e4]; rfl
/-- What is still to be looked at: so many parts, what is free in them, where they end. -/
def RestF (G : World → Prop) (f : List GNode) : Nat → Nat → Nat → (Nat → Bool) → Prop
  | 0, j, e, b => j = e ∧ ∀ k, b k = false
  | r + 1, j, e, b => ∃ m b1 b2, Snd Tryd.prog G 65 [tForm f, tNat j] (.tup [tSet b1, tNat m]) ∧ j < m ∧ m ≤ f.length ∧ RestF G f r m e b2 ∧ ∀ k, b k = (b1 k || b2 k)
section
variable {G : World → Prop} (hG : Lasting G)
include hG
set_option maxHeartbeats 4000000 in
set_option maxRecDepth 100000 in
theorem Used_snd (n : GNode) (hc : n.coefs.length ≤ 1000) : Snd Tryd.prog G 81 [tNode n] (tInts (usedL n)) := by
  obtain ⟨op, var, other, word, word2, num, coefs⟩ := n
  have hc : coefs.length ≤ 1000 := hc
  refine snd_of_body (n := 43) (tm := [(0, .t (tNode ⟨op, var, other, word, word2, num, coefs⟩))]) (rs := [.tmp 2]) tt_ok Tryd.func81 rfl rfl rfl rfl rfl ?_
  have htb : Tab.ok Tryd.prog G [] := Tab.nil
  by_cases hl : op = 1 ∨ op = 2
  · have e : usedL ⟨op, var, other, word, word2, num, coefs⟩ = ((List.range coefs.length).filter fun k => decide (coefs.getD k 0 ≠ 0)).map (fun k => ((k : Nat) : Int)) := by unfold usedL; rw [if_pos hl]
    rw [e]
    rcases hl with rfl | rfl
    · repeat' (first | (with_reducible first | apply w1 | apply w2 | apply w3 | apply w4 | apply w5 | apply w6 | apply w7 | apply w8 | apply w9 | apply wa | apply wb | apply wc) | ((with_reducible apply wd); focus decide) | ((with_reducible apply we); focus exact rfl) | ((with_reducible apply wf); focus exact rfl) | ((first | (with_reducible apply SW_run tt_ok hG htb) | ((with_reducible apply SW_draw rfl tt_ok hG htb); (focus kernel_rfl); focus simp only [List.range, List.range.loop, List.size_toArray, List.length_cons, List.length_nil, Nat.reduceAdd])); focus ((repeat' (first | (with_reducible first | exact wg | exact wh) | ((with_reducible first | apply wi | apply wj); focus (simp (discharger := omega) only [go_sem, tNode, simprocAttr]; with_reducible rfl)))); done)))
      refine SW_loop (fun mm s => ∃ (i : Nat) (ot : List T), mm = coefs.length - i ∧ s = ⟨43, [(3, .sref 0), (12, .t (tInts coefs)), (13, .t (tInt coefs.length)), (14, .t (tNat i))], [.row 3 1 false ot]⟩ ∧ i ≤ coefs.length ∧ ot = (((List.range i).filter fun k => decide (coefs.getD k 0 ≠ 0)).map (fun k => ((k : Nat) : Int))).map tInt ∧ ot.length ≤ i) coefs.length
        ⟨_, Norm.headS (own := [(3, 3, 1, false)]) (keep := [3, 12, 13, 14]) (by refine ⟨?_, ?_⟩; (simp (discharger := omega) only [go_sem, simprocAttr]; with_reducible rfl); refine ⟨?_, ?_, ?_, ?_⟩ <;> (simp only [go_sem, simprocAttr]; with_reducible rfl)), 0, _, rfl, rfl, Nat.zero_le _, rfl, Nat.le_refl _⟩ ?_
      rintro mm s ⟨i, ot, rfl, rfl, hi, hot, hol⟩
      by_cases hlt : i < coefs.length
      · obtain ⟨x, hx⟩ : ∃ x, coefs[i]! = x := ⟨_, rfl⟩
        have hD := bang_D (d := 0) hx hlt
        have hcons : ((List.range (i + 1)).filter fun k => decide (coefs.getD k 0 ≠ 0)) = ((List.range i).filter fun k => decide (coefs.getD k 0 ≠ 0)) ++ (if x ≠ 0 then [i] else []) := by
          rw [List.range_succ, List.filter_append]
          congr 1
          simp only [List.filter_cons, List.filter_nil, hD, decide_eq_true_eq]
        by_cases h0 : x = 0
        · repeat' (first | (with_reducible first | apply w1 | apply w2 | apply w3 | apply w4 | apply w5 | apply w6 | apply w7 | apply w8 | apply w9 | apply wa | apply wb | apply wc) | ((with_reducible apply wd); focus decide) | ((with_reducible apply we); focus exact rfl) | ((with_reducible apply wf); focus exact rfl) | ((first | (with_reducible apply SW_run tt_ok hG htb) | ((with_reducible apply SW_draw rfl tt_ok hG htb); (focus kernel_rfl); focus simp only [List.range, List.range.loop, List.size_toArray, List.length_cons, List.length_nil, Nat.reduceAdd])); focus ((repeat' (first | (with_reducible first | exact wg | exact wh) | ((with_reducible first | apply wi | apply wj); focus (simp (discharger := omega) only [go_sem, hx, h0, simprocAttr]; with_reducible rfl)))); done)))
          exact ⟨coefs.length - (i + 1), _, by omega, Norm.headS (own := [(3, 3, 1, false)]) (keep := [3, 12, 13, 14]) (by refine ⟨?_, ?_⟩; (simp (discharger := omega) only [go_sem, simprocAttr]; with_reducible rfl); refine ⟨?_, ?_, ?_, ?_⟩ <;> (simp only [go_sem, simprocAttr]; with_reducible rfl)), i + 1, _, rfl, rfl, by omega, by rw [hcons, if_neg (by omega), List.append_nil, hot], by omega⟩
        · repeat' (first | (with_reducible first | apply w1 | apply w2 | apply w3 | apply w4 | apply w5 | apply w6 | apply w7 | apply w8 | apply w9 | apply wa | apply wb | apply wc) | ((with_reducible apply wd); focus decide) | ((with_reducible apply we); focus exact rfl) | ((with_reducible apply wf); focus exact rfl) | ((first | (with_reducible apply SW_run tt_ok hG htb) | ((with_reducible apply SW_draw rfl tt_ok hG htb); (focus kernel_rfl); focus simp only [List.range, List.range.loop, List.size_toArray, List.length_cons, List.length_nil, Nat.reduceAdd])); focus ((repeat' (first | (with_reducible first | exact wg | exact wh) | ((with_reducible first | apply wi | apply wj); focus (simp (discharger := omega) only [go_sem, hx, h0, simprocAttr]; with_reducible rfl)))); done)))
          exact ⟨coefs.length - (i + 1), _, by omega, Norm.headS (own := [(3, 3, 1, false)]) (keep := [3, 12, 13, 14]) (by refine ⟨?_, ?_⟩; (simp (discharger := omega) only [go_sem, simprocAttr]; with_reducible rfl); refine ⟨?_, ?_, ?_, ?_⟩ <;> (simp only [go_sem, simprocAttr]; with_reducible rfl)), i + 1, _, rfl, rfl, by omega, by rw [hcons, if_pos h0, List.map_append, List.map_append, hot]; rfl, by simp; omega⟩
      · obtain rfl : i = coefs.length := by omega
        generalize ((List.range coefs.length).filter fun k => decide (coefs.getD k 0 ≠ 0)).map (fun k => ((k : Nat) : Int)) = out at *
        subst hot
        repeat' (first | (with_reducible first | apply w1 | apply w2 | apply w3 | apply w4 | apply w5 | apply w6 | apply w7 | apply w8 | apply w9 | apply wa | apply wb | apply wc) | ((with_reducible apply wd); focus decide) | ((with_reducible apply we); focus exact rfl) | ((with_reducible apply wf); focus exact rfl) | ((first | (with_reducible apply SW_run tt_ok hG htb) | ((with_reducible apply SW_draw rfl tt_ok hG htb); (focus kernel_rfl); focus simp only [List.range, List.range.loop, List.size_toArray, List.length_cons, List.length_nil, Nat.reduceAdd])); focus ((repeat' (first | (with_reducible first | exact wg | exact wh) | ((with_reducible first | apply wi | apply wj); focus (simp (discharger := omega) only [go_sem, simprocAttr]; with_reducible rfl)))); done)))
        exact (by simp (discharger := omega) only [go_sem, simprocAttr])
    · repeat' (first | (with_reducible first | apply w1 | apply w2 | apply w3 | apply w4 | apply w5 | apply w6 | apply w7 | apply w8 | apply w9 | apply wa | apply wb | apply wc) | ((with_reducible apply wd); focus decide) | ((with_reducible apply we); focus exact rfl) | ((with_reducible apply wf); focus exact rfl) | ((first | (with_reducible apply SW_run tt_ok hG htb) | ((with_reducible apply SW_draw rfl tt_ok hG htb); (focus kernel_rfl); focus simp only [List.range, List.range.loop, List.size_toArray, List.length_cons, List.length_nil, Nat.reduceAdd])); focus ((repeat' (first | (with_reducible first | exact wg | exact wh) | ((with_reducible first | apply wi | apply wj); focus (simp (discharger := omega) only [go_sem, tNode, simprocAttr]; with_reducible rfl)))); done)))
      refine SW_loop (fun mm s => ∃ (i : Nat) (ot : List T), mm = coefs.length - i ∧ s = ⟨43, [(3, .sref 0), (12, .t (tInts coefs)), (13, .t (tInt coefs.length)), (14, .t (tNat i))], [.row 3 1 false ot]⟩ ∧ i ≤ coefs.length ∧ ot = (((List.range i).filter fun k => decide (coefs.getD k 0 ≠ 0)).map (fun k => ((k : Nat) : Int))).map tInt ∧ ot.length ≤ i) coefs.length
        ⟨_, Norm.headS (own := [(3, 3, 1, false)]) (keep := [3, 12, 13, 14]) (by refine ⟨?_, ?_⟩; (simp (discharger := omega) only [go_sem, simprocAttr]; with_reducible rfl); refine ⟨?_, ?_, ?_, ?_⟩ <;> (simp only [go_sem, simprocAttr]; with_reducible rfl)), 0, _, rfl, rfl, Nat.zero_le _, rfl, Nat.le_refl _⟩ ?_
      rintro mm s ⟨i, ot, rfl, rfl, hi, hot, hol⟩
      by_cases hlt : i < coefs.length
      · obtain ⟨x, hx⟩ : ∃ x, coefs[i]! = x := ⟨_, rfl⟩
        have hD := bang_D (d := 0) hx hlt
        have hcons : ((List.range (i + 1)).filter fun k => decide (coefs.getD k 0 ≠ 0)) = ((List.range i).filter fun k => decide (coefs.getD k 0 ≠ 0)) ++ (if x ≠ 0 then [i] else []) := by
          rw [List.range_succ, List.filter_append]
          congr 1
          simp only [List.filter_cons, List.filter_nil, hD, decide_eq_true_eq]
        by_cases h0 : x = 0
        · repeat' (first | (with_reducible first | apply w1 | apply w2 | apply w3 | apply w4 | apply w5 | apply w6 | apply w7 | apply w8 | apply w9 | apply wa | apply wb | apply wc) | ((with_reducible apply wd); focus decide) | ((with_reducible apply we); focus exact rfl) | ((with_reducible apply wf); focus exact rfl) | ((first | (with_reducible apply SW_run tt_ok hG htb) | ((with_reducible apply SW_draw rfl tt_ok hG htb); (focus kernel_rfl); focus simp only [List.range, List.range.loop, List.size_toArray, List.length_cons, List.length_nil, Nat.reduceAdd])); focus ((repeat' (first | (with_reducible first | exact wg | exact wh) | ((with_reducible first | apply wi | apply wj); focus (simp (discharger := omega) only [go_sem, hx, h0, simprocAttr]; with_reducible rfl)))); done)))
          exact ⟨coefs.length - (i + 1), _, by omega, Norm.headS (own := [(3, 3, 1, false)]) (keep := [3, 12, 13, 14]) (by refine ⟨?_, ?_⟩; (simp (discharger := omega) only [go_sem, simprocAttr]; with_reducible rfl); refine ⟨?_, ?_, ?_, ?_⟩ <;> (simp only [go_sem, simprocAttr]; with_reducible rfl)), i + 1, _, rfl, rfl, by omega, by rw [hcons, if_neg (by omega), List.append_nil, hot], by omega⟩
        · repeat' (first | (with_reducible first | apply w1 | apply w2 | apply w3 | apply w4 | apply w5 | apply w6 | apply w7 | apply w8 | apply w9 | apply wa | apply wb | apply wc) | ((with_reducible apply wd); focus decide) | ((with_reducible apply we); focus exact rfl) | ((with_reducible apply wf); focus exact rfl) | ((first | (with_reducible apply SW_run tt_ok hG htb) | ((with_reducible apply SW_draw rfl tt_ok hG htb); (focus kernel_rfl); focus simp only [List.range, List.range.loop, List.size_toArray, List.length_cons, List.length_nil, Nat.reduceAdd])); focus ((repeat' (first | (with_reducible first | exact wg | exact wh) | ((with_reducible first | apply wi | apply wj); focus (simp (discharger := omega) only [go_sem, hx, h0, simprocAttr]; with_reducible rfl)))); done)))
          exact ⟨coefs.length - (i + 1), _, by omega, Norm.headS (own := [(3, 3, 1, false)]) (keep := [3, 12, 13, 14]) (by refine ⟨?_, ?_⟩; (simp (discharger := omega) only [go_sem, simprocAttr]; with_reducible rfl); refine ⟨?_, ?_, ?_, ?_⟩ <;> (simp only [go_sem, simprocAttr]; with_reducible rfl)), i + 1, _, rfl, rfl, by omega, by rw [hcons, if_pos h0, List.map_append, List.map_append, hot]; rfl, by simp; omega⟩
      · obtain rfl : i = coefs.length := by omega
        generalize ((List.range coefs.length).filter fun k => decide (coefs.getD k 0 ≠ 0)).map (fun k => ((k : Nat) : Int)) = out at *
        subst hot
        repeat' (first | (with_reducible first | apply w1 | apply w2 | apply w3 | apply w4 | apply w5 | apply w6 | apply w7 | apply w8 | apply w9 | apply wa | apply wb | apply wc) | ((with_reducible apply wd); focus decide) | ((with_reducible apply we); focus exact rfl) | ((with_reducible apply wf); focus exact rfl) | ((first | (with_reducible apply SW_run tt_ok hG htb) | ((with_reducible apply SW_draw rfl tt_ok hG htb); (focus kernel_rfl); focus simp only [List.range, List.range.loop, List.size_toArray, List.length_cons, List.length_nil, Nat.reduceAdd])); focus ((repeat' (first | (with_reducible first | exact wg | exact wh) | ((with_reducible first | apply wi | apply wj); focus (simp (discharger := omega) only [go_sem, simprocAttr]; with_reducible rfl)))); done)))
        exact (by simp (discharger := omega) only [go_sem, simprocAttr])
  · have h1 : ¬ op = 1 := fun e => hl (.inl e)
    have h2 : ¬ op = 2 := fun e => hl (.inr e)
    by_cases h3 : op = 3
    · subst h3
      have e : usedL ⟨3, var, other, word, word2, num, coefs⟩ = [var] := by unfold usedL; simp
      rw [e]
      repeat' (first | (with_reducible first | apply w1 | apply w2 | apply w3 | apply w4 | apply w5 | apply w6 | apply w7 | apply w8 | apply w9 | apply wa | apply wb | apply wc) | ((with_reducible apply wd); focus decide) | ((with_reducible apply we); focus exact rfl) | ((with_reducible apply wf); focus exact rfl) | ((first | (with_reducible apply SW_run tt_ok hG htb) | ((with_reducible apply SW_draw rfl tt_ok hG htb); (focus kernel_rfl); focus simp only [List.range, List.range.loop, List.size_toArray, List.length_cons, List.length_nil, Nat.reduceAdd])); focus ((repeat' (first | (with_reducible first | exact wg | exact wh) | ((with_reducible first | apply wi | apply wj); focus (simp (discharger := omega) only [go_sem, tNode, simprocAttr]; with_reducible rfl)))); done)))
      exact (by simp (discharger := omega) only [go_sem, simprocAttr])
    · by_cases h4 : op = 4
      · subst h4
        have e : usedL ⟨4, var, other, word, word2, num, coefs⟩ = [var, other] := by unfold usedL; simp
        rw [e]
        repeat' (first | (with_reducible first | apply w1 | apply w2 | apply w3 | apply w4 | apply w5 | apply w6 | apply w7 | apply w8 | apply w9 | apply wa | apply wb | apply wc) | ((with_reducible apply wd); focus decide) | ((with_reducible apply we); focus exact rfl) | ((with_reducible apply wf); focus exact rfl) | ((first | (with_reducible apply SW_run tt_ok hG htb) | ((with_reducible apply SW_draw rfl tt_ok hG htb); (focus kernel_rfl); focus simp only [List.range, List.range.loop, List.size_toArray, List.length_cons, List.length_nil, Nat.reduceAdd])); focus ((repeat' (first | (with_reducible first | exact wg | exact wh) | ((with_reducible first | apply wi | apply wj); focus (simp (discharger := omega) only [go_sem, tNode, simprocAttr]; with_reducible rfl)))); done)))
        exact (by simp (discharger := omega) only [go_sem, simprocAttr])
      · have e : usedL ⟨op, var, other, word, word2, num, coefs⟩ = [] := by unfold usedL; rw [if_neg hl]; simp only; rw [if_neg h3, if_neg h4]
        rw [e]
        repeat' (first | (with_reducible first | apply w1 | apply w2 | apply w3 | apply w4 | apply w5 | apply w6 | apply w7 | apply w8 | apply w9 | apply wa | apply wb | apply wc) | ((with_reducible apply wd); focus decide) | ((with_reducible apply we); focus exact rfl) | ((with_reducible apply wf); focus exact rfl) | ((first | (with_reducible apply SW_run tt_ok hG htb) | ((with_reducible apply SW_draw rfl tt_ok hG htb); (focus kernel_rfl); focus simp only [List.range, List.range.loop, List.size_toArray, List.length_cons, List.length_nil, Nat.reduceAdd])); focus ((repeat' (first | (with_reducible first | exact wg | exact wh) | ((with_reducible first | apply wi | apply wj); focus (simp (discharger := omega) only [go_sem, tNode, h1, h2, h3, h4, simprocAttr]; with_reducible rfl)))); done)))
        exact (by simp (discharger := omega) only [go_sem, simprocAttr])
set_option maxHeartbeats 16000000 in
set_option maxRecDepth 100000 in
theorem free_step {f : List GNode} {i e : Nat} {n : GNode} (hl : f.length ≤ 40) (hn : f[i]? = some n) (hne : nodeErr n = 0) (he : e ≤ f.length) (rest b : Nat → Bool) (hR : RestF G f (partsOf n.op).toNat (i + 1) e rest)
    (hb : ∀ k : Nat, k < 5 → b k = if (n.op = 8 ∨ n.op = 9) ∧ n.var = (k : Int) then false else (usesN n k || rest k)) : Snd Tryd.prog G 65 [tForm f, tNat i] (.tup [tSet b, tNat e]) := by
  have hil := (List.getElem?_eq_some_iff.1 hn).1
  have hn1 : f[i]! = n := by rw [getElem!_pos f i hil]; exact (List.getElem?_eq_some_iff.1 hn).2
  have cU := Used_snd hG n (by have := node_coefs hne; omega)
  have cP := Parts_snd hG n.op
  have hpc := parts_cases n.op
  obtain ⟨hu5, hul⟩ := usedL_bd hne
  have huu := usedL_uses n
  obtain ⟨hop1, hop9, hok, _⟩ := node_ok hne
  have hvar : n.op = 8 ∨ n.op = 9 → 0 ≤ n.var ∧ n.var < 5 := fun h => by
    unfold nodeOk at hok
    rw [if_neg (by omega), if_neg (by omega), if_neg (by omega), if_pos h] at hok
    exact isVar_bd hok
  clear hok hne
  generalize huE : usedL n = u at *
  clear huE
  have hb : ∀ k : Nat, k < 5 → b k = if (n.op = 8 ∨ n.op = 9) ∧ n.var = (k : Int) then false else (u.contains (k : Int) || rest k) := fun k hk => by rw [hb k hk, huu k]
  clear huu
  obtain ⟨op, var, other, word, word2, num, coefs⟩ := n
  simp only at hb cP hpc hvar hop1 hop9 hR
  refine snd_of_body (n := 79) (tm := [(0, .t (tForm f)), (1, .t (tNat i))]) (rs := [.cell 4 110, .tmp 5]) tt_ok Tryd.func65 rfl rfl rfl rfl rfl ?_
  unfold tForm
  have htb := Tab.cons cU Tab.nil
  repeat' (first | (with_reducible first | apply w1 | apply w2 | apply w3 | apply w4 | apply w5 | apply w6 | apply w7 | apply w8 | apply w9 | apply wa | apply wb | apply wc) | ((with_reducible apply wd); focus decide) | ((with_reducible apply we); focus exact rfl) | ((with_reducible apply wf); focus exact rfl) | ((first | (with_reducible apply SW_run tt_ok hG htb) | ((with_reducible apply SW_draw rfl tt_ok hG htb); (focus kernel_rfl); focus simp only [List.range, List.range.loop, List.size_toArray, List.length_cons, List.length_nil, Nat.reduceAdd])); focus ((repeat' (first | (with_reducible first | exact wg | exact wh) | ((with_reducible first | apply wi | apply wj); focus (simp (discharger := omega) only [go_sem, hn1, tNode, simprocAttr]; with_reducible rfl)))); done)))
  clear htb cU
  have htb : Tab.ok Tryd.prog G [] := Tab.nil
  refine SW_loop (fun mm s => ∃ (j : Nat) (g : Nat → Bool), mm = u.length - j ∧ s = ⟨79, [(0, .t (.list (f.map tNode))), (1, .t (tNat i)), (4, .bptr 0 0), (6, .bptr 1 0), (17, .t (tInts u)), (18, .t (tInt u.length)), (19, .t (tNat j))], [.box [.t (.bool false), .t (.bool false), .t (.bool false), .t (.bool false), .t (.bool false)], .box [.t (.bool (g 0)), .t (.bool (g 1)), .t (.bool (g 2)), .t (.bool (g 3)), .t (.bool (g 4))]]⟩ ∧ j ≤ u.length ∧ ∀ k : Nat, k < 5 → g k = (u.take j).contains (k : Int)) u.length
    ⟨_, Norm.headS (own := []) (keep := [0, 1, 4, 6, 17, 18, 19]) (by refine ⟨?_, ?_⟩; (simp (discharger := omega) only [go_sem, simprocAttr]; with_reducible rfl); refine ⟨?_, ?_, ?_, ?_⟩ <;> (simp only [go_sem, simprocAttr]; with_reducible rfl)), 0, fun _ => false, rfl, rfl, Nat.zero_le _, fun k _ => by simp⟩ ?_
  rintro mm s ⟨j, g, rfl, rfl, hj, hg⟩
  by_cases hlt : j < u.length
  · obtain ⟨v, hv⟩ : ∃ v, u[j]! = v := ⟨_, rfl⟩
    have hvb := hu5 v (bang_mem hv hlt)
    have htk := take_next hv hlt
    have hg' : ∀ k : Nat, k < 5 → (u.take (j + 1)).contains (k : Int) = (decide (v = (k : Int)) || g k) := fun k hk => by
      rw [htk, List.contains_eq_any_beq, List.any_append, hg k hk, List.contains_eq_any_beq, Bool.or_comm]
      congr 1
      simp only [List.any_cons, List.any_nil, Bool.or_false]
      by_cases e : v = (k : Int)
      · rw [e]; simp
      · rw [decide_eq_false e]; simpa using fun e2 => e e2.symm
    have hv5 : v = 0 ∨ v = 1 ∨ v = 2 ∨ v = 3 ∨ v = 4 := by omega
    rcases hv5 with rfl | rfl | rfl | rfl | rfl
    · repeat' (first | (with_reducible first | apply w1 | apply w2 | apply w3 | apply w4 | apply w5 | apply w6 | apply w7 | apply w8 | apply w9 | apply wa | apply wb | apply wc) | ((with_reducible apply wd); focus decide) | ((with_reducible apply we); focus exact rfl) | ((with_reducible apply wf); focus exact rfl) | ((first | (with_reducible apply SW_run tt_ok hG htb) | ((with_reducible apply SW_draw rfl tt_ok hG htb); (focus kernel_rfl); focus simp only [List.range, List.range.loop, List.size_toArray, List.length_cons, List.length_nil, Nat.reduceAdd])); focus ((repeat' (first | (with_reducible first | exact wg | exact wh) | ((with_reducible first | apply wi | apply wj); focus (simp (discharger := omega) only [go_sem, hv, simprocAttr]; with_reducible rfl)))); done)))
      exact ⟨u.length - (j + 1), _, by omega, Norm.headS (own := []) (keep := [0, 1, 4, 6, 17, 18, 19]) (by refine ⟨?_, ?_⟩; (simp (discharger := omega) only [go_sem, simprocAttr]; with_reducible rfl); refine ⟨?_, ?_, ?_, ?_⟩ <;> (simp only [go_sem, simprocAttr]; with_reducible rfl)), j + 1, fun k => if k = 0 then true else g k, rfl, rfl, by omega, fun k hk => by
        rw [hg' k hk]
        dsimp only
        by_cases e : k = 0
        · subst e; simp
        · rw [if_neg e, decide_eq_false (by omega), Bool.false_or]⟩
    · repeat' (first | (with_reducible first | apply w1 | apply w2 | apply w3 | apply w4 | apply w5 | apply w6 | apply w7 | apply w8 | apply w9 | apply wa | apply wb | apply wc) | ((with_reducible apply wd); focus decide) | ((with_reducible apply we); focus exact rfl) | ((with_reducible apply wf); focus exact rfl) | ((first | (with_reducible apply SW_run tt_ok hG htb) | ((with_reducible apply SW_draw rfl tt_ok hG htb); (focus kernel_rfl); focus simp only [List.range, List.range.loop, List.size_toArray, List.length_cons, List.length_nil, Nat.reduceAdd])); focus ((repeat' (first | (with_reducible first | exact wg | exact wh) | ((with_reducible first | apply wi | apply wj); focus (simp (discharger := omega) only [go_sem, hv, simprocAttr]; with_reducible rfl)))); done)))
      exact ⟨u.length - (j + 1), _, by omega, Norm.headS (own := []) (keep := [0, 1, 4, 6, 17, 18, 19]) (by refine ⟨?_, ?_⟩; (simp (discharger := omega) only [go_sem, simprocAttr]; with_reducible rfl); refine ⟨?_, ?_, ?_, ?_⟩ <;> (simp only [go_sem, simprocAttr]; with_reducible rfl)), j + 1, fun k => if k = 1 then true else g k, rfl, rfl, by omega, fun k hk => by
        rw [hg' k hk]
        dsimp only
        by_cases e : k = 1
        · subst e; simp
        · rw [if_neg e, decide_eq_false (by omega), Bool.false_or]⟩
    · repeat' (first | (with_reducible first | apply w1 | apply w2 | apply w3 | apply w4 | apply w5 | apply w6 | apply w7 | apply w8 | apply w9 | apply wa | apply wb | apply wc) | ((with_reducible apply wd); focus decide) | ((with_reducible apply we); focus exact rfl) | ((with_reducible apply wf); focus exact rfl) | ((first | (with_reducible apply SW_run tt_ok hG htb) | ((with_reducible apply SW_draw rfl tt_ok hG htb); (focus kernel_rfl); focus simp only [List.range, List.range.loop, List.size_toArray, List.length_cons, List.length_nil, Nat.reduceAdd])); focus ((repeat' (first | (with_reducible first | exact wg | exact wh) | ((with_reducible first | apply wi | apply wj); focus (simp (discharger := omega) only [go_sem, hv, simprocAttr]; with_reducible rfl)))); done)))
      exact ⟨u.length - (j + 1), _, by omega, Norm.headS (own := []) (keep := [0, 1, 4, 6, 17, 18, 19]) (by refine ⟨?_, ?_⟩; (simp (discharger := omega) only [go_sem, simprocAttr]; with_reducible rfl); refine ⟨?_, ?_, ?_, ?_⟩ <;> (simp only [go_sem, simprocAttr]; with_reducible rfl)), j + 1, fun k => if k = 2 then true else g k, rfl, rfl, by omega, fun k hk => by
        rw [hg' k hk]
        dsimp only
        by_cases e : k = 2
        · subst e; simp
        · rw [if_neg e, decide_eq_false (by omega), Bool.false_or]⟩
    · repeat' (first | (with_reducible first | apply w1 | apply w2 | apply w3 | apply w4 | apply w5 | apply w6 | apply w7 | apply w8 | apply w9 | apply wa | apply wb | apply wc) | ((with_reducible apply wd); focus decide) | ((with_reducible apply we); focus exact rfl) | ((with_reducible apply wf); focus exact rfl) | ((first | (with_reducible apply SW_run tt_ok hG htb) | ((with_reducible apply SW_draw rfl tt_ok hG htb); (focus kernel_rfl); focus simp only [List.range, List.range.loop, List.size_toArray, List.length_cons, List.length_nil, Nat.reduceAdd])); focus ((repeat' (first | (with_reducible first | exact wg | exact wh) | ((with_reducible first | apply wi | apply wj); focus (simp (discharger := omega) only [go_sem, hv, simprocAttr]; with_reducible rfl)))); done)))
      exact ⟨u.length - (j + 1), _, by omega, Norm.headS (own := []) (keep := [0, 1, 4, 6, 17, 18, 19]) (by refine ⟨?_, ?_⟩; (simp (discharger := omega) only [go_sem, simprocAttr]; with_reducible rfl); refine ⟨?_, ?_, ?_, ?_⟩ <;> (simp only [go_sem, simprocAttr]; with_reducible rfl)), j + 1, fun k => if k = 3 then true else g k, rfl, rfl, by omega, fun k hk => by
        rw [hg' k hk]
        dsimp only
        by_cases e : k = 3
        · subst e; simp
        · rw [if_neg e, decide_eq_false (by omega), Bool.false_or]⟩
    · repeat' (first | (with_reducible first | apply w1 | apply w2 | apply w3 | apply w4 | apply w5 | apply w6 | apply w7 | apply w8 | apply w9 | apply wa | apply wb | apply wc) | ((with_reducible apply wd); focus decide) | ((with_reducible apply we); focus exact rfl) | ((with_reducible apply wf); focus exact rfl) | ((first | (with_reducible apply SW_run tt_ok hG htb) | ((with_reducible apply SW_draw rfl tt_ok hG htb); (focus kernel_rfl); focus simp only [List.range, List.range.loop, List.size_toArray, List.length_cons, List.length_nil, Nat.reduceAdd])); focus ((repeat' (first | (with_reducible first | exact wg | exact wh) | ((with_reducible first | apply wi | apply wj); focus (simp (discharger := omega) only [go_sem, hv, simprocAttr]; with_reducible rfl)))); done)))
      exact ⟨u.length - (j + 1), _, by omega, Norm.headS (own := []) (keep := [0, 1, 4, 6, 17, 18, 19]) (by refine ⟨?_, ?_⟩; (simp (discharger := omega) only [go_sem, simprocAttr]; with_reducible rfl); refine ⟨?_, ?_, ?_, ?_⟩ <;> (simp only [go_sem, simprocAttr]; with_reducible rfl)), j + 1, fun k => if k = 4 then true else g k, rfl, rfl, by omega, fun k hk => by
        rw [hg' k hk]
        dsimp only
        by_cases e : k = 4
        · subst e; simp
        · rw [if_neg e, decide_eq_false (by omega), Bool.false_or]⟩
  · obtain rfl : j = u.length := by omega
    rw [List.take_length] at hg
    clear htb hj hlt
    generalize hpE : partsOf op = pp at *
    have htb := Tab.cons cP Tab.nil
    repeat' (first | (with_reducible first | apply w1 | apply w2 | apply w3 | apply w4 | apply w5 | apply w6 | apply w7 | apply w8 | apply w9 | apply wa | apply wb | apply wc) | ((with_reducible apply wd); focus decide) | ((with_reducible apply we); focus exact rfl) | ((with_reducible apply wf); focus exact rfl) | ((first | (with_reducible apply SW_run tt_ok hG htb) | ((with_reducible apply SW_draw rfl tt_ok hG htb); (focus kernel_rfl); focus simp only [List.range, List.range.loop, List.size_toArray, List.length_cons, List.length_nil, Nat.reduceAdd])); focus ((repeat' (first | (with_reducible first | exact wg | exact wh) | ((with_reducible first | apply wi | apply wj); focus (simp (discharger := omega) only [go_sem, hn1, tNode, simprocAttr]; with_reducible rfl)))); done)))
    have hbt : ∀ k : Nat, k < 5 → b k = if (op = 8 ∨ op = 9) ∧ var = (k : Int) then false else (g k || rest k) := fun k hk => by rw [hb k hk, hg k hk]
    clear hb hg hu5 hul
    refine SW_loop (fun mm s => ∃ (k j : Nat) (g d : Nat → Bool), mm = pp.toNat - k ∧ s = ⟨79, [(0, .t (.list (f.map tNode))), (1, .t (tNat i)), (4, .bptr 0 0), (6, .bptr 1 0), (9, .t (tNat j)), (33, .t (tInt pp)), (34, .t (tNat k))], [.box [.t (.bool false), .t (.bool false), .t (.bool false), .t (.bool false), .t (.bool false)], .box [.t (.bool (g 0)), .t (.bool (g 1)), .t (.bool (g 2)), .t (.bool (g 3)), .t (.bool (g 4))]]⟩ ∧ k ≤ pp.toNat ∧ RestF G f (pp.toNat - k) j e d ∧ (∀ k : Nat, k < 5 → b k = if (op = 8 ∨ op = 9) ∧ var = (k : Int) then false else (g k || d k)) ∧ j ≤ f.length) (pp.toNat)
      ⟨_, Norm.headS (own := []) (keep := [0, 1, 4, 6, 9, 33, 34]) (by refine ⟨?_, ?_⟩; (simp (discharger := omega) only [go_sem, simprocAttr]; with_reducible rfl); refine ⟨?_, ?_, ?_, ?_⟩ <;> (simp only [go_sem, simprocAttr]; with_reducible rfl)), 0, i + 1, g, rest, rfl, rfl, Nat.zero_le _, hR, hbt, by omega⟩ ?_
    clear hR hbt htb
    rintro mm s ⟨k, j, g, d, rfl, rfl, hk, hR, hbt, hjl⟩
    by_cases hlt : k < pp.toNat
    · obtain ⟨r, hr⟩ : ∃ r, pp.toNat - k = r + 1 := ⟨pp.toNat - k - 1, by omega⟩
      rw [hr] at hR
      obtain ⟨m, b1, d2, c1, hjm, hmf, hR2, hd⟩ := hR
      have htb := Tab.cons c1 Tab.nil
      unfold tForm at htb
      repeat' (first | (with_reducible first | apply w1 | apply w2 | apply w3 | apply w4 | apply w5 | apply w6 | apply w7 | apply w8 | apply w9 | apply wa | apply wb | apply wc) | ((with_reducible apply wd); focus decide) | ((with_reducible apply we); focus exact rfl) | ((with_reducible apply wf); focus exact rfl) | ((first | (with_reducible apply SW_run tt_ok hG htb) | ((with_reducible apply SW_draw rfl tt_ok hG htb); (focus kernel_rfl); focus simp only [List.range, List.range.loop, List.size_toArray, List.length_cons, List.length_nil, Nat.reduceAdd])); focus ((repeat' (first | (with_reducible first | exact wg | exact wh) | ((with_reducible first | apply wi | apply wj); focus (simp (discharger := omega) only [go_sem, tSet, simprocAttr]; with_reducible rfl)))); done)))
      refine SW_loop (fun mm s => ∃ (v : Nat) (q : Nat → Bool), mm = 5 - v ∧ s = ⟨79, [(0, .t (.list (f.map tNode))), (1, .t (tNat i)), (4, .bptr 0 0), (6, .bptr 1 0), (9, .t (tNat m)), (33, .t (tInt pp)), (34, .t (tNat k)), (42, .t (tSet b1)), (43, .t (tNat v))], [.box [.t (.bool false), .t (.bool false), .t (.bool false), .t (.bool false), .t (.bool false)], .box [.t (.bool (q 0)), .t (.bool (q 1)), .t (.bool (q 2)), .t (.bool (q 3)), .t (.bool (q 4))]]⟩ ∧ v ≤ 5 ∧ ∀ x : Nat, q x = if x < v then (g x || b1 x) else g x) 5
        ⟨_, Norm.headS (own := []) (keep := [0, 1, 4, 6, 9, 33, 34, 42, 43]) (by refine ⟨?_, ?_⟩; (simp (discharger := omega) only [go_sem, simprocAttr]; with_reducible rfl); refine ⟨?_, ?_, ?_, ?_⟩ <;> (simp only [go_sem, simprocAttr]; with_reducible rfl)), 0, g, rfl, rfl, by omega, fun x => by simp⟩ ?_
      rintro mm s ⟨v, q, rfl, rfl, hv, hq⟩
      by_cases hv5 : v < 5
      · have hvc : v = 0 ∨ v = 1 ∨ v = 2 ∨ v = 3 ∨ v = 4 := by omega
        rcases hvc with rfl | rfl | rfl | rfl | rfl
        · cases hqv : q 0 with
          | true =>
            repeat' (first | (with_reducible first | apply w1 | apply w2 | apply w3 | apply w4 | apply w5 | apply w6 | apply w7 | apply w8 | apply w9 | apply wa | apply wb | apply wc) | ((with_reducible apply wd); focus decide) | ((with_reducible apply we); focus exact rfl) | ((with_reducible apply wf); focus exact rfl) | ((first | (with_reducible apply SW_run tt_ok hG htb) | ((with_reducible apply SW_draw rfl tt_ok hG htb); (focus kernel_rfl); focus simp only [List.range, List.range.loop, List.size_toArray, List.length_cons, List.length_nil, Nat.reduceAdd])); focus ((repeat' (first | (with_reducible first | exact wg | exact wh) | ((with_reducible first | apply wi | apply wj); focus (simp (discharger := omega) only [go_sem, tSet, hqv, simprocAttr]; with_reducible rfl)))); done)))
            exact ⟨5 - (0 + 1), _, by omega, Norm.headS (own := []) (keep := [0, 1, 4, 6, 9, 33, 34, 42, 43]) (by refine ⟨?_, ?_⟩; (simp (discharger := omega) only [go_sem, simprocAttr]; with_reducible rfl); refine ⟨?_, ?_, ?_, ?_⟩ <;> (simp only [go_sem, simprocAttr]; with_reducible rfl)), 0 + 1, fun k => if k = 0 then true else q k, rfl, rfl, by omega, fun x => by
              have h1 := hq x
              dsimp only
              by_cases e : x = 0
              · subst e
                rw [if_neg (by omega)] at h1
                rw [if_pos rfl, if_pos (by omega), ← h1, hqv]; rfl
              · rw [if_neg e, h1]
                by_cases e2 : x < 0
                · rw [if_pos e2, if_pos (by omega)]
                · rw [if_neg e2, if_neg (by omega)]⟩
          | false =>
            repeat' (first | (with_reducible first | apply w1 | apply w2 | apply w3 | apply w4 | apply w5 | apply w6 | apply w7 | apply w8 | apply w9 | apply wa | apply wb | apply wc) | ((with_reducible apply wd); focus decide) | ((with_reducible apply we); focus exact rfl) | ((with_reducible apply wf); focus exact rfl) | ((first | (with_reducible apply SW_run tt_ok hG htb) | ((with_reducible apply SW_draw rfl tt_ok hG htb); (focus kernel_rfl); focus simp only [List.range, List.range.loop, List.size_toArray, List.length_cons, List.length_nil, Nat.reduceAdd])); focus ((repeat' (first | (with_reducible first | exact wg | exact wh) | ((with_reducible first | apply wi | apply wj); focus (simp (discharger := omega) only [go_sem, tSet, hqv, simprocAttr]; with_reducible rfl)))); done)))
            exact ⟨5 - (0 + 1), _, by omega, Norm.headS (own := []) (keep := [0, 1, 4, 6, 9, 33, 34, 42, 43]) (by refine ⟨?_, ?_⟩; (simp (discharger := omega) only [go_sem, simprocAttr]; with_reducible rfl); refine ⟨?_, ?_, ?_, ?_⟩ <;> (simp only [go_sem, simprocAttr]; with_reducible rfl)), 0 + 1, fun k => if k = 0 then b1 0 else q k, rfl, rfl, by omega, fun x => by
              have h1 := hq x
              dsimp only
              by_cases e : x = 0
              · subst e
                rw [if_neg (by omega)] at h1
                rw [if_pos rfl, if_pos (by omega), ← h1, hqv]; rfl
              · rw [if_neg e, h1]
                by_cases e2 : x < 0
                · rw [if_pos e2, if_pos (by omega)]
                · rw [if_neg e2, if_neg (by omega)]⟩
        · cases hqv : q 1 with
          | true =>
            repeat' (first | (with_reducible first | apply w1 | apply w2 | apply w3 | apply w4 | apply w5 | apply w6 | apply w7 | apply w8 | apply w9 | apply wa | apply wb | apply wc) | ((with_reducible apply wd); focus decide) | ((with_reducible apply we); focus exact rfl) | ((with_reducible apply wf); focus exact rfl) | ((first | (with_reducible apply SW_run tt_ok hG htb) | ((with_reducible apply SW_draw rfl tt_ok hG htb); (focus kernel_rfl); focus simp only [List.range, List.range.loop, List.size_toArray, List.length_cons, List.length_nil, Nat.reduceAdd])); focus ((repeat' (first | (with_reducible first | exact wg | exact wh) | ((with_reducible first | apply wi | apply wj); focus (simp (discharger := omega) only [go_sem, tSet, hqv, simprocAttr]; with_reducible rfl)))); done)))
            exact ⟨5 - (1 + 1), _, by omega, Norm.headS (own := []) (keep := [0, 1, 4, 6, 9, 33, 34, 42, 43]) (by refine ⟨?_, ?_⟩; (simp (discharger := omega) only [go_sem, simprocAttr]; with_reducible rfl); refine ⟨?_, ?_, ?_, ?_⟩ <;> (simp only [go_sem, simprocAttr]; with_reducible rfl)), 1 + 1, fun k => if k = 1 then true else q k, rfl, rfl, by omega, fun x => by
              have h1 := hq x
              dsimp only
              by_cases e : x = 1
              · subst e
                rw [if_neg (by omega)] at h1
                rw [if_pos rfl, if_pos (by omega), ← h1, hqv]; rfl
              · rw [if_neg e, h1]
                by_cases e2 : x < 1
                · rw [if_pos e2, if_pos (by omega)]
                · rw [if_neg e2, if_neg (by omega)]⟩
          | false =>
            repeat' (first | (with_reducible first | apply w1 | apply w2 | apply w3 | apply w4 | apply w5 | apply w6 | apply w7 | apply w8 | apply w9 | apply wa | apply wb | apply wc) | ((with_reducible apply wd); focus decide) | ((with_reducible apply we); focus exact rfl) | ((with_reducible apply wf); focus exact rfl) | ((first | (with_reducible apply SW_run tt_ok hG htb) | ((with_reducible apply SW_draw rfl tt_ok hG htb); (focus kernel_rfl); focus simp only [List.range, List.range.loop, List.size_toArray, List.length_cons, List.length_nil, Nat.reduceAdd])); focus ((repeat' (first | (with_reducible first | exact wg | exact wh) | ((with_reducible first | apply wi | apply wj); focus (simp (discharger := omega) only [go_sem, tSet, hqv, simprocAttr]; with_reducible rfl)))); done)))
            exact ⟨5 - (1 + 1), _, by omega, Norm.headS (own := []) (keep := [0, 1, 4, 6, 9, 33, 34, 42, 43]) (by refine ⟨?_, ?_⟩; (simp (discharger := omega) only [go_sem, simprocAttr]; with_reducible rfl); refine ⟨?_, ?_, ?_, ?_⟩ <;> (simp only [go_sem, simprocAttr]; with_reducible rfl)), 1 + 1, fun k => if k = 1 then b1 1 else q k, rfl, rfl, by omega, fun x => by
              have h1 := hq x
              dsimp only
              by_cases e : x = 1
              · subst e
                rw [if_neg (by omega)] at h1
                rw [if_pos rfl, if_pos (by omega), ← h1, hqv]; rfl
              · rw [if_neg e, h1]
                by_cases e2 : x < 1
                · rw [if_pos e2, if_pos (by omega)]
                · rw [if_neg e2, if_neg (by omega)]⟩
        · cases hqv : q 2 with
          | true =>
            repeat' (first | (with_reducible first | apply w1 | apply w2 | apply w3 | apply w4 | apply w5 | apply w6 | apply w7 | apply w8 | apply w9 | apply wa | apply wb | apply wc) | ((with_reducible apply wd); focus decide) | ((with_reducible apply we); focus exact rfl) | ((with_reducible apply wf); focus exact rfl) | ((first | (with_reducible apply SW_run tt_ok hG htb) | ((with_reducible apply SW_draw rfl tt_ok hG htb); (focus kernel_rfl); focus simp only [List.range, List.range.loop, List.size_toArray, List.length_cons, List.length_nil, Nat.reduceAdd])); focus ((repeat' (first | (with_reducible first | exact wg | exact wh) | ((with_reducible first | apply wi | apply wj); focus (simp (discharger := omega) only [go_sem, tSet, hqv, simprocAttr]; with_reducible rfl)))); done)))
            exact ⟨5 - (2 + 1), _, by omega, Norm.headS (own := []) (keep := [0, 1, 4, 6, 9, 33, 34, 42, 43]) (by refine ⟨?_, ?_⟩; (simp (discharger := omega) only [go_sem, simprocAttr]; with_reducible rfl); refine ⟨?_, ?_, ?_, ?_⟩ <;> (simp only [go_sem, simprocAttr]; with_reducible rfl)), 2 + 1, fun k => if k = 2 then true else q k, rfl, rfl, by omega, fun x => by
              have h1 := hq x
              dsimp only
              by_cases e : x = 2
              · subst e
                rw [if_neg (by omega)] at h1
                rw [if_pos rfl, if_pos (by omega), ← h1, hqv]; rfl
              · rw [if_neg e, h1]
                by_cases e2 : x < 2
                · rw [if_pos e2, if_pos (by omega)]
                · rw [if_neg e2, if_neg (by omega)]⟩
          | false =>
            repeat' (first | (with_reducible first | apply w1 | apply w2 | apply w3 | apply w4 | apply w5 | apply w6 | apply w7 | apply w8 | apply w9 | apply wa | apply wb | apply wc) | ((with_reducible apply wd); focus decide) | ((with_reducible apply we); focus exact rfl) | ((with_reducible apply wf); focus exact rfl) | ((first | (with_reducible apply SW_run tt_ok hG htb) | ((with_reducible apply SW_draw rfl tt_ok hG htb); (focus kernel_rfl); focus simp only [List.range, List.range.loop, List.size_toArray, List.length_cons, List.length_nil, Nat.reduceAdd])); focus ((repeat' (first | (with_reducible first | exact wg | exact wh) | ((with_reducible first | apply wi | apply wj); focus (simp (discharger := omega) only [go_sem, tSet, hqv, simprocAttr]; with_reducible rfl)))); done)))
            exact ⟨5 - (2 + 1), _, by omega, Norm.headS (own := []) (keep := [0, 1, 4, 6, 9, 33, 34, 42, 43]) (by refine ⟨?_, ?_⟩; (simp (discharger := omega) only [go_sem, simprocAttr]; with_reducible rfl); refine ⟨?_, ?_, ?_, ?_⟩ <;> (simp only [go_sem, simprocAttr]; with_reducible rfl)), 2 + 1, fun k => if k = 2 then b1 2 else q k, rfl, rfl, by omega, fun x => by
              have h1 := hq x
              dsimp only
              by_cases e : x = 2
              · subst e
                rw [if_neg (by omega)] at h1
                rw [if_pos rfl, if_pos (by omega), ← h1, hqv]; rfl
              · rw [if_neg e, h1]
                by_cases e2 : x < 2
                · rw [if_pos e2, if_pos (by omega)]
                · rw [if_neg e2, if_neg (by omega)]⟩
        · cases hqv : q 3 with
          | true =>
            repeat' (first | (with_reducible first | apply w1 | apply w2 | apply w3 | apply w4 | apply w5 | apply w6 | apply w7 | apply w8 | apply w9 | apply wa | apply wb | apply wc) | ((with_reducible apply wd); focus decide) | ((with_reducible apply we); focus exact rfl) | ((with_reducible apply wf); focus exact rfl) | ((first | (with_reducible apply SW_run tt_ok hG htb) | ((with_reducible apply SW_draw rfl tt_ok hG htb); (focus kernel_rfl); focus simp only [List.range, List.range.loop, List.size_toArray, List.length_cons, List.length_nil, Nat.reduceAdd])); focus ((repeat' (first | (with_reducible first | exact wg | exact wh) | ((with_reducible first | apply wi | apply wj); focus (simp (discharger := omega) only [go_sem, tSet, hqv, simprocAttr]; with_reducible rfl)))); done)))
            exact ⟨5 - (3 + 1), _, by omega, Norm.headS (own := []) (keep := [0, 1, 4, 6, 9, 33, 34, 42, 43]) (by refine ⟨?_, ?_⟩; (simp (discharger := omega) only [go_sem, simprocAttr]; with_reducible rfl); refine ⟨?_, ?_, ?_, ?_⟩ <;> (simp only [go_sem, simprocAttr]; with_reducible rfl)), 3 + 1, fun k => if k = 3 then true else q k, rfl, rfl, by omega, fun x => by
              have h1 := hq x
              dsimp only
              by_cases e : x = 3
              · subst e
                rw [if_neg (by omega)] at h1
                rw [if_pos rfl, if_pos (by omega), ← h1, hqv]; rfl
              · rw [if_neg e, h1]
                by_cases e2 : x < 3
                · rw [if_pos e2, if_pos (by omega)]
                · rw [if_neg e2, if_neg (by omega)]⟩
          | false =>
            repeat' (first | (with_reducible first | apply w1 | apply w2 | apply w3 | apply w4 | apply w5 | apply w6 | apply w7 | apply w8 | apply w9 | apply wa | apply wb | apply wc) | ((with_reducible apply wd); focus decide) | ((with_reducible apply we); focus exact rfl) | ((with_reducible apply wf); focus exact rfl) | ((first | (with_reducible apply SW_run tt_ok hG htb) | ((with_reducible apply SW_draw rfl tt_ok hG htb); (focus kernel_rfl); focus simp only [List.range, List.range.loop, List.size_toArray, List.length_cons, List.length_nil, Nat.reduceAdd])); focus ((repeat' (first | (with_reducible first | exact wg | exact wh) | ((with_reducible first | apply wi | apply wj); focus (simp (discharger := omega) only [go_sem, tSet, hqv, simprocAttr]; with_reducible rfl)))); done)))
            exact ⟨5 - (3 + 1), _, by omega, Norm.headS (own := []) (keep := [0, 1, 4, 6, 9, 33, 34, 42, 43]) (by refine ⟨?_, ?_⟩; (simp (discharger := omega) only [go_sem, simprocAttr]; with_reducible rfl); refine ⟨?_, ?_, ?_, ?_⟩ <;> (simp only [go_sem, simprocAttr]; with_reducible rfl)), 3 + 1, fun k => if k = 3 then b1 3 else q k, rfl, rfl, by omega, fun x => by
              have h1 := hq x
              dsimp only
              by_cases e : x = 3
              · subst e
                rw [if_neg (by omega)] at h1
                rw [if_pos rfl, if_pos (by omega), ← h1, hqv]; rfl
              · rw [if_neg e, h1]
                by_cases e2 : x < 3
                · rw [if_pos e2, if_pos (by omega)]
                · rw [if_neg e2, if_neg (by omega)]⟩
        · cases hqv : q 4 with
          | true =>
            repeat' (first | (with_reducible first | apply w1 | apply w2 | apply w3 | apply w4 | apply w5 | apply w6 | apply w7 | apply w8 | apply w9 | apply wa | apply wb | apply wc) | ((with_reducible apply wd); focus decide) | ((with_reducible apply we); focus exact rfl) | ((with_reducible apply wf); focus exact rfl) | ((first | (with_reducible apply SW_run tt_ok hG htb) | ((with_reducible apply SW_draw rfl tt_ok hG htb); (focus kernel_rfl); focus simp only [List.range, List.range.loop, List.size_toArray, List.length_cons, List.length_nil, Nat.reduceAdd])); focus ((repeat' (first | (with_reducible first | exact wg | exact wh) | ((with_reducible first | apply wi | apply wj); focus (simp (discharger := omega) only [go_sem, tSet, hqv, simprocAttr]; with_reducible rfl)))); done)))
            exact ⟨5 - (4 + 1), _, by omega, Norm.headS (own := []) (keep := [0, 1, 4, 6, 9, 33, 34, 42, 43]) (by refine ⟨?_, ?_⟩; (simp (discharger := omega) only [go_sem, simprocAttr]; with_reducible rfl); refine ⟨?_, ?_, ?_, ?_⟩ <;> (simp only [go_sem, simprocAttr]; with_reducible rfl)), 4 + 1, fun k => if k = 4 then true else q k, rfl, rfl, by omega, fun x => by
              have h1 := hq x
              dsimp only
              by_cases e : x = 4
              · subst e
                rw [if_neg (by omega)] at h1
                rw [if_pos rfl, if_pos (by omega), ← h1, hqv]; rfl
              · rw [if_neg e, h1]
                by_cases e2 : x < 4
                · rw [if_pos e2, if_pos (by omega)]
                · rw [if_neg e2, if_neg (by omega)]⟩
          | false =>
            repeat' (first | (with_reducible first | apply w1 | apply w2 | apply w3 | apply w4 | apply w5 | apply w6 | apply w7 | apply w8 | apply w9 | apply wa | apply wb | apply wc) | ((with_reducible apply wd); focus decide) | ((with_reducible apply we); focus exact rfl) | ((with_reducible apply wf); focus exact rfl) | ((first | (with_reducible apply SW_run tt_ok hG htb) | ((with_reducible apply SW_draw rfl tt_ok hG htb); (focus kernel_rfl); focus simp only [List.range, List.range.loop, List.size_toArray, List.length_cons, List.length_nil, Nat.reduceAdd])); focus ((repeat' (first | (with_reducible first | exact wg | exact wh) | ((with_reducible first | apply wi | apply wj); focus (simp (discharger := omega) only [go_sem, tSet, hqv, simprocAttr]; with_reducible rfl)))); done)))
            exact ⟨5 - (4 + 1), _, by omega, Norm.headS (own := []) (keep := [0, 1, 4, 6, 9, 33, 34, 42, 43]) (by refine ⟨?_, ?_⟩; (simp (discharger := omega) only [go_sem, simprocAttr]; with_reducible rfl); refine ⟨?_, ?_, ?_, ?_⟩ <;> (simp only [go_sem, simprocAttr]; with_reducible rfl)), 4 + 1, fun k => if k = 4 then b1 4 else q k, rfl, rfl, by omega, fun x => by
              have h1 := hq x
              dsimp only
              by_cases e : x = 4
              · subst e
                rw [if_neg (by omega)] at h1
                rw [if_pos rfl, if_pos (by omega), ← h1, hqv]; rfl
              · rw [if_neg e, h1]
                by_cases e2 : x < 4
                · rw [if_pos e2, if_pos (by omega)]
                · rw [if_neg e2, if_neg (by omega)]⟩
      · obtain rfl : v = 5 := by omega
        repeat' (first | (with_reducible first | apply w1 | apply w2 | apply w3 | apply w4 | apply w5 | apply w6 | apply w7 | apply w8 | apply w9 | apply wa | apply wb | apply wc) | ((with_reducible apply wd); focus decide) | ((with_reducible apply we); focus exact rfl) | ((with_reducible apply wf); focus exact rfl) | ((first | (with_reducible apply SW_run tt_ok hG htb) | ((with_reducible apply SW_draw rfl tt_ok hG htb); (focus kernel_rfl); focus simp only [List.range, List.range.loop, List.size_toArray, List.length_cons, List.length_nil, Nat.reduceAdd])); focus ((repeat' (first | (with_reducible first | exact wg | exact wh) | ((with_reducible first | apply wi | apply wj); focus (simp (discharger := omega) only [go_sem, simprocAttr]; with_reducible rfl)))); done)))
        exact ⟨pp.toNat - (k + 1), _, by omega, Norm.headS (own := []) (keep := [0, 1, 4, 6, 9, 33, 34]) (by refine ⟨?_, ?_⟩; (simp (discharger := omega) only [go_sem, simprocAttr]; with_reducible rfl); refine ⟨?_, ?_, ?_, ?_⟩ <;> (simp only [go_sem, simprocAttr]; with_reducible rfl)), k + 1, m, q, d2, rfl, rfl, by omega, by rw [show pp.toNat - (k + 1) = r by omega]; exact hR2, fun x hx => by
          rw [hbt x hx, hq x, if_pos hx, hd x, Bool.or_assoc], hmf⟩
    · rw [show pp.toNat - k = 0 by omega] at hR
      obtain ⟨rfl, hd⟩ := hR
      have hbt : ∀ x : Nat, x < 5 → b x = if (op = 8 ∨ op = 9) ∧ var = (x : Int) then false else g x := fun x hx => by rw [hbt x hx, hd x, Bool.or_false]
      have htb : Tab.ok Tryd.prog G [] := Tab.nil
      by_cases h89 : op = 8 ∨ op = 9
      · have hvb := hvar h89
        have hvc : var = 0 ∨ var = 1 ∨ var = 2 ∨ var = 3 ∨ var = 4 := by omega
        rcases hvc with rfl | rfl | rfl | rfl | rfl
        · have hs : tSet b = .agg [.bool false, .bool (g 1), .bool (g 2), .bool (g 3), .bool (g 4)] := by
            unfold tSet
            rw [hbt 0 (by omega), hbt 1 (by omega), hbt 2 (by omega), hbt 3 (by omega), hbt 4 (by omega)]
            simp [h89]
          rw [hs]
          rcases h89 with rfl | rfl
          · repeat' (first | (with_reducible first | apply w1 | apply w2 | apply w3 | apply w4 | apply w5 | apply w6 | apply w7 | apply w8 | apply w9 | apply wa | apply wb | apply wc) | ((with_reducible apply wd); focus decide) | ((with_reducible apply we); focus exact rfl) | ((with_reducible apply wf); focus exact rfl) | ((first | (with_reducible apply SW_run tt_ok hG htb) | ((with_reducible apply SW_draw rfl tt_ok hG htb); (focus kernel_rfl); focus simp only [List.range, List.range.loop, List.size_toArray, List.length_cons, List.length_nil, Nat.reduceAdd])); focus ((repeat' (first | (with_reducible first | exact wg | exact wh) | ((with_reducible first | apply wi | apply wj); focus (simp (discharger := omega) only [go_sem, hn1, tNode, simprocAttr]; with_reducible rfl)))); done)))
            exact (by simp (discharger := omega) only [go_sem, simprocAttr])
          · repeat' (first | (with_reducible first | apply w1 | apply w2 | apply w3 | apply w4 | apply w5 | apply w6 | apply w7 | apply w8 | apply w9 | apply wa | apply wb | apply wc) | ((with_reducible apply wd); focus decide) | ((with_reducible apply we); focus exact rfl) | ((with_reducible apply wf); focus exact rfl) | ((first | (with_reducible apply SW_run tt_ok hG htb) | ((with_reducible apply SW_draw rfl tt_ok hG htb); (focus kernel_rfl); focus simp only [List.range, List.range.loop, List.size_toArray, List.length_cons, List.length_nil, Nat.reduceAdd])); focus ((repeat' (first | (with_reducible first | exact wg | exact wh) | ((with_reducible first | apply wi | apply wj); focus (simp (discharger := omega) only [go_sem, hn1, tNode, simprocAttr]; with_reducible rfl)))); done)))
            exact (by simp (discharger := omega) only [go_sem, simprocAttr])
        · have hs : tSet b = .agg [.bool (g 0), .bool false, .bool (g 2), .bool (g 3), .bool (g 4)] := by
            unfold tSet
            rw [hbt 0 (by omega), hbt 1 (by omega), hbt 2 (by omega), hbt 3 (by omega), hbt 4 (by omega)]
            simp [h89]
          rw [hs]
          rcases h89 with rfl | rfl
          · repeat' (first | (with_reducible first | apply w1 | apply w2 | apply w3 | apply w4 | apply w5 | apply w6 | apply w7 | apply w8 | apply w9 | apply wa | apply wb | apply wc) | ((with_reducible apply wd); focus decide) | ((with_reducible apply we); focus exact rfl) | ((with_reducible apply wf); focus exact rfl) | ((first | (with_reducible apply SW_run tt_ok hG htb) | ((with_reducible apply SW_draw rfl tt_ok hG htb); (focus kernel_rfl); focus simp only [List.range, List.range.loop, List.size_toArray, List.length_cons, List.length_nil, Nat.reduceAdd])); focus ((repeat' (first | (with_reducible first | exact wg | exact wh) | ((with_reducible first | apply wi | apply wj); focus (simp (discharger := omega) only [go_sem, hn1, tNode, simprocAttr]; with_reducible rfl)))); done)))
            exact (by simp (discharger := omega) only [go_sem, simprocAttr])
          · repeat' (first | (with_reducible first | apply w1 | apply w2 | apply w3 | apply w4 | apply w5 | apply w6 | apply w7 | apply w8 | apply w9 | apply wa | apply wb | apply wc) | ((with_reducible apply wd); focus decide) | ((with_reducible apply we); focus exact rfl) | ((with_reducible apply wf); focus exact rfl) | ((first | (with_reducible apply SW_run tt_ok hG htb) | ((with_reducible apply SW_draw rfl tt_ok hG htb); (focus kernel_rfl); focus simp only [List.range, List.range.loop, List.size_toArray, List.length_cons, List.length_nil, Nat.reduceAdd])); focus ((repeat' (first | (with_reducible first | exact wg | exact wh) | ((with_reducible first | apply wi | apply wj); focus (simp (discharger := omega) only [go_sem, hn1, tNode, simprocAttr]; with_reducible rfl)))); done)))
            exact (by simp (discharger := omega) only [go_sem, simprocAttr])
        · have hs : tSet b = .agg [.bool (g 0), .bool (g 1), .bool false, .bool (g 3), .bool (g 4)] := by
            unfold tSet
            rw [hbt 0 (by omega), hbt 1 (by omega), hbt 2 (by omega), hbt 3 (by omega), hbt 4 (by omega)]
            simp [h89]
          rw [hs]
          rcases h89 with rfl | rfl
          · repeat' (first | (with_reducible first | apply w1 | apply w2 | apply w3 | apply w4 | apply w5 | apply w6 | apply w7 | apply w8 | apply w9 | apply wa | apply wb | apply wc) | ((with_reducible apply wd); focus decide) | ((with_reducible apply we); focus exact rfl) | ((with_reducible apply wf); focus exact rfl) | ((first | (with_reducible apply SW_run tt_ok hG htb) | ((with_reducible apply SW_draw rfl tt_ok hG htb); (focus kernel_rfl); focus simp only [List.range, List.range.loop, List.size_toArray, List.length_cons, List.length_nil, Nat.reduceAdd])); focus ((repeat' (first | (with_reducible first | exact wg | exact wh) | ((with_reducible first | apply wi | apply wj); focus (simp (discharger := omega) only [go_sem, hn1, tNode, simprocAttr]; with_reducible rfl)))); done)))
            exact (by simp (discharger := omega) only [go_sem, simprocAttr])
          · repeat' (first | (with_reducible first | apply w1 | apply w2 | apply w3 | apply w4 | apply w5 | apply w6 | apply w7 | apply w8 | apply w9 | apply wa | apply wb | apply wc) | ((with_reducible apply wd); focus decide) | ((with_reducible apply we); focus exact rfl) | ((with_reducible apply wf); focus exact rfl) | ((first | (with_reducible apply SW_run tt_ok hG htb) | ((with_reducible apply SW_draw rfl tt_ok hG htb); (focus kernel_rfl); focus simp only [List.range, List.range.loop, List.size_toArray, List.length_cons, List.length_nil, Nat.reduceAdd])); focus ((repeat' (first | (with_reducible first | exact wg | exact wh) | ((with_reducible first | apply wi | apply wj); focus (simp (discharger := omega) only [go_sem, hn1, tNode, simprocAttr]; with_reducible rfl)))); done)))
            exact (by simp (discharger := omega) only [go_sem, simprocAttr])
        · have hs : tSet b = .agg [.bool (g 0), .bool (g 1), .bool (g 2), .bool false, .bool (g 4)] := by
            unfold tSet
            rw [hbt 0 (by omega), hbt 1 (by omega), hbt 2 (by omega), hbt 3 (by omega), hbt 4 (by omega)]
            simp [h89]
          rw [hs]
          rcases h89 with rfl | rfl
          · repeat' (first | (with_reducible first | apply w1 | apply w2 | apply w3 | apply w4 | apply w5 | apply w6 | apply w7 | apply w8 | apply w9 | apply wa | apply wb | apply wc) | ((with_reducible apply wd); focus decide) | ((with_reducible apply we); focus exact rfl) | ((with_reducible apply wf); focus exact rfl) | ((first | (with_reducible apply SW_run tt_ok hG htb) | ((with_reducible apply SW_draw rfl tt_ok hG htb); (focus kernel_rfl); focus simp only [List.range, List.range.loop, List.size_toArray, List.length_cons, List.length_nil, Nat.reduceAdd])); focus ((repeat' (first | (with_reducible first | exact wg | exact wh) | ((with_reducible first | apply wi | apply wj); focus (simp (discharger := omega) only [go_sem, hn1, tNode, simprocAttr]; with_reducible rfl)))); done)))
            exact (by simp (discharger := omega) only [go_sem, simprocAttr])
          · repeat' (first | (with_reducible first | apply w1 | apply w2 | apply w3 | apply w4 | apply w5 | apply w6 | apply w7 | apply w8 | apply w9 | apply wa | apply wb | apply wc) | ((with_reducible apply wd); focus decide) | ((with_reducible apply we); focus exact rfl) | ((with_reducible apply wf); focus exact rfl) | ((first | (with_reducible apply SW_run tt_ok hG htb) | ((with_reducible apply SW_draw rfl tt_ok hG htb); (focus kernel_rfl); focus simp only [List.range, List.range.loop, List.size_toArray, List.length_cons, List.length_nil, Nat.reduceAdd])); focus ((repeat' (first | (with_reducible first | exact wg | exact wh) | ((with_reducible first | apply wi | apply wj); focus (simp (discharger := omega) only [go_sem, hn1, tNode, simprocAttr]; with_reducible rfl)))); done)))
            exact (by simp (discharger := omega) only [go_sem, simprocAttr])
        · have hs : tSet b = .agg [.bool (g 0), .bool (g 1), .bool (g 2), .bool (g 3), .bool false] := by
            unfold tSet
            rw [hbt 0 (by omega), hbt 1 (by omega), hbt 2 (by omega), hbt 3 (by omega), hbt 4 (by omega)]
            simp [h89]
          rw [hs]
          rcases h89 with rfl | rfl
          · repeat' (first | (with_reducible first | apply w1 | apply w2 | apply w3 | apply w4 | apply w5 | apply w6 | apply w7 | apply w8 | apply w9 | apply wa | apply wb | apply wc) | ((with_reducible apply wd); focus decide) | ((with_reducible apply we); focus exact rfl) | ((with_reducible apply wf); focus exact rfl) | ((first | (with_reducible apply SW_run tt_ok hG htb) | ((with_reducible apply SW_draw rfl tt_ok hG htb); (focus kernel_rfl); focus simp only [List.range, List.range.loop, List.size_toArray, List.length_cons, List.length_nil, Nat.reduceAdd])); focus ((repeat' (first | (with_reducible first | exact wg | exact wh) | ((with_reducible first | apply wi | apply wj); focus (simp (discharger := omega) only [go_sem, hn1, tNode, simprocAttr]; with_reducible rfl)))); done)))
            exact (by simp (discharger := omega) only [go_sem, simprocAttr])
          · repeat' (first | (with_reducible first | apply w1 | apply w2 | apply w3 | apply w4 | apply w5 | apply w6 | apply w7 | apply w8 | apply w9 | apply wa | apply wb | apply wc) | ((with_reducible apply wd); focus decide) | ((with_reducible apply we); focus exact rfl) | ((with_reducible apply wf); focus exact rfl) | ((first | (with_reducible apply SW_run tt_ok hG htb) | ((with_reducible apply SW_draw rfl tt_ok hG htb); (focus kernel_rfl); focus simp only [List.range, List.range.loop, List.size_toArray, List.length_cons, List.length_nil, Nat.reduceAdd])); focus ((repeat' (first | (with_reducible first | exact wg | exact wh) | ((with_reducible first | apply wi | apply wj); focus (simp (discharger := omega) only [go_sem, hn1, tNode, simprocAttr]; with_reducible rfl)))); done)))
            exact (by simp (discharger := omega) only [go_sem, simprocAttr])
      · have n8 : ¬ op = 8 := fun e => h89 (.inl e)
        have n9 : ¬ op = 9 := fun e => h89 (.inr e)
        have hs : tSet b = .agg [.bool (g 0), .bool (g 1), .bool (g 2), .bool (g 3), .bool (g 4)] := by
          unfold tSet
          rw [hbt 0 (by omega), hbt 1 (by omega), hbt 2 (by omega), hbt 3 (by omega), hbt 4 (by omega)]
          simp [n8, n9]
        rw [hs]
        repeat' (first | (with_reducible first | apply w1 | apply w2 | apply w3 | apply w4 | apply w5 | apply w6 | apply w7 | apply w8 | apply w9 | apply wa | apply wb | apply wc) | ((with_reducible apply wd); focus decide) | ((with_reducible apply we); focus exact rfl) | ((with_reducible apply wf); focus exact rfl) | ((first | (with_reducible apply SW_run tt_ok hG htb) | ((with_reducible apply SW_draw rfl tt_ok hG htb); (focus kernel_rfl); focus simp only [List.range, List.range.loop, List.size_toArray, List.length_cons, List.length_nil, Nat.reduceAdd])); focus ((repeat' (first | (with_reducible first | exact wg | exact wh) | ((with_reducible first | apply wi | apply wj); focus (simp (discharger := omega) only [go_sem, hn1, tNode, n8, n9, simprocAttr]; with_reducible rfl)))); done)))
        exact (by simp (discharger := omega) only [go_sem, simprocAttr])
theorem free_snd {f : List GNode} (hl : f.length ≤ 40) (hne : ∀ n ∈ f, nodeErr n = 0) {i e : Nat} (h : Part f i e) : Snd Tryd.prog G 65 [tForm f, tNat i] (.tup [tSet fun k => freeP f i (k : Nat), tNat e]) := by
  induction h with
  | leaf hn hp =>
    have hi := (List.getElem?_eq_some_iff.1 hn).1
    refine free_step hG hl hn (hne _ (List.mem_of_getElem? hn)) (by omega) (fun _ => false) _ (by rw [hp]; exact ⟨rfl, fun _ => rfl⟩) fun k hk => ?_
    rw [freeP_leaf hn hp, if_neg (by
      rintro ⟨h8, _⟩
      unfold partsOf at hp
      rw [if_pos (by omega)] at hp; omega), Bool.or_false]
  | one hn hp h1 ih =>
    have hlt := h1.lt
    refine free_step hG hl hn (hne _ (List.mem_of_getElem? hn)) hlt.2 _ _ (by rw [hp]; exact ⟨_, _, fun _ => false, ih, hlt.1, hlt.2, ⟨rfl, fun _ => rfl⟩, fun k => (Bool.or_false _).symm⟩) fun k hk => ?_
    rw [freeP_one hn hp h1, usesN_parts (by rw [hp]; decide) _, Bool.false_or]
  | two hn hp h1 h2 ih1 ih2 =>
    have l1 := h1.lt
    have l2 := h2.lt
    refine free_step hG hl hn (hne _ (List.mem_of_getElem? hn)) l2.2 _ _ (by rw [hp]; exact ⟨_, _, _, ih1, l1.1, l1.2, ⟨_, _, fun _ => false, ih2, l2.1, l2.2, ⟨rfl, fun _ => rfl⟩, fun k => (Bool.or_false _).symm⟩, fun k => rfl⟩) fun k hk => ?_
    rw [freeP_two hn hp h1 h2, usesN_parts (by rw [hp]; decide) _, Bool.false_or, if_neg]
    rintro ⟨h8, _⟩
    unfold partsOf at hp
    rw [if_pos (by omega)] at hp; omega
end
end Go.Proofs.YtcaopcpofepniaaDoor
namespace Go.Proofs.YtcaopcpofepniaaDoor
open Go.RowKit
def freeV (f : List GNode) : List Int := if (formErr f).2 = 0 then freeL f else []
section
variable {G : World → Prop} (hG : Lasting G)
include hG
set_option maxHeartbeats 4000000 in
theorem FreeV_snd (f : List GNode) : Snd Tryd.prog G 35 [tForm f] (.tup [tInts (freeV f), tErr (formErr f).2]) := by
  have c1 := Check_form_snd hG f
  refine snd_of_body (n := 36) (tm := [(0, .t (tForm f))]) (rs := [.tmp 2, .tmp 3]) tt_ok Tryd.func35 rfl rfl rfl rfl rfl ?_
  unfold freeV
  by_cases h : (formErr f).2 = 0
  · obtain ⟨h0, hl, hne, hp, e1⟩ := form_ok h
    rw [if_pos h, freeL_take]
    rw [h, e1] at c1
    rw [h]
    have c2 : Snd Tryd.prog G 65 [tForm f, tInt 0] (.tup [tSet fun k => freeP f 0 (k : Nat), tNat f.length]) := free_snd hG hl hne hp
    have htb := Tab.cons c1 (Tab.cons c2 Tab.nil)
    generalize hq : (fun k : Nat => freeP f 0 (k : Nat)) = q at *
    have hqk : ∀ k : Nat, freeP f 0 (k : Int) = q k := fun k => by rw [← hq]
    clear hq c1 c2
    repeat' (first | (with_reducible first | apply w1 | apply w2 | apply w3 | apply w4 | apply w5 | apply w6 | apply w7 | apply w8 | apply w9 | apply wa | apply wb | apply wc) | ((with_reducible apply wd); focus decide) | ((with_reducible apply we); focus exact rfl) | ((with_reducible apply wf); focus exact rfl) | ((first | (with_reducible apply SW_run tt_ok hG htb) | ((with_reducible apply SW_draw rfl tt_ok hG htb); (focus kernel_rfl); focus simp only [List.range, List.range.loop, List.size_toArray, List.length_cons, List.length_nil, Nat.reduceAdd])); focus ((repeat' (first | (with_reducible first | exact wg | exact wh) | ((with_reducible first | apply wi | apply wj); focus (simp (discharger := omega) only [go_sem, tErr0, tSet, simprocAttr]; with_reducible rfl)))); done)))
    clear htb
    have htb : Tab.ok Tryd.prog G [] := Tab.nil
    refine SW_loop (fun mm s => ∃ (i : Nat) (ot : List T), mm = 5 - i ∧ s = ⟨36, [(8, .sref 0), (24, .t (tSet q)), (25, .t (tNat i))], [.row 3 1 false ot]⟩ ∧ i ≤ 5 ∧ ot = (((List.range i).filter q).map fun k => ((k : Nat) : Int)).map tInt ∧ ot.length ≤ i) 5
      ⟨_, Norm.headS (own := [(8, 3, 1, false)]) (keep := [8, 24, 25]) (by refine ⟨?_, ?_⟩; (simp (discharger := omega) only [go_sem, simprocAttr]; with_reducible rfl); refine ⟨?_, ?_, ?_, ?_⟩ <;> (simp only [go_sem, simprocAttr]; with_reducible rfl)), 0, _, rfl, rfl, by omega, rfl, Nat.le_refl _⟩ ?_
    rintro mm s ⟨i, ot, rfl, rfl, hi, hot, hol⟩
    by_cases hlt : i < 5
    · have hcons : ∀ b, q i = b → (List.range (i + 1)).filter q = (List.range i).filter q ++ (if b = true then [i] else []) := fun b hb => by
        rw [List.range_succ, List.filter_append]
        congr 1
        simp only [List.filter_cons, List.filter_nil, hb]
      have hic : i = 0 ∨ i = 1 ∨ i = 2 ∨ i = 3 ∨ i = 4 := by omega
      rcases hic with rfl | rfl | rfl | rfl | rfl
      · cases hb : q 0 with
        | true =>
          repeat' (first | (with_reducible first | apply w1 | apply w2 | apply w3 | apply w4 | apply w5 | apply w6 | apply w7 | apply w8 | apply w9 | apply wa | apply wb | apply wc) | ((with_reducible apply wd); focus decide) | ((with_reducible apply we); focus exact rfl) | ((with_reducible apply wf); focus exact rfl) | ((first | (with_reducible apply SW_run tt_ok hG htb) | ((with_reducible apply SW_draw rfl tt_ok hG htb); (focus kernel_rfl); focus simp only [List.range, List.range.loop, List.size_toArray, List.length_cons, List.length_nil, Nat.reduceAdd])); focus ((repeat' (first | (with_reducible first | exact wg | exact wh) | ((with_reducible first | apply wi | apply wj); focus (simp (discharger := omega) only [go_sem, tSet, hb, simprocAttr]; with_reducible rfl)))); done)))
          exact ⟨5 - (0 + 1), _, by omega, Norm.headS (own := [(8, 3, 1, false)]) (keep := [8, 24, 25]) (by refine ⟨?_, ?_⟩; (simp (discharger := omega) only [go_sem, simprocAttr]; with_reducible rfl); refine ⟨?_, ?_, ?_, ?_⟩ <;> (simp only [go_sem, simprocAttr]; with_reducible rfl)), 0 + 1, ot ++ [tInt 0], rfl, (by unfold tSet; rw [hb]; first | done | rfl), by omega, by rw [hcons _ hb, if_pos rfl, List.map_append, List.map_append, hot]; rfl, by rw [List.length_append, List.length_singleton]; omega⟩
        | false =>
          repeat' (first | (with_reducible first | apply w1 | apply w2 | apply w3 | apply w4 | apply w5 | apply w6 | apply w7 | apply w8 | apply w9 | apply wa | apply wb | apply wc) | ((with_reducible apply wd); focus decide) | ((with_reducible apply we); focus exact rfl) | ((with_reducible apply wf); focus exact rfl) | ((first | (with_reducible apply SW_run tt_ok hG htb) | ((with_reducible apply SW_draw rfl tt_ok hG htb); (focus kernel_rfl); focus simp only [List.range, List.range.loop, List.size_toArray, List.length_cons, List.length_nil, Nat.reduceAdd])); focus ((repeat' (first | (with_reducible first | exact wg | exact wh) | ((with_reducible first | apply wi | apply wj); focus (simp (discharger := omega) only [go_sem, tSet, hb, simprocAttr]; with_reducible rfl)))); done)))
          exact ⟨5 - (0 + 1), _, by omega, Norm.headS (own := [(8, 3, 1, false)]) (keep := [8, 24, 25]) (by refine ⟨?_, ?_⟩; (simp (discharger := omega) only [go_sem, simprocAttr]; with_reducible rfl); refine ⟨?_, ?_, ?_, ?_⟩ <;> (simp only [go_sem, simprocAttr]; with_reducible rfl)), 0 + 1, ot, rfl, (by unfold tSet; rw [hb]; first | done | rfl), by omega, by rw [hcons _ hb, if_neg (by decide), List.append_nil, hot], by omega⟩
      · cases hb : q 1 with
        | true =>
          repeat' (first | (with_reducible first | apply w1 | apply w2 | apply w3 | apply w4 | apply w5 | apply w6 | apply w7 | apply w8 | apply w9 | apply wa | apply wb | apply wc) | ((with_reducible apply wd); focus decide) | ((with_reducible apply we); focus exact rfl) | ((with_reducible apply wf); focus exact rfl) | ((first | (with_reducible apply SW_run tt_ok hG htb) | ((with_reducible apply SW_draw rfl tt_ok hG htb); (focus kernel_rfl); focus simp only [List.range, List.range.loop, List.size_toArray, List.length_cons, List.length_nil, Nat.reduceAdd])); focus ((repeat' (first | (with_reducible first | exact wg | exact wh) | ((with_reducible first | apply wi | apply wj); focus (simp (discharger := omega) only [go_sem, tSet, hb, simprocAttr]; with_reducible rfl)))); done)))
          exact ⟨5 - (1 + 1), _, by omega, Norm.headS (own := [(8, 3, 1, false)]) (keep := [8, 24, 25]) (by refine ⟨?_, ?_⟩; (simp (discharger := omega) only [go_sem, simprocAttr]; with_reducible rfl); refine ⟨?_, ?_, ?_, ?_⟩ <;> (simp only [go_sem, simprocAttr]; with_reducible rfl)), 1 + 1, ot ++ [tInt 1], rfl, (by unfold tSet; rw [hb]; first | done | rfl), by omega, by rw [hcons _ hb, if_pos rfl, List.map_append, List.map_append, hot]; rfl, by rw [List.length_append, List.length_singleton]; omega⟩
        | false =>
          repeat' (first | (with_reducible first | apply w1 | apply w2 | apply w3 | apply w4 | apply w5 | apply w6 | apply w7 | apply w8 | apply w9 | apply wa | apply wb | apply wc) | ((with_reducible apply wd); focus decide) | ((with_reducible apply we); focus exact rfl) | ((with_reducible apply wf); focus exact rfl) | ((first | (with_reducible apply SW_run tt_ok hG htb) | ((with_reducible apply SW_draw rfl tt_ok hG htb); (focus kernel_rfl); focus simp only [List.range, List.range.loop, List.size_toArray, List.length_cons, List.length_nil, Nat.reduceAdd])); focus ((repeat' (first | (with_reducible first | exact wg | exact wh) | ((with_reducible first | apply wi | apply wj); focus (simp (discharger := omega) only [go_sem, tSet, hb, simprocAttr]; with_reducible rfl)))); done)))
          exact ⟨5 - (1 + 1), _, by omega, Norm.headS (own := [(8, 3, 1, false)]) (keep := [8, 24, 25]) (by refine ⟨?_, ?_⟩; (simp (discharger := omega) only [go_sem, simprocAttr]; with_reducible rfl); refine ⟨?_, ?_, ?_, ?_⟩ <;> (simp only [go_sem, simprocAttr]; with_reducible rfl)), 1 + 1, ot, rfl, (by unfold tSet; rw [hb]; first | done | rfl), by omega, by rw [hcons _ hb, if_neg (by decide), List.append_nil, hot], by omega⟩
      · cases hb : q 2 with
        | true =>
          repeat' (first | (with_reducible first | apply w1 | apply w2 | apply w3 | apply w4 | apply w5 | apply w6 | apply w7 | apply w8 | apply w9 | apply wa | apply wb | apply wc) | ((with_reducible apply wd); focus decide) | ((with_reducible apply we); focus exact rfl) | ((with_reducible apply wf); focus exact rfl) | ((first | (with_reducible apply SW_run tt_ok hG htb) | ((with_reducible apply SW_draw rfl tt_ok hG htb); (focus kernel_rfl); focus simp only [List.range, List.range.loop, List.size_toArray, List.length_cons, List.length_nil, Nat.reduceAdd])); focus ((repeat' (first | (with_reducible first | exact wg | exact wh) | ((with_reducible first | apply wi | apply wj); focus (simp (discharger := omega) only [go_sem, tSet, hb, simprocAttr]; with_reducible rfl)))); done)))
          exact ⟨5 - (2 + 1), _, by omega, Norm.headS (own := [(8, 3, 1, false)]) (keep := [8, 24, 25]) (by refine ⟨?_, ?_⟩; (simp (discharger := omega) only [go_sem, simprocAttr]; with_reducible rfl); refine ⟨?_, ?_, ?_, ?_⟩ <;> (simp only [go_sem, simprocAttr]; with_reducible rfl)), 2 + 1, ot ++ [tInt 2], rfl, (by unfold tSet; rw [hb]; first | done | rfl), by omega, by rw [hcons _ hb, if_pos rfl, List.map_append, List.map_append, hot]; rfl, by rw [List.length_append, List.length_singleton]; omega⟩
        | false =>
          repeat' (first | (with_reducible first | apply w1 | apply w2 | apply w3 | apply w4 | apply w5 | apply w6 | apply w7 | apply w8 | apply w9 | apply wa | apply wb | apply wc) | ((with_reducible apply wd); focus decide) | ((with_reducible apply we); focus exact rfl) | ((with_reducible apply wf); focus exact rfl) | ((first | (with_reducible apply SW_run tt_ok hG htb) | ((with_reducible apply SW_draw rfl tt_ok hG htb); (focus kernel_rfl); focus simp only [List.range, List.range.loop, List.size_toArray, List.length_cons, List.length_nil, Nat.reduceAdd])); focus ((repeat' (first | (with_reducible first | exact wg | exact wh) | ((with_reducible first | apply wi | apply wj); focus (simp (discharger := omega) only [go_sem, tSet, hb, simprocAttr]; with_reducible rfl)))); done)))
          exact ⟨5 - (2 + 1), _, by omega, Norm.headS (own := [(8, 3, 1, false)]) (keep := [8, 24, 25]) (by refine ⟨?_, ?_⟩; (simp (discharger := omega) only [go_sem, simprocAttr]; with_reducible rfl); refine ⟨?_, ?_, ?_, ?_⟩ <;> (simp only [go_sem, simprocAttr]; with_reducible rfl)), 2 + 1, ot, rfl, (by unfold tSet; rw [hb]; first | done | rfl), by omega, by rw [hcons _ hb, if_neg (by decide), List.append_nil, hot], by omega⟩
      · cases hb : q 3 with
        | true =>
          repeat' (first | (with_reducible first | apply w1 | apply w2 | apply w3 | apply w4 | apply w5 | apply w6 | apply w7 | apply w8 | apply w9 | apply wa | apply wb | apply wc) | ((with_reducible apply wd); focus decide) | ((with_reducible apply we); focus exact rfl) | ((with_reducible apply wf); focus exact rfl) | ((first | (with_reducible apply SW_run tt_ok hG htb) | ((with_reducible apply SW_draw rfl tt_ok hG htb); (focus kernel_rfl); focus simp only [List.range, List.range.loop, List.size_toArray, List.length_cons, List.length_nil, Nat.reduceAdd])); focus ((repeat' (first | (with_reducible first | exact wg | exact wh) | ((with_reducible first | apply wi | apply wj); focus (simp (discharger := omega) only [go_sem, tSet, hb, simprocAttr]; with_reducible rfl)))); done)))
          exact ⟨5 - (3 + 1), _, by omega, Norm.headS (own := [(8, 3, 1, false)]) (keep := [8, 24, 25]) (by refine ⟨?_, ?_⟩; (simp (discharger := omega) only [go_sem, simprocAttr]; with_reducible rfl); refine ⟨?_, ?_, ?_, ?_⟩ <;> (simp only [go_sem, simprocAttr]; with_reducible rfl)), 3 + 1, ot ++ [tInt 3], rfl, (by unfold tSet; rw [hb]; first | done | rfl), by omega, by rw [hcons _ hb, if_pos rfl, List.map_append, List.map_append, hot]; rfl, by rw [List.length_append, List.length_singleton]; omega⟩
        | false =>
          repeat' (first | (with_reducible first | apply w1 | apply w2 | apply w3 | apply w4 | apply w5 | apply w6 | apply w7 | apply w8 | apply w9 | apply wa | apply wb | apply wc) | ((with_reducible apply wd); focus decide) | ((with_reducible apply we); focus exact rfl) | ((with_reducible apply wf); focus exact rfl) | ((first | (with_reducible apply SW_run tt_ok hG htb) | ((with_reducible apply SW_draw rfl tt_ok hG htb); (focus kernel_rfl); focus simp only [List.range, List.range.loop, List.size_toArray, List.length_cons, List.length_nil, Nat.reduceAdd])); focus ((repeat' (first | (with_reducible first | exact wg | exact wh) | ((with_reducible first | apply wi | apply wj); focus (simp (discharger := omega) only [go_sem, tSet, hb, simprocAttr]; with_reducible rfl)))); done)))
          exact ⟨5 - (3 + 1), _, by omega, Norm.headS (own := [(8, 3, 1, false)]) (keep := [8, 24, 25]) (by refine ⟨?_, ?_⟩; (simp (discharger := omega) only [go_sem, simprocAttr]; with_reducible rfl); refine ⟨?_, ?_, ?_, ?_⟩ <;> (simp only [go_sem, simprocAttr]; with_reducible rfl)), 3 + 1, ot, rfl, (by unfold tSet; rw [hb]; first | done | rfl), by omega, by rw [hcons _ hb, if_neg (by decide), List.append_nil, hot], by omega⟩
      · cases hb : q 4 with
        | true =>
          repeat' (first | (with_reducible first | apply w1 | apply w2 | apply w3 | apply w4 | apply w5 | apply w6 | apply w7 | apply w8 | apply w9 | apply wa | apply wb | apply wc) | ((with_reducible apply wd); focus decide) | ((with_reducible apply we); focus exact rfl) | ((with_reducible apply wf); focus exact rfl) | ((first | (with_reducible apply SW_run tt_ok hG htb) | ((with_reducible apply SW_draw rfl tt_ok hG htb); (focus kernel_rfl); focus simp only [List.range, List.range.loop, List.size_toArray, List.length_cons, List.length_nil, Nat.reduceAdd])); focus ((repeat' (first | (with_reducible first | exact wg | exact wh) | ((with_reducible first | apply wi | apply wj); focus (simp (discharger := omega) only [go_sem, tSet, hb, simprocAttr]; with_reducible rfl)))); done)))
          exact ⟨5 - (4 + 1), _, by omega, Norm.headS (own := [(8, 3, 1, false)]) (keep := [8, 24, 25]) (by refine ⟨?_, ?_⟩; (simp (discharger := omega) only [go_sem, simprocAttr]; with_reducible rfl); refine ⟨?_, ?_, ?_, ?_⟩ <;> (simp only [go_sem, simprocAttr]; with_reducible rfl)), 4 + 1, ot ++ [tInt 4], rfl, (by unfold tSet; rw [hb]; first | done | rfl), by omega, by rw [hcons _ hb, if_pos rfl, List.map_append, List.map_append, hot]; rfl, by rw [List.length_append, List.length_singleton]; omega⟩
        | false =>
          repeat' (first | (with_reducible first | apply w1 | apply w2 | apply w3 | apply w4 | apply w5 | apply w6 | apply w7 | apply w8 | apply w9 | apply wa | apply wb | apply wc) | ((with_reducible apply wd); focus decide) | ((with_reducible apply we); focus exact rfl) | ((with_reducible apply wf); focus exact rfl) | ((first | (with_reducible apply SW_run tt_ok hG htb) | ((with_reducible apply SW_draw rfl tt_ok hG htb); (focus kernel_rfl); focus simp only [List.range, List.range.loop, List.size_toArray, List.length_cons, List.length_nil, Nat.reduceAdd])); focus ((repeat' (first | (with_reducible first | exact wg | exact wh) | ((with_reducible first | apply wi | apply wj); focus (simp (discharger := omega) only [go_sem, tSet, hb, simprocAttr]; with_reducible rfl)))); done)))
          exact ⟨5 - (4 + 1), _, by omega, Norm.headS (own := [(8, 3, 1, false)]) (keep := [8, 24, 25]) (by refine ⟨?_, ?_⟩; (simp (discharger := omega) only [go_sem, simprocAttr]; with_reducible rfl); refine ⟨?_, ?_, ?_, ?_⟩ <;> (simp only [go_sem, simprocAttr]; with_reducible rfl)), 4 + 1, ot, rfl, (by unfold tSet; rw [hb]; first | done | rfl), by omega, by rw [hcons _ hb, if_neg (by decide), List.append_nil, hot], by omega⟩
    · obtain rfl : i = 5 := by omega
      clear hlt hi
      generalize ((List.range 5).filter q).map (fun k => ((k : Nat) : Int)) = out at *
      subst hot
      repeat' (first | (with_reducible first | apply w1 | apply w2 | apply w3 | apply w4 | apply w5 | apply w6 | apply w7 | apply w8 | apply w9 | apply wa | apply wb | apply wc) | ((with_reducible apply wd); focus decide) | ((with_reducible apply we); focus exact rfl) | ((with_reducible apply wf); focus exact rfl) | ((first | (with_reducible apply SW_run tt_ok hG htb) | ((with_reducible apply SW_draw rfl tt_ok hG htb); (focus kernel_rfl); focus simp only [List.range, List.range.loop, List.size_toArray, List.length_cons, List.length_nil, Nat.reduceAdd])); focus ((repeat' (first | (with_reducible first | exact wg | exact wh) | ((with_reducible first | apply wi | apply wj); focus (simp (discharger := omega) only [go_sem, simprocAttr]; with_reducible rfl)))); done)))
      exact (by simp (discharger := omega) only [go_sem, tErr0, simprocAttr])
  · rw [if_neg h]
    generalize (formErr f).2 = e at *
    generalize (formErr f).1 = a at *
    have htb := Tab.cons c1 Tab.nil
    repeat' (first | (with_reducible first | apply w1 | apply w2 | apply w3 | apply w4 | apply w5 | apply w6 | apply w7 | apply w8 | apply w9 | apply wa | apply wb | apply wc) | ((with_reducible apply wd); focus decide) | ((with_reducible apply we); focus exact rfl) | ((with_reducible apply wf); focus exact rfl) | ((first | (with_reducible apply SW_run tt_ok hG htb) | ((with_reducible apply SW_draw rfl tt_ok hG htb); (focus kernel_rfl); focus simp only [List.range, List.range.loop, List.size_toArray, List.length_cons, List.length_nil, Nat.reduceAdd])); focus ((repeat' (first | (with_reducible first | exact wg | exact wh) | ((with_reducible first | apply wi | apply wj); focus (simp (discharger := omega) only [go_sem, tErr, h, simprocAttr]; with_reducible rfl)))); done)))
    exact (by simp (discharger := omega) only [go_sem, tErr, h, simprocAttr])
end
end Go.Proofs.YtcaopcpofepniaaDoor
