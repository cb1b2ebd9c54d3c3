/- Plain laws, data behind worlds, and contracts of functions, for the last text. No conditions. -/
import Derived.Test.YtfhncnhkeodngaaDoorM5
set_option linter.unusedSimpArgs false
set_option linter.unusedVariables false
set_option linter.unnecessarySimpa false
set_option linter.unusedSectionVars false
namespace Go.Proofs.YtfhncnhkeodngaaDoor

/-- The coefficients, where their variables go. -/
def rowP (coefs to : List Int) : Nat → List Int
  | 0 => List.replicate 5 0
  | i + 1 => (rowP coefs to i).set (to.getD i 0).toNat (coefs.getD i 0)
def trimN (l : List Int) : Nat → Nat
  | 0 => 0
  | k + 1 => if l.getD k 0 = 0 then trimN l k else k + 1
def lastP (coefs to : List Int) : Nat → Nat
  | 0 => 0
  | i + 1 => if coefs.getD i 0 ≠ 0 ∧ lastP coefs to i ≤ (to.getD i 0).toNat then (to.getD i 0).toNat + 1 else lastP coefs to i
def renC (coefs to : List Int) : List Int := (rowP coefs to coefs.length).take (lastP coefs to coefs.length)
def renN (to : List Int) (n : GNode) : GNode := ⟨n.op, if n.op = 3 ∨ n.op = 4 ∨ n.op = 8 ∨ n.op = 9 then to.getD n.var.toNat 0 else 0, if n.op = 4 then to.getD n.other.toNat 0 else 0, n.word, n.word2, n.num, renC n.coefs to⟩
def toAt (to : List Int) (i : Nat) : Int := if isVar (to.getD i 0) = false then 1 else if (to.take i).contains (to.getD i 0) = true then 6 else 0
def toGo (to : List Int) : Nat → Nat → Int
  | 0, _ => 0
  | r + 1, i => if toAt to i ≠ 0 then toAt to i else toGo to r (i + 1)
def renErr (f : List GNode) (to : List Int) : Int := if (formErr f).2 ≠ 0 then (formErr f).2 else if to.length ≠ 5 then 2 else toGo to 5 0
def renF (f : List GNode) (to : List Int) : List GNode := if renErr f to = 0 then f.map (renN to) else []
theorem toGo_at {to : List Int} : ∀ (r i : Nat), toGo to r i = 0 → ∀ j, i ≤ j → j < i + r → toAt to j = 0
  | 0, _, _, j, h1, h2 => by omega
  | r + 1, i, h, j, h1, h2 => by
    rw [toGo] at h
    by_cases h0 : toAt to i = 0
    · rw [if_neg (by omega)] at h
      by_cases e : j = i
      · subst e; exact h0
      · exact toGo_at r (i + 1) h j (by omega) (by omega)
    · rw [if_pos h0] at h; exact absurd h h0
theorem toAt_zero {to : List Int} {i : Nat} (h : toAt to i = 0) : (0 ≤ to.getD i 0 ∧ to.getD i 0 < 5) ∧ ∀ j, j < i → i < to.length → to.getD j 0 ≠ to.getD i 0 := by
  unfold toAt at h
  split at h
  · omega
  · rename_i h1
    split at h
    · omega
    · rename_i h2
      refine ⟨by unfold isVar at h1; simpa using h1, fun j hj hi e => h2 ?_⟩
      rw [List.contains_iff_mem, ← e, getD_lt (by omega)]
      rw [List.mem_iff_getElem?]
      exact ⟨j, by rw [List.getElem?_take, if_pos hj, List.getElem?_eq_getElem (by omega)]⟩
/-- Each variable goes to another one. -/
structure ToOk (to : List Int) : Prop where
  len : to.length = 5
  rg : ∀ i, i < 5 → 0 ≤ to.getD i 0 ∧ to.getD i 0 < 5
  inj : ∀ i j, i < 5 → j < 5 → to.getD i 0 = to.getD j 0 → i = j
theorem to_ok {to : List Int} (hl : to.length = 5) (h : toGo to 5 0 = 0) : ToOk to := by
  have ha : ∀ i, i < 5 → toAt to i = 0 := fun i hi => toGo_at 5 0 h i (by omega) (by omega)
  refine ⟨hl, fun i hi => (toAt_zero (ha i hi)).1, fun i j hi hj e => ?_⟩
  rcases Nat.lt_trichotomy i j with h1 | h1 | h1
  · exact absurd e ((toAt_zero (ha j hj)).2 i h1 (by omega))
  · exact h1
  · exact absurd e.symm ((toAt_zero (ha i hi)).2 j h1 (by omega))
theorem trimN_of {l : List Int} {L : Nat} : ∀ k, L ≤ k → (∀ j, L ≤ j → j < k → l.getD j 0 = 0) → (0 < L → l.getD (L - 1) 0 ≠ 0) → trimN l k = L
  | 0, h, _, _ => by rw [trimN]; omega
  | k + 1, h, h1, h2 => by
    rw [trimN]
    by_cases e : L = k + 1
    · subst e
      have := h2 (by omega)
      rw [Nat.add_sub_cancel] at this
      rw [if_neg this]
    · rw [if_pos (h1 k (by omega) (by omega))]
      exact trimN_of k (by omega) (fun j a b => h1 j a (by omega)) h2
theorem set_getD {l : List Int} {i j : Nat} {x : Int} (hi : i < l.length) : (l.set i x).getD j 0 = if i = j then x else l.getD j 0 := by
  by_cases e : i = j
  · subst e; rw [if_pos rfl, List.getD_eq_getElem?_getD, List.getElem?_set_self hi]; rfl
  · rw [if_neg e, List.getD_eq_getElem?_getD, List.getElem?_set_ne e, List.getD_eq_getElem?_getD]
structure RowInv (coefs to : List Int) (m : Nat) : Prop where
  len : (rowP coefs to m).length = 5
  le : lastP coefs to m ≤ 5
  out : ∀ k, k < 5 → lastP coefs to m ≤ k → (rowP coefs to m).getD k 0 = 0
  top : 0 < lastP coefs to m → (rowP coefs to m).getD (lastP coefs to m - 1) 0 ≠ 0
  free : ∀ j, m ≤ j → j < 5 → (rowP coefs to m).getD (to.getD j 0).toNat 0 = 0
theorem row_inv {coefs to : List Int} (h : ToOk to) : ∀ m, m ≤ 5 → RowInv coefs to m
  | 0, _ => by
    have hz : ∀ k, (List.replicate 5 (0 : Int)).getD k 0 = 0 := fun k => by
      rw [List.getD_eq_getElem?_getD, List.getElem?_replicate]; split <;> rfl
    exact ⟨List.length_replicate, Nat.zero_le _, fun k _ _ => hz k, fun h => by simp [lastP] at h, fun j _ _ => hz _⟩
  | m + 1, hm => by
    obtain ⟨h1, h2, h3, h4, h5⟩ := row_inv (coefs := coefs) h m (by omega)
    have ht := h.rg m (by omega)
    obtain ⟨t, htE⟩ : ∃ t, (to.getD m 0).toNat = t := ⟨_, rfl⟩
    have ht5 : t < 5 := by omega
    have e0 := h5 m (Nat.le_refl _) (by omega)
    rw [htE] at e0
    have hg : ∀ k, (rowP coefs to (m + 1)).getD k 0 = if t = k then coefs.getD m 0 else (rowP coefs to m).getD k 0 := fun k => by
      rw [rowP, htE]; exact set_getD (by omega)
    have hL : lastP coefs to (m + 1) = if coefs.getD m 0 ≠ 0 ∧ lastP coefs to m ≤ t then t + 1 else lastP coefs to m := by rw [lastP, htE]
    have hfree : ∀ j, m + 1 ≤ j → j < 5 → (rowP coefs to (m + 1)).getD (to.getD j 0).toNat 0 = 0 := fun j a b => by
      rw [hg, if_neg fun e => by
        have hj := h.rg j b
        have := h.inj m j (by omega) b (by omega)
        omega]
      exact h5 j (by omega) b
    refine ⟨by rw [rowP, List.length_set]; exact h1, ?_, fun k hk hlk => ?_, fun hp => ?_, hfree⟩
    · rw [hL]; split <;> omega
    · rw [hL] at hlk
      rw [hg]
      split at hlk
      · rw [if_neg (by omega)]; exact h3 k hk (by omega)
      · rename_i hc
        by_cases e : t = k
        · rw [if_pos e]
          exact Classical.byContradiction fun hne => hc ⟨hne, by omega⟩
        · rw [if_neg e]; exact h3 k hk hlk
    · rw [hL] at hp ⊢
      rw [hg]
      split
      · rename_i hc
        rw [if_pos (by omega)]; exact hc.1
      · rename_i hc
        rw [if_neg hc] at hp
        have h6 := h4 hp
        by_cases e : t = lastP coefs to m - 1
        · rw [← e, e0] at h6; exact absurd rfl h6
        · rw [if_neg e]; exact h6
theorem trim_last {coefs to : List Int} (h : ToOk to) (hc : coefs.length ≤ 5) : trimN (rowP coefs to coefs.length) 5 = lastP coefs to coefs.length := by
  have g := row_inv (coefs := coefs) h coefs.length hc
  exact trimN_of 5 g.le (fun j a b => g.out j b a) g.top
/-- A formula, its variable below another one. -/
def boundErr (f : List GNode) (v u : Int) : Int := if (formErr f).2 ≠ 0 then (formErr f).2 else if isVar v = false ∨ isVar u = false then 1 else if v = u then 6 else if 36 < f.length then 3 else 0
def boundC (v u : Int) : List Int := ((List.replicate ((max v u).toNat + 1) 0).set v.toNat 1).set u.toNat (-1)
def boundF (f : List GNode) (v u : Int) : List GNode := if boundErr f v u = 0 then [⟨9, v, 0, 0, 0, 0, []⟩, ⟨7, 0, 0, 0, 0, 0, []⟩, ⟨5, 0, 0, 0, 0, 0, []⟩, ⟨2, 0, 0, 0, 0, 0, boundC v u⟩] ++ f else []
theorem node_ok {n : GNode} (h : nodeErr n = 0) : 1 ≤ n.op ∧ n.op ≤ 9 ∧ nodeOk n = true ∧ nodeMore n = false := by
  unfold nodeErr at h
  split at h
  · omega
  · split at h
    · omega
    · split at h
      · omega
      · rename_i h1 h2 h3
        exact ⟨by omega, by omega, by simpa using h2, by simpa using h3⟩
theorem node_coefs {n : GNode} (h : nodeErr n = 0) : n.coefs.length ≤ 5 := by
  obtain ⟨_, _, h3, h4⟩ := node_ok h
  by_cases hl : n.op = 1 ∨ n.op = 2
  · unfold nodeOk at h3
    rw [if_pos hl] at h3
    simp only [Bool.and_eq_true, decide_eq_true_eq] at h3
    exact h3.1.1.1
  · unfold nodeMore at h4
    have e : (usedN n).coefs = [] := by
      unfold usedN
      rw [if_neg hl]
      split
      · rfl
      · split
        · rfl
        · split <;> rfl
    rw [e] at h4
    simp only [Bool.or_eq_false_iff, decide_eq_false_iff_not, ne_eq, Classical.not_not] at h4
    have := h4.2
    simp at this
    rw [this]; simp
theorem isVar_bd {v : Int} (h : isVar v = true) : 0 ≤ v ∧ v < 5 := by unfold isVar at h; simpa using h
end Go.Proofs.YtfhncnhkeodngaaDoor
namespace Go.Proofs.YtfhncnhkeodngaaDoor
open Go.RowKit

/-- The variables of a node itself. -/
def usedL (n : GNode) : List Int := if n.op = 1 ∨ n.op = 2 then ((List.range n.coefs.length).filter fun k => decide (n.coefs.getD k 0 ≠ 0)).map (fun k => ((k : Nat) : Int)) else if n.op = 3 then [n.var] else if n.op = 4 then [n.var, n.other] else []
def tSet (b : Nat → Bool) : T := .agg [.bool (b 0), .bool (b 1), .bool (b 2), .bool (b 3), .bool (b 4)]
theorem usedL_bd {n : GNode} (h : nodeErr n = 0) : (∀ v ∈ usedL n, 0 ≤ v ∧ v < 5) ∧ (usedL n).length ≤ 5 := by
  have hc := node_coefs h
  obtain ⟨_, _, h3, _⟩ := node_ok h
  unfold usedL
  by_cases hl : n.op = 1 ∨ n.op = 2
  · rw [if_pos hl]
    refine ⟨fun v hv => ?_, ?_⟩
    · obtain ⟨k, hk, rfl⟩ := List.mem_map.1 hv
      have := List.mem_range.1 (List.mem_filter.1 hk).1
      omega
    · rw [List.length_map]
      refine Nat.le_trans (List.length_filter_le _ _) ?_
      rw [List.length_range]; exact hc
  · rw [if_neg hl]
    by_cases e3 : n.op = 3
    · rw [if_pos e3]
      unfold nodeOk at h3
      rw [if_neg hl, if_pos e3] at h3
      simp only [Bool.and_eq_true] at h3
      have := isVar_bd h3.1.1.1.1
      refine ⟨fun v hv => ?_, by simp⟩
      simp at hv; subst hv; exact this
    · rw [if_neg e3]
      by_cases e4 : n.op = 4
      · rw [if_pos e4]
        unfold nodeOk at h3
        rw [if_neg hl, if_neg e3, if_pos e4] at h3
        simp only [Bool.and_eq_true] at h3
        have h5 := isVar_bd h3.1.1.1.1.1
        have h6 := isVar_bd h3.1.1.1.1.2
        refine ⟨fun v hv => ?_, by simp⟩
        simp at hv
        rcases hv with rfl | rfl
        · exact h5
        · exact h6
      · rw [if_neg e4]
        exact ⟨fun v hv => by simp at hv, by simp⟩
theorem usedL_uses (n : GNode) (k : Nat) : (usedL n).contains (k : Int) = usesN n k := by
  unfold usedL usesN
  by_cases hl : n.op = 1 ∨ n.op = 2
  · rw [if_pos hl, if_pos hl, Int.toNat_natCast]
    have key : (((List.range n.coefs.length).filter fun k => decide (n.coefs.getD k 0 ≠ 0)).map (fun k => ((k : Nat) : Int))).contains (k : Int) = true ↔ (decide ((k : Int) < n.coefs.length) && decide (n.coefs.getD k 0 ≠ 0)) = true := by
      rw [List.contains_iff_mem, List.mem_map, Bool.and_eq_true, decide_eq_true_eq, decide_eq_true_eq]
      constructor
      · rintro ⟨j, hj, e⟩
        obtain rfl : j = k := by omega
        obtain ⟨h1, h2⟩ := List.mem_filter.1 hj
        have := List.mem_range.1 h1
        exact ⟨by omega, by simpa using h2⟩
      · rintro ⟨h1, h2⟩
        exact ⟨k, List.mem_filter.2 ⟨List.mem_range.2 (by omega), by simpa using h2⟩, rfl⟩
    exact Bool.eq_iff_iff.2 key
  · rw [if_neg hl, if_neg hl]
    by_cases e3 : n.op = 3
    · rw [if_pos e3, decide_eq_true (.inl e3), decide_eq_false (show ¬ n.op = 4 by omega), Bool.true_and, Bool.false_and, Bool.or_false]
      have key : ([n.var] : List Int).contains (k : Int) = true ↔ decide (n.var = k) = true := by
        rw [List.contains_iff_mem, decide_eq_true_eq, List.mem_singleton]
        exact eq_comm
      exact Bool.eq_iff_iff.2 key
    · rw [if_neg e3]
      by_cases e4 : n.op = 4
      · rw [if_pos e4, decide_eq_true (.inr e4), decide_eq_true e4, Bool.true_and, Bool.true_and]
        have key : ([n.var, n.other] : List Int).contains (k : Int) = true ↔ (decide (n.var = k) || decide (n.other = k)) = true := by
          rw [List.contains_iff_mem, Bool.or_eq_true, decide_eq_true_eq, decide_eq_true_eq]
          simp only [List.mem_cons, List.not_mem_nil, or_false]
          constructor
          · rintro (h | h)
            · exact .inl h.symm
            · exact .inr h.symm
          · rintro (h | h)
            · exact .inl h.symm
            · exact .inr h.symm
        exact Bool.eq_iff_iff.2 key
      · rw [if_neg e4, decide_eq_false (show ¬ (n.op = 3 ∨ n.op = 4) by omega), decide_eq_false e4]; rfl
/-- What is still to be looked at: so many parts, what is free in them, where they end. -/
def RestF (G : World → Prop) (f : List GNode) : Nat → Nat → Nat → (Nat → Bool) → Prop
  | 0, j, e, b => j = e ∧ ∀ k, b k = false
  | r + 1, j, e, b => ∃ m b1 b2, Snd Tryd.prog G 70 [tForm f, tNat j] (.tup [tSet b1, tNat m]) ∧ j < m ∧ m ≤ f.length ∧ RestF G f r m e b2 ∧ ∀ k, b k = (b1 k || b2 k)
section
variable {G : World → Prop} (hG : Lasting G)
include hG
set_option maxHeartbeats 4000000 in
set_option maxRecDepth 100000 in
theorem Used_snd (n : GNode) (hc : n.coefs.length ≤ 1000) : Snd Tryd.prog G 92 [tNode n] (tInts (usedL n)) := by
  obtain ⟨op, var, other, word, word2, num, coefs⟩ := n
  have hc : coefs.length ≤ 1000 := hc
  refine snd_of_body (n := 43) (tm := [(0, .t (tNode ⟨op, var, other, word, word2, num, coefs⟩))]) (rs := [.tmp 2]) tt_ok Tryd.func92 rfl rfl rfl rfl rfl ?_
  have htb : Tab.ok Tryd.prog G [] := Tab.nil
  by_cases hl : op = 1 ∨ op = 2
  · have e : usedL ⟨op, var, other, word, word2, num, coefs⟩ = ((List.range coefs.length).filter fun k => decide (coefs.getD k 0 ≠ 0)).map (fun k => ((k : Nat) : Int)) := by unfold usedL; rw [if_pos hl]
    rw [e]
    rcases hl with rfl | rfl
    · repeat' (first | (with_reducible first | refine SW_seq ?_ | refine SW_block ?_ | refine SThen_n ?_ | refine SThen_r ?_ | refine SThen_e ?_ | refine SIn_n ?_ | refine SIn_r ?_ | refine SIn_eq ?_ | refine SW_skip ?_ | refine SW_exit ?_ | refine SW_ret ?_ | refine SPost_r ?_) | ((with_reducible refine SIn_ne ?_ ?_); focus decide) | ((with_reducible refine SW_true ?_ ?_); focus exact rfl) | ((with_reducible refine SW_false ?_ ?_); focus exact rfl) | ((first | (with_reducible apply SW_run tt_ok hG htb) | ((with_reducible apply SW_draw rfl tt_ok hG htb); (focus kernel_rfl); (focus (simp only [List.range, List.range.loop, List.size_toArray, List.length_cons, List.length_nil, Nat.reduceAdd])))); focus ((repeat' (first | (with_reducible exact runX_nil) | (with_reducible exact runI_nil) | ((first | (with_reducible apply runX_cons) | (with_reducible apply runI_cons)); focus (simp (discharger := omega) only [go_sem, tNode, simprocAttr]; with_reducible rfl)))); done)))
      refine SW_loop (fun mm s => ∃ (i : Nat) (ot : List T), mm = coefs.length - i ∧ s = ⟨43, [(3, .sref 0), (12, .t (tInts coefs)), (13, .t (tInt coefs.length)), (14, .t (tNat i))], [.row 3 1 false ot]⟩ ∧ i ≤ coefs.length ∧ ot = (((List.range i).filter fun k => decide (coefs.getD k 0 ≠ 0)).map (fun k => ((k : Nat) : Int))).map tInt ∧ ot.length ≤ i) coefs.length
        ⟨_, Norm.headS (own := [(3, 3, 1, false)]) (keep := [3, 12, 13, 14]) (by refine ⟨?_, ?_⟩; (simp (discharger := omega) only [go_sem, simprocAttr]; with_reducible rfl); refine ⟨?_, ?_, ?_, ?_⟩ <;> (simp only [go_sem, simprocAttr]; with_reducible rfl)), 0, _, rfl, rfl, Nat.zero_le _, rfl, Nat.le_refl _⟩ ?_
      rintro mm s ⟨i, ot, rfl, rfl, hi, hot, hol⟩
      by_cases hlt : i < coefs.length
      · obtain ⟨x, hx⟩ : ∃ x, coefs[i]! = x := ⟨_, rfl⟩
        have hD := bang_D (d := 0) hx hlt
        have hcons : ((List.range (i + 1)).filter fun k => decide (coefs.getD k 0 ≠ 0)) = ((List.range i).filter fun k => decide (coefs.getD k 0 ≠ 0)) ++ (if x ≠ 0 then [i] else []) := by
          rw [List.range_succ, List.filter_append]
          congr 1
          simp only [List.filter_cons, List.filter_nil, hD, decide_eq_true_eq]
        by_cases h0 : x = 0
        · repeat' (first | (with_reducible first | refine SW_seq ?_ | refine SW_block ?_ | refine SThen_n ?_ | refine SThen_r ?_ | refine SThen_e ?_ | refine SIn_n ?_ | refine SIn_r ?_ | refine SIn_eq ?_ | refine SW_skip ?_ | refine SW_exit ?_ | refine SW_ret ?_ | refine SPost_r ?_) | ((with_reducible refine SIn_ne ?_ ?_); focus decide) | ((with_reducible refine SW_true ?_ ?_); focus exact rfl) | ((with_reducible refine SW_false ?_ ?_); focus exact rfl) | ((first | (with_reducible apply SW_run tt_ok hG htb) | ((with_reducible apply SW_draw rfl tt_ok hG htb); (focus kernel_rfl); (focus (simp only [List.range, List.range.loop, List.size_toArray, List.length_cons, List.length_nil, Nat.reduceAdd])))); focus ((repeat' (first | (with_reducible exact runX_nil) | (with_reducible exact runI_nil) | ((first | (with_reducible apply runX_cons) | (with_reducible apply runI_cons)); focus (simp (discharger := omega) only [go_sem, hx, h0, simprocAttr]; with_reducible rfl)))); done)))
          exact ⟨coefs.length - (i + 1), _, by omega, Norm.headS (own := [(3, 3, 1, false)]) (keep := [3, 12, 13, 14]) (by refine ⟨?_, ?_⟩; (simp (discharger := omega) only [go_sem, simprocAttr]; with_reducible rfl); refine ⟨?_, ?_, ?_, ?_⟩ <;> (simp only [go_sem, simprocAttr]; with_reducible rfl)), i + 1, _, rfl, rfl, by omega, by rw [hcons, if_neg (by omega), List.append_nil, hot], by omega⟩
        · repeat' (first | (with_reducible first | refine SW_seq ?_ | refine SW_block ?_ | refine SThen_n ?_ | refine SThen_r ?_ | refine SThen_e ?_ | refine SIn_n ?_ | refine SIn_r ?_ | refine SIn_eq ?_ | refine SW_skip ?_ | refine SW_exit ?_ | refine SW_ret ?_ | refine SPost_r ?_) | ((with_reducible refine SIn_ne ?_ ?_); focus decide) | ((with_reducible refine SW_true ?_ ?_); focus exact rfl) | ((with_reducible refine SW_false ?_ ?_); focus exact rfl) | ((first | (with_reducible apply SW_run tt_ok hG htb) | ((with_reducible apply SW_draw rfl tt_ok hG htb); (focus kernel_rfl); (focus (simp only [List.range, List.range.loop, List.size_toArray, List.length_cons, List.length_nil, Nat.reduceAdd])))); focus ((repeat' (first | (with_reducible exact runX_nil) | (with_reducible exact runI_nil) | ((first | (with_reducible apply runX_cons) | (with_reducible apply runI_cons)); focus (simp (discharger := omega) only [go_sem, hx, h0, simprocAttr]; with_reducible rfl)))); done)))
          exact ⟨coefs.length - (i + 1), _, by omega, Norm.headS (own := [(3, 3, 1, false)]) (keep := [3, 12, 13, 14]) (by refine ⟨?_, ?_⟩; (simp (discharger := omega) only [go_sem, simprocAttr]; with_reducible rfl); refine ⟨?_, ?_, ?_, ?_⟩ <;> (simp only [go_sem, simprocAttr]; with_reducible rfl)), i + 1, _, rfl, rfl, by omega, by rw [hcons, if_pos h0, List.map_append, List.map_append, hot]; rfl, by simp; omega⟩
      · obtain rfl : i = coefs.length := by omega
        generalize ((List.range coefs.length).filter fun k => decide (coefs.getD k 0 ≠ 0)).map (fun k => ((k : Nat) : Int)) = out at *
        subst hot
        repeat' (first | (with_reducible first | refine SW_seq ?_ | refine SW_block ?_ | refine SThen_n ?_ | refine SThen_r ?_ | refine SThen_e ?_ | refine SIn_n ?_ | refine SIn_r ?_ | refine SIn_eq ?_ | refine SW_skip ?_ | refine SW_exit ?_ | refine SW_ret ?_ | refine SPost_r ?_) | ((with_reducible refine SIn_ne ?_ ?_); focus decide) | ((with_reducible refine SW_true ?_ ?_); focus exact rfl) | ((with_reducible refine SW_false ?_ ?_); focus exact rfl) | ((first | (with_reducible apply SW_run tt_ok hG htb) | ((with_reducible apply SW_draw rfl tt_ok hG htb); (focus kernel_rfl); (focus (simp only [List.range, List.range.loop, List.size_toArray, List.length_cons, List.length_nil, Nat.reduceAdd])))); focus ((repeat' (first | (with_reducible exact runX_nil) | (with_reducible exact runI_nil) | ((first | (with_reducible apply runX_cons) | (with_reducible apply runI_cons)); focus (simp (discharger := omega) only [go_sem, simprocAttr]; with_reducible rfl)))); done)))
        exact (by simp (discharger := omega) only [go_sem, simprocAttr])
    · repeat' (first | (with_reducible first | refine SW_seq ?_ | refine SW_block ?_ | refine SThen_n ?_ | refine SThen_r ?_ | refine SThen_e ?_ | refine SIn_n ?_ | refine SIn_r ?_ | refine SIn_eq ?_ | refine SW_skip ?_ | refine SW_exit ?_ | refine SW_ret ?_ | refine SPost_r ?_) | ((with_reducible refine SIn_ne ?_ ?_); focus decide) | ((with_reducible refine SW_true ?_ ?_); focus exact rfl) | ((with_reducible refine SW_false ?_ ?_); focus exact rfl) | ((first | (with_reducible apply SW_run tt_ok hG htb) | ((with_reducible apply SW_draw rfl tt_ok hG htb); (focus kernel_rfl); (focus (simp only [List.range, List.range.loop, List.size_toArray, List.length_cons, List.length_nil, Nat.reduceAdd])))); focus ((repeat' (first | (with_reducible exact runX_nil) | (with_reducible exact runI_nil) | ((first | (with_reducible apply runX_cons) | (with_reducible apply runI_cons)); focus (simp (discharger := omega) only [go_sem, tNode, simprocAttr]; with_reducible rfl)))); done)))
      refine SW_loop (fun mm s => ∃ (i : Nat) (ot : List T), mm = coefs.length - i ∧ s = ⟨43, [(3, .sref 0), (12, .t (tInts coefs)), (13, .t (tInt coefs.length)), (14, .t (tNat i))], [.row 3 1 false ot]⟩ ∧ i ≤ coefs.length ∧ ot = (((List.range i).filter fun k => decide (coefs.getD k 0 ≠ 0)).map (fun k => ((k : Nat) : Int))).map tInt ∧ ot.length ≤ i) coefs.length
        ⟨_, Norm.headS (own := [(3, 3, 1, false)]) (keep := [3, 12, 13, 14]) (by refine ⟨?_, ?_⟩; (simp (discharger := omega) only [go_sem, simprocAttr]; with_reducible rfl); refine ⟨?_, ?_, ?_, ?_⟩ <;> (simp only [go_sem, simprocAttr]; with_reducible rfl)), 0, _, rfl, rfl, Nat.zero_le _, rfl, Nat.le_refl _⟩ ?_
      rintro mm s ⟨i, ot, rfl, rfl, hi, hot, hol⟩
      by_cases hlt : i < coefs.length
      · obtain ⟨x, hx⟩ : ∃ x, coefs[i]! = x := ⟨_, rfl⟩
        have hD := bang_D (d := 0) hx hlt
        have hcons : ((List.range (i + 1)).filter fun k => decide (coefs.getD k 0 ≠ 0)) = ((List.range i).filter fun k => decide (coefs.getD k 0 ≠ 0)) ++ (if x ≠ 0 then [i] else []) := by
          rw [List.range_succ, List.filter_append]
          congr 1
          simp only [List.filter_cons, List.filter_nil, hD, decide_eq_true_eq]
        by_cases h0 : x = 0
        · repeat' (first | (with_reducible first | refine SW_seq ?_ | refine SW_block ?_ | refine SThen_n ?_ | refine SThen_r ?_ | refine SThen_e ?_ | refine SIn_n ?_ | refine SIn_r ?_ | refine SIn_eq ?_ | refine SW_skip ?_ | refine SW_exit ?_ | refine SW_ret ?_ | refine SPost_r ?_) | ((with_reducible refine SIn_ne ?_ ?_); focus decide) | ((with_reducible refine SW_true ?_ ?_); focus exact rfl) | ((with_reducible refine SW_false ?_ ?_); focus exact rfl) | ((first | (with_reducible apply SW_run tt_ok hG htb) | ((with_reducible apply SW_draw rfl tt_ok hG htb); (focus kernel_rfl); (focus (simp only [List.range, List.range.loop, List.size_toArray, List.length_cons, List.length_nil, Nat.reduceAdd])))); focus ((repeat' (first | (with_reducible exact runX_nil) | (with_reducible exact runI_nil) | ((first | (with_reducible apply runX_cons) | (with_reducible apply runI_cons)); focus (simp (discharger := omega) only [go_sem, hx, h0, simprocAttr]; with_reducible rfl)))); done)))
          exact ⟨coefs.length - (i + 1), _, by omega, Norm.headS (own := [(3, 3, 1, false)]) (keep := [3, 12, 13, 14]) (by refine ⟨?_, ?_⟩; (simp (discharger := omega) only [go_sem, simprocAttr]; with_reducible rfl); refine ⟨?_, ?_, ?_, ?_⟩ <;> (simp only [go_sem, simprocAttr]; with_reducible rfl)), i + 1, _, rfl, rfl, by omega, by rw [hcons, if_neg (by omega), List.append_nil, hot], by omega⟩
        · repeat' (first | (with_reducible first | refine SW_seq ?_ | refine SW_block ?_ | refine SThen_n ?_ | refine SThen_r ?_ | refine SThen_e ?_ | refine SIn_n ?_ | refine SIn_r ?_ | refine SIn_eq ?_ | refine SW_skip ?_ | refine SW_exit ?_ | refine SW_ret ?_ | refine SPost_r ?_) | ((with_reducible refine SIn_ne ?_ ?_); focus decide) | ((with_reducible refine SW_true ?_ ?_); focus exact rfl) | ((with_reducible refine SW_false ?_ ?_); focus exact rfl) | ((first | (with_reducible apply SW_run tt_ok hG htb) | ((with_reducible apply SW_draw rfl tt_ok hG htb); (focus kernel_rfl); (focus (simp only [List.range, List.range.loop, List.size_toArray, List.length_cons, List.length_nil, Nat.reduceAdd])))); focus ((repeat' (first | (with_reducible exact runX_nil) | (with_reducible exact runI_nil) | ((first | (with_reducible apply runX_cons) | (with_reducible apply runI_cons)); focus (simp (discharger := omega) only [go_sem, hx, h0, simprocAttr]; with_reducible rfl)))); done)))
          exact ⟨coefs.length - (i + 1), _, by omega, Norm.headS (own := [(3, 3, 1, false)]) (keep := [3, 12, 13, 14]) (by refine ⟨?_, ?_⟩; (simp (discharger := omega) only [go_sem, simprocAttr]; with_reducible rfl); refine ⟨?_, ?_, ?_, ?_⟩ <;> (simp only [go_sem, simprocAttr]; with_reducible rfl)), i + 1, _, rfl, rfl, by omega, by rw [hcons, if_pos h0, List.map_append, List.map_append, hot]; rfl, by simp; omega⟩
      · obtain rfl : i = coefs.length := by omega
        generalize ((List.range coefs.length).filter fun k => decide (coefs.getD k 0 ≠ 0)).map (fun k => ((k : Nat) : Int)) = out at *
        subst hot
        repeat' (first | (with_reducible first | refine SW_seq ?_ | refine SW_block ?_ | refine SThen_n ?_ | refine SThen_r ?_ | refine SThen_e ?_ | refine SIn_n ?_ | refine SIn_r ?_ | refine SIn_eq ?_ | refine SW_skip ?_ | refine SW_exit ?_ | refine SW_ret ?_ | refine SPost_r ?_) | ((with_reducible refine SIn_ne ?_ ?_); focus decide) | ((with_reducible refine SW_true ?_ ?_); focus exact rfl) | ((with_reducible refine SW_false ?_ ?_); focus exact rfl) | ((first | (with_reducible apply SW_run tt_ok hG htb) | ((with_reducible apply SW_draw rfl tt_ok hG htb); (focus kernel_rfl); (focus (simp only [List.range, List.range.loop, List.size_toArray, List.length_cons, List.length_nil, Nat.reduceAdd])))); focus ((repeat' (first | (with_reducible exact runX_nil) | (with_reducible exact runI_nil) | ((first | (with_reducible apply runX_cons) | (with_reducible apply runI_cons)); focus (simp (discharger := omega) only [go_sem, simprocAttr]; with_reducible rfl)))); done)))
        exact (by simp (discharger := omega) only [go_sem, simprocAttr])
  · have h1 : ¬ op = 1 := fun e => hl (.inl e)
    have h2 : ¬ op = 2 := fun e => hl (.inr e)
    by_cases h3 : op = 3
    · subst h3
      have e : usedL ⟨3, var, other, word, word2, num, coefs⟩ = [var] := by unfold usedL; simp
      rw [e]
      repeat' (first | (with_reducible first | refine SW_seq ?_ | refine SW_block ?_ | refine SThen_n ?_ | refine SThen_r ?_ | refine SThen_e ?_ | refine SIn_n ?_ | refine SIn_r ?_ | refine SIn_eq ?_ | refine SW_skip ?_ | refine SW_exit ?_ | refine SW_ret ?_ | refine SPost_r ?_) | ((with_reducible refine SIn_ne ?_ ?_); focus decide) | ((with_reducible refine SW_true ?_ ?_); focus exact rfl) | ((with_reducible refine SW_false ?_ ?_); focus exact rfl) | ((first | (with_reducible apply SW_run tt_ok hG htb) | ((with_reducible apply SW_draw rfl tt_ok hG htb); (focus kernel_rfl); (focus (simp only [List.range, List.range.loop, List.size_toArray, List.length_cons, List.length_nil, Nat.reduceAdd])))); focus ((repeat' (first | (with_reducible exact runX_nil) | (with_reducible exact runI_nil) | ((first | (with_reducible apply runX_cons) | (with_reducible apply runI_cons)); focus (simp (discharger := omega) only [go_sem, tNode, simprocAttr]; with_reducible rfl)))); done)))
      exact (by simp (discharger := omega) only [go_sem, simprocAttr])
    · by_cases h4 : op = 4
      · subst h4
        have e : usedL ⟨4, var, other, word, word2, num, coefs⟩ = [var, other] := by unfold usedL; simp
        rw [e]
        repeat' (first | (with_reducible first | refine SW_seq ?_ | refine SW_block ?_ | refine SThen_n ?_ | refine SThen_r ?_ | refine SThen_e ?_ | refine SIn_n ?_ | refine SIn_r ?_ | refine SIn_eq ?_ | refine SW_skip ?_ | refine SW_exit ?_ | refine SW_ret ?_ | refine SPost_r ?_) | ((with_reducible refine SIn_ne ?_ ?_); focus decide) | ((with_reducible refine SW_true ?_ ?_); focus exact rfl) | ((with_reducible refine SW_false ?_ ?_); focus exact rfl) | ((first | (with_reducible apply SW_run tt_ok hG htb) | ((with_reducible apply SW_draw rfl tt_ok hG htb); (focus kernel_rfl); (focus (simp only [List.range, List.range.loop, List.size_toArray, List.length_cons, List.length_nil, Nat.reduceAdd])))); focus ((repeat' (first | (with_reducible exact runX_nil) | (with_reducible exact runI_nil) | ((first | (with_reducible apply runX_cons) | (with_reducible apply runI_cons)); focus (simp (discharger := omega) only [go_sem, tNode, simprocAttr]; with_reducible rfl)))); done)))
        exact (by simp (discharger := omega) only [go_sem, simprocAttr])
      · have e : usedL ⟨op, var, other, word, word2, num, coefs⟩ = [] := by unfold usedL; rw [if_neg hl]; simp only; rw [if_neg h3, if_neg h4]
        rw [e]
        repeat' (first | (with_reducible first | refine SW_seq ?_ | refine SW_block ?_ | refine SThen_n ?_ | refine SThen_r ?_ | refine SThen_e ?_ | refine SIn_n ?_ | refine SIn_r ?_ | refine SIn_eq ?_ | refine SW_skip ?_ | refine SW_exit ?_ | refine SW_ret ?_ | refine SPost_r ?_) | ((with_reducible refine SIn_ne ?_ ?_); focus decide) | ((with_reducible refine SW_true ?_ ?_); focus exact rfl) | ((with_reducible refine SW_false ?_ ?_); focus exact rfl) | ((first | (with_reducible apply SW_run tt_ok hG htb) | ((with_reducible apply SW_draw rfl tt_ok hG htb); (focus kernel_rfl); (focus (simp only [List.range, List.range.loop, List.size_toArray, List.length_cons, List.length_nil, Nat.reduceAdd])))); focus ((repeat' (first | (with_reducible exact runX_nil) | (with_reducible exact runI_nil) | ((first | (with_reducible apply runX_cons) | (with_reducible apply runI_cons)); focus (simp (discharger := omega) only [go_sem, tNode, h1, h2, h3, h4, simprocAttr]; with_reducible rfl)))); done)))
        exact (by simp (discharger := omega) only [go_sem, simprocAttr])
set_option maxHeartbeats 16000000 in
set_option maxRecDepth 100000 in
theorem free_step {f : List GNode} {i e : Nat} {n : GNode} (hl : f.length ≤ 40) (hn : f[i]? = some n) (hne : nodeErr n = 0) (he : e ≤ f.length) (rest b : Nat → Bool) (hR : RestF G f (partsOf n.op).toNat (i + 1) e rest)
    (hb : ∀ k : Nat, k < 5 → b k = if (n.op = 8 ∨ n.op = 9) ∧ n.var = (k : Int) then false else (usesN n k || rest k)) : Snd Tryd.prog G 70 [tForm f, tNat i] (.tup [tSet b, tNat e]) := by
  have hil := (List.getElem?_eq_some_iff.1 hn).1
  have hn1 : f[i]! = n := by rw [getElem!_pos f i hil]; exact (List.getElem?_eq_some_iff.1 hn).2
  have cU := Used_snd hG n (by have := node_coefs hne; omega)
  have cP := Parts_snd hG n.op
  have hpc := parts_cases n.op
  obtain ⟨hu5, hul⟩ := usedL_bd hne
  have huu := usedL_uses n
  obtain ⟨hop1, hop9, hok, _⟩ := node_ok hne
  have hvar : n.op = 8 ∨ n.op = 9 → 0 ≤ n.var ∧ n.var < 5 := fun h => by
    unfold nodeOk at hok
    rw [if_neg (by omega), if_neg (by omega), if_neg (by omega), if_pos h] at hok
    exact isVar_bd hok
  clear hok hne
  generalize huE : usedL n = u at *
  clear huE
  have hb : ∀ k : Nat, k < 5 → b k = if (n.op = 8 ∨ n.op = 9) ∧ n.var = (k : Int) then false else (u.contains (k : Int) || rest k) := fun k hk => by rw [hb k hk, huu k]
  clear huu
  obtain ⟨op, var, other, word, word2, num, coefs⟩ := n
  simp only at hb cP hpc hvar hop1 hop9 hR
  refine snd_of_body (n := 79) (tm := [(0, .t (tForm f)), (1, .t (tNat i))]) (rs := [.cell 4 115, .tmp 5]) tt_ok Tryd.func70 rfl rfl rfl rfl rfl ?_
  unfold tForm
  have htb := Tab.cons cU Tab.nil
  repeat' (first | (with_reducible first | refine SW_seq ?_ | refine SW_block ?_ | refine SThen_n ?_ | refine SThen_r ?_ | refine SThen_e ?_ | refine SIn_n ?_ | refine SIn_r ?_ | refine SIn_eq ?_ | refine SW_skip ?_ | refine SW_exit ?_ | refine SW_ret ?_ | refine SPost_r ?_) | ((with_reducible refine SIn_ne ?_ ?_); focus decide) | ((with_reducible refine SW_true ?_ ?_); focus exact rfl) | ((with_reducible refine SW_false ?_ ?_); focus exact rfl) | ((first | (with_reducible apply SW_run tt_ok hG htb) | ((with_reducible apply SW_draw rfl tt_ok hG htb); (focus kernel_rfl); (focus (simp only [List.range, List.range.loop, List.size_toArray, List.length_cons, List.length_nil, Nat.reduceAdd])))); focus ((repeat' (first | (with_reducible exact runX_nil) | (with_reducible exact runI_nil) | ((first | (with_reducible apply runX_cons) | (with_reducible apply runI_cons)); focus (simp (discharger := omega) only [go_sem, hn1, tNode, simprocAttr]; with_reducible rfl)))); done)))
  clear htb cU
  have htb : Tab.ok Tryd.prog G [] := Tab.nil
  refine SW_loop (fun mm s => ∃ (j : Nat) (g : Nat → Bool), mm = u.length - j ∧ s = ⟨79, [(0, .t (.list (f.map tNode))), (1, .t (tNat i)), (4, .bptr 0 0), (6, .bptr 1 0), (17, .t (tInts u)), (18, .t (tInt u.length)), (19, .t (tNat j))], [.box [.t (.bool false), .t (.bool false), .t (.bool false), .t (.bool false), .t (.bool false)], .box [.t (.bool (g 0)), .t (.bool (g 1)), .t (.bool (g 2)), .t (.bool (g 3)), .t (.bool (g 4))]]⟩ ∧ j ≤ u.length ∧ ∀ k : Nat, k < 5 → g k = (u.take j).contains (k : Int)) u.length
    ⟨_, Norm.headS (own := []) (keep := [0, 1, 4, 6, 17, 18, 19]) (by refine ⟨?_, ?_⟩; (simp (discharger := omega) only [go_sem, simprocAttr]; with_reducible rfl); refine ⟨?_, ?_, ?_, ?_⟩ <;> (simp only [go_sem, simprocAttr]; with_reducible rfl)), 0, fun _ => false, rfl, rfl, Nat.zero_le _, fun k _ => by simp⟩ ?_
  rintro mm s ⟨j, g, rfl, rfl, hj, hg⟩
  by_cases hlt : j < u.length
  · obtain ⟨v, hv⟩ : ∃ v, u[j]! = v := ⟨_, rfl⟩
    have hvb := hu5 v (bang_mem hv hlt)
    have htk := take_next hv hlt
    have hg' : ∀ k : Nat, k < 5 → (u.take (j + 1)).contains (k : Int) = (decide (v = (k : Int)) || g k) := fun k hk => by
      rw [htk, List.contains_eq_any_beq, List.any_append, hg k hk, List.contains_eq_any_beq, Bool.or_comm]
      congr 1
      simp only [List.any_cons, List.any_nil, Bool.or_false]
      by_cases e : v = (k : Int)
      · rw [e]; simp
      · rw [decide_eq_false e]; simpa using fun e2 => e e2.symm
    have hv5 : v = 0 ∨ v = 1 ∨ v = 2 ∨ v = 3 ∨ v = 4 := by omega
    rcases hv5 with rfl | rfl | rfl | rfl | rfl
    · repeat' (first | (with_reducible first | refine SW_seq ?_ | refine SW_block ?_ | refine SThen_n ?_ | refine SThen_r ?_ | refine SThen_e ?_ | refine SIn_n ?_ | refine SIn_r ?_ | refine SIn_eq ?_ | refine SW_skip ?_ | refine SW_exit ?_ | refine SW_ret ?_ | refine SPost_r ?_) | ((with_reducible refine SIn_ne ?_ ?_); focus decide) | ((with_reducible refine SW_true ?_ ?_); focus exact rfl) | ((with_reducible refine SW_false ?_ ?_); focus exact rfl) | ((first | (with_reducible apply SW_run tt_ok hG htb) | ((with_reducible apply SW_draw rfl tt_ok hG htb); (focus kernel_rfl); (focus (simp only [List.range, List.range.loop, List.size_toArray, List.length_cons, List.length_nil, Nat.reduceAdd])))); focus ((repeat' (first | (with_reducible exact runX_nil) | (with_reducible exact runI_nil) | ((first | (with_reducible apply runX_cons) | (with_reducible apply runI_cons)); focus (simp (discharger := omega) only [go_sem, hv, simprocAttr]; with_reducible rfl)))); done)))
      exact ⟨u.length - (j + 1), _, by omega, Norm.headS (own := []) (keep := [0, 1, 4, 6, 17, 18, 19]) (by refine ⟨?_, ?_⟩; (simp (discharger := omega) only [go_sem, simprocAttr]; with_reducible rfl); refine ⟨?_, ?_, ?_, ?_⟩ <;> (simp only [go_sem, simprocAttr]; with_reducible rfl)), j + 1, fun k => if k = 0 then true else g k, rfl, rfl, by omega, fun k hk => by
        rw [hg' k hk]
        dsimp only
        by_cases e : k = 0
        · subst e; simp
        · rw [if_neg e, decide_eq_false (by omega), Bool.false_or]⟩
    · repeat' (first | (with_reducible first | refine SW_seq ?_ | refine SW_block ?_ | refine SThen_n ?_ | refine SThen_r ?_ | refine SThen_e ?_ | refine SIn_n ?_ | refine SIn_r ?_ | refine SIn_eq ?_ | refine SW_skip ?_ | refine SW_exit ?_ | refine SW_ret ?_ | refine SPost_r ?_) | ((with_reducible refine SIn_ne ?_ ?_); focus decide) | ((with_reducible refine SW_true ?_ ?_); focus exact rfl) | ((with_reducible refine SW_false ?_ ?_); focus exact rfl) | ((first | (with_reducible apply SW_run tt_ok hG htb) | ((with_reducible apply SW_draw rfl tt_ok hG htb); (focus kernel_rfl); (focus (simp only [List.range, List.range.loop, List.size_toArray, List.length_cons, List.length_nil, Nat.reduceAdd])))); focus ((repeat' (first | (with_reducible exact runX_nil) | (with_reducible exact runI_nil) | ((first | (with_reducible apply runX_cons) | (with_reducible apply runI_cons)); focus (simp (discharger := omega) only [go_sem, hv, simprocAttr]; with_reducible rfl)))); done)))
      exact ⟨u.length - (j + 1), _, by omega, Norm.headS (own := []) (keep := [0, 1, 4, 6, 17, 18, 19]) (by refine ⟨?_, ?_⟩; (simp (discharger := omega) only [go_sem, simprocAttr]; with_reducible rfl); refine ⟨?_, ?_, ?_, ?_⟩ <;> (simp only [go_sem, simprocAttr]; with_reducible rfl)), j + 1, fun k => if k = 1 then true else g k, rfl, rfl, by omega, fun k hk => by
        rw [hg' k hk]
        dsimp only
        by_cases e : k = 1
        · subst e; simp
        · rw [if_neg e, decide_eq_false (by omega), Bool.false_or]⟩
    · repeat' (first | (with_reducible first | refine SW_seq ?_ | refine SW_block ?_ | refine SThen_n ?_ | refine SThen_r ?_ | refine SThen_e ?_ | refine SIn_n ?_ | refine SIn_r ?_ | refine SIn_eq ?_ | refine SW_skip ?_ | refine SW_exit ?_ | refine SW_ret ?_ | refine SPost_r ?_) | ((with_reducible refine SIn_ne ?_ ?_); focus decide) | ((with_reducible refine SW_true ?_ ?_); focus exact rfl) | ((with_reducible refine SW_false ?_ ?_); focus exact rfl) | ((first | (with_reducible apply SW_run tt_ok hG htb) | ((with_reducible apply SW_draw rfl tt_ok hG htb); (focus kernel_rfl); (focus (simp only [List.range, List.range.loop, List.size_toArray, List.length_cons, List.length_nil, Nat.reduceAdd])))); focus ((repeat' (first | (with_reducible exact runX_nil) | (with_reducible exact runI_nil) | ((first | (with_reducible apply runX_cons) | (with_reducible apply runI_cons)); focus (simp (discharger := omega) only [go_sem, hv, simprocAttr]; with_reducible rfl)))); done)))
      exact ⟨u.length - (j + 1), _, by omega, Norm.headS (own := []) (keep := [0, 1, 4, 6, 17, 18, 19]) (by refine ⟨?_, ?_⟩; (simp (discharger := omega) only [go_sem, simprocAttr]; with_reducible rfl); refine ⟨?_, ?_, ?_, ?_⟩ <;> (simp only [go_sem, simprocAttr]; with_reducible rfl)), j + 1, fun k => if k = 2 then true else g k, rfl, rfl, by omega, fun k hk => by
        rw [hg' k hk]
        dsimp only
        by_cases e : k = 2
        · subst e; simp
        · rw [if_neg e, decide_eq_false (by omega), Bool.false_or]⟩
    · repeat' (first | (with_reducible first | refine SW_seq ?_ | refine SW_block ?_ | refine SThen_n ?_ | refine SThen_r ?_ | refine SThen_e ?_ | refine SIn_n ?_ | refine SIn_r ?_ | refine SIn_eq ?_ | refine SW_skip ?_ | refine SW_exit ?_ | refine SW_ret ?_ | refine SPost_r ?_) | ((with_reducible refine SIn_ne ?_ ?_); focus decide) | ((with_reducible refine SW_true ?_ ?_); focus exact rfl) | ((with_reducible refine SW_false ?_ ?_); focus exact rfl) | ((first | (with_reducible apply SW_run tt_ok hG htb) | ((with_reducible apply SW_draw rfl tt_ok hG htb); (focus kernel_rfl); (focus (simp only [List.range, List.range.loop, List.size_toArray, List.length_cons, List.length_nil, Nat.reduceAdd])))); focus ((repeat' (first | (with_reducible exact runX_nil) | (with_reducible exact runI_nil) | ((first | (with_reducible apply runX_cons) | (with_reducible apply runI_cons)); focus (simp (discharger := omega) only [go_sem, hv, simprocAttr]; with_reducible rfl)))); done)))
      exact ⟨u.length - (j + 1), _, by omega, Norm.headS (own := []) (keep := [0, 1, 4, 6, 17, 18, 19]) (by refine ⟨?_, ?_⟩; (simp (discharger := omega) only [go_sem, simprocAttr]; with_reducible rfl); refine ⟨?_, ?_, ?_, ?_⟩ <;> (simp only [go_sem, simprocAttr]; with_reducible rfl)), j + 1, fun k => if k = 3 then true else g k, rfl, rfl, by omega, fun k hk => by
        rw [hg' k hk]
        dsimp only
        by_cases e : k = 3
        · subst e; simp
        · rw [if_neg e, decide_eq_false (by omega), Bool.false_or]⟩
    · repeat' (first | (with_reducible first | refine SW_seq ?_ | refine SW_block ?_ | refine SThen_n ?_ | refine SThen_r ?_ | refine SThen_e ?_ | refine SIn_n ?_ | refine SIn_r ?_ | refine SIn_eq ?_ | refine SW_skip ?_ | refine SW_exit ?_ | refine SW_ret ?_ | refine SPost_r ?_) | ((with_reducible refine SIn_ne ?_ ?_); focus decide) | ((with_reducible refine SW_true ?_ ?_); focus exact rfl) | ((with_reducible refine SW_false ?_ ?_); focus exact rfl) | ((first | (with_reducible apply SW_run tt_ok hG htb) | ((with_reducible apply SW_draw rfl tt_ok hG htb); (focus kernel_rfl); (focus (simp only [List.range, List.range.loop, List.size_toArray, List.length_cons, List.length_nil, Nat.reduceAdd])))); focus ((repeat' (first | (with_reducible exact runX_nil) | (with_reducible exact runI_nil) | ((first | (with_reducible apply runX_cons) | (with_reducible apply runI_cons)); focus (simp (discharger := omega) only [go_sem, hv, simprocAttr]; with_reducible rfl)))); done)))
      exact ⟨u.length - (j + 1), _, by omega, Norm.headS (own := []) (keep := [0, 1, 4, 6, 17, 18, 19]) (by refine ⟨?_, ?_⟩; (simp (discharger := omega) only [go_sem, simprocAttr]; with_reducible rfl); refine ⟨?_, ?_, ?_, ?_⟩ <;> (simp only [go_sem, simprocAttr]; with_reducible rfl)), j + 1, fun k => if k = 4 then true else g k, rfl, rfl, by omega, fun k hk => by
        rw [hg' k hk]
        dsimp only
        by_cases e : k = 4
        · subst e; simp
        · rw [if_neg e, decide_eq_false (by omega), Bool.false_or]⟩
  · obtain rfl : j = u.length := by omega
    rw [List.take_length] at hg
    clear htb hj hlt
    generalize hpE : partsOf op = pp at *
    have htb := Tab.cons cP Tab.nil
    repeat' (first | (with_reducible first | refine SW_seq ?_ | refine SW_block ?_ | refine SThen_n ?_ | refine SThen_r ?_ | refine SThen_e ?_ | refine SIn_n ?_ | refine SIn_r ?_ | refine SIn_eq ?_ | refine SW_skip ?_ | refine SW_exit ?_ | refine SW_ret ?_ | refine SPost_r ?_) | ((with_reducible refine SIn_ne ?_ ?_); focus decide) | ((with_reducible refine SW_true ?_ ?_); focus exact rfl) | ((with_reducible refine SW_false ?_ ?_); focus exact rfl) | ((first | (with_reducible apply SW_run tt_ok hG htb) | ((with_reducible apply SW_draw rfl tt_ok hG htb); (focus kernel_rfl); (focus (simp only [List.range, List.range.loop, List.size_toArray, List.length_cons, List.length_nil, Nat.reduceAdd])))); focus ((repeat' (first | (with_reducible exact runX_nil) | (with_reducible exact runI_nil) | ((first | (with_reducible apply runX_cons) | (with_reducible apply runI_cons)); focus (simp (discharger := omega) only [go_sem, hn1, tNode, simprocAttr]; with_reducible rfl)))); done)))
    have hbt : ∀ k : Nat, k < 5 → b k = if (op = 8 ∨ op = 9) ∧ var = (k : Int) then false else (g k || rest k) := fun k hk => by rw [hb k hk, hg k hk]
    clear hb hg hu5 hul
    refine SW_loop (fun mm s => ∃ (k j : Nat) (g d : Nat → Bool), mm = pp.toNat - k ∧ s = ⟨79, [(0, .t (.list (f.map tNode))), (1, .t (tNat i)), (4, .bptr 0 0), (6, .bptr 1 0), (9, .t (tNat j)), (33, .t (tInt pp)), (34, .t (tNat k))], [.box [.t (.bool false), .t (.bool false), .t (.bool false), .t (.bool false), .t (.bool false)], .box [.t (.bool (g 0)), .t (.bool (g 1)), .t (.bool (g 2)), .t (.bool (g 3)), .t (.bool (g 4))]]⟩ ∧ k ≤ pp.toNat ∧ RestF G f (pp.toNat - k) j e d ∧ (∀ k : Nat, k < 5 → b k = if (op = 8 ∨ op = 9) ∧ var = (k : Int) then false else (g k || d k)) ∧ j ≤ f.length) (pp.toNat)
      ⟨_, Norm.headS (own := []) (keep := [0, 1, 4, 6, 9, 33, 34]) (by refine ⟨?_, ?_⟩; (simp (discharger := omega) only [go_sem, simprocAttr]; with_reducible rfl); refine ⟨?_, ?_, ?_, ?_⟩ <;> (simp only [go_sem, simprocAttr]; with_reducible rfl)), 0, i + 1, g, rest, rfl, rfl, Nat.zero_le _, hR, hbt, by omega⟩ ?_
    clear hR hbt htb
    rintro mm s ⟨k, j, g, d, rfl, rfl, hk, hR, hbt, hjl⟩
    by_cases hlt : k < pp.toNat
    · obtain ⟨r, hr⟩ : ∃ r, pp.toNat - k = r + 1 := ⟨pp.toNat - k - 1, by omega⟩
      rw [hr] at hR
      obtain ⟨m, b1, d2, c1, hjm, hmf, hR2, hd⟩ := hR
      have htb := Tab.cons c1 Tab.nil
      unfold tForm at htb
      repeat' (first | (with_reducible first | refine SW_seq ?_ | refine SW_block ?_ | refine SThen_n ?_ | refine SThen_r ?_ | refine SThen_e ?_ | refine SIn_n ?_ | refine SIn_r ?_ | refine SIn_eq ?_ | refine SW_skip ?_ | refine SW_exit ?_ | refine SW_ret ?_ | refine SPost_r ?_) | ((with_reducible refine SIn_ne ?_ ?_); focus decide) | ((with_reducible refine SW_true ?_ ?_); focus exact rfl) | ((with_reducible refine SW_false ?_ ?_); focus exact rfl) | ((first | (with_reducible apply SW_run tt_ok hG htb) | ((with_reducible apply SW_draw rfl tt_ok hG htb); (focus kernel_rfl); (focus (simp only [List.range, List.range.loop, List.size_toArray, List.length_cons, List.length_nil, Nat.reduceAdd])))); focus ((repeat' (first | (with_reducible exact runX_nil) | (with_reducible exact runI_nil) | ((first | (with_reducible apply runX_cons) | (with_reducible apply runI_cons)); focus (simp (discharger := omega) only [go_sem, tSet, simprocAttr]; with_reducible rfl)))); done)))
      refine SW_loop (fun mm s => ∃ (v : Nat) (q : Nat → Bool), mm = 5 - v ∧ s = ⟨79, [(0, .t (.list (f.map tNode))), (1, .t (tNat i)), (4, .bptr 0 0), (6, .bptr 1 0), (9, .t (tNat m)), (33, .t (tInt pp)), (34, .t (tNat k)), (42, .t (tSet b1)), (43, .t (tNat v))], [.box [.t (.bool false), .t (.bool false), .t (.bool false), .t (.bool false), .t (.bool false)], .box [.t (.bool (q 0)), .t (.bool (q 1)), .t (.bool (q 2)), .t (.bool (q 3)), .t (.bool (q 4))]]⟩ ∧ v ≤ 5 ∧ ∀ x : Nat, q x = if x < v then (g x || b1 x) else g x) 5
        ⟨_, Norm.headS (own := []) (keep := [0, 1, 4, 6, 9, 33, 34, 42, 43]) (by refine ⟨?_, ?_⟩; (simp (discharger := omega) only [go_sem, simprocAttr]; with_reducible rfl); refine ⟨?_, ?_, ?_, ?_⟩ <;> (simp only [go_sem, simprocAttr]; with_reducible rfl)), 0, g, rfl, rfl, by omega, fun x => by simp⟩ ?_
      rintro mm s ⟨v, q, rfl, rfl, hv, hq⟩
      by_cases hv5 : v < 5
      · have hvc : v = 0 ∨ v = 1 ∨ v = 2 ∨ v = 3 ∨ v = 4 := by omega
        rcases hvc with rfl | rfl | rfl | rfl | rfl
        · cases hqv : q 0 with
          | true =>
            repeat' (first | (with_reducible first | refine SW_seq ?_ | refine SW_block ?_ | refine SThen_n ?_ | refine SThen_r ?_ | refine SThen_e ?_ | refine SIn_n ?_ | refine SIn_r ?_ | refine SIn_eq ?_ | refine SW_skip ?_ | refine SW_exit ?_ | refine SW_ret ?_ | refine SPost_r ?_) | ((with_reducible refine SIn_ne ?_ ?_); focus decide) | ((with_reducible refine SW_true ?_ ?_); focus exact rfl) | ((with_reducible refine SW_false ?_ ?_); focus exact rfl) | ((first | (with_reducible apply SW_run tt_ok hG htb) | ((with_reducible apply SW_draw rfl tt_ok hG htb); (focus kernel_rfl); (focus (simp only [List.range, List.range.loop, List.size_toArray, List.length_cons, List.length_nil, Nat.reduceAdd])))); focus ((repeat' (first | (with_reducible exact runX_nil) | (with_reducible exact runI_nil) | ((first | (with_reducible apply runX_cons) | (with_reducible apply runI_cons)); focus (simp (discharger := omega) only [go_sem, tSet, hqv, simprocAttr]; with_reducible rfl)))); done)))
            exact ⟨5 - (0 + 1), _, by omega, Norm.headS (own := []) (keep := [0, 1, 4, 6, 9, 33, 34, 42, 43]) (by refine ⟨?_, ?_⟩; (simp (discharger := omega) only [go_sem, simprocAttr]; with_reducible rfl); refine ⟨?_, ?_, ?_, ?_⟩ <;> (simp only [go_sem, simprocAttr]; with_reducible rfl)), 0 + 1, fun k => if k = 0 then true else q k, rfl, rfl, by omega, fun x => by
              have h1 := hq x
              dsimp only
              by_cases e : x = 0
              · subst e
                rw [if_neg (by omega)] at h1
                rw [if_pos rfl, if_pos (by omega), ← h1, hqv]; rfl
              · rw [if_neg e, h1]
                by_cases e2 : x < 0
                · rw [if_pos e2, if_pos (by omega)]
                · rw [if_neg e2, if_neg (by omega)]⟩
          | false =>
            repeat' (first | (with_reducible first | refine SW_seq ?_ | refine SW_block ?_ | refine SThen_n ?_ | refine SThen_r ?_ | refine SThen_e ?_ | refine SIn_n ?_ | refine SIn_r ?_ | refine SIn_eq ?_ | refine SW_skip ?_ | refine SW_exit ?_ | refine SW_ret ?_ | refine SPost_r ?_) | ((with_reducible refine SIn_ne ?_ ?_); focus decide) | ((with_reducible refine SW_true ?_ ?_); focus exact rfl) | ((with_reducible refine SW_false ?_ ?_); focus exact rfl) | ((first | (with_reducible apply SW_run tt_ok hG htb) | ((with_reducible apply SW_draw rfl tt_ok hG htb); (focus kernel_rfl); (focus (simp only [List.range, List.range.loop, List.size_toArray, List.length_cons, List.length_nil, Nat.reduceAdd])))); focus ((repeat' (first | (with_reducible exact runX_nil) | (with_reducible exact runI_nil) | ((first | (with_reducible apply runX_cons) | (with_reducible apply runI_cons)); focus (simp (discharger := omega) only [go_sem, tSet, hqv, simprocAttr]; with_reducible rfl)))); done)))
            exact ⟨5 - (0 + 1), _, by omega, Norm.headS (own := []) (keep := [0, 1, 4, 6, 9, 33, 34, 42, 43]) (by refine ⟨?_, ?_⟩; (simp (discharger := omega) only [go_sem, simprocAttr]; with_reducible rfl); refine ⟨?_, ?_, ?_, ?_⟩ <;> (simp only [go_sem, simprocAttr]; with_reducible rfl)), 0 + 1, fun k => if k = 0 then b1 0 else q k, rfl, rfl, by omega, fun x => by
              have h1 := hq x
              dsimp only
              by_cases e : x = 0
              · subst e
                rw [if_neg (by omega)] at h1
                rw [if_pos rfl, if_pos (by omega), ← h1, hqv]; rfl
              · rw [if_neg e, h1]
                by_cases e2 : x < 0
                · rw [if_pos e2, if_pos (by omega)]
                · rw [if_neg e2, if_neg (by omega)]⟩
        · cases hqv : q 1 with
          | true =>
            repeat' (first | (with_reducible first | refine SW_seq ?_ | refine SW_block ?_ | refine SThen_n ?_ | refine SThen_r ?_ | refine SThen_e ?_ | refine SIn_n ?_ | refine SIn_r ?_ | refine SIn_eq ?_ | refine SW_skip ?_ | refine SW_exit ?_ | refine SW_ret ?_ | refine SPost_r ?_) | ((with_reducible refine SIn_ne ?_ ?_); focus decide) | ((with_reducible refine SW_true ?_ ?_); focus exact rfl) | ((with_reducible refine SW_false ?_ ?_); focus exact rfl) | ((first | (with_reducible apply SW_run tt_ok hG htb) | ((with_reducible apply SW_draw rfl tt_ok hG htb); (focus kernel_rfl); (focus (simp only [List.range, List.range.loop, List.size_toArray, List.length_cons, List.length_nil, Nat.reduceAdd])))); focus ((repeat' (first | (with_reducible exact runX_nil) | (with_reducible exact runI_nil) | ((first | (with_reducible apply runX_cons) | (with_reducible apply runI_cons)); focus (simp (discharger := omega) only [go_sem, tSet, hqv, simprocAttr]; with_reducible rfl)))); done)))
            exact ⟨5 - (1 + 1), _, by omega, Norm.headS (own := []) (keep := [0, 1, 4, 6, 9, 33, 34, 42, 43]) (by refine ⟨?_, ?_⟩; (simp (discharger := omega) only [go_sem, simprocAttr]; with_reducible rfl); refine ⟨?_, ?_, ?_, ?_⟩ <;> (simp only [go_sem, simprocAttr]; with_reducible rfl)), 1 + 1, fun k => if k = 1 then true else q k, rfl, rfl, by omega, fun x => by
              have h1 := hq x
              dsimp only
              by_cases e : x = 1
              · subst e
                rw [if_neg (by omega)] at h1
                rw [if_pos rfl, if_pos (by omega), ← h1, hqv]; rfl
              · rw [if_neg e, h1]
                by_cases e2 : x < 1
                · rw [if_pos e2, if_pos (by omega)]
                · rw [if_neg e2, if_neg (by omega)]⟩
          | false =>
            repeat' (first | (with_reducible first | refine SW_seq ?_ | refine SW_block ?_ | refine SThen_n ?_ | refine SThen_r ?_ | refine SThen_e ?_ | refine SIn_n ?_ | refine SIn_r ?_ | refine SIn_eq ?_ | refine SW_skip ?_ | refine SW_exit ?_ | refine SW_ret ?_ | refine SPost_r ?_) | ((with_reducible refine SIn_ne ?_ ?_); focus decide) | ((with_reducible refine SW_true ?_ ?_); focus exact rfl) | ((with_reducible refine SW_false ?_ ?_); focus exact rfl) | ((first | (with_reducible apply SW_run tt_ok hG htb) | ((with_reducible apply SW_draw rfl tt_ok hG htb); (focus kernel_rfl); (focus (simp only [List.range, List.range.loop, List.size_toArray, List.length_cons, List.length_nil, Nat.reduceAdd])))); focus ((repeat' (first | (with_reducible exact runX_nil) | (with_reducible exact runI_nil) | ((first | (with_reducible apply runX_cons) | (with_reducible apply runI_cons)); focus (simp (discharger := omega) only [go_sem, tSet, hqv, simprocAttr]; with_reducible rfl)))); done)))
            exact ⟨5 - (1 + 1), _, by omega, Norm.headS (own := []) (keep := [0, 1, 4, 6, 9, 33, 34, 42, 43]) (by refine ⟨?_, ?_⟩; (simp (discharger := omega) only [go_sem, simprocAttr]; with_reducible rfl); refine ⟨?_, ?_, ?_, ?_⟩ <;> (simp only [go_sem, simprocAttr]; with_reducible rfl)), 1 + 1, fun k => if k = 1 then b1 1 else q k, rfl, rfl, by omega, fun x => by
              have h1 := hq x
              dsimp only
              by_cases e : x = 1
              · subst e
                rw [if_neg (by omega)] at h1
                rw [if_pos rfl, if_pos (by omega), ← h1, hqv]; rfl
              · rw [if_neg e, h1]
                by_cases e2 : x < 1
                · rw [if_pos e2, if_pos (by omega)]
                · rw [if_neg e2, if_neg (by omega)]⟩
        · cases hqv : q 2 with
          | true =>
            repeat' (first | (with_reducible first | refine SW_seq ?_ | refine SW_block ?_ | refine SThen_n ?_ | refine SThen_r ?_ | refine SThen_e ?_ | refine SIn_n ?_ | refine SIn_r ?_ | refine SIn_eq ?_ | refine SW_skip ?_ | refine SW_exit ?_ | refine SW_ret ?_ | refine SPost_r ?_) | ((with_reducible refine SIn_ne ?_ ?_); focus decide) | ((with_reducible refine SW_true ?_ ?_); focus exact rfl) | ((with_reducible refine SW_false ?_ ?_); focus exact rfl) | ((first | (with_reducible apply SW_run tt_ok hG htb) | ((with_reducible apply SW_draw rfl tt_ok hG htb); (focus kernel_rfl); (focus (simp only [List.range, List.range.loop, List.size_toArray, List.length_cons, List.length_nil, Nat.reduceAdd])))); focus ((repeat' (first | (with_reducible exact runX_nil) | (with_reducible exact runI_nil) | ((first | (with_reducible apply runX_cons) | (with_reducible apply runI_cons)); focus (simp (discharger := omega) only [go_sem, tSet, hqv, simprocAttr]; with_reducible rfl)))); done)))
            exact ⟨5 - (2 + 1), _, by omega, Norm.headS (own := []) (keep := [0, 1, 4, 6, 9, 33, 34, 42, 43]) (by refine ⟨?_, ?_⟩; (simp (discharger := omega) only [go_sem, simprocAttr]; with_reducible rfl); refine ⟨?_, ?_, ?_, ?_⟩ <;> (simp only [go_sem, simprocAttr]; with_reducible rfl)), 2 + 1, fun k => if k = 2 then true else q k, rfl, rfl, by omega, fun x => by
              have h1 := hq x
              dsimp only
              by_cases e : x = 2
              · subst e
                rw [if_neg (by omega)] at h1
                rw [if_pos rfl, if_pos (by omega), ← h1, hqv]; rfl
              · rw [if_neg e, h1]
                by_cases e2 : x < 2
                · rw [if_pos e2, if_pos (by omega)]
                · rw [if_neg e2, if_neg (by omega)]⟩
          | false =>
            repeat' (first | (with_reducible first | refine SW_seq ?_ | refine SW_block ?_ | refine SThen_n ?_ | refine SThen_r ?_ | refine SThen_e ?_ | refine SIn_n ?_ | refine SIn_r ?_ | refine SIn_eq ?_ | refine SW_skip ?_ | refine SW_exit ?_ | refine SW_ret ?_ | refine SPost_r ?_) | ((with_reducible refine SIn_ne ?_ ?_); focus decide) | ((with_reducible refine SW_true ?_ ?_); focus exact rfl) | ((with_reducible refine SW_false ?_ ?_); focus exact rfl) | ((first | (with_reducible apply SW_run tt_ok hG htb) | ((with_reducible apply SW_draw rfl tt_ok hG htb); (focus kernel_rfl); (focus (simp only [List.range, List.range.loop, List.size_toArray, List.length_cons, List.length_nil, Nat.reduceAdd])))); focus ((repeat' (first | (with_reducible exact runX_nil) | (with_reducible exact runI_nil) | ((first | (with_reducible apply runX_cons) | (with_reducible apply runI_cons)); focus (simp (discharger := omega) only [go_sem, tSet, hqv, simprocAttr]; with_reducible rfl)))); done)))
            exact ⟨5 - (2 + 1), _, by omega, Norm.headS (own := []) (keep := [0, 1, 4, 6, 9, 33, 34, 42, 43]) (by refine ⟨?_, ?_⟩; (simp (discharger := omega) only [go_sem, simprocAttr]; with_reducible rfl); refine ⟨?_, ?_, ?_, ?_⟩ <;> (simp only [go_sem, simprocAttr]; with_reducible rfl)), 2 + 1, fun k => if k = 2 then b1 2 else q k, rfl, rfl, by omega, fun x => by
              have h1 := hq x
              dsimp only
              by_cases e : x = 2
              · subst e
                rw [if_neg (by omega)] at h1
                rw [if_pos rfl, if_pos (by omega), ← h1, hqv]; rfl
              · rw [if_neg e, h1]
                by_cases e2 : x < 2
                · rw [if_pos e2, if_pos (by omega)]
                · rw [if_neg e2, if_neg (by omega)]⟩
        · cases hqv : q 3 with
          | true =>
            repeat' (first | (with_reducible first | refine SW_seq ?_ | refine SW_block ?_ | refine SThen_n ?_ | refine SThen_r ?_ | refine SThen_e ?_ | refine SIn_n ?_ | refine SIn_r ?_ | refine SIn_eq ?_ | refine SW_skip ?_ | refine SW_exit ?_ | refine SW_ret ?_ | refine SPost_r ?_) | ((with_reducible refine SIn_ne ?_ ?_); focus decide) | ((with_reducible refine SW_true ?_ ?_); focus exact rfl) | ((with_reducible refine SW_false ?_ ?_); focus exact rfl) | ((first | (with_reducible apply SW_run tt_ok hG htb) | ((with_reducible apply SW_draw rfl tt_ok hG htb); (focus kernel_rfl); (focus (simp only [List.range, List.range.loop, List.size_toArray, List.length_cons, List.length_nil, Nat.reduceAdd])))); focus ((repeat' (first | (with_reducible exact runX_nil) | (with_reducible exact runI_nil) | ((first | (with_reducible apply runX_cons) | (with_reducible apply runI_cons)); focus (simp (discharger := omega) only [go_sem, tSet, hqv, simprocAttr]; with_reducible rfl)))); done)))
            exact ⟨5 - (3 + 1), _, by omega, Norm.headS (own := []) (keep := [0, 1, 4, 6, 9, 33, 34, 42, 43]) (by refine ⟨?_, ?_⟩; (simp (discharger := omega) only [go_sem, simprocAttr]; with_reducible rfl); refine ⟨?_, ?_, ?_, ?_⟩ <;> (simp only [go_sem, simprocAttr]; with_reducible rfl)), 3 + 1, fun k => if k = 3 then true else q k, rfl, rfl, by omega, fun x => by
              have h1 := hq x
              dsimp only
              by_cases e : x = 3
              · subst e
                rw [if_neg (by omega)] at h1
                rw [if_pos rfl, if_pos (by omega), ← h1, hqv]; rfl
              · rw [if_neg e, h1]
                by_cases e2 : x < 3
                · rw [if_pos e2, if_pos (by omega)]
                · rw [if_neg e2, if_neg (by omega)]⟩
          | false =>
            repeat' (first | (with_reducible first | refine SW_seq ?_ | refine SW_block ?_ | refine SThen_n ?_ | refine SThen_r ?_ | refine SThen_e ?_ | refine SIn_n ?_ | refine SIn_r ?_ | refine SIn_eq ?_ | refine SW_skip ?_ | refine SW_exit ?_ | refine SW_ret ?_ | refine SPost_r ?_) | ((with_reducible refine SIn_ne ?_ ?_); focus decide) | ((with_reducible refine SW_true ?_ ?_); focus exact rfl) | ((with_reducible refine SW_false ?_ ?_); focus exact rfl) | ((first | (with_reducible apply SW_run tt_ok hG htb) | ((with_reducible apply SW_draw rfl tt_ok hG htb); (focus kernel_rfl); (focus (simp only [List.range, List.range.loop, List.size_toArray, List.length_cons, List.length_nil, Nat.reduceAdd])))); focus ((repeat' (first | (with_reducible exact runX_nil) | (with_reducible exact runI_nil) | ((first | (with_reducible apply runX_cons) | (with_reducible apply runI_cons)); focus (simp (discharger := omega) only [go_sem, tSet, hqv, simprocAttr]; with_reducible rfl)))); done)))
            exact ⟨5 - (3 + 1), _, by omega, Norm.headS (own := []) (keep := [0, 1, 4, 6, 9, 33, 34, 42, 43]) (by refine ⟨?_, ?_⟩; (simp (discharger := omega) only [go_sem, simprocAttr]; with_reducible rfl); refine ⟨?_, ?_, ?_, ?_⟩ <;> (simp only [go_sem, simprocAttr]; with_reducible rfl)), 3 + 1, fun k => if k = 3 then b1 3 else q k, rfl, rfl, by omega, fun x => by
              have h1 := hq x
              dsimp only
              by_cases e : x = 3
              · subst e
                rw [if_neg (by omega)] at h1
                rw [if_pos rfl, if_pos (by omega), ← h1, hqv]; rfl
              · rw [if_neg e, h1]
                by_cases e2 : x < 3
                · rw [if_pos e2, if_pos (by omega)]
                · rw [if_neg e2, if_neg (by omega)]⟩
        · cases hqv : q 4 with
          | true =>
            repeat' (first | (with_reducible first | refine SW_seq ?_ | refine SW_block ?_ | refine SThen_n ?_ | refine SThen_r ?_ | refine SThen_e ?_ | refine SIn_n ?_ | refine SIn_r ?_ | refine SIn_eq ?_ | refine SW_skip ?_ | refine SW_exit ?_ | refine SW_ret ?_ | refine SPost_r ?_) | ((with_reducible refine SIn_ne ?_ ?_); focus decide) | ((with_reducible refine SW_true ?_ ?_); focus exact rfl) | ((with_reducible refine SW_false ?_ ?_); focus exact rfl) | ((first | (with_reducible apply SW_run tt_ok hG htb) | ((with_reducible apply SW_draw rfl tt_ok hG htb); (focus kernel_rfl); (focus (simp only [List.range, List.range.loop, List.size_toArray, List.length_cons, List.length_nil, Nat.reduceAdd])))); focus ((repeat' (first | (with_reducible exact runX_nil) | (with_reducible exact runI_nil) | ((first | (with_reducible apply runX_cons) | (with_reducible apply runI_cons)); focus (simp (discharger := omega) only [go_sem, tSet, hqv, simprocAttr]; with_reducible rfl)))); done)))
            exact ⟨5 - (4 + 1), _, by omega, Norm.headS (own := []) (keep := [0, 1, 4, 6, 9, 33, 34, 42, 43]) (by refine ⟨?_, ?_⟩; (simp (discharger := omega) only [go_sem, simprocAttr]; with_reducible rfl); refine ⟨?_, ?_, ?_, ?_⟩ <;> (simp only [go_sem, simprocAttr]; with_reducible rfl)), 4 + 1, fun k => if k = 4 then true else q k, rfl, rfl, by omega, fun x => by
              have h1 := hq x
              dsimp only
              by_cases e : x = 4
              · subst e
                rw [if_neg (by omega)] at h1
                rw [if_pos rfl, if_pos (by omega), ← h1, hqv]; rfl
              · rw [if_neg e, h1]
                by_cases e2 : x < 4
                · rw [if_pos e2, if_pos (by omega)]
                · rw [if_neg e2, if_neg (by omega)]⟩
          | false =>
            repeat' (first | (with_reducible first | refine SW_seq ?_ | refine SW_block ?_ | refine SThen_n ?_ | refine SThen_r ?_ | refine SThen_e ?_ | refine SIn_n ?_ | refine SIn_r ?_ | refine SIn_eq ?_ | refine SW_skip ?_ | refine SW_exit ?_ | refine SW_ret ?_ | refine SPost_r ?_) | ((with_reducible refine SIn_ne ?_ ?_); focus decide) | ((with_reducible refine SW_true ?_ ?_); focus exact rfl) | ((with_reducible refine SW_false ?_ ?_); focus exact rfl) | ((first | (with_reducible apply SW_run tt_ok hG htb) | ((with_reducible apply SW_draw rfl tt_ok hG htb); (focus kernel_rfl); (focus (simp only [List.range, List.range.loop, List.size_toArray, List.length_cons, List.length_nil, Nat.reduceAdd])))); focus ((repeat' (first | (with_reducible exact runX_nil) | (with_reducible exact runI_nil) | ((first | (with_reducible apply runX_cons) | (with_reducible apply runI_cons)); focus (simp (discharger := omega) only [go_sem, tSet, hqv, simprocAttr]; with_reducible rfl)))); done)))
            exact ⟨5 - (4 + 1), _, by omega, Norm.headS (own := []) (keep := [0, 1, 4, 6, 9, 33, 34, 42, 43]) (by refine ⟨?_, ?_⟩; (simp (discharger := omega) only [go_sem, simprocAttr]; with_reducible rfl); refine ⟨?_, ?_, ?_, ?_⟩ <;> (simp only [go_sem, simprocAttr]; with_reducible rfl)), 4 + 1, fun k => if k = 4 then b1 4 else q k, rfl, rfl, by omega, fun x => by
              have h1 := hq x
              dsimp only
              by_cases e : x = 4
              · subst e
                rw [if_neg (by omega)] at h1
                rw [if_pos rfl, if_pos (by omega), ← h1, hqv]; rfl
              · rw [if_neg e, h1]
                by_cases e2 : x < 4
                · rw [if_pos e2, if_pos (by omega)]
                · rw [if_neg e2, if_neg (by omega)]⟩
      · obtain rfl : v = 5 := by omega
        repeat' (first | (with_reducible first | refine SW_seq ?_ | refine SW_block ?_ | refine SThen_n ?_ | refine SThen_r ?_ | refine SThen_e ?_ | refine SIn_n ?_ | refine SIn_r ?_ | refine SIn_eq ?_ | refine SW_skip ?_ | refine SW_exit ?_ | refine SW_ret ?_ | refine SPost_r ?_) | ((with_reducible refine SIn_ne ?_ ?_); focus decide) | ((with_reducible refine SW_true ?_ ?_); focus exact rfl) | ((with_reducible refine SW_false ?_ ?_); focus exact rfl) | ((first | (with_reducible apply SW_run tt_ok hG htb) | ((with_reducible apply SW_draw rfl tt_ok hG htb); (focus kernel_rfl); (focus (simp only [List.range, List.range.loop, List.size_toArray, List.length_cons, List.length_nil, Nat.reduceAdd])))); focus ((repeat' (first | (with_reducible exact runX_nil) | (with_reducible exact runI_nil) | ((first | (with_reducible apply runX_cons) | (with_reducible apply runI_cons)); focus (simp (discharger := omega) only [go_sem, simprocAttr]; with_reducible rfl)))); done)))
        exact ⟨pp.toNat - (k + 1), _, by omega, Norm.headS (own := []) (keep := [0, 1, 4, 6, 9, 33, 34]) (by refine ⟨?_, ?_⟩; (simp (discharger := omega) only [go_sem, simprocAttr]; with_reducible rfl); refine ⟨?_, ?_, ?_, ?_⟩ <;> (simp only [go_sem, simprocAttr]; with_reducible rfl)), k + 1, m, q, d2, rfl, rfl, by omega, by rw [show pp.toNat - (k + 1) = r by omega]; exact hR2, fun x hx => by
          rw [hbt x hx, hq x, if_pos hx, hd x, Bool.or_assoc], hmf⟩
    · rw [show pp.toNat - k = 0 by omega] at hR
      obtain ⟨rfl, hd⟩ := hR
      have hbt : ∀ x : Nat, x < 5 → b x = if (op = 8 ∨ op = 9) ∧ var = (x : Int) then false else g x := fun x hx => by rw [hbt x hx, hd x, Bool.or_false]
      have htb : Tab.ok Tryd.prog G [] := Tab.nil
      by_cases h89 : op = 8 ∨ op = 9
      · have hvb := hvar h89
        have hvc : var = 0 ∨ var = 1 ∨ var = 2 ∨ var = 3 ∨ var = 4 := by omega
        rcases hvc with rfl | rfl | rfl | rfl | rfl
        · have hs : tSet b = .agg [.bool false, .bool (g 1), .bool (g 2), .bool (g 3), .bool (g 4)] := by
            unfold tSet
            rw [hbt 0 (by omega), hbt 1 (by omega), hbt 2 (by omega), hbt 3 (by omega), hbt 4 (by omega)]
            simp [h89]
          rw [hs]
          rcases h89 with rfl | rfl
          · repeat' (first | (with_reducible first | refine SW_seq ?_ | refine SW_block ?_ | refine SThen_n ?_ | refine SThen_r ?_ | refine SThen_e ?_ | refine SIn_n ?_ | refine SIn_r ?_ | refine SIn_eq ?_ | refine SW_skip ?_ | refine SW_exit ?_ | refine SW_ret ?_ | refine SPost_r ?_) | ((with_reducible refine SIn_ne ?_ ?_); focus decide) | ((with_reducible refine SW_true ?_ ?_); focus exact rfl) | ((with_reducible refine SW_false ?_ ?_); focus exact rfl) | ((first | (with_reducible apply SW_run tt_ok hG htb) | ((with_reducible apply SW_draw rfl tt_ok hG htb); (focus kernel_rfl); (focus (simp only [List.range, List.range.loop, List.size_toArray, List.length_cons, List.length_nil, Nat.reduceAdd])))); focus ((repeat' (first | (with_reducible exact runX_nil) | (with_reducible exact runI_nil) | ((first | (with_reducible apply runX_cons) | (with_reducible apply runI_cons)); focus (simp (discharger := omega) only [go_sem, hn1, tNode, simprocAttr]; with_reducible rfl)))); done)))
            exact (by simp (discharger := omega) only [go_sem, simprocAttr])
          · repeat' (first | (with_reducible first | refine SW_seq ?_ | refine SW_block ?_ | refine SThen_n ?_ | refine SThen_r ?_ | refine SThen_e ?_ | refine SIn_n ?_ | refine SIn_r ?_ | refine SIn_eq ?_ | refine SW_skip ?_ | refine SW_exit ?_ | refine SW_ret ?_ | refine SPost_r ?_) | ((with_reducible refine SIn_ne ?_ ?_); focus decide) | ((with_reducible refine SW_true ?_ ?_); focus exact rfl) | ((with_reducible refine SW_false ?_ ?_); focus exact rfl) | ((first | (with_reducible apply SW_run tt_ok hG htb) | ((with_reducible apply SW_draw rfl tt_ok hG htb); (focus kernel_rfl); (focus (simp only [List.range, List.range.loop, List.size_toArray, List.length_cons, List.length_nil, Nat.reduceAdd])))); focus ((repeat' (first | (with_reducible exact runX_nil) | (with_reducible exact runI_nil) | ((first | (with_reducible apply runX_cons) | (with_reducible apply runI_cons)); focus (simp (discharger := omega) only [go_sem, hn1, tNode, simprocAttr]; with_reducible rfl)))); done)))
            exact (by simp (discharger := omega) only [go_sem, simprocAttr])
        · have hs : tSet b = .agg [.bool (g 0), .bool false, .bool (g 2), .bool (g 3), .bool (g 4)] := by
            unfold tSet
            rw [hbt 0 (by omega), hbt 1 (by omega), hbt 2 (by omega), hbt 3 (by omega), hbt 4 (by omega)]
            simp [h89]
          rw [hs]
          rcases h89 with rfl | rfl
          · repeat' (first | (with_reducible first | refine SW_seq ?_ | refine SW_block ?_ | refine SThen_n ?_ | refine SThen_r ?_ | refine SThen_e ?_ | refine SIn_n ?_ | refine SIn_r ?_ | refine SIn_eq ?_ | refine SW_skip ?_ | refine SW_exit ?_ | refine SW_ret ?_ | refine SPost_r ?_) | ((with_reducible refine SIn_ne ?_ ?_); focus decide) | ((with_reducible refine SW_true ?_ ?_); focus exact rfl) | ((with_reducible refine SW_false ?_ ?_); focus exact rfl) | ((first | (with_reducible apply SW_run tt_ok hG htb) | ((with_reducible apply SW_draw rfl tt_ok hG htb); (focus kernel_rfl); (focus (simp only [List.range, List.range.loop, List.size_toArray, List.length_cons, List.length_nil, Nat.reduceAdd])))); focus ((repeat' (first | (with_reducible exact runX_nil) | (with_reducible exact runI_nil) | ((first | (with_reducible apply runX_cons) | (with_reducible apply runI_cons)); focus (simp (discharger := omega) only [go_sem, hn1, tNode, simprocAttr]; with_reducible rfl)))); done)))
            exact (by simp (discharger := omega) only [go_sem, simprocAttr])
          · repeat' (first | (with_reducible first | refine SW_seq ?_ | refine SW_block ?_ | refine SThen_n ?_ | refine SThen_r ?_ | refine SThen_e ?_ | refine SIn_n ?_ | refine SIn_r ?_ | refine SIn_eq ?_ | refine SW_skip ?_ | refine SW_exit ?_ | refine SW_ret ?_ | refine SPost_r ?_) | ((with_reducible refine SIn_ne ?_ ?_); focus decide) | ((with_reducible refine SW_true ?_ ?_); focus exact rfl) | ((with_reducible refine SW_false ?_ ?_); focus exact rfl) | ((first | (with_reducible apply SW_run tt_ok hG htb) | ((with_reducible apply SW_draw rfl tt_ok hG htb); (focus kernel_rfl); (focus (simp only [List.range, List.range.loop, List.size_toArray, List.length_cons, List.length_nil, Nat.reduceAdd])))); focus ((repeat' (first | (with_reducible exact runX_nil) | (with_reducible exact runI_nil) | ((first | (with_reducible apply runX_cons) | (with_reducible apply runI_cons)); focus (simp (discharger := omega) only [go_sem, hn1, tNode, simprocAttr]; with_reducible rfl)))); done)))
            exact (by simp (discharger := omega) only [go_sem, simprocAttr])
        · have hs : tSet b = .agg [.bool (g 0), .bool (g 1), .bool false, .bool (g 3), .bool (g 4)] := by
            unfold tSet
            rw [hbt 0 (by omega), hbt 1 (by omega), hbt 2 (by omega), hbt 3 (by omega), hbt 4 (by omega)]
            simp [h89]
          rw [hs]
          rcases h89 with rfl | rfl
          · repeat' (first | (with_reducible first | refine SW_seq ?_ | refine SW_block ?_ | refine SThen_n ?_ | refine SThen_r ?_ | refine SThen_e ?_ | refine SIn_n ?_ | refine SIn_r ?_ | refine SIn_eq ?_ | refine SW_skip ?_ | refine SW_exit ?_ | refine SW_ret ?_ | refine SPost_r ?_) | ((with_reducible refine SIn_ne ?_ ?_); focus decide) | ((with_reducible refine SW_true ?_ ?_); focus exact rfl) | ((with_reducible refine SW_false ?_ ?_); focus exact rfl) | ((first | (with_reducible apply SW_run tt_ok hG htb) | ((with_reducible apply SW_draw rfl tt_ok hG htb); (focus kernel_rfl); (focus (simp only [List.range, List.range.loop, List.size_toArray, List.length_cons, List.length_nil, Nat.reduceAdd])))); focus ((repeat' (first | (with_reducible exact runX_nil) | (with_reducible exact runI_nil) | ((first | (with_reducible apply runX_cons) | (with_reducible apply runI_cons)); focus (simp (discharger := omega) only [go_sem, hn1, tNode, simprocAttr]; with_reducible rfl)))); done)))
            exact (by simp (discharger := omega) only [go_sem, simprocAttr])
          · repeat' (first | (with_reducible first | refine SW_seq ?_ | refine SW_block ?_ | refine SThen_n ?_ | refine SThen_r ?_ | refine SThen_e ?_ | refine SIn_n ?_ | refine SIn_r ?_ | refine SIn_eq ?_ | refine SW_skip ?_ | refine SW_exit ?_ | refine SW_ret ?_ | refine SPost_r ?_) | ((with_reducible refine SIn_ne ?_ ?_); focus decide) | ((with_reducible refine SW_true ?_ ?_); focus exact rfl) | ((with_reducible refine SW_false ?_ ?_); focus exact rfl) | ((first | (with_reducible apply SW_run tt_ok hG htb) | ((with_reducible apply SW_draw rfl tt_ok hG htb); (focus kernel_rfl); (focus (simp only [List.range, List.range.loop, List.size_toArray, List.length_cons, List.length_nil, Nat.reduceAdd])))); focus ((repeat' (first | (with_reducible exact runX_nil) | (with_reducible exact runI_nil) | ((first | (with_reducible apply runX_cons) | (with_reducible apply runI_cons)); focus (simp (discharger := omega) only [go_sem, hn1, tNode, simprocAttr]; with_reducible rfl)))); done)))
            exact (by simp (discharger := omega) only [go_sem, simprocAttr])
        · have hs : tSet b = .agg [.bool (g 0), .bool (g 1), .bool (g 2), .bool false, .bool (g 4)] := by
            unfold tSet
            rw [hbt 0 (by omega), hbt 1 (by omega), hbt 2 (by omega), hbt 3 (by omega), hbt 4 (by omega)]
            simp [h89]
          rw [hs]
          rcases h89 with rfl | rfl
          · repeat' (first | (with_reducible first | refine SW_seq ?_ | refine SW_block ?_ | refine SThen_n ?_ | refine SThen_r ?_ | refine SThen_e ?_ | refine SIn_n ?_ | refine SIn_r ?_ | refine SIn_eq ?_ | refine SW_skip ?_ | refine SW_exit ?_ | refine SW_ret ?_ | refine SPost_r ?_) | ((with_reducible refine SIn_ne ?_ ?_); focus decide) | ((with_reducible refine SW_true ?_ ?_); focus exact rfl) | ((with_reducible refine SW_false ?_ ?_); focus exact rfl) | ((first | (with_reducible apply SW_run tt_ok hG htb) | ((with_reducible apply SW_draw rfl tt_ok hG htb); (focus kernel_rfl); (focus (simp only [List.range, List.range.loop, List.size_toArray, List.length_cons, List.length_nil, Nat.reduceAdd])))); focus ((repeat' (first | (with_reducible exact runX_nil) | (with_reducible exact runI_nil) | ((first | (with_reducible apply runX_cons) | (with_reducible apply runI_cons)); focus (simp (discharger := omega) only [go_sem, hn1, tNode, simprocAttr]; with_reducible rfl)))); done)))
            exact (by simp (discharger := omega) only [go_sem, simprocAttr])
          · repeat' (first | (with_reducible first | refine SW_seq ?_ | refine SW_block ?_ | refine SThen_n ?_ | refine SThen_r ?_ | refine SThen_e ?_ | refine SIn_n ?_ | refine SIn_r ?_ | refine SIn_eq ?_ | refine SW_skip ?_ | refine SW_exit ?_ | refine SW_ret ?_ | refine SPost_r ?_) | ((with_reducible refine SIn_ne ?_ ?_); focus decide) | ((with_reducible refine SW_true ?_ ?_); focus exact rfl) | ((with_reducible refine SW_false ?_ ?_); focus exact rfl) | ((first | (with_reducible apply SW_run tt_ok hG htb) | ((with_reducible apply SW_draw rfl tt_ok hG htb); (focus kernel_rfl); (focus (simp only [List.range, List.range.loop, List.size_toArray, List.length_cons, List.length_nil, Nat.reduceAdd])))); focus ((repeat' (first | (with_reducible exact runX_nil) | (with_reducible exact runI_nil) | ((first | (with_reducible apply runX_cons) | (with_reducible apply runI_cons)); focus (simp (discharger := omega) only [go_sem, hn1, tNode, simprocAttr]; with_reducible rfl)))); done)))
            exact (by simp (discharger := omega) only [go_sem, simprocAttr])
        · have hs : tSet b = .agg [.bool (g 0), .bool (g 1), .bool (g 2), .bool (g 3), .bool false] := by
            unfold tSet
            rw [hbt 0 (by omega), hbt 1 (by omega), hbt 2 (by omega), hbt 3 (by omega), hbt 4 (by omega)]
            simp [h89]
          rw [hs]
          rcases h89 with rfl | rfl
          · repeat' (first | (with_reducible first | refine SW_seq ?_ | refine SW_block ?_ | refine SThen_n ?_ | refine SThen_r ?_ | refine SThen_e ?_ | refine SIn_n ?_ | refine SIn_r ?_ | refine SIn_eq ?_ | refine SW_skip ?_ | refine SW_exit ?_ | refine SW_ret ?_ | refine SPost_r ?_) | ((with_reducible refine SIn_ne ?_ ?_); focus decide) | ((with_reducible refine SW_true ?_ ?_); focus exact rfl) | ((with_reducible refine SW_false ?_ ?_); focus exact rfl) | ((first | (with_reducible apply SW_run tt_ok hG htb) | ((with_reducible apply SW_draw rfl tt_ok hG htb); (focus kernel_rfl); (focus (simp only [List.range, List.range.loop, List.size_toArray, List.length_cons, List.length_nil, Nat.reduceAdd])))); focus ((repeat' (first | (with_reducible exact runX_nil) | (with_reducible exact runI_nil) | ((first | (with_reducible apply runX_cons) | (with_reducible apply runI_cons)); focus (simp (discharger := omega) only [go_sem, hn1, tNode, simprocAttr]; with_reducible rfl)))); done)))
            exact (by simp (discharger := omega) only [go_sem, simprocAttr])
          · repeat' (first | (with_reducible first | refine SW_seq ?_ | refine SW_block ?_ | refine SThen_n ?_ | refine SThen_r ?_ | refine SThen_e ?_ | refine SIn_n ?_ | refine SIn_r ?_ | refine SIn_eq ?_ | refine SW_skip ?_ | refine SW_exit ?_ | refine SW_ret ?_ | refine SPost_r ?_) | ((with_reducible refine SIn_ne ?_ ?_); focus decide) | ((with_reducible refine SW_true ?_ ?_); focus exact rfl) | ((with_reducible refine SW_false ?_ ?_); focus exact rfl) | ((first | (with_reducible apply SW_run tt_ok hG htb) | ((with_reducible apply SW_draw rfl tt_ok hG htb); (focus kernel_rfl); (focus (simp only [List.range, List.range.loop, List.size_toArray, List.length_cons, List.length_nil, Nat.reduceAdd])))); focus ((repeat' (first | (with_reducible exact runX_nil) | (with_reducible exact runI_nil) | ((first | (with_reducible apply runX_cons) | (with_reducible apply runI_cons)); focus (simp (discharger := omega) only [go_sem, hn1, tNode, simprocAttr]; with_reducible rfl)))); done)))
            exact (by simp (discharger := omega) only [go_sem, simprocAttr])
      · have n8 : ¬ op = 8 := fun e => h89 (.inl e)
        have n9 : ¬ op = 9 := fun e => h89 (.inr e)
        have hs : tSet b = .agg [.bool (g 0), .bool (g 1), .bool (g 2), .bool (g 3), .bool (g 4)] := by
          unfold tSet
          rw [hbt 0 (by omega), hbt 1 (by omega), hbt 2 (by omega), hbt 3 (by omega), hbt 4 (by omega)]
          simp [n8, n9]
        rw [hs]
        repeat' (first | (with_reducible first | refine SW_seq ?_ | refine SW_block ?_ | refine SThen_n ?_ | refine SThen_r ?_ | refine SThen_e ?_ | refine SIn_n ?_ | refine SIn_r ?_ | refine SIn_eq ?_ | refine SW_skip ?_ | refine SW_exit ?_ | refine SW_ret ?_ | refine SPost_r ?_) | ((with_reducible refine SIn_ne ?_ ?_); focus decide) | ((with_reducible refine SW_true ?_ ?_); focus exact rfl) | ((with_reducible refine SW_false ?_ ?_); focus exact rfl) | ((first | (with_reducible apply SW_run tt_ok hG htb) | ((with_reducible apply SW_draw rfl tt_ok hG htb); (focus kernel_rfl); (focus (simp only [List.range, List.range.loop, List.size_toArray, List.length_cons, List.length_nil, Nat.reduceAdd])))); focus ((repeat' (first | (with_reducible exact runX_nil) | (with_reducible exact runI_nil) | ((first | (with_reducible apply runX_cons) | (with_reducible apply runI_cons)); focus (simp (discharger := omega) only [go_sem, hn1, tNode, n8, n9, simprocAttr]; with_reducible rfl)))); done)))
        exact (by simp (discharger := omega) only [go_sem, simprocAttr])
theorem free_snd {f : List GNode} (hl : f.length ≤ 40) (hne : ∀ n ∈ f, nodeErr n = 0) {i e : Nat} (h : Part f i e) : Snd Tryd.prog G 70 [tForm f, tNat i] (.tup [tSet fun k => freeP f i (k : Nat), tNat e]) := by
  induction h with
  | leaf hn hp =>
    have hi := (List.getElem?_eq_some_iff.1 hn).1
    refine free_step hG hl hn (hne _ (List.mem_of_getElem? hn)) (by omega) (fun _ => false) _ (by rw [hp]; exact ⟨rfl, fun _ => rfl⟩) fun k hk => ?_
    rw [freeP_leaf hn hp, if_neg (by
      rintro ⟨h8, _⟩
      unfold partsOf at hp
      rw [if_pos (by omega)] at hp; omega), Bool.or_false]
  | one hn hp h1 ih =>
    have hlt := h1.lt
    refine free_step hG hl hn (hne _ (List.mem_of_getElem? hn)) hlt.2 _ _ (by rw [hp]; exact ⟨_, _, fun _ => false, ih, hlt.1, hlt.2, ⟨rfl, fun _ => rfl⟩, fun k => (Bool.or_false _).symm⟩) fun k hk => ?_
    rw [freeP_one hn hp h1, usesN_parts (by rw [hp]; decide) _, Bool.false_or]
  | two hn hp h1 h2 ih1 ih2 =>
    have l1 := h1.lt
    have l2 := h2.lt
    refine free_step hG hl hn (hne _ (List.mem_of_getElem? hn)) l2.2 _ _ (by rw [hp]; exact ⟨_, _, _, ih1, l1.1, l1.2, ⟨_, _, fun _ => false, ih2, l2.1, l2.2, ⟨rfl, fun _ => rfl⟩, fun k => (Bool.or_false _).symm⟩, fun k => rfl⟩) fun k hk => ?_
    rw [freeP_two hn hp h1 h2, usesN_parts (by rw [hp]; decide) _, Bool.false_or, if_neg]
    rintro ⟨h8, _⟩
    unfold partsOf at hp
    rw [if_pos (by omega)] at hp; omega
end
end Go.Proofs.YtfhncnhkeodngaaDoor
namespace Go.Proofs.YtfhncnhkeodngaaDoor
open Go.RowKit
def freeV (f : List GNode) : List Int := if (formErr f).2 = 0 then freeL f else []
section
variable {G : World → Prop} (hG : Lasting G)
include hG
set_option maxHeartbeats 4000000 in
theorem FreeV_snd (f : List GNode) : Snd Tryd.prog G 29 [tForm f] (.tup [tInts (freeV f), tErr (formErr f).2]) := by
  have c1 := Check_form_snd hG f
  refine snd_of_body (n := 36) (tm := [(0, .t (tForm f))]) (rs := [.tmp 2, .tmp 3]) tt_ok Tryd.func29 rfl rfl rfl rfl rfl ?_
  unfold freeV
  by_cases h : (formErr f).2 = 0
  · obtain ⟨h0, hl, hne, hp, e1⟩ := form_ok h
    rw [if_pos h, freeL_take]
    rw [h, e1] at c1
    rw [h]
    have c2 : Snd Tryd.prog G 70 [tForm f, tInt 0] (.tup [tSet fun k => freeP f 0 (k : Nat), tNat f.length]) := free_snd hG hl hne hp
    have htb := Tab.cons c1 (Tab.cons c2 Tab.nil)
    generalize hq : (fun k : Nat => freeP f 0 (k : Nat)) = q at *
    have hqk : ∀ k : Nat, freeP f 0 (k : Int) = q k := fun k => by rw [← hq]
    clear hq c1 c2
    repeat' (first | (with_reducible first | refine SW_seq ?_ | refine SW_block ?_ | refine SThen_n ?_ | refine SThen_r ?_ | refine SThen_e ?_ | refine SIn_n ?_ | refine SIn_r ?_ | refine SIn_eq ?_ | refine SW_skip ?_ | refine SW_exit ?_ | refine SW_ret ?_ | refine SPost_r ?_) | ((with_reducible refine SIn_ne ?_ ?_); focus decide) | ((with_reducible refine SW_true ?_ ?_); focus exact rfl) | ((with_reducible refine SW_false ?_ ?_); focus exact rfl) | ((first | (with_reducible apply SW_run tt_ok hG htb) | ((with_reducible apply SW_draw rfl tt_ok hG htb); (focus kernel_rfl); (focus (simp only [List.range, List.range.loop, List.size_toArray, List.length_cons, List.length_nil, Nat.reduceAdd])))); focus ((repeat' (first | (with_reducible exact runX_nil) | (with_reducible exact runI_nil) | ((first | (with_reducible apply runX_cons) | (with_reducible apply runI_cons)); focus (simp (discharger := omega) only [go_sem, tErr0, tSet, simprocAttr]; with_reducible rfl)))); done)))
    clear htb
    have htb : Tab.ok Tryd.prog G [] := Tab.nil
    refine SW_loop (fun mm s => ∃ (i : Nat) (ot : List T), mm = 5 - i ∧ s = ⟨36, [(8, .sref 0), (24, .t (tSet q)), (25, .t (tNat i))], [.row 3 1 false ot]⟩ ∧ i ≤ 5 ∧ ot = (((List.range i).filter q).map fun k => ((k : Nat) : Int)).map tInt ∧ ot.length ≤ i) 5
      ⟨_, Norm.headS (own := [(8, 3, 1, false)]) (keep := [8, 24, 25]) (by refine ⟨?_, ?_⟩; (simp (discharger := omega) only [go_sem, simprocAttr]; with_reducible rfl); refine ⟨?_, ?_, ?_, ?_⟩ <;> (simp only [go_sem, simprocAttr]; with_reducible rfl)), 0, _, rfl, rfl, by omega, rfl, Nat.le_refl _⟩ ?_
    rintro mm s ⟨i, ot, rfl, rfl, hi, hot, hol⟩
    by_cases hlt : i < 5
    · have hcons : ∀ b, q i = b → (List.range (i + 1)).filter q = (List.range i).filter q ++ (if b = true then [i] else []) := fun b hb => by
        rw [List.range_succ, List.filter_append]
        congr 1
        simp only [List.filter_cons, List.filter_nil, hb]
      have hic : i = 0 ∨ i = 1 ∨ i = 2 ∨ i = 3 ∨ i = 4 := by omega
      rcases hic with rfl | rfl | rfl | rfl | rfl
      · cases hb : q 0 with
        | true =>
          repeat' (first | (with_reducible first | refine SW_seq ?_ | refine SW_block ?_ | refine SThen_n ?_ | refine SThen_r ?_ | refine SThen_e ?_ | refine SIn_n ?_ | refine SIn_r ?_ | refine SIn_eq ?_ | refine SW_skip ?_ | refine SW_exit ?_ | refine SW_ret ?_ | refine SPost_r ?_) | ((with_reducible refine SIn_ne ?_ ?_); focus decide) | ((with_reducible refine SW_true ?_ ?_); focus exact rfl) | ((with_reducible refine SW_false ?_ ?_); focus exact rfl) | ((first | (with_reducible apply SW_run tt_ok hG htb) | ((with_reducible apply SW_draw rfl tt_ok hG htb); (focus kernel_rfl); (focus (simp only [List.range, List.range.loop, List.size_toArray, List.length_cons, List.length_nil, Nat.reduceAdd])))); focus ((repeat' (first | (with_reducible exact runX_nil) | (with_reducible exact runI_nil) | ((first | (with_reducible apply runX_cons) | (with_reducible apply runI_cons)); focus (simp (discharger := omega) only [go_sem, tSet, hb, simprocAttr]; with_reducible rfl)))); done)))
          exact ⟨5 - (0 + 1), _, by omega, Norm.headS (own := [(8, 3, 1, false)]) (keep := [8, 24, 25]) (by refine ⟨?_, ?_⟩; (simp (discharger := omega) only [go_sem, simprocAttr]; with_reducible rfl); refine ⟨?_, ?_, ?_, ?_⟩ <;> (simp only [go_sem, simprocAttr]; with_reducible rfl)), 0 + 1, ot ++ [tInt 0], rfl, (by unfold tSet; rw [hb]; first | done | rfl), by omega, by rw [hcons _ hb, if_pos rfl, List.map_append, List.map_append, hot]; rfl, by rw [List.length_append, List.length_singleton]; omega⟩
        | false =>
          repeat' (first | (with_reducible first | refine SW_seq ?_ | refine SW_block ?_ | refine SThen_n ?_ | refine SThen_r ?_ | refine SThen_e ?_ | refine SIn_n ?_ | refine SIn_r ?_ | refine SIn_eq ?_ | refine SW_skip ?_ | refine SW_exit ?_ | refine SW_ret ?_ | refine SPost_r ?_) | ((with_reducible refine SIn_ne ?_ ?_); focus decide) | ((with_reducible refine SW_true ?_ ?_); focus exact rfl) | ((with_reducible refine SW_false ?_ ?_); focus exact rfl) | ((first | (with_reducible apply SW_run tt_ok hG htb) | ((with_reducible apply SW_draw rfl tt_ok hG htb); (focus kernel_rfl); (focus (simp only [List.range, List.range.loop, List.size_toArray, List.length_cons, List.length_nil, Nat.reduceAdd])))); focus ((repeat' (first | (with_reducible exact runX_nil) | (with_reducible exact runI_nil) | ((first | (with_reducible apply runX_cons) | (with_reducible apply runI_cons)); focus (simp (discharger := omega) only [go_sem, tSet, hb, simprocAttr]; with_reducible rfl)))); done)))
          exact ⟨5 - (0 + 1), _, by omega, Norm.headS (own := [(8, 3, 1, false)]) (keep := [8, 24, 25]) (by refine ⟨?_, ?_⟩; (simp (discharger := omega) only [go_sem, simprocAttr]; with_reducible rfl); refine ⟨?_, ?_, ?_, ?_⟩ <;> (simp only [go_sem, simprocAttr]; with_reducible rfl)), 0 + 1, ot, rfl, (by unfold tSet; rw [hb]; first | done | rfl), by omega, by rw [hcons _ hb, if_neg (by decide), List.append_nil, hot], by omega⟩
      · cases hb : q 1 with
        | true =>
          repeat' (first | (with_reducible first | refine SW_seq ?_ | refine SW_block ?_ | refine SThen_n ?_ | refine SThen_r ?_ | refine SThen_e ?_ | refine SIn_n ?_ | refine SIn_r ?_ | refine SIn_eq ?_ | refine SW_skip ?_ | refine SW_exit ?_ | refine SW_ret ?_ | refine SPost_r ?_) | ((with_reducible refine SIn_ne ?_ ?_); focus decide) | ((with_reducible refine SW_true ?_ ?_); focus exact rfl) | ((with_reducible refine SW_false ?_ ?_); focus exact rfl) | ((first | (with_reducible apply SW_run tt_ok hG htb) | ((with_reducible apply SW_draw rfl tt_ok hG htb); (focus kernel_rfl); (focus (simp only [List.range, List.range.loop, List.size_toArray, List.length_cons, List.length_nil, Nat.reduceAdd])))); focus ((repeat' (first | (with_reducible exact runX_nil) | (with_reducible exact runI_nil) | ((first | (with_reducible apply runX_cons) | (with_reducible apply runI_cons)); focus (simp (discharger := omega) only [go_sem, tSet, hb, simprocAttr]; with_reducible rfl)))); done)))
          exact ⟨5 - (1 + 1), _, by omega, Norm.headS (own := [(8, 3, 1, false)]) (keep := [8, 24, 25]) (by refine ⟨?_, ?_⟩; (simp (discharger := omega) only [go_sem, simprocAttr]; with_reducible rfl); refine ⟨?_, ?_, ?_, ?_⟩ <;> (simp only [go_sem, simprocAttr]; with_reducible rfl)), 1 + 1, ot ++ [tInt 1], rfl, (by unfold tSet; rw [hb]; first | done | rfl), by omega, by rw [hcons _ hb, if_pos rfl, List.map_append, List.map_append, hot]; rfl, by rw [List.length_append, List.length_singleton]; omega⟩
        | false =>
          repeat' (first | (with_reducible first | refine SW_seq ?_ | refine SW_block ?_ | refine SThen_n ?_ | refine SThen_r ?_ | refine SThen_e ?_ | refine SIn_n ?_ | refine SIn_r ?_ | refine SIn_eq ?_ | refine SW_skip ?_ | refine SW_exit ?_ | refine SW_ret ?_ | refine SPost_r ?_) | ((with_reducible refine SIn_ne ?_ ?_); focus decide) | ((with_reducible refine SW_true ?_ ?_); focus exact rfl) | ((with_reducible refine SW_false ?_ ?_); focus exact rfl) | ((first | (with_reducible apply SW_run tt_ok hG htb) | ((with_reducible apply SW_draw rfl tt_ok hG htb); (focus kernel_rfl); (focus (simp only [List.range, List.range.loop, List.size_toArray, List.length_cons, List.length_nil, Nat.reduceAdd])))); focus ((repeat' (first | (with_reducible exact runX_nil) | (with_reducible exact runI_nil) | ((first | (with_reducible apply runX_cons) | (with_reducible apply runI_cons)); focus (simp (discharger := omega) only [go_sem, tSet, hb, simprocAttr]; with_reducible rfl)))); done)))
          exact ⟨5 - (1 + 1), _, by omega, Norm.headS (own := [(8, 3, 1, false)]) (keep := [8, 24, 25]) (by refine ⟨?_, ?_⟩; (simp (discharger := omega) only [go_sem, simprocAttr]; with_reducible rfl); refine ⟨?_, ?_, ?_, ?_⟩ <;> (simp only [go_sem, simprocAttr]; with_reducible rfl)), 1 + 1, ot, rfl, (by unfold tSet; rw [hb]; first | done | rfl), by omega, by rw [hcons _ hb, if_neg (by decide), List.append_nil, hot], by omega⟩
      · cases hb : q 2 with
        | true =>
          repeat' (first | (with_reducible first | refine SW_seq ?_ | refine SW_block ?_ | refine SThen_n ?_ | refine SThen_r ?_ | refine SThen_e ?_ | refine SIn_n ?_ | refine SIn_r ?_ | refine SIn_eq ?_ | refine SW_skip ?_ | refine SW_exit ?_ | refine SW_ret ?_ | refine SPost_r ?_) | ((with_reducible refine SIn_ne ?_ ?_); focus decide) | ((with_reducible refine SW_true ?_ ?_); focus exact rfl) | ((with_reducible refine SW_false ?_ ?_); focus exact rfl) | ((first | (with_reducible apply SW_run tt_ok hG htb) | ((with_reducible apply SW_draw rfl tt_ok hG htb); (focus kernel_rfl); (focus (simp only [List.range, List.range.loop, List.size_toArray, List.length_cons, List.length_nil, Nat.reduceAdd])))); focus ((repeat' (first | (with_reducible exact runX_nil) | (with_reducible exact runI_nil) | ((first | (with_reducible apply runX_cons) | (with_reducible apply runI_cons)); focus (simp (discharger := omega) only [go_sem, tSet, hb, simprocAttr]; with_reducible rfl)))); done)))
          exact ⟨5 - (2 + 1), _, by omega, Norm.headS (own := [(8, 3, 1, false)]) (keep := [8, 24, 25]) (by refine ⟨?_, ?_⟩; (simp (discharger := omega) only [go_sem, simprocAttr]; with_reducible rfl); refine ⟨?_, ?_, ?_, ?_⟩ <;> (simp only [go_sem, simprocAttr]; with_reducible rfl)), 2 + 1, ot ++ [tInt 2], rfl, (by unfold tSet; rw [hb]; first | done | rfl), by omega, by rw [hcons _ hb, if_pos rfl, List.map_append, List.map_append, hot]; rfl, by rw [List.length_append, List.length_singleton]; omega⟩
        | false =>
          repeat' (first | (with_reducible first | refine SW_seq ?_ | refine SW_block ?_ | refine SThen_n ?_ | refine SThen_r ?_ | refine SThen_e ?_ | refine SIn_n ?_ | refine SIn_r ?_ | refine SIn_eq ?_ | refine SW_skip ?_ | refine SW_exit ?_ | refine SW_ret ?_ | refine SPost_r ?_) | ((with_reducible refine SIn_ne ?_ ?_); focus decide) | ((with_reducible refine SW_true ?_ ?_); focus exact rfl) | ((with_reducible refine SW_false ?_ ?_); focus exact rfl) | ((first | (with_reducible apply SW_run tt_ok hG htb) | ((with_reducible apply SW_draw rfl tt_ok hG htb); (focus kernel_rfl); (focus (simp only [List.range, List.range.loop, List.size_toArray, List.length_cons, List.length_nil, Nat.reduceAdd])))); focus ((repeat' (first | (with_reducible exact runX_nil) | (with_reducible exact runI_nil) | ((first | (with_reducible apply runX_cons) | (with_reducible apply runI_cons)); focus (simp (discharger := omega) only [go_sem, tSet, hb, simprocAttr]; with_reducible rfl)))); done)))
          exact ⟨5 - (2 + 1), _, by omega, Norm.headS (own := [(8, 3, 1, false)]) (keep := [8, 24, 25]) (by refine ⟨?_, ?_⟩; (simp (discharger := omega) only [go_sem, simprocAttr]; with_reducible rfl); refine ⟨?_, ?_, ?_, ?_⟩ <;> (simp only [go_sem, simprocAttr]; with_reducible rfl)), 2 + 1, ot, rfl, (by unfold tSet; rw [hb]; first | done | rfl), by omega, by rw [hcons _ hb, if_neg (by decide), List.append_nil, hot], by omega⟩
      · cases hb : q 3 with
        | true =>
          repeat' (first | (with_reducible first | refine SW_seq ?_ | refine SW_block ?_ | refine SThen_n ?_ | refine SThen_r ?_ | refine SThen_e ?_ | refine SIn_n ?_ | refine SIn_r ?_ | refine SIn_eq ?_ | refine SW_skip ?_ | refine SW_exit ?_ | refine SW_ret ?_ | refine SPost_r ?_) | ((with_reducible refine SIn_ne ?_ ?_); focus decide) | ((with_reducible refine SW_true ?_ ?_); focus exact rfl) | ((with_reducible refine SW_false ?_ ?_); focus exact rfl) | ((first | (with_reducible apply SW_run tt_ok hG htb) | ((with_reducible apply SW_draw rfl tt_ok hG htb); (focus kernel_rfl); (focus (simp only [List.range, List.range.loop, List.size_toArray, List.length_cons, List.length_nil, Nat.reduceAdd])))); focus ((repeat' (first | (with_reducible exact runX_nil) | (with_reducible exact runI_nil) | ((first | (with_reducible apply runX_cons) | (with_reducible apply runI_cons)); focus (simp (discharger := omega) only [go_sem, tSet, hb, simprocAttr]; with_reducible rfl)))); done)))
          exact ⟨5 - (3 + 1), _, by omega, Norm.headS (own := [(8, 3, 1, false)]) (keep := [8, 24, 25]) (by refine ⟨?_, ?_⟩; (simp (discharger := omega) only [go_sem, simprocAttr]; with_reducible rfl); refine ⟨?_, ?_, ?_, ?_⟩ <;> (simp only [go_sem, simprocAttr]; with_reducible rfl)), 3 + 1, ot ++ [tInt 3], rfl, (by unfold tSet; rw [hb]; first | done | rfl), by omega, by rw [hcons _ hb, if_pos rfl, List.map_append, List.map_append, hot]; rfl, by rw [List.length_append, List.length_singleton]; omega⟩
        | false =>
          repeat' (first | (with_reducible first | refine SW_seq ?_ | refine SW_block ?_ | refine SThen_n ?_ | refine SThen_r ?_ | refine SThen_e ?_ | refine SIn_n ?_ | refine SIn_r ?_ | refine SIn_eq ?_ | refine SW_skip ?_ | refine SW_exit ?_ | refine SW_ret ?_ | refine SPost_r ?_) | ((with_reducible refine SIn_ne ?_ ?_); focus decide) | ((with_reducible refine SW_true ?_ ?_); focus exact rfl) | ((with_reducible refine SW_false ?_ ?_); focus exact rfl) | ((first | (with_reducible apply SW_run tt_ok hG htb) | ((with_reducible apply SW_draw rfl tt_ok hG htb); (focus kernel_rfl); (focus (simp only [List.range, List.range.loop, List.size_toArray, List.length_cons, List.length_nil, Nat.reduceAdd])))); focus ((repeat' (first | (with_reducible exact runX_nil) | (with_reducible exact runI_nil) | ((first | (with_reducible apply runX_cons) | (with_reducible apply runI_cons)); focus (simp (discharger := omega) only [go_sem, tSet, hb, simprocAttr]; with_reducible rfl)))); done)))
          exact ⟨5 - (3 + 1), _, by omega, Norm.headS (own := [(8, 3, 1, false)]) (keep := [8, 24, 25]) (by refine ⟨?_, ?_⟩; (simp (discharger := omega) only [go_sem, simprocAttr]; with_reducible rfl); refine ⟨?_, ?_, ?_, ?_⟩ <;> (simp only [go_sem, simprocAttr]; with_reducible rfl)), 3 + 1, ot, rfl, (by unfold tSet; rw [hb]; first | done | rfl), by omega, by rw [hcons _ hb, if_neg (by decide), List.append_nil, hot], by omega⟩
      · cases hb : q 4 with
        | true =>
          repeat' (first | (with_reducible first | refine SW_seq ?_ | refine SW_block ?_ | refine SThen_n ?_ | refine SThen_r ?_ | refine SThen_e ?_ | refine SIn_n ?_ | refine SIn_r ?_ | refine SIn_eq ?_ | refine SW_skip ?_ | refine SW_exit ?_ | refine SW_ret ?_ | refine SPost_r ?_) | ((with_reducible refine SIn_ne ?_ ?_); focus decide) | ((with_reducible refine SW_true ?_ ?_); focus exact rfl) | ((with_reducible refine SW_false ?_ ?_); focus exact rfl) | ((first | (with_reducible apply SW_run tt_ok hG htb) | ((with_reducible apply SW_draw rfl tt_ok hG htb); (focus kernel_rfl); (focus (simp only [List.range, List.range.loop, List.size_toArray, List.length_cons, List.length_nil, Nat.reduceAdd])))); focus ((repeat' (first | (with_reducible exact runX_nil) | (with_reducible exact runI_nil) | ((first | (with_reducible apply runX_cons) | (with_reducible apply runI_cons)); focus (simp (discharger := omega) only [go_sem, tSet, hb, simprocAttr]; with_reducible rfl)))); done)))
          exact ⟨5 - (4 + 1), _, by omega, Norm.headS (own := [(8, 3, 1, false)]) (keep := [8, 24, 25]) (by refine ⟨?_, ?_⟩; (simp (discharger := omega) only [go_sem, simprocAttr]; with_reducible rfl); refine ⟨?_, ?_, ?_, ?_⟩ <;> (simp only [go_sem, simprocAttr]; with_reducible rfl)), 4 + 1, ot ++ [tInt 4], rfl, (by unfold tSet; rw [hb]; first | done | rfl), by omega, by rw [hcons _ hb, if_pos rfl, List.map_append, List.map_append, hot]; rfl, by rw [List.length_append, List.length_singleton]; omega⟩
        | false =>
          repeat' (first | (with_reducible first | refine SW_seq ?_ | refine SW_block ?_ | refine SThen_n ?_ | refine SThen_r ?_ | refine SThen_e ?_ | refine SIn_n ?_ | refine SIn_r ?_ | refine SIn_eq ?_ | refine SW_skip ?_ | refine SW_exit ?_ | refine SW_ret ?_ | refine SPost_r ?_) | ((with_reducible refine SIn_ne ?_ ?_); focus decide) | ((with_reducible refine SW_true ?_ ?_); focus exact rfl) | ((with_reducible refine SW_false ?_ ?_); focus exact rfl) | ((first | (with_reducible apply SW_run tt_ok hG htb) | ((with_reducible apply SW_draw rfl tt_ok hG htb); (focus kernel_rfl); (focus (simp only [List.range, List.range.loop, List.size_toArray, List.length_cons, List.length_nil, Nat.reduceAdd])))); focus ((repeat' (first | (with_reducible exact runX_nil) | (with_reducible exact runI_nil) | ((first | (with_reducible apply runX_cons) | (with_reducible apply runI_cons)); focus (simp (discharger := omega) only [go_sem, tSet, hb, simprocAttr]; with_reducible rfl)))); done)))
          exact ⟨5 - (4 + 1), _, by omega, Norm.headS (own := [(8, 3, 1, false)]) (keep := [8, 24, 25]) (by refine ⟨?_, ?_⟩; (simp (discharger := omega) only [go_sem, simprocAttr]; with_reducible rfl); refine ⟨?_, ?_, ?_, ?_⟩ <;> (simp only [go_sem, simprocAttr]; with_reducible rfl)), 4 + 1, ot, rfl, (by unfold tSet; rw [hb]; first | done | rfl), by omega, by rw [hcons _ hb, if_neg (by decide), List.append_nil, hot], by omega⟩
    · obtain rfl : i = 5 := by omega
      clear hlt hi
      generalize ((List.range 5).filter q).map (fun k => ((k : Nat) : Int)) = out at *
      subst hot
      repeat' (first | (with_reducible first | refine SW_seq ?_ | refine SW_block ?_ | refine SThen_n ?_ | refine SThen_r ?_ | refine SThen_e ?_ | refine SIn_n ?_ | refine SIn_r ?_ | refine SIn_eq ?_ | refine SW_skip ?_ | refine SW_exit ?_ | refine SW_ret ?_ | refine SPost_r ?_) | ((with_reducible refine SIn_ne ?_ ?_); focus decide) | ((with_reducible refine SW_true ?_ ?_); focus exact rfl) | ((with_reducible refine SW_false ?_ ?_); focus exact rfl) | ((first | (with_reducible apply SW_run tt_ok hG htb) | ((with_reducible apply SW_draw rfl tt_ok hG htb); (focus kernel_rfl); (focus (simp only [List.range, List.range.loop, List.size_toArray, List.length_cons, List.length_nil, Nat.reduceAdd])))); focus ((repeat' (first | (with_reducible exact runX_nil) | (with_reducible exact runI_nil) | ((first | (with_reducible apply runX_cons) | (with_reducible apply runI_cons)); focus (simp (discharger := omega) only [go_sem, simprocAttr]; with_reducible rfl)))); done)))
      exact (by simp (discharger := omega) only [go_sem, tErr0, simprocAttr])
  · rw [if_neg h]
    generalize (formErr f).2 = e at *
    generalize (formErr f).1 = a at *
    have htb := Tab.cons c1 Tab.nil
    repeat' (first | (with_reducible first | refine SW_seq ?_ | refine SW_block ?_ | refine SThen_n ?_ | refine SThen_r ?_ | refine SThen_e ?_ | refine SIn_n ?_ | refine SIn_r ?_ | refine SIn_eq ?_ | refine SW_skip ?_ | refine SW_exit ?_ | refine SW_ret ?_ | refine SPost_r ?_) | ((with_reducible refine SIn_ne ?_ ?_); focus decide) | ((with_reducible refine SW_true ?_ ?_); focus exact rfl) | ((with_reducible refine SW_false ?_ ?_); focus exact rfl) | ((first | (with_reducible apply SW_run tt_ok hG htb) | ((with_reducible apply SW_draw rfl tt_ok hG htb); (focus kernel_rfl); (focus (simp only [List.range, List.range.loop, List.size_toArray, List.length_cons, List.length_nil, Nat.reduceAdd])))); focus ((repeat' (first | (with_reducible exact runX_nil) | (with_reducible exact runI_nil) | ((first | (with_reducible apply runX_cons) | (with_reducible apply runI_cons)); focus (simp (discharger := omega) only [go_sem, tErr, h, simprocAttr]; with_reducible rfl)))); done)))
    exact (by simp (discharger := omega) only [go_sem, tErr, h, simprocAttr])
end
end Go.Proofs.YtfhncnhkeodngaaDoor
namespace Go.Proofs.YtfhncnhkeodngaaDoor
open Go.RowKit
section
variable {G : World → Prop} (hG : Lasting G)
include hG
set_option maxHeartbeats 8000000 in
set_option maxRecDepth 100000 in
theorem RNodeFault_1 (var other word word2 num : Int) (coefs : List Int) : Snd Tryd.prog G 65 [tNode ⟨1, var, other, word, word2, num, coefs⟩] (tInt (nodeErr ⟨1, var, other, word, word2, num, coefs⟩)) := by
  refine snd_of_body (n := 206) (tm := [(0, .t (tNode ⟨1, var, other, word, word2, num, coefs⟩))]) (rs := [.tmp 2]) tt_ok Tryd.func65 rfl rfl rfl rfl rfl ?_
  have htb : Tab.ok Tryd.prog G [] := Tab.nil
  refine SW_lenA (t := 0) (i := 6) rfl rfl fun hcl => ?_
  rw [List.length_map] at hcl
  have hcl : coefs.length ≤ 9223372036854775807 := hcl
  have e3 : nodeErr ⟨1, var, other, word, word2, num, coefs⟩ = if nodeOk ⟨1, var, other, word, word2, num, coefs⟩ = false then 1 else if nodeMore ⟨1, var, other, word, word2, num, coefs⟩ = true then 2 else if 0 < coefs.length ∧ coefs[coefs.length - 1]! = 0 then 2 else 0 := by unfold nodeErr; rw [if_neg (by simp only; omega)]
  have e1 : nodeOk ⟨1, var, other, word, word2, num, coefs⟩ = (decide (coefs.length ≤ 5) && decide (sizeA coefs ≤ 12) && decide (-60 ≤ num) && decide (num ≤ 60)) := by unfold nodeOk; simp
  have e2 : usedN ⟨1, var, other, word, word2, num, coefs⟩ = ⟨1, 0, 0, 0, 0, num, coefs⟩ := by unfold usedN; simp
  have e4 : nodeMore ⟨1, var, other, word, word2, num, coefs⟩ = (decide (var ≠ 0) || decide (other ≠ 0) || decide (word ≠ 0) || decide (word2 ≠ 0)) := by unfold nodeMore; rw [e2]; simp
  repeat' (first | (with_reducible first | refine SW_seq ?_ | refine SW_block ?_ | refine SThen_n ?_ | refine SThen_r ?_ | refine SThen_e ?_ | refine SIn_n ?_ | refine SIn_r ?_ | refine SIn_eq ?_ | refine SW_skip ?_ | refine SW_exit ?_ | refine SW_ret ?_ | refine SPost_r ?_) | ((with_reducible refine SIn_ne ?_ ?_); focus decide) | ((with_reducible refine SW_true ?_ ?_); focus exact rfl) | ((with_reducible refine SW_false ?_ ?_); focus exact rfl) | ((first | (with_reducible apply SW_run tt_ok hG htb) | ((with_reducible apply SW_draw rfl tt_ok hG htb); (focus kernel_rfl); (focus (simp only [List.range, List.range.loop, List.size_toArray, List.length_cons, List.length_nil, Nat.reduceAdd])))); focus ((repeat' (first | (with_reducible exact runX_nil) | (with_reducible exact runI_nil) | ((first | (with_reducible apply runX_cons) | (with_reducible apply runI_cons)); focus (simp (discharger := omega) only [go_sem, tNode, simprocAttr]; with_reducible rfl)))); done)))
  refine SW_norm (Norm.headS (own := []) (keep := [1, 3, 4, 5]) (by refine ⟨?_, ?_⟩; (simp (discharger := omega) only [go_sem, simprocAttr]; with_reducible rfl); refine ⟨?_, ?_, ?_, ?_⟩ <;> (simp only [go_sem, simprocAttr]; with_reducible rfl))) ?_
  by_cases q0 : coefs.length ≤ 5
  · have cS := RSizeOf_snd hG coefs (by omega)
    by_cases q1 : sizeA coefs ≤ 12
    · rw [if_neg (by omega)] at cS
      have hsz : 0 ≤ sizeA coefs := by
        have := posneg coefs coefs.length
        unfold sizeA; omega
      generalize hszE : sizeA coefs = sz at *
      clear htb
      have htb := Tab.cons cS Tab.nil
      by_cases q2 : -60 ≤ num
      · skip
        by_cases q3 : num ≤ 60
        · skip
          have hok : nodeOk ⟨1, var, other, word, word2, num, coefs⟩ = true := by rw [e1]; simp [isVar, q0, q1, q2, q3]
          have e5 : nodeErr ⟨1, var, other, word, word2, num, coefs⟩ = if nodeMore ⟨1, var, other, word, word2, num, coefs⟩ = true then 2 else if 0 < coefs.length ∧ coefs[coefs.length - 1]! = 0 then 2 else 0 := by rw [e3, hok, if_neg (by decide)]
          repeat' (first | (with_reducible first | refine SW_seq ?_ | refine SW_block ?_ | refine SThen_n ?_ | refine SThen_r ?_ | refine SThen_e ?_ | refine SIn_n ?_ | refine SIn_r ?_ | refine SIn_eq ?_ | refine SW_skip ?_ | refine SW_exit ?_ | refine SW_ret ?_ | refine SPost_r ?_) | ((with_reducible refine SIn_ne ?_ ?_); focus decide) | ((with_reducible refine SW_true ?_ ?_); focus exact rfl) | ((with_reducible refine SW_false ?_ ?_); focus exact rfl) | ((first | (with_reducible apply SW_run tt_ok hG htb) | ((with_reducible apply SW_draw rfl tt_ok hG htb); (focus kernel_rfl); (focus (simp only [List.range, List.range.loop, List.size_toArray, List.length_cons, List.length_nil, Nat.reduceAdd])))); focus ((repeat' (first | (with_reducible exact runX_nil) | (with_reducible exact runI_nil) | ((first | (with_reducible apply runX_cons) | (with_reducible apply runI_cons)); focus (simp (discharger := omega) only [go_sem, tNode, simprocAttr]; with_reducible rfl)))); done)))
          refine SW_norm (Norm.headS (own := []) (keep := [1, 3, 4, 5]) (by refine ⟨?_, ?_⟩; (simp (discharger := omega) only [go_sem, simprocAttr]; with_reducible rfl); refine ⟨?_, ?_, ?_, ?_⟩ <;> (simp only [go_sem, simprocAttr]; with_reducible rfl))) ?_
          by_cases mvar : var = 0
          · skip
            by_cases mother : other = 0
            · skip
              by_cases mword2 : word2 = 0
              · skip
                by_cases mword : word = 0
                · skip
                  have hmo : nodeMore ⟨1, var, other, word, word2, num, coefs⟩ = false := by rw [e4]; simp [mvar, mother, mword2, mword]
                  rw [e5, hmo, if_neg (by decide)]
                  clear e1 e2 e3 e4 e5 hok hmo
                  subst mvar
                  subst mother
                  subst mword2
                  subst mword
                  repeat' (first | (with_reducible first | refine SW_seq ?_ | refine SW_block ?_ | refine SThen_n ?_ | refine SThen_r ?_ | refine SThen_e ?_ | refine SIn_n ?_ | refine SIn_r ?_ | refine SIn_eq ?_ | refine SW_skip ?_ | refine SW_exit ?_ | refine SW_ret ?_ | refine SPost_r ?_) | ((with_reducible refine SIn_ne ?_ ?_); focus decide) | ((with_reducible refine SW_true ?_ ?_); focus exact rfl) | ((with_reducible refine SW_false ?_ ?_); focus exact rfl) | ((first | (with_reducible apply SW_run tt_ok hG htb) | ((with_reducible apply SW_draw rfl tt_ok hG htb); (focus kernel_rfl); (focus (simp only [List.range, List.range.loop, List.size_toArray, List.length_cons, List.length_nil, Nat.reduceAdd])))); focus ((repeat' (first | (with_reducible exact runX_nil) | (with_reducible exact runI_nil) | ((first | (with_reducible apply runX_cons) | (with_reducible apply runI_cons)); focus (simp (discharger := omega) only [go_sem, tNode, simprocAttr]; with_reducible rfl)))); done)))
                  refine SW_norm (Norm.headS (own := []) (keep := [1, 3, 4, 5]) (by refine ⟨?_, ?_⟩; (simp (discharger := omega) only [go_sem, simprocAttr]; with_reducible rfl); refine ⟨?_, ?_, ?_, ?_⟩ <;> (simp only [go_sem, simprocAttr]; with_reducible rfl))) ?_
                  by_cases hc : 0 < coefs.length
                  · obtain ⟨x, hx⟩ : ∃ x, coefs[coefs.length - 1]! = x := ⟨_, rfl⟩
                    have hxe : (coefs.length : Int) - 1 = ((coefs.length - 1 : Nat) : Int) := by omega
                    have hkk : coefs.length - 1 < coefs.length := by omega
                    rw [hx]
                    generalize coefs.length - 1 = kk at *
                    by_cases h0 : x = 0
                    · rw [if_pos ⟨hc, h0⟩]
                      repeat' (first | (with_reducible first | refine SW_seq ?_ | refine SW_block ?_ | refine SThen_n ?_ | refine SThen_r ?_ | refine SThen_e ?_ | refine SIn_n ?_ | refine SIn_r ?_ | refine SIn_eq ?_ | refine SW_skip ?_ | refine SW_exit ?_ | refine SW_ret ?_ | refine SPost_r ?_) | ((with_reducible refine SIn_ne ?_ ?_); focus decide) | ((with_reducible refine SW_true ?_ ?_); focus exact rfl) | ((with_reducible refine SW_false ?_ ?_); focus exact rfl) | ((first | (with_reducible apply SW_run tt_ok hG htb) | ((with_reducible apply SW_draw rfl tt_ok hG htb); (focus kernel_rfl); (focus (simp only [List.range, List.range.loop, List.size_toArray, List.length_cons, List.length_nil, Nat.reduceAdd])))); focus ((repeat' (first | (with_reducible exact runX_nil) | (with_reducible exact runI_nil) | ((first | (with_reducible apply runX_cons) | (with_reducible apply runI_cons)); focus (simp (discharger := omega) only [go_sem, tNode, hxe, hx, h0, simprocAttr]; with_reducible rfl)))); done)))
                      exact (by simp (discharger := omega) only [go_sem, simprocAttr])
                    · rw [if_neg (by rintro ⟨_, e⟩; exact h0 e)]
                      repeat' (first | (with_reducible first | refine SW_seq ?_ | refine SW_block ?_ | refine SThen_n ?_ | refine SThen_r ?_ | refine SThen_e ?_ | refine SIn_n ?_ | refine SIn_r ?_ | refine SIn_eq ?_ | refine SW_skip ?_ | refine SW_exit ?_ | refine SW_ret ?_ | refine SPost_r ?_) | ((with_reducible refine SIn_ne ?_ ?_); focus decide) | ((with_reducible refine SW_true ?_ ?_); focus exact rfl) | ((with_reducible refine SW_false ?_ ?_); focus exact rfl) | ((first | (with_reducible apply SW_run tt_ok hG htb) | ((with_reducible apply SW_draw rfl tt_ok hG htb); (focus kernel_rfl); (focus (simp only [List.range, List.range.loop, List.size_toArray, List.length_cons, List.length_nil, Nat.reduceAdd])))); focus ((repeat' (first | (with_reducible exact runX_nil) | (with_reducible exact runI_nil) | ((first | (with_reducible apply runX_cons) | (with_reducible apply runI_cons)); focus (simp (discharger := omega) only [go_sem, tNode, hxe, hx, h0, simprocAttr]; with_reducible rfl)))); done)))
                      exact (by simp (discharger := omega) only [go_sem, simprocAttr])
                  · rw [if_neg (by rintro ⟨e, _⟩; exact hc e)]
                    have hc0 : coefs.length = 0 := by omega
                    repeat' (first | (with_reducible first | refine SW_seq ?_ | refine SW_block ?_ | refine SThen_n ?_ | refine SThen_r ?_ | refine SThen_e ?_ | refine SIn_n ?_ | refine SIn_r ?_ | refine SIn_eq ?_ | refine SW_skip ?_ | refine SW_exit ?_ | refine SW_ret ?_ | refine SPost_r ?_) | ((with_reducible refine SIn_ne ?_ ?_); focus decide) | ((with_reducible refine SW_true ?_ ?_); focus exact rfl) | ((with_reducible refine SW_false ?_ ?_); focus exact rfl) | ((first | (with_reducible apply SW_run tt_ok hG htb) | ((with_reducible apply SW_draw rfl tt_ok hG htb); (focus kernel_rfl); (focus (simp only [List.range, List.range.loop, List.size_toArray, List.length_cons, List.length_nil, Nat.reduceAdd])))); focus ((repeat' (first | (with_reducible exact runX_nil) | (with_reducible exact runI_nil) | ((first | (with_reducible apply runX_cons) | (with_reducible apply runI_cons)); focus (simp (discharger := omega) only [go_sem, tNode, hc0, simprocAttr]; with_reducible rfl)))); done)))
                    exact (by simp (discharger := omega) only [go_sem, simprocAttr])
                · have hmo : nodeMore ⟨1, var, other, word, word2, num, coefs⟩ = true := by rw [e4]; simp [mword]
                  rw [e5, hmo, if_pos rfl]
                  clear e1 e2 e3 e4 e5 hok hmo
                  subst mvar
                  subst mother
                  subst mword2
                  repeat' (first | (with_reducible first | refine SW_seq ?_ | refine SW_block ?_ | refine SThen_n ?_ | refine SThen_r ?_ | refine SThen_e ?_ | refine SIn_n ?_ | refine SIn_r ?_ | refine SIn_eq ?_ | refine SW_skip ?_ | refine SW_exit ?_ | refine SW_ret ?_ | refine SPost_r ?_) | ((with_reducible refine SIn_ne ?_ ?_); focus decide) | ((with_reducible refine SW_true ?_ ?_); focus exact rfl) | ((with_reducible refine SW_false ?_ ?_); focus exact rfl) | ((first | (with_reducible apply SW_run tt_ok hG htb) | ((with_reducible apply SW_draw rfl tt_ok hG htb); (focus kernel_rfl); (focus (simp only [List.range, List.range.loop, List.size_toArray, List.length_cons, List.length_nil, Nat.reduceAdd])))); focus ((repeat' (first | (with_reducible exact runX_nil) | (with_reducible exact runI_nil) | ((first | (with_reducible apply runX_cons) | (with_reducible apply runI_cons)); focus (simp (discharger := omega) only [go_sem, tNode, mword, simprocAttr]; with_reducible rfl)))); done)))
                  exact (by simp (discharger := omega) only [go_sem, simprocAttr])
              · have hmo : nodeMore ⟨1, var, other, word, word2, num, coefs⟩ = true := by rw [e4]; simp [mword2]
                rw [e5, hmo, if_pos rfl]
                clear e1 e2 e3 e4 e5 hok hmo
                subst mvar
                subst mother
                repeat' (first | (with_reducible first | refine SW_seq ?_ | refine SW_block ?_ | refine SThen_n ?_ | refine SThen_r ?_ | refine SThen_e ?_ | refine SIn_n ?_ | refine SIn_r ?_ | refine SIn_eq ?_ | refine SW_skip ?_ | refine SW_exit ?_ | refine SW_ret ?_ | refine SPost_r ?_) | ((with_reducible refine SIn_ne ?_ ?_); focus decide) | ((with_reducible refine SW_true ?_ ?_); focus exact rfl) | ((with_reducible refine SW_false ?_ ?_); focus exact rfl) | ((first | (with_reducible apply SW_run tt_ok hG htb) | ((with_reducible apply SW_draw rfl tt_ok hG htb); (focus kernel_rfl); (focus (simp only [List.range, List.range.loop, List.size_toArray, List.length_cons, List.length_nil, Nat.reduceAdd])))); focus ((repeat' (first | (with_reducible exact runX_nil) | (with_reducible exact runI_nil) | ((first | (with_reducible apply runX_cons) | (with_reducible apply runI_cons)); focus (simp (discharger := omega) only [go_sem, tNode, mword2, simprocAttr]; with_reducible rfl)))); done)))
                exact (by simp (discharger := omega) only [go_sem, simprocAttr])
            · have hmo : nodeMore ⟨1, var, other, word, word2, num, coefs⟩ = true := by rw [e4]; simp [mother]
              rw [e5, hmo, if_pos rfl]
              clear e1 e2 e3 e4 e5 hok hmo
              subst mvar
              repeat' (first | (with_reducible first | refine SW_seq ?_ | refine SW_block ?_ | refine SThen_n ?_ | refine SThen_r ?_ | refine SThen_e ?_ | refine SIn_n ?_ | refine SIn_r ?_ | refine SIn_eq ?_ | refine SW_skip ?_ | refine SW_exit ?_ | refine SW_ret ?_ | refine SPost_r ?_) | ((with_reducible refine SIn_ne ?_ ?_); focus decide) | ((with_reducible refine SW_true ?_ ?_); focus exact rfl) | ((with_reducible refine SW_false ?_ ?_); focus exact rfl) | ((first | (with_reducible apply SW_run tt_ok hG htb) | ((with_reducible apply SW_draw rfl tt_ok hG htb); (focus kernel_rfl); (focus (simp only [List.range, List.range.loop, List.size_toArray, List.length_cons, List.length_nil, Nat.reduceAdd])))); focus ((repeat' (first | (with_reducible exact runX_nil) | (with_reducible exact runI_nil) | ((first | (with_reducible apply runX_cons) | (with_reducible apply runI_cons)); focus (simp (discharger := omega) only [go_sem, tNode, mother, simprocAttr]; with_reducible rfl)))); done)))
              exact (by simp (discharger := omega) only [go_sem, simprocAttr])
          · have hmo : nodeMore ⟨1, var, other, word, word2, num, coefs⟩ = true := by rw [e4]; simp [mvar]
            rw [e5, hmo, if_pos rfl]
            clear e1 e2 e3 e4 e5 hok hmo
            repeat' (first | (with_reducible first | refine SW_seq ?_ | refine SW_block ?_ | refine SThen_n ?_ | refine SThen_r ?_ | refine SThen_e ?_ | refine SIn_n ?_ | refine SIn_r ?_ | refine SIn_eq ?_ | refine SW_skip ?_ | refine SW_exit ?_ | refine SW_ret ?_ | refine SPost_r ?_) | ((with_reducible refine SIn_ne ?_ ?_); focus decide) | ((with_reducible refine SW_true ?_ ?_); focus exact rfl) | ((with_reducible refine SW_false ?_ ?_); focus exact rfl) | ((first | (with_reducible apply SW_run tt_ok hG htb) | ((with_reducible apply SW_draw rfl tt_ok hG htb); (focus kernel_rfl); (focus (simp only [List.range, List.range.loop, List.size_toArray, List.length_cons, List.length_nil, Nat.reduceAdd])))); focus ((repeat' (first | (with_reducible exact runX_nil) | (with_reducible exact runI_nil) | ((first | (with_reducible apply runX_cons) | (with_reducible apply runI_cons)); focus (simp (discharger := omega) only [go_sem, tNode, mvar, simprocAttr]; with_reducible rfl)))); done)))
            exact (by simp (discharger := omega) only [go_sem, simprocAttr])
        · have e5 : nodeErr ⟨1, var, other, word, word2, num, coefs⟩ = 1 := by rw [e3, e1]; simp [isVar, q3]
          rw [e5]
          clear e1 e2 e3 e4 e5
          repeat' (first | (with_reducible first | refine SW_seq ?_ | refine SW_block ?_ | refine SThen_n ?_ | refine SThen_r ?_ | refine SThen_e ?_ | refine SIn_n ?_ | refine SIn_r ?_ | refine SIn_eq ?_ | refine SW_skip ?_ | refine SW_exit ?_ | refine SW_ret ?_ | refine SPost_r ?_) | ((with_reducible refine SIn_ne ?_ ?_); focus decide) | ((with_reducible refine SW_true ?_ ?_); focus exact rfl) | ((with_reducible refine SW_false ?_ ?_); focus exact rfl) | ((first | (with_reducible apply SW_run tt_ok hG htb) | ((with_reducible apply SW_draw rfl tt_ok hG htb); (focus kernel_rfl); (focus (simp only [List.range, List.range.loop, List.size_toArray, List.length_cons, List.length_nil, Nat.reduceAdd])))); focus ((repeat' (first | (with_reducible exact runX_nil) | (with_reducible exact runI_nil) | ((first | (with_reducible apply runX_cons) | (with_reducible apply runI_cons)); focus (simp (discharger := omega) only [go_sem, tNode, simprocAttr]; with_reducible rfl)))); done)))
          exact (by simp (discharger := omega) only [go_sem, simprocAttr])
      · have e5 : nodeErr ⟨1, var, other, word, word2, num, coefs⟩ = 1 := by rw [e3, e1]; simp [isVar, q2]
        rw [e5]
        clear e1 e2 e3 e4 e5
        repeat' (first | (with_reducible first | refine SW_seq ?_ | refine SW_block ?_ | refine SThen_n ?_ | refine SThen_r ?_ | refine SThen_e ?_ | refine SIn_n ?_ | refine SIn_r ?_ | refine SIn_eq ?_ | refine SW_skip ?_ | refine SW_exit ?_ | refine SW_ret ?_ | refine SPost_r ?_) | ((with_reducible refine SIn_ne ?_ ?_); focus decide) | ((with_reducible refine SW_true ?_ ?_); focus exact rfl) | ((with_reducible refine SW_false ?_ ?_); focus exact rfl) | ((first | (with_reducible apply SW_run tt_ok hG htb) | ((with_reducible apply SW_draw rfl tt_ok hG htb); (focus kernel_rfl); (focus (simp only [List.range, List.range.loop, List.size_toArray, List.length_cons, List.length_nil, Nat.reduceAdd])))); focus ((repeat' (first | (with_reducible exact runX_nil) | (with_reducible exact runI_nil) | ((first | (with_reducible apply runX_cons) | (with_reducible apply runI_cons)); focus (simp (discharger := omega) only [go_sem, tNode, simprocAttr]; with_reducible rfl)))); done)))
        exact (by simp (discharger := omega) only [go_sem, simprocAttr])
    · have e5 : nodeErr ⟨1, var, other, word, word2, num, coefs⟩ = 1 := by rw [e3, e1]; simp [isVar, q1]
      rw [e5]
      clear e1 e2 e3 e4 e5
      rw [if_pos (by omega)] at cS
      clear htb
      have htb := Tab.cons cS Tab.nil
      repeat' (first | (with_reducible first | refine SW_seq ?_ | refine SW_block ?_ | refine SThen_n ?_ | refine SThen_r ?_ | refine SThen_e ?_ | refine SIn_n ?_ | refine SIn_r ?_ | refine SIn_eq ?_ | refine SW_skip ?_ | refine SW_exit ?_ | refine SW_ret ?_ | refine SPost_r ?_) | ((with_reducible refine SIn_ne ?_ ?_); focus decide) | ((with_reducible refine SW_true ?_ ?_); focus exact rfl) | ((with_reducible refine SW_false ?_ ?_); focus exact rfl) | ((first | (with_reducible apply SW_run tt_ok hG htb) | ((with_reducible apply SW_draw rfl tt_ok hG htb); (focus kernel_rfl); (focus (simp only [List.range, List.range.loop, List.size_toArray, List.length_cons, List.length_nil, Nat.reduceAdd])))); focus ((repeat' (first | (with_reducible exact runX_nil) | (with_reducible exact runI_nil) | ((first | (with_reducible apply runX_cons) | (with_reducible apply runI_cons)); focus (simp (discharger := omega) only [go_sem, tNode, simprocAttr]; with_reducible rfl)))); done)))
      exact (by simp (discharger := omega) only [go_sem, simprocAttr])
  · have e5 : nodeErr ⟨1, var, other, word, word2, num, coefs⟩ = 1 := by rw [e3, e1]; simp [isVar, q0]
    rw [e5]
    clear e1 e2 e3 e4 e5
    repeat' (first | (with_reducible first | refine SW_seq ?_ | refine SW_block ?_ | refine SThen_n ?_ | refine SThen_r ?_ | refine SThen_e ?_ | refine SIn_n ?_ | refine SIn_r ?_ | refine SIn_eq ?_ | refine SW_skip ?_ | refine SW_exit ?_ | refine SW_ret ?_ | refine SPost_r ?_) | ((with_reducible refine SIn_ne ?_ ?_); focus decide) | ((with_reducible refine SW_true ?_ ?_); focus exact rfl) | ((with_reducible refine SW_false ?_ ?_); focus exact rfl) | ((first | (with_reducible apply SW_run tt_ok hG htb) | ((with_reducible apply SW_draw rfl tt_ok hG htb); (focus kernel_rfl); (focus (simp only [List.range, List.range.loop, List.size_toArray, List.length_cons, List.length_nil, Nat.reduceAdd])))); focus ((repeat' (first | (with_reducible exact runX_nil) | (with_reducible exact runI_nil) | ((first | (with_reducible apply runX_cons) | (with_reducible apply runI_cons)); focus (simp (discharger := omega) only [go_sem, tNode, simprocAttr]; with_reducible rfl)))); done)))
    exact (by simp (discharger := omega) only [go_sem, simprocAttr])
end
end Go.Proofs.YtfhncnhkeodngaaDoor
namespace Go.Proofs.YtfhncnhkeodngaaDoor
open Go.RowKit
section
variable {G : World → Prop} (hG : Lasting G)
include hG
set_option maxHeartbeats 8000000 in
set_option maxRecDepth 100000 in
theorem RNodeFault_2 (var other word word2 num : Int) (coefs : List Int) : Snd Tryd.prog G 65 [tNode ⟨2, var, other, word, word2, num, coefs⟩] (tInt (nodeErr ⟨2, var, other, word, word2, num, coefs⟩)) := by
  refine snd_of_body (n := 206) (tm := [(0, .t (tNode ⟨2, var, other, word, word2, num, coefs⟩))]) (rs := [.tmp 2]) tt_ok Tryd.func65 rfl rfl rfl rfl rfl ?_
  have htb : Tab.ok Tryd.prog G [] := Tab.nil
  refine SW_lenA (t := 0) (i := 6) rfl rfl fun hcl => ?_
  rw [List.length_map] at hcl
  have hcl : coefs.length ≤ 9223372036854775807 := hcl
  have e3 : nodeErr ⟨2, var, other, word, word2, num, coefs⟩ = if nodeOk ⟨2, var, other, word, word2, num, coefs⟩ = false then 1 else if nodeMore ⟨2, var, other, word, word2, num, coefs⟩ = true then 2 else if 0 < coefs.length ∧ coefs[coefs.length - 1]! = 0 then 2 else 0 := by unfold nodeErr; rw [if_neg (by simp only; omega)]
  have e1 : nodeOk ⟨2, var, other, word, word2, num, coefs⟩ = (decide (coefs.length ≤ 5) && decide (sizeA coefs ≤ 12) && decide (-60 ≤ num) && decide (num ≤ 60)) := by unfold nodeOk; simp
  have e2 : usedN ⟨2, var, other, word, word2, num, coefs⟩ = ⟨2, 0, 0, 0, 0, num, coefs⟩ := by unfold usedN; simp
  have e4 : nodeMore ⟨2, var, other, word, word2, num, coefs⟩ = (decide (var ≠ 0) || decide (other ≠ 0) || decide (word ≠ 0) || decide (word2 ≠ 0)) := by unfold nodeMore; rw [e2]; simp
  repeat' (first | (with_reducible first | refine SW_seq ?_ | refine SW_block ?_ | refine SThen_n ?_ | refine SThen_r ?_ | refine SThen_e ?_ | refine SIn_n ?_ | refine SIn_r ?_ | refine SIn_eq ?_ | refine SW_skip ?_ | refine SW_exit ?_ | refine SW_ret ?_ | refine SPost_r ?_) | ((with_reducible refine SIn_ne ?_ ?_); focus decide) | ((with_reducible refine SW_true ?_ ?_); focus exact rfl) | ((with_reducible refine SW_false ?_ ?_); focus exact rfl) | ((first | (with_reducible apply SW_run tt_ok hG htb) | ((with_reducible apply SW_draw rfl tt_ok hG htb); (focus kernel_rfl); (focus (simp only [List.range, List.range.loop, List.size_toArray, List.length_cons, List.length_nil, Nat.reduceAdd])))); focus ((repeat' (first | (with_reducible exact runX_nil) | (with_reducible exact runI_nil) | ((first | (with_reducible apply runX_cons) | (with_reducible apply runI_cons)); focus (simp (discharger := omega) only [go_sem, tNode, simprocAttr]; with_reducible rfl)))); done)))
  refine SW_norm (Norm.headS (own := []) (keep := [1, 3, 4, 5]) (by refine ⟨?_, ?_⟩; (simp (discharger := omega) only [go_sem, simprocAttr]; with_reducible rfl); refine ⟨?_, ?_, ?_, ?_⟩ <;> (simp only [go_sem, simprocAttr]; with_reducible rfl))) ?_
  by_cases q0 : coefs.length ≤ 5
  · have cS := RSizeOf_snd hG coefs (by omega)
    by_cases q1 : sizeA coefs ≤ 12
    · rw [if_neg (by omega)] at cS
      have hsz : 0 ≤ sizeA coefs := by
        have := posneg coefs coefs.length
        unfold sizeA; omega
      generalize hszE : sizeA coefs = sz at *
      clear htb
      have htb := Tab.cons cS Tab.nil
      by_cases q2 : -60 ≤ num
      · skip
        by_cases q3 : num ≤ 60
        · skip
          have hok : nodeOk ⟨2, var, other, word, word2, num, coefs⟩ = true := by rw [e1]; simp [isVar, q0, q1, q2, q3]
          have e5 : nodeErr ⟨2, var, other, word, word2, num, coefs⟩ = if nodeMore ⟨2, var, other, word, word2, num, coefs⟩ = true then 2 else if 0 < coefs.length ∧ coefs[coefs.length - 1]! = 0 then 2 else 0 := by rw [e3, hok, if_neg (by decide)]
          repeat' (first | (with_reducible first | refine SW_seq ?_ | refine SW_block ?_ | refine SThen_n ?_ | refine SThen_r ?_ | refine SThen_e ?_ | refine SIn_n ?_ | refine SIn_r ?_ | refine SIn_eq ?_ | refine SW_skip ?_ | refine SW_exit ?_ | refine SW_ret ?_ | refine SPost_r ?_) | ((with_reducible refine SIn_ne ?_ ?_); focus decide) | ((with_reducible refine SW_true ?_ ?_); focus exact rfl) | ((with_reducible refine SW_false ?_ ?_); focus exact rfl) | ((first | (with_reducible apply SW_run tt_ok hG htb) | ((with_reducible apply SW_draw rfl tt_ok hG htb); (focus kernel_rfl); (focus (simp only [List.range, List.range.loop, List.size_toArray, List.length_cons, List.length_nil, Nat.reduceAdd])))); focus ((repeat' (first | (with_reducible exact runX_nil) | (with_reducible exact runI_nil) | ((first | (with_reducible apply runX_cons) | (with_reducible apply runI_cons)); focus (simp (discharger := omega) only [go_sem, tNode, simprocAttr]; with_reducible rfl)))); done)))
          refine SW_norm (Norm.headS (own := []) (keep := [1, 3, 4, 5]) (by refine ⟨?_, ?_⟩; (simp (discharger := omega) only [go_sem, simprocAttr]; with_reducible rfl); refine ⟨?_, ?_, ?_, ?_⟩ <;> (simp only [go_sem, simprocAttr]; with_reducible rfl))) ?_
          by_cases mvar : var = 0
          · skip
            by_cases mother : other = 0
            · skip
              by_cases mword2 : word2 = 0
              · skip
                by_cases mword : word = 0
                · skip
                  have hmo : nodeMore ⟨2, var, other, word, word2, num, coefs⟩ = false := by rw [e4]; simp [mvar, mother, mword2, mword]
                  rw [e5, hmo, if_neg (by decide)]
                  clear e1 e2 e3 e4 e5 hok hmo
                  subst mvar
                  subst mother
                  subst mword2
                  subst mword
                  repeat' (first | (with_reducible first | refine SW_seq ?_ | refine SW_block ?_ | refine SThen_n ?_ | refine SThen_r ?_ | refine SThen_e ?_ | refine SIn_n ?_ | refine SIn_r ?_ | refine SIn_eq ?_ | refine SW_skip ?_ | refine SW_exit ?_ | refine SW_ret ?_ | refine SPost_r ?_) | ((with_reducible refine SIn_ne ?_ ?_); focus decide) | ((with_reducible refine SW_true ?_ ?_); focus exact rfl) | ((with_reducible refine SW_false ?_ ?_); focus exact rfl) | ((first | (with_reducible apply SW_run tt_ok hG htb) | ((with_reducible apply SW_draw rfl tt_ok hG htb); (focus kernel_rfl); (focus (simp only [List.range, List.range.loop, List.size_toArray, List.length_cons, List.length_nil, Nat.reduceAdd])))); focus ((repeat' (first | (with_reducible exact runX_nil) | (with_reducible exact runI_nil) | ((first | (with_reducible apply runX_cons) | (with_reducible apply runI_cons)); focus (simp (discharger := omega) only [go_sem, tNode, simprocAttr]; with_reducible rfl)))); done)))
                  refine SW_norm (Norm.headS (own := []) (keep := [1, 3, 4, 5]) (by refine ⟨?_, ?_⟩; (simp (discharger := omega) only [go_sem, simprocAttr]; with_reducible rfl); refine ⟨?_, ?_, ?_, ?_⟩ <;> (simp only [go_sem, simprocAttr]; with_reducible rfl))) ?_
                  by_cases hc : 0 < coefs.length
                  · obtain ⟨x, hx⟩ : ∃ x, coefs[coefs.length - 1]! = x := ⟨_, rfl⟩
                    have hxe : (coefs.length : Int) - 1 = ((coefs.length - 1 : Nat) : Int) := by omega
                    have hkk : coefs.length - 1 < coefs.length := by omega
                    rw [hx]
                    generalize coefs.length - 1 = kk at *
                    by_cases h0 : x = 0
                    · rw [if_pos ⟨hc, h0⟩]
                      repeat' (first | (with_reducible first | refine SW_seq ?_ | refine SW_block ?_ | refine SThen_n ?_ | refine SThen_r ?_ | refine SThen_e ?_ | refine SIn_n ?_ | refine SIn_r ?_ | refine SIn_eq ?_ | refine SW_skip ?_ | refine SW_exit ?_ | refine SW_ret ?_ | refine SPost_r ?_) | ((with_reducible refine SIn_ne ?_ ?_); focus decide) | ((with_reducible refine SW_true ?_ ?_); focus exact rfl) | ((with_reducible refine SW_false ?_ ?_); focus exact rfl) | ((first | (with_reducible apply SW_run tt_ok hG htb) | ((with_reducible apply SW_draw rfl tt_ok hG htb); (focus kernel_rfl); (focus (simp only [List.range, List.range.loop, List.size_toArray, List.length_cons, List.length_nil, Nat.reduceAdd])))); focus ((repeat' (first | (with_reducible exact runX_nil) | (with_reducible exact runI_nil) | ((first | (with_reducible apply runX_cons) | (with_reducible apply runI_cons)); focus (simp (discharger := omega) only [go_sem, tNode, hxe, hx, h0, simprocAttr]; with_reducible rfl)))); done)))
                      exact (by simp (discharger := omega) only [go_sem, simprocAttr])
                    · rw [if_neg (by rintro ⟨_, e⟩; exact h0 e)]
                      repeat' (first | (with_reducible first | refine SW_seq ?_ | refine SW_block ?_ | refine SThen_n ?_ | refine SThen_r ?_ | refine SThen_e ?_ | refine SIn_n ?_ | refine SIn_r ?_ | refine SIn_eq ?_ | refine SW_skip ?_ | refine SW_exit ?_ | refine SW_ret ?_ | refine SPost_r ?_) | ((with_reducible refine SIn_ne ?_ ?_); focus decide) | ((with_reducible refine SW_true ?_ ?_); focus exact rfl) | ((with_reducible refine SW_false ?_ ?_); focus exact rfl) | ((first | (with_reducible apply SW_run tt_ok hG htb) | ((with_reducible apply SW_draw rfl tt_ok hG htb); (focus kernel_rfl); (focus (simp only [List.range, List.range.loop, List.size_toArray, List.length_cons, List.length_nil, Nat.reduceAdd])))); focus ((repeat' (first | (with_reducible exact runX_nil) | (with_reducible exact runI_nil) | ((first | (with_reducible apply runX_cons) | (with_reducible apply runI_cons)); focus (simp (discharger := omega) only [go_sem, tNode, hxe, hx, h0, simprocAttr]; with_reducible rfl)))); done)))
                      exact (by simp (discharger := omega) only [go_sem, simprocAttr])
                  · rw [if_neg (by rintro ⟨e, _⟩; exact hc e)]
                    have hc0 : coefs.length = 0 := by omega
                    repeat' (first | (with_reducible first | refine SW_seq ?_ | refine SW_block ?_ | refine SThen_n ?_ | refine SThen_r ?_ | refine SThen_e ?_ | refine SIn_n ?_ | refine SIn_r ?_ | refine SIn_eq ?_ | refine SW_skip ?_ | refine SW_exit ?_ | refine SW_ret ?_ | refine SPost_r ?_) | ((with_reducible refine SIn_ne ?_ ?_); focus decide) | ((with_reducible refine SW_true ?_ ?_); focus exact rfl) | ((with_reducible refine SW_false ?_ ?_); focus exact rfl) | ((first | (with_reducible apply SW_run tt_ok hG htb) | ((with_reducible apply SW_draw rfl tt_ok hG htb); (focus kernel_rfl); (focus (simp only [List.range, List.range.loop, List.size_toArray, List.length_cons, List.length_nil, Nat.reduceAdd])))); focus ((repeat' (first | (with_reducible exact runX_nil) | (with_reducible exact runI_nil) | ((first | (with_reducible apply runX_cons) | (with_reducible apply runI_cons)); focus (simp (discharger := omega) only [go_sem, tNode, hc0, simprocAttr]; with_reducible rfl)))); done)))
                    exact (by simp (discharger := omega) only [go_sem, simprocAttr])
                · have hmo : nodeMore ⟨2, var, other, word, word2, num, coefs⟩ = true := by rw [e4]; simp [mword]
                  rw [e5, hmo, if_pos rfl]
                  clear e1 e2 e3 e4 e5 hok hmo
                  subst mvar
                  subst mother
                  subst mword2
                  repeat' (first | (with_reducible first | refine SW_seq ?_ | refine SW_block ?_ | refine SThen_n ?_ | refine SThen_r ?_ | refine SThen_e ?_ | refine SIn_n ?_ | refine SIn_r ?_ | refine SIn_eq ?_ | refine SW_skip ?_ | refine SW_exit ?_ | refine SW_ret ?_ | refine SPost_r ?_) | ((with_reducible refine SIn_ne ?_ ?_); focus decide) | ((with_reducible refine SW_true ?_ ?_); focus exact rfl) | ((with_reducible refine SW_false ?_ ?_); focus exact rfl) | ((first | (with_reducible apply SW_run tt_ok hG htb) | ((with_reducible apply SW_draw rfl tt_ok hG htb); (focus kernel_rfl); (focus (simp only [List.range, List.range.loop, List.size_toArray, List.length_cons, List.length_nil, Nat.reduceAdd])))); focus ((repeat' (first | (with_reducible exact runX_nil) | (with_reducible exact runI_nil) | ((first | (with_reducible apply runX_cons) | (with_reducible apply runI_cons)); focus (simp (discharger := omega) only [go_sem, tNode, mword, simprocAttr]; with_reducible rfl)))); done)))
                  exact (by simp (discharger := omega) only [go_sem, simprocAttr])
              · have hmo : nodeMore ⟨2, var, other, word, word2, num, coefs⟩ = true := by rw [e4]; simp [mword2]
                rw [e5, hmo, if_pos rfl]
                clear e1 e2 e3 e4 e5 hok hmo
                subst mvar
                subst mother
                repeat' (first | (with_reducible first | refine SW_seq ?_ | refine SW_block ?_ | refine SThen_n ?_ | refine SThen_r ?_ | refine SThen_e ?_ | refine SIn_n ?_ | refine SIn_r ?_ | refine SIn_eq ?_ | refine SW_skip ?_ | refine SW_exit ?_ | refine SW_ret ?_ | refine SPost_r ?_) | ((with_reducible refine SIn_ne ?_ ?_); focus decide) | ((with_reducible refine SW_true ?_ ?_); focus exact rfl) | ((with_reducible refine SW_false ?_ ?_); focus exact rfl) | ((first | (with_reducible apply SW_run tt_ok hG htb) | ((with_reducible apply SW_draw rfl tt_ok hG htb); (focus kernel_rfl); (focus (simp only [List.range, List.range.loop, List.size_toArray, List.length_cons, List.length_nil, Nat.reduceAdd])))); focus ((repeat' (first | (with_reducible exact runX_nil) | (with_reducible exact runI_nil) | ((first | (with_reducible apply runX_cons) | (with_reducible apply runI_cons)); focus (simp (discharger := omega) only [go_sem, tNode, mword2, simprocAttr]; with_reducible rfl)))); done)))
                exact (by simp (discharger := omega) only [go_sem, simprocAttr])
            · have hmo : nodeMore ⟨2, var, other, word, word2, num, coefs⟩ = true := by rw [e4]; simp [mother]
              rw [e5, hmo, if_pos rfl]
              clear e1 e2 e3 e4 e5 hok hmo
              subst mvar
              repeat' (first | (with_reducible first | refine SW_seq ?_ | refine SW_block ?_ | refine SThen_n ?_ | refine SThen_r ?_ | refine SThen_e ?_ | refine SIn_n ?_ | refine SIn_r ?_ | refine SIn_eq ?_ | refine SW_skip ?_ | refine SW_exit ?_ | refine SW_ret ?_ | refine SPost_r ?_) | ((with_reducible refine SIn_ne ?_ ?_); focus decide) | ((with_reducible refine SW_true ?_ ?_); focus exact rfl) | ((with_reducible refine SW_false ?_ ?_); focus exact rfl) | ((first | (with_reducible apply SW_run tt_ok hG htb) | ((with_reducible apply SW_draw rfl tt_ok hG htb); (focus kernel_rfl); (focus (simp only [List.range, List.range.loop, List.size_toArray, List.length_cons, List.length_nil, Nat.reduceAdd])))); focus ((repeat' (first | (with_reducible exact runX_nil) | (with_reducible exact runI_nil) | ((first | (with_reducible apply runX_cons) | (with_reducible apply runI_cons)); focus (simp (discharger := omega) only [go_sem, tNode, mother, simprocAttr]; with_reducible rfl)))); done)))
              exact (by simp (discharger := omega) only [go_sem, simprocAttr])
          · have hmo : nodeMore ⟨2, var, other, word, word2, num, coefs⟩ = true := by rw [e4]; simp [mvar]
            rw [e5, hmo, if_pos rfl]
            clear e1 e2 e3 e4 e5 hok hmo
            repeat' (first | (with_reducible first | refine SW_seq ?_ | refine SW_block ?_ | refine SThen_n ?_ | refine SThen_r ?_ | refine SThen_e ?_ | refine SIn_n ?_ | refine SIn_r ?_ | refine SIn_eq ?_ | refine SW_skip ?_ | refine SW_exit ?_ | refine SW_ret ?_ | refine SPost_r ?_) | ((with_reducible refine SIn_ne ?_ ?_); focus decide) | ((with_reducible refine SW_true ?_ ?_); focus exact rfl) | ((with_reducible refine SW_false ?_ ?_); focus exact rfl) | ((first | (with_reducible apply SW_run tt_ok hG htb) | ((with_reducible apply SW_draw rfl tt_ok hG htb); (focus kernel_rfl); (focus (simp only [List.range, List.range.loop, List.size_toArray, List.length_cons, List.length_nil, Nat.reduceAdd])))); focus ((repeat' (first | (with_reducible exact runX_nil) | (with_reducible exact runI_nil) | ((first | (with_reducible apply runX_cons) | (with_reducible apply runI_cons)); focus (simp (discharger := omega) only [go_sem, tNode, mvar, simprocAttr]; with_reducible rfl)))); done)))
            exact (by simp (discharger := omega) only [go_sem, simprocAttr])
        · have e5 : nodeErr ⟨2, var, other, word, word2, num, coefs⟩ = 1 := by rw [e3, e1]; simp [isVar, q3]
          rw [e5]
          clear e1 e2 e3 e4 e5
          repeat' (first | (with_reducible first | refine SW_seq ?_ | refine SW_block ?_ | refine SThen_n ?_ | refine SThen_r ?_ | refine SThen_e ?_ | refine SIn_n ?_ | refine SIn_r ?_ | refine SIn_eq ?_ | refine SW_skip ?_ | refine SW_exit ?_ | refine SW_ret ?_ | refine SPost_r ?_) | ((with_reducible refine SIn_ne ?_ ?_); focus decide) | ((with_reducible refine SW_true ?_ ?_); focus exact rfl) | ((with_reducible refine SW_false ?_ ?_); focus exact rfl) | ((first | (with_reducible apply SW_run tt_ok hG htb) | ((with_reducible apply SW_draw rfl tt_ok hG htb); (focus kernel_rfl); (focus (simp only [List.range, List.range.loop, List.size_toArray, List.length_cons, List.length_nil, Nat.reduceAdd])))); focus ((repeat' (first | (with_reducible exact runX_nil) | (with_reducible exact runI_nil) | ((first | (with_reducible apply runX_cons) | (with_reducible apply runI_cons)); focus (simp (discharger := omega) only [go_sem, tNode, simprocAttr]; with_reducible rfl)))); done)))
          exact (by simp (discharger := omega) only [go_sem, simprocAttr])
      · have e5 : nodeErr ⟨2, var, other, word, word2, num, coefs⟩ = 1 := by rw [e3, e1]; simp [isVar, q2]
        rw [e5]
        clear e1 e2 e3 e4 e5
        repeat' (first | (with_reducible first | refine SW_seq ?_ | refine SW_block ?_ | refine SThen_n ?_ | refine SThen_r ?_ | refine SThen_e ?_ | refine SIn_n ?_ | refine SIn_r ?_ | refine SIn_eq ?_ | refine SW_skip ?_ | refine SW_exit ?_ | refine SW_ret ?_ | refine SPost_r ?_) | ((with_reducible refine SIn_ne ?_ ?_); focus decide) | ((with_reducible refine SW_true ?_ ?_); focus exact rfl) | ((with_reducible refine SW_false ?_ ?_); focus exact rfl) | ((first | (with_reducible apply SW_run tt_ok hG htb) | ((with_reducible apply SW_draw rfl tt_ok hG htb); (focus kernel_rfl); (focus (simp only [List.range, List.range.loop, List.size_toArray, List.length_cons, List.length_nil, Nat.reduceAdd])))); focus ((repeat' (first | (with_reducible exact runX_nil) | (with_reducible exact runI_nil) | ((first | (with_reducible apply runX_cons) | (with_reducible apply runI_cons)); focus (simp (discharger := omega) only [go_sem, tNode, simprocAttr]; with_reducible rfl)))); done)))
        exact (by simp (discharger := omega) only [go_sem, simprocAttr])
    · have e5 : nodeErr ⟨2, var, other, word, word2, num, coefs⟩ = 1 := by rw [e3, e1]; simp [isVar, q1]
      rw [e5]
      clear e1 e2 e3 e4 e5
      rw [if_pos (by omega)] at cS
      clear htb
      have htb := Tab.cons cS Tab.nil
      repeat' (first | (with_reducible first | refine SW_seq ?_ | refine SW_block ?_ | refine SThen_n ?_ | refine SThen_r ?_ | refine SThen_e ?_ | refine SIn_n ?_ | refine SIn_r ?_ | refine SIn_eq ?_ | refine SW_skip ?_ | refine SW_exit ?_ | refine SW_ret ?_ | refine SPost_r ?_) | ((with_reducible refine SIn_ne ?_ ?_); focus decide) | ((with_reducible refine SW_true ?_ ?_); focus exact rfl) | ((with_reducible refine SW_false ?_ ?_); focus exact rfl) | ((first | (with_reducible apply SW_run tt_ok hG htb) | ((with_reducible apply SW_draw rfl tt_ok hG htb); (focus kernel_rfl); (focus (simp only [List.range, List.range.loop, List.size_toArray, List.length_cons, List.length_nil, Nat.reduceAdd])))); focus ((repeat' (first | (with_reducible exact runX_nil) | (with_reducible exact runI_nil) | ((first | (with_reducible apply runX_cons) | (with_reducible apply runI_cons)); focus (simp (discharger := omega) only [go_sem, tNode, simprocAttr]; with_reducible rfl)))); done)))
      exact (by simp (discharger := omega) only [go_sem, simprocAttr])
  · have e5 : nodeErr ⟨2, var, other, word, word2, num, coefs⟩ = 1 := by rw [e3, e1]; simp [isVar, q0]
    rw [e5]
    clear e1 e2 e3 e4 e5
    repeat' (first | (with_reducible first | refine SW_seq ?_ | refine SW_block ?_ | refine SThen_n ?_ | refine SThen_r ?_ | refine SThen_e ?_ | refine SIn_n ?_ | refine SIn_r ?_ | refine SIn_eq ?_ | refine SW_skip ?_ | refine SW_exit ?_ | refine SW_ret ?_ | refine SPost_r ?_) | ((with_reducible refine SIn_ne ?_ ?_); focus decide) | ((with_reducible refine SW_true ?_ ?_); focus exact rfl) | ((with_reducible refine SW_false ?_ ?_); focus exact rfl) | ((first | (with_reducible apply SW_run tt_ok hG htb) | ((with_reducible apply SW_draw rfl tt_ok hG htb); (focus kernel_rfl); (focus (simp only [List.range, List.range.loop, List.size_toArray, List.length_cons, List.length_nil, Nat.reduceAdd])))); focus ((repeat' (first | (with_reducible exact runX_nil) | (with_reducible exact runI_nil) | ((first | (with_reducible apply runX_cons) | (with_reducible apply runI_cons)); focus (simp (discharger := omega) only [go_sem, tNode, simprocAttr]; with_reducible rfl)))); done)))
    exact (by simp (discharger := omega) only [go_sem, simprocAttr])
end
end Go.Proofs.YtfhncnhkeodngaaDoor
namespace Go.Proofs.YtfhncnhkeodngaaDoor
open Go.RowKit
section
variable {G : World → Prop} (hG : Lasting G)
include hG
set_option maxHeartbeats 8000000 in
set_option maxRecDepth 100000 in
theorem RNodeFault_3 (var other word word2 num : Int) (coefs : List Int) : Snd Tryd.prog G 65 [tNode ⟨3, var, other, word, word2, num, coefs⟩] (tInt (nodeErr ⟨3, var, other, word, word2, num, coefs⟩)) := by
  refine snd_of_body (n := 206) (tm := [(0, .t (tNode ⟨3, var, other, word, word2, num, coefs⟩))]) (rs := [.tmp 2]) tt_ok Tryd.func65 rfl rfl rfl rfl rfl ?_
  have htb : Tab.ok Tryd.prog G [] := Tab.nil
  refine SW_lenA (t := 0) (i := 6) rfl rfl fun hcl => ?_
  rw [List.length_map] at hcl
  have hcl : coefs.length ≤ 9223372036854775807 := hcl
  have e3 : nodeErr ⟨3, var, other, word, word2, num, coefs⟩ = if nodeOk ⟨3, var, other, word, word2, num, coefs⟩ = false then 1 else if nodeMore ⟨3, var, other, word, word2, num, coefs⟩ = true then 2 else if 0 < coefs.length ∧ coefs[coefs.length - 1]! = 0 then 2 else 0 := by unfold nodeErr; rw [if_neg (by simp only; omega)]
  have e1 : nodeOk ⟨3, var, other, word, word2, num, coefs⟩ = (isVar var && decide (0 ≤ word) && decide (word < 3) && decide (0 ≤ num) && decide (num ≤ 9)) := by unfold nodeOk; simp
  have e2 : usedN ⟨3, var, other, word, word2, num, coefs⟩ = ⟨3, var, 0, word, 0, num, []⟩ := by unfold usedN; simp
  have e4 : nodeMore ⟨3, var, other, word, word2, num, coefs⟩ = (decide (other ≠ 0) || decide (word2 ≠ 0) || decide (coefs.length ≠ 0)) := by unfold nodeMore; rw [e2]; simp
  repeat' (first | (with_reducible first | refine SW_seq ?_ | refine SW_block ?_ | refine SThen_n ?_ | refine SThen_r ?_ | refine SThen_e ?_ | refine SIn_n ?_ | refine SIn_r ?_ | refine SIn_eq ?_ | refine SW_skip ?_ | refine SW_exit ?_ | refine SW_ret ?_ | refine SPost_r ?_) | ((with_reducible refine SIn_ne ?_ ?_); focus decide) | ((with_reducible refine SW_true ?_ ?_); focus exact rfl) | ((with_reducible refine SW_false ?_ ?_); focus exact rfl) | ((first | (with_reducible apply SW_run tt_ok hG htb) | ((with_reducible apply SW_draw rfl tt_ok hG htb); (focus kernel_rfl); (focus (simp only [List.range, List.range.loop, List.size_toArray, List.length_cons, List.length_nil, Nat.reduceAdd])))); focus ((repeat' (first | (with_reducible exact runX_nil) | (with_reducible exact runI_nil) | ((first | (with_reducible apply runX_cons) | (with_reducible apply runI_cons)); focus (simp (discharger := omega) only [go_sem, tNode, simprocAttr]; with_reducible rfl)))); done)))
  refine SW_norm (Norm.headS (own := []) (keep := [1, 3, 4, 5]) (by refine ⟨?_, ?_⟩; (simp (discharger := omega) only [go_sem, simprocAttr]; with_reducible rfl); refine ⟨?_, ?_, ?_, ?_⟩ <;> (simp only [go_sem, simprocAttr]; with_reducible rfl))) ?_
  by_cases q0 : 0 ≤ var
  · skip
    by_cases q1 : var < 5
    · skip
      by_cases q2 : 0 ≤ word
      · skip
        by_cases q3 : word < 3
        · skip
          by_cases q4 : 0 ≤ num
          · skip
            by_cases q5 : num ≤ 9
            · skip
              have hok : nodeOk ⟨3, var, other, word, word2, num, coefs⟩ = true := by rw [e1]; simp [isVar, q0, q1, q2, q3, q4, q5]
              have e5 : nodeErr ⟨3, var, other, word, word2, num, coefs⟩ = if nodeMore ⟨3, var, other, word, word2, num, coefs⟩ = true then 2 else if 0 < coefs.length ∧ coefs[coefs.length - 1]! = 0 then 2 else 0 := by rw [e3, hok, if_neg (by decide)]
              repeat' (first | (with_reducible first | refine SW_seq ?_ | refine SW_block ?_ | refine SThen_n ?_ | refine SThen_r ?_ | refine SThen_e ?_ | refine SIn_n ?_ | refine SIn_r ?_ | refine SIn_eq ?_ | refine SW_skip ?_ | refine SW_exit ?_ | refine SW_ret ?_ | refine SPost_r ?_) | ((with_reducible refine SIn_ne ?_ ?_); focus decide) | ((with_reducible refine SW_true ?_ ?_); focus exact rfl) | ((with_reducible refine SW_false ?_ ?_); focus exact rfl) | ((first | (with_reducible apply SW_run tt_ok hG htb) | ((with_reducible apply SW_draw rfl tt_ok hG htb); (focus kernel_rfl); (focus (simp only [List.range, List.range.loop, List.size_toArray, List.length_cons, List.length_nil, Nat.reduceAdd])))); focus ((repeat' (first | (with_reducible exact runX_nil) | (with_reducible exact runI_nil) | ((first | (with_reducible apply runX_cons) | (with_reducible apply runI_cons)); focus (simp (discharger := omega) only [go_sem, tNode, simprocAttr]; with_reducible rfl)))); done)))
              refine SW_norm (Norm.headS (own := []) (keep := [1, 3, 4, 5]) (by refine ⟨?_, ?_⟩; (simp (discharger := omega) only [go_sem, simprocAttr]; with_reducible rfl); refine ⟨?_, ?_, ?_, ?_⟩ <;> (simp only [go_sem, simprocAttr]; with_reducible rfl))) ?_
              by_cases mother : other = 0
              · skip
                by_cases mword2 : word2 = 0
                · skip
                  by_cases mC : coefs.length = 0
                  · skip
                    have hmo : nodeMore ⟨3, var, other, word, word2, num, coefs⟩ = false := by rw [e4]; simp [mother, mword2, mC]
                    rw [e5, hmo, if_neg (by decide)]
                    clear e1 e2 e3 e4 e5 hok hmo
                    subst mother
                    subst mword2
                    rw [if_neg (by omega)]
                    repeat' (first | (with_reducible first | refine SW_seq ?_ | refine SW_block ?_ | refine SThen_n ?_ | refine SThen_r ?_ | refine SThen_e ?_ | refine SIn_n ?_ | refine SIn_r ?_ | refine SIn_eq ?_ | refine SW_skip ?_ | refine SW_exit ?_ | refine SW_ret ?_ | refine SPost_r ?_) | ((with_reducible refine SIn_ne ?_ ?_); focus decide) | ((with_reducible refine SW_true ?_ ?_); focus exact rfl) | ((with_reducible refine SW_false ?_ ?_); focus exact rfl) | ((first | (with_reducible apply SW_run tt_ok hG htb) | ((with_reducible apply SW_draw rfl tt_ok hG htb); (focus kernel_rfl); (focus (simp only [List.range, List.range.loop, List.size_toArray, List.length_cons, List.length_nil, Nat.reduceAdd])))); focus ((repeat' (first | (with_reducible exact runX_nil) | (with_reducible exact runI_nil) | ((first | (with_reducible apply runX_cons) | (with_reducible apply runI_cons)); focus (simp (discharger := omega) only [go_sem, tNode, mC, simprocAttr]; with_reducible rfl)))); done)))
                    exact (by simp (discharger := omega) only [go_sem, simprocAttr])
                  · have hmo : nodeMore ⟨3, var, other, word, word2, num, coefs⟩ = true := by rw [e4]; simp [mC]
                    rw [e5, hmo, if_pos rfl]
                    clear e1 e2 e3 e4 e5 hok hmo
                    subst mother
                    subst mword2
                    repeat' (first | (with_reducible first | refine SW_seq ?_ | refine SW_block ?_ | refine SThen_n ?_ | refine SThen_r ?_ | refine SThen_e ?_ | refine SIn_n ?_ | refine SIn_r ?_ | refine SIn_eq ?_ | refine SW_skip ?_ | refine SW_exit ?_ | refine SW_ret ?_ | refine SPost_r ?_) | ((with_reducible refine SIn_ne ?_ ?_); focus decide) | ((with_reducible refine SW_true ?_ ?_); focus exact rfl) | ((with_reducible refine SW_false ?_ ?_); focus exact rfl) | ((first | (with_reducible apply SW_run tt_ok hG htb) | ((with_reducible apply SW_draw rfl tt_ok hG htb); (focus kernel_rfl); (focus (simp only [List.range, List.range.loop, List.size_toArray, List.length_cons, List.length_nil, Nat.reduceAdd])))); focus ((repeat' (first | (with_reducible exact runX_nil) | (with_reducible exact runI_nil) | ((first | (with_reducible apply runX_cons) | (with_reducible apply runI_cons)); focus (simp (discharger := omega) only [go_sem, tNode, mC, simprocAttr]; with_reducible rfl)))); done)))
                    exact (by simp (discharger := omega) only [go_sem, simprocAttr])
                · have hmo : nodeMore ⟨3, var, other, word, word2, num, coefs⟩ = true := by rw [e4]; simp [mword2]
                  rw [e5, hmo, if_pos rfl]
                  clear e1 e2 e3 e4 e5 hok hmo
                  subst mother
                  repeat' (first | (with_reducible first | refine SW_seq ?_ | refine SW_block ?_ | refine SThen_n ?_ | refine SThen_r ?_ | refine SThen_e ?_ | refine SIn_n ?_ | refine SIn_r ?_ | refine SIn_eq ?_ | refine SW_skip ?_ | refine SW_exit ?_ | refine SW_ret ?_ | refine SPost_r ?_) | ((with_reducible refine SIn_ne ?_ ?_); focus decide) | ((with_reducible refine SW_true ?_ ?_); focus exact rfl) | ((with_reducible refine SW_false ?_ ?_); focus exact rfl) | ((first | (with_reducible apply SW_run tt_ok hG htb) | ((with_reducible apply SW_draw rfl tt_ok hG htb); (focus kernel_rfl); (focus (simp only [List.range, List.range.loop, List.size_toArray, List.length_cons, List.length_nil, Nat.reduceAdd])))); focus ((repeat' (first | (with_reducible exact runX_nil) | (with_reducible exact runI_nil) | ((first | (with_reducible apply runX_cons) | (with_reducible apply runI_cons)); focus (simp (discharger := omega) only [go_sem, tNode, mword2, simprocAttr]; with_reducible rfl)))); done)))
                  exact (by simp (discharger := omega) only [go_sem, simprocAttr])
              · have hmo : nodeMore ⟨3, var, other, word, word2, num, coefs⟩ = true := by rw [e4]; simp [mother]
                rw [e5, hmo, if_pos rfl]
                clear e1 e2 e3 e4 e5 hok hmo
                repeat' (first | (with_reducible first | refine SW_seq ?_ | refine SW_block ?_ | refine SThen_n ?_ | refine SThen_r ?_ | refine SThen_e ?_ | refine SIn_n ?_ | refine SIn_r ?_ | refine SIn_eq ?_ | refine SW_skip ?_ | refine SW_exit ?_ | refine SW_ret ?_ | refine SPost_r ?_) | ((with_reducible refine SIn_ne ?_ ?_); focus decide) | ((with_reducible refine SW_true ?_ ?_); focus exact rfl) | ((with_reducible refine SW_false ?_ ?_); focus exact rfl) | ((first | (with_reducible apply SW_run tt_ok hG htb) | ((with_reducible apply SW_draw rfl tt_ok hG htb); (focus kernel_rfl); (focus (simp only [List.range, List.range.loop, List.size_toArray, List.length_cons, List.length_nil, Nat.reduceAdd])))); focus ((repeat' (first | (with_reducible exact runX_nil) | (with_reducible exact runI_nil) | ((first | (with_reducible apply runX_cons) | (with_reducible apply runI_cons)); focus (simp (discharger := omega) only [go_sem, tNode, mother, simprocAttr]; with_reducible rfl)))); done)))
                exact (by simp (discharger := omega) only [go_sem, simprocAttr])
            · have e5 : nodeErr ⟨3, var, other, word, word2, num, coefs⟩ = 1 := by rw [e3, e1]; simp [isVar, q5]
              rw [e5]
              clear e1 e2 e3 e4 e5
              repeat' (first | (with_reducible first | refine SW_seq ?_ | refine SW_block ?_ | refine SThen_n ?_ | refine SThen_r ?_ | refine SThen_e ?_ | refine SIn_n ?_ | refine SIn_r ?_ | refine SIn_eq ?_ | refine SW_skip ?_ | refine SW_exit ?_ | refine SW_ret ?_ | refine SPost_r ?_) | ((with_reducible refine SIn_ne ?_ ?_); focus decide) | ((with_reducible refine SW_true ?_ ?_); focus exact rfl) | ((with_reducible refine SW_false ?_ ?_); focus exact rfl) | ((first | (with_reducible apply SW_run tt_ok hG htb) | ((with_reducible apply SW_draw rfl tt_ok hG htb); (focus kernel_rfl); (focus (simp only [List.range, List.range.loop, List.size_toArray, List.length_cons, List.length_nil, Nat.reduceAdd])))); focus ((repeat' (first | (with_reducible exact runX_nil) | (with_reducible exact runI_nil) | ((first | (with_reducible apply runX_cons) | (with_reducible apply runI_cons)); focus (simp (discharger := omega) only [go_sem, tNode, simprocAttr]; with_reducible rfl)))); done)))
              exact (by simp (discharger := omega) only [go_sem, simprocAttr])
          · have e5 : nodeErr ⟨3, var, other, word, word2, num, coefs⟩ = 1 := by rw [e3, e1]; simp [isVar, q4]
            rw [e5]
            clear e1 e2 e3 e4 e5
            repeat' (first | (with_reducible first | refine SW_seq ?_ | refine SW_block ?_ | refine SThen_n ?_ | refine SThen_r ?_ | refine SThen_e ?_ | refine SIn_n ?_ | refine SIn_r ?_ | refine SIn_eq ?_ | refine SW_skip ?_ | refine SW_exit ?_ | refine SW_ret ?_ | refine SPost_r ?_) | ((with_reducible refine SIn_ne ?_ ?_); focus decide) | ((with_reducible refine SW_true ?_ ?_); focus exact rfl) | ((with_reducible refine SW_false ?_ ?_); focus exact rfl) | ((first | (with_reducible apply SW_run tt_ok hG htb) | ((with_reducible apply SW_draw rfl tt_ok hG htb); (focus kernel_rfl); (focus (simp only [List.range, List.range.loop, List.size_toArray, List.length_cons, List.length_nil, Nat.reduceAdd])))); focus ((repeat' (first | (with_reducible exact runX_nil) | (with_reducible exact runI_nil) | ((first | (with_reducible apply runX_cons) | (with_reducible apply runI_cons)); focus (simp (discharger := omega) only [go_sem, tNode, simprocAttr]; with_reducible rfl)))); done)))
            exact (by simp (discharger := omega) only [go_sem, simprocAttr])
        · have e5 : nodeErr ⟨3, var, other, word, word2, num, coefs⟩ = 1 := by rw [e3, e1]; simp [isVar, q3]
          rw [e5]
          clear e1 e2 e3 e4 e5
          repeat' (first | (with_reducible first | refine SW_seq ?_ | refine SW_block ?_ | refine SThen_n ?_ | refine SThen_r ?_ | refine SThen_e ?_ | refine SIn_n ?_ | refine SIn_r ?_ | refine SIn_eq ?_ | refine SW_skip ?_ | refine SW_exit ?_ | refine SW_ret ?_ | refine SPost_r ?_) | ((with_reducible refine SIn_ne ?_ ?_); focus decide) | ((with_reducible refine SW_true ?_ ?_); focus exact rfl) | ((with_reducible refine SW_false ?_ ?_); focus exact rfl) | ((first | (with_reducible apply SW_run tt_ok hG htb) | ((with_reducible apply SW_draw rfl tt_ok hG htb); (focus kernel_rfl); (focus (simp only [List.range, List.range.loop, List.size_toArray, List.length_cons, List.length_nil, Nat.reduceAdd])))); focus ((repeat' (first | (with_reducible exact runX_nil) | (with_reducible exact runI_nil) | ((first | (with_reducible apply runX_cons) | (with_reducible apply runI_cons)); focus (simp (discharger := omega) only [go_sem, tNode, simprocAttr]; with_reducible rfl)))); done)))
          exact (by simp (discharger := omega) only [go_sem, simprocAttr])
      · have e5 : nodeErr ⟨3, var, other, word, word2, num, coefs⟩ = 1 := by rw [e3, e1]; simp [isVar, q2]
        rw [e5]
        clear e1 e2 e3 e4 e5
        repeat' (first | (with_reducible first | refine SW_seq ?_ | refine SW_block ?_ | refine SThen_n ?_ | refine SThen_r ?_ | refine SThen_e ?_ | refine SIn_n ?_ | refine SIn_r ?_ | refine SIn_eq ?_ | refine SW_skip ?_ | refine SW_exit ?_ | refine SW_ret ?_ | refine SPost_r ?_) | ((with_reducible refine SIn_ne ?_ ?_); focus decide) | ((with_reducible refine SW_true ?_ ?_); focus exact rfl) | ((with_reducible refine SW_false ?_ ?_); focus exact rfl) | ((first | (with_reducible apply SW_run tt_ok hG htb) | ((with_reducible apply SW_draw rfl tt_ok hG htb); (focus kernel_rfl); (focus (simp only [List.range, List.range.loop, List.size_toArray, List.length_cons, List.length_nil, Nat.reduceAdd])))); focus ((repeat' (first | (with_reducible exact runX_nil) | (with_reducible exact runI_nil) | ((first | (with_reducible apply runX_cons) | (with_reducible apply runI_cons)); focus (simp (discharger := omega) only [go_sem, tNode, simprocAttr]; with_reducible rfl)))); done)))
        exact (by simp (discharger := omega) only [go_sem, simprocAttr])
    · have e5 : nodeErr ⟨3, var, other, word, word2, num, coefs⟩ = 1 := by rw [e3, e1]; simp [isVar, q1]
      rw [e5]
      clear e1 e2 e3 e4 e5
      repeat' (first | (with_reducible first | refine SW_seq ?_ | refine SW_block ?_ | refine SThen_n ?_ | refine SThen_r ?_ | refine SThen_e ?_ | refine SIn_n ?_ | refine SIn_r ?_ | refine SIn_eq ?_ | refine SW_skip ?_ | refine SW_exit ?_ | refine SW_ret ?_ | refine SPost_r ?_) | ((with_reducible refine SIn_ne ?_ ?_); focus decide) | ((with_reducible refine SW_true ?_ ?_); focus exact rfl) | ((with_reducible refine SW_false ?_ ?_); focus exact rfl) | ((first | (with_reducible apply SW_run tt_ok hG htb) | ((with_reducible apply SW_draw rfl tt_ok hG htb); (focus kernel_rfl); (focus (simp only [List.range, List.range.loop, List.size_toArray, List.length_cons, List.length_nil, Nat.reduceAdd])))); focus ((repeat' (first | (with_reducible exact runX_nil) | (with_reducible exact runI_nil) | ((first | (with_reducible apply runX_cons) | (with_reducible apply runI_cons)); focus (simp (discharger := omega) only [go_sem, tNode, simprocAttr]; with_reducible rfl)))); done)))
      exact (by simp (discharger := omega) only [go_sem, simprocAttr])
  · have e5 : nodeErr ⟨3, var, other, word, word2, num, coefs⟩ = 1 := by rw [e3, e1]; simp [isVar, q0]
    rw [e5]
    clear e1 e2 e3 e4 e5
    repeat' (first | (with_reducible first | refine SW_seq ?_ | refine SW_block ?_ | refine SThen_n ?_ | refine SThen_r ?_ | refine SThen_e ?_ | refine SIn_n ?_ | refine SIn_r ?_ | refine SIn_eq ?_ | refine SW_skip ?_ | refine SW_exit ?_ | refine SW_ret ?_ | refine SPost_r ?_) | ((with_reducible refine SIn_ne ?_ ?_); focus decide) | ((with_reducible refine SW_true ?_ ?_); focus exact rfl) | ((with_reducible refine SW_false ?_ ?_); focus exact rfl) | ((first | (with_reducible apply SW_run tt_ok hG htb) | ((with_reducible apply SW_draw rfl tt_ok hG htb); (focus kernel_rfl); (focus (simp only [List.range, List.range.loop, List.size_toArray, List.length_cons, List.length_nil, Nat.reduceAdd])))); focus ((repeat' (first | (with_reducible exact runX_nil) | (with_reducible exact runI_nil) | ((first | (with_reducible apply runX_cons) | (with_reducible apply runI_cons)); focus (simp (discharger := omega) only [go_sem, tNode, simprocAttr]; with_reducible rfl)))); done)))
    exact (by simp (discharger := omega) only [go_sem, simprocAttr])
end
end Go.Proofs.YtfhncnhkeodngaaDoor
namespace Go.Proofs.YtfhncnhkeodngaaDoor
open Go.RowKit
section
variable {G : World → Prop} (hG : Lasting G)
include hG
set_option maxHeartbeats 8000000 in
set_option maxRecDepth 100000 in
theorem RNodeFault_4 (var other word word2 num : Int) (coefs : List Int) : Snd Tryd.prog G 65 [tNode ⟨4, var, other, word, word2, num, coefs⟩] (tInt (nodeErr ⟨4, var, other, word, word2, num, coefs⟩)) := by
  refine snd_of_body (n := 206) (tm := [(0, .t (tNode ⟨4, var, other, word, word2, num, coefs⟩))]) (rs := [.tmp 2]) tt_ok Tryd.func65 rfl rfl rfl rfl rfl ?_
  have htb : Tab.ok Tryd.prog G [] := Tab.nil
  refine SW_lenA (t := 0) (i := 6) rfl rfl fun hcl => ?_
  rw [List.length_map] at hcl
  have hcl : coefs.length ≤ 9223372036854775807 := hcl
  have e3 : nodeErr ⟨4, var, other, word, word2, num, coefs⟩ = if nodeOk ⟨4, var, other, word, word2, num, coefs⟩ = false then 1 else if nodeMore ⟨4, var, other, word, word2, num, coefs⟩ = true then 2 else if 0 < coefs.length ∧ coefs[coefs.length - 1]! = 0 then 2 else 0 := by unfold nodeErr; rw [if_neg (by simp only; omega)]
  have e1 : nodeOk ⟨4, var, other, word, word2, num, coefs⟩ = (isVar var && isVar other && decide (0 ≤ word) && decide (word < 3) && decide (0 ≤ word2) && decide (word2 < 3)) := by unfold nodeOk; simp
  have e2 : usedN ⟨4, var, other, word, word2, num, coefs⟩ = ⟨4, var, other, word, word2, 0, []⟩ := by unfold usedN; simp
  have e4 : nodeMore ⟨4, var, other, word, word2, num, coefs⟩ = (decide (num ≠ 0) || decide (coefs.length ≠ 0)) := by unfold nodeMore; rw [e2]; simp
  repeat' (first | (with_reducible first | refine SW_seq ?_ | refine SW_block ?_ | refine SThen_n ?_ | refine SThen_r ?_ | refine SThen_e ?_ | refine SIn_n ?_ | refine SIn_r ?_ | refine SIn_eq ?_ | refine SW_skip ?_ | refine SW_exit ?_ | refine SW_ret ?_ | refine SPost_r ?_) | ((with_reducible refine SIn_ne ?_ ?_); focus decide) | ((with_reducible refine SW_true ?_ ?_); focus exact rfl) | ((with_reducible refine SW_false ?_ ?_); focus exact rfl) | ((first | (with_reducible apply SW_run tt_ok hG htb) | ((with_reducible apply SW_draw rfl tt_ok hG htb); (focus kernel_rfl); (focus (simp only [List.range, List.range.loop, List.size_toArray, List.length_cons, List.length_nil, Nat.reduceAdd])))); focus ((repeat' (first | (with_reducible exact runX_nil) | (with_reducible exact runI_nil) | ((first | (with_reducible apply runX_cons) | (with_reducible apply runI_cons)); focus (simp (discharger := omega) only [go_sem, tNode, simprocAttr]; with_reducible rfl)))); done)))
  refine SW_norm (Norm.headS (own := []) (keep := [1, 3, 4, 5]) (by refine ⟨?_, ?_⟩; (simp (discharger := omega) only [go_sem, simprocAttr]; with_reducible rfl); refine ⟨?_, ?_, ?_, ?_⟩ <;> (simp only [go_sem, simprocAttr]; with_reducible rfl))) ?_
  by_cases q0 : 0 ≤ var
  · skip
    by_cases q1 : var < 5
    · skip
      by_cases q2 : 0 ≤ other
      · skip
        by_cases q3 : other < 5
        · skip
          by_cases q4 : 0 ≤ word
          · skip
            by_cases q5 : word < 3
            · skip
              by_cases q6 : 0 ≤ word2
              · skip
                by_cases q7 : word2 < 3
                · skip
                  have hok : nodeOk ⟨4, var, other, word, word2, num, coefs⟩ = true := by rw [e1]; simp [isVar, q0, q1, q2, q3, q4, q5, q6, q7]
                  have e5 : nodeErr ⟨4, var, other, word, word2, num, coefs⟩ = if nodeMore ⟨4, var, other, word, word2, num, coefs⟩ = true then 2 else if 0 < coefs.length ∧ coefs[coefs.length - 1]! = 0 then 2 else 0 := by rw [e3, hok, if_neg (by decide)]
                  repeat' (first | (with_reducible first | refine SW_seq ?_ | refine SW_block ?_ | refine SThen_n ?_ | refine SThen_r ?_ | refine SThen_e ?_ | refine SIn_n ?_ | refine SIn_r ?_ | refine SIn_eq ?_ | refine SW_skip ?_ | refine SW_exit ?_ | refine SW_ret ?_ | refine SPost_r ?_) | ((with_reducible refine SIn_ne ?_ ?_); focus decide) | ((with_reducible refine SW_true ?_ ?_); focus exact rfl) | ((with_reducible refine SW_false ?_ ?_); focus exact rfl) | ((first | (with_reducible apply SW_run tt_ok hG htb) | ((with_reducible apply SW_draw rfl tt_ok hG htb); (focus kernel_rfl); (focus (simp only [List.range, List.range.loop, List.size_toArray, List.length_cons, List.length_nil, Nat.reduceAdd])))); focus ((repeat' (first | (with_reducible exact runX_nil) | (with_reducible exact runI_nil) | ((first | (with_reducible apply runX_cons) | (with_reducible apply runI_cons)); focus (simp (discharger := omega) only [go_sem, tNode, simprocAttr]; with_reducible rfl)))); done)))
                  refine SW_norm (Norm.headS (own := []) (keep := [1, 3, 4, 5]) (by refine ⟨?_, ?_⟩; (simp (discharger := omega) only [go_sem, simprocAttr]; with_reducible rfl); refine ⟨?_, ?_, ?_, ?_⟩ <;> (simp only [go_sem, simprocAttr]; with_reducible rfl))) ?_
                  by_cases mnum : num = 0
                  · skip
                    by_cases mC : coefs.length = 0
                    · skip
                      have hmo : nodeMore ⟨4, var, other, word, word2, num, coefs⟩ = false := by rw [e4]; simp [mnum, mC]
                      rw [e5, hmo, if_neg (by decide)]
                      clear e1 e2 e3 e4 e5 hok hmo
                      subst mnum
                      rw [if_neg (by omega)]
                      repeat' (first | (with_reducible first | refine SW_seq ?_ | refine SW_block ?_ | refine SThen_n ?_ | refine SThen_r ?_ | refine SThen_e ?_ | refine SIn_n ?_ | refine SIn_r ?_ | refine SIn_eq ?_ | refine SW_skip ?_ | refine SW_exit ?_ | refine SW_ret ?_ | refine SPost_r ?_) | ((with_reducible refine SIn_ne ?_ ?_); focus decide) | ((with_reducible refine SW_true ?_ ?_); focus exact rfl) | ((with_reducible refine SW_false ?_ ?_); focus exact rfl) | ((first | (with_reducible apply SW_run tt_ok hG htb) | ((with_reducible apply SW_draw rfl tt_ok hG htb); (focus kernel_rfl); (focus (simp only [List.range, List.range.loop, List.size_toArray, List.length_cons, List.length_nil, Nat.reduceAdd])))); focus ((repeat' (first | (with_reducible exact runX_nil) | (with_reducible exact runI_nil) | ((first | (with_reducible apply runX_cons) | (with_reducible apply runI_cons)); focus (simp (discharger := omega) only [go_sem, tNode, mC, simprocAttr]; with_reducible rfl)))); done)))
                      exact (by simp (discharger := omega) only [go_sem, simprocAttr])
                    · have hmo : nodeMore ⟨4, var, other, word, word2, num, coefs⟩ = true := by rw [e4]; simp [mC]
                      rw [e5, hmo, if_pos rfl]
                      clear e1 e2 e3 e4 e5 hok hmo
                      subst mnum
                      repeat' (first | (with_reducible first | refine SW_seq ?_ | refine SW_block ?_ | refine SThen_n ?_ | refine SThen_r ?_ | refine SThen_e ?_ | refine SIn_n ?_ | refine SIn_r ?_ | refine SIn_eq ?_ | refine SW_skip ?_ | refine SW_exit ?_ | refine SW_ret ?_ | refine SPost_r ?_) | ((with_reducible refine SIn_ne ?_ ?_); focus decide) | ((with_reducible refine SW_true ?_ ?_); focus exact rfl) | ((with_reducible refine SW_false ?_ ?_); focus exact rfl) | ((first | (with_reducible apply SW_run tt_ok hG htb) | ((with_reducible apply SW_draw rfl tt_ok hG htb); (focus kernel_rfl); (focus (simp only [List.range, List.range.loop, List.size_toArray, List.length_cons, List.length_nil, Nat.reduceAdd])))); focus ((repeat' (first | (with_reducible exact runX_nil) | (with_reducible exact runI_nil) | ((first | (with_reducible apply runX_cons) | (with_reducible apply runI_cons)); focus (simp (discharger := omega) only [go_sem, tNode, mC, simprocAttr]; with_reducible rfl)))); done)))
                      exact (by simp (discharger := omega) only [go_sem, simprocAttr])
                  · have hmo : nodeMore ⟨4, var, other, word, word2, num, coefs⟩ = true := by rw [e4]; simp [mnum]
                    rw [e5, hmo, if_pos rfl]
                    clear e1 e2 e3 e4 e5 hok hmo
                    repeat' (first | (with_reducible first | refine SW_seq ?_ | refine SW_block ?_ | refine SThen_n ?_ | refine SThen_r ?_ | refine SThen_e ?_ | refine SIn_n ?_ | refine SIn_r ?_ | refine SIn_eq ?_ | refine SW_skip ?_ | refine SW_exit ?_ | refine SW_ret ?_ | refine SPost_r ?_) | ((with_reducible refine SIn_ne ?_ ?_); focus decide) | ((with_reducible refine SW_true ?_ ?_); focus exact rfl) | ((with_reducible refine SW_false ?_ ?_); focus exact rfl) | ((first | (with_reducible apply SW_run tt_ok hG htb) | ((with_reducible apply SW_draw rfl tt_ok hG htb); (focus kernel_rfl); (focus (simp only [List.range, List.range.loop, List.size_toArray, List.length_cons, List.length_nil, Nat.reduceAdd])))); focus ((repeat' (first | (with_reducible exact runX_nil) | (with_reducible exact runI_nil) | ((first | (with_reducible apply runX_cons) | (with_reducible apply runI_cons)); focus (simp (discharger := omega) only [go_sem, tNode, mnum, simprocAttr]; with_reducible rfl)))); done)))
                    exact (by simp (discharger := omega) only [go_sem, simprocAttr])
                · have e5 : nodeErr ⟨4, var, other, word, word2, num, coefs⟩ = 1 := by rw [e3, e1]; simp [isVar, q7]
                  rw [e5]
                  clear e1 e2 e3 e4 e5
                  repeat' (first | (with_reducible first | refine SW_seq ?_ | refine SW_block ?_ | refine SThen_n ?_ | refine SThen_r ?_ | refine SThen_e ?_ | refine SIn_n ?_ | refine SIn_r ?_ | refine SIn_eq ?_ | refine SW_skip ?_ | refine SW_exit ?_ | refine SW_ret ?_ | refine SPost_r ?_) | ((with_reducible refine SIn_ne ?_ ?_); focus decide) | ((with_reducible refine SW_true ?_ ?_); focus exact rfl) | ((with_reducible refine SW_false ?_ ?_); focus exact rfl) | ((first | (with_reducible apply SW_run tt_ok hG htb) | ((with_reducible apply SW_draw rfl tt_ok hG htb); (focus kernel_rfl); (focus (simp only [List.range, List.range.loop, List.size_toArray, List.length_cons, List.length_nil, Nat.reduceAdd])))); focus ((repeat' (first | (with_reducible exact runX_nil) | (with_reducible exact runI_nil) | ((first | (with_reducible apply runX_cons) | (with_reducible apply runI_cons)); focus (simp (discharger := omega) only [go_sem, tNode, simprocAttr]; with_reducible rfl)))); done)))
                  exact (by simp (discharger := omega) only [go_sem, simprocAttr])
              · have e5 : nodeErr ⟨4, var, other, word, word2, num, coefs⟩ = 1 := by rw [e3, e1]; simp [isVar, q6]
                rw [e5]
                clear e1 e2 e3 e4 e5
                repeat' (first | (with_reducible first | refine SW_seq ?_ | refine SW_block ?_ | refine SThen_n ?_ | refine SThen_r ?_ | refine SThen_e ?_ | refine SIn_n ?_ | refine SIn_r ?_ | refine SIn_eq ?_ | refine SW_skip ?_ | refine SW_exit ?_ | refine SW_ret ?_ | refine SPost_r ?_) | ((with_reducible refine SIn_ne ?_ ?_); focus decide) | ((with_reducible refine SW_true ?_ ?_); focus exact rfl) | ((with_reducible refine SW_false ?_ ?_); focus exact rfl) | ((first | (with_reducible apply SW_run tt_ok hG htb) | ((with_reducible apply SW_draw rfl tt_ok hG htb); (focus kernel_rfl); (focus (simp only [List.range, List.range.loop, List.size_toArray, List.length_cons, List.length_nil, Nat.reduceAdd])))); focus ((repeat' (first | (with_reducible exact runX_nil) | (with_reducible exact runI_nil) | ((first | (with_reducible apply runX_cons) | (with_reducible apply runI_cons)); focus (simp (discharger := omega) only [go_sem, tNode, simprocAttr]; with_reducible rfl)))); done)))
                exact (by simp (discharger := omega) only [go_sem, simprocAttr])
            · have e5 : nodeErr ⟨4, var, other, word, word2, num, coefs⟩ = 1 := by rw [e3, e1]; simp [isVar, q5]
              rw [e5]
              clear e1 e2 e3 e4 e5
              repeat' (first | (with_reducible first | refine SW_seq ?_ | refine SW_block ?_ | refine SThen_n ?_ | refine SThen_r ?_ | refine SThen_e ?_ | refine SIn_n ?_ | refine SIn_r ?_ | refine SIn_eq ?_ | refine SW_skip ?_ | refine SW_exit ?_ | refine SW_ret ?_ | refine SPost_r ?_) | ((with_reducible refine SIn_ne ?_ ?_); focus decide) | ((with_reducible refine SW_true ?_ ?_); focus exact rfl) | ((with_reducible refine SW_false ?_ ?_); focus exact rfl) | ((first | (with_reducible apply SW_run tt_ok hG htb) | ((with_reducible apply SW_draw rfl tt_ok hG htb); (focus kernel_rfl); (focus (simp only [List.range, List.range.loop, List.size_toArray, List.length_cons, List.length_nil, Nat.reduceAdd])))); focus ((repeat' (first | (with_reducible exact runX_nil) | (with_reducible exact runI_nil) | ((first | (with_reducible apply runX_cons) | (with_reducible apply runI_cons)); focus (simp (discharger := omega) only [go_sem, tNode, simprocAttr]; with_reducible rfl)))); done)))
              exact (by simp (discharger := omega) only [go_sem, simprocAttr])
          · have e5 : nodeErr ⟨4, var, other, word, word2, num, coefs⟩ = 1 := by rw [e3, e1]; simp [isVar, q4]
            rw [e5]
            clear e1 e2 e3 e4 e5
            repeat' (first | (with_reducible first | refine SW_seq ?_ | refine SW_block ?_ | refine SThen_n ?_ | refine SThen_r ?_ | refine SThen_e ?_ | refine SIn_n ?_ | refine SIn_r ?_ | refine SIn_eq ?_ | refine SW_skip ?_ | refine SW_exit ?_ | refine SW_ret ?_ | refine SPost_r ?_) | ((with_reducible refine SIn_ne ?_ ?_); focus decide) | ((with_reducible refine SW_true ?_ ?_); focus exact rfl) | ((with_reducible refine SW_false ?_ ?_); focus exact rfl) | ((first | (with_reducible apply SW_run tt_ok hG htb) | ((with_reducible apply SW_draw rfl tt_ok hG htb); (focus kernel_rfl); (focus (simp only [List.range, List.range.loop, List.size_toArray, List.length_cons, List.length_nil, Nat.reduceAdd])))); focus ((repeat' (first | (with_reducible exact runX_nil) | (with_reducible exact runI_nil) | ((first | (with_reducible apply runX_cons) | (with_reducible apply runI_cons)); focus (simp (discharger := omega) only [go_sem, tNode, simprocAttr]; with_reducible rfl)))); done)))
            exact (by simp (discharger := omega) only [go_sem, simprocAttr])
        · have e5 : nodeErr ⟨4, var, other, word, word2, num, coefs⟩ = 1 := by rw [e3, e1]; simp [isVar, q3]
          rw [e5]
          clear e1 e2 e3 e4 e5
          repeat' (first | (with_reducible first | refine SW_seq ?_ | refine SW_block ?_ | refine SThen_n ?_ | refine SThen_r ?_ | refine SThen_e ?_ | refine SIn_n ?_ | refine SIn_r ?_ | refine SIn_eq ?_ | refine SW_skip ?_ | refine SW_exit ?_ | refine SW_ret ?_ | refine SPost_r ?_) | ((with_reducible refine SIn_ne ?_ ?_); focus decide) | ((with_reducible refine SW_true ?_ ?_); focus exact rfl) | ((with_reducible refine SW_false ?_ ?_); focus exact rfl) | ((first | (with_reducible apply SW_run tt_ok hG htb) | ((with_reducible apply SW_draw rfl tt_ok hG htb); (focus kernel_rfl); (focus (simp only [List.range, List.range.loop, List.size_toArray, List.length_cons, List.length_nil, Nat.reduceAdd])))); focus ((repeat' (first | (with_reducible exact runX_nil) | (with_reducible exact runI_nil) | ((first | (with_reducible apply runX_cons) | (with_reducible apply runI_cons)); focus (simp (discharger := omega) only [go_sem, tNode, simprocAttr]; with_reducible rfl)))); done)))
          exact (by simp (discharger := omega) only [go_sem, simprocAttr])
      · have e5 : nodeErr ⟨4, var, other, word, word2, num, coefs⟩ = 1 := by rw [e3, e1]; simp [isVar, q2]
        rw [e5]
        clear e1 e2 e3 e4 e5
        repeat' (first | (with_reducible first | refine SW_seq ?_ | refine SW_block ?_ | refine SThen_n ?_ | refine SThen_r ?_ | refine SThen_e ?_ | refine SIn_n ?_ | refine SIn_r ?_ | refine SIn_eq ?_ | refine SW_skip ?_ | refine SW_exit ?_ | refine SW_ret ?_ | refine SPost_r ?_) | ((with_reducible refine SIn_ne ?_ ?_); focus decide) | ((with_reducible refine SW_true ?_ ?_); focus exact rfl) | ((with_reducible refine SW_false ?_ ?_); focus exact rfl) | ((first | (with_reducible apply SW_run tt_ok hG htb) | ((with_reducible apply SW_draw rfl tt_ok hG htb); (focus kernel_rfl); (focus (simp only [List.range, List.range.loop, List.size_toArray, List.length_cons, List.length_nil, Nat.reduceAdd])))); focus ((repeat' (first | (with_reducible exact runX_nil) | (with_reducible exact runI_nil) | ((first | (with_reducible apply runX_cons) | (with_reducible apply runI_cons)); focus (simp (discharger := omega) only [go_sem, tNode, simprocAttr]; with_reducible rfl)))); done)))
        exact (by simp (discharger := omega) only [go_sem, simprocAttr])
    · have e5 : nodeErr ⟨4, var, other, word, word2, num, coefs⟩ = 1 := by rw [e3, e1]; simp [isVar, q1]
      rw [e5]
      clear e1 e2 e3 e4 e5
      repeat' (first | (with_reducible first | refine SW_seq ?_ | refine SW_block ?_ | refine SThen_n ?_ | refine SThen_r ?_ | refine SThen_e ?_ | refine SIn_n ?_ | refine SIn_r ?_ | refine SIn_eq ?_ | refine SW_skip ?_ | refine SW_exit ?_ | refine SW_ret ?_ | refine SPost_r ?_) | ((with_reducible refine SIn_ne ?_ ?_); focus decide) | ((with_reducible refine SW_true ?_ ?_); focus exact rfl) | ((with_reducible refine SW_false ?_ ?_); focus exact rfl) | ((first | (with_reducible apply SW_run tt_ok hG htb) | ((with_reducible apply SW_draw rfl tt_ok hG htb); (focus kernel_rfl); (focus (simp only [List.range, List.range.loop, List.size_toArray, List.length_cons, List.length_nil, Nat.reduceAdd])))); focus ((repeat' (first | (with_reducible exact runX_nil) | (with_reducible exact runI_nil) | ((first | (with_reducible apply runX_cons) | (with_reducible apply runI_cons)); focus (simp (discharger := omega) only [go_sem, tNode, simprocAttr]; with_reducible rfl)))); done)))
      exact (by simp (discharger := omega) only [go_sem, simprocAttr])
  · have e5 : nodeErr ⟨4, var, other, word, word2, num, coefs⟩ = 1 := by rw [e3, e1]; simp [isVar, q0]
    rw [e5]
    clear e1 e2 e3 e4 e5
    repeat' (first | (with_reducible first | refine SW_seq ?_ | refine SW_block ?_ | refine SThen_n ?_ | refine SThen_r ?_ | refine SThen_e ?_ | refine SIn_n ?_ | refine SIn_r ?_ | refine SIn_eq ?_ | refine SW_skip ?_ | refine SW_exit ?_ | refine SW_ret ?_ | refine SPost_r ?_) | ((with_reducible refine SIn_ne ?_ ?_); focus decide) | ((with_reducible refine SW_true ?_ ?_); focus exact rfl) | ((with_reducible refine SW_false ?_ ?_); focus exact rfl) | ((first | (with_reducible apply SW_run tt_ok hG htb) | ((with_reducible apply SW_draw rfl tt_ok hG htb); (focus kernel_rfl); (focus (simp only [List.range, List.range.loop, List.size_toArray, List.length_cons, List.length_nil, Nat.reduceAdd])))); focus ((repeat' (first | (with_reducible exact runX_nil) | (with_reducible exact runI_nil) | ((first | (with_reducible apply runX_cons) | (with_reducible apply runI_cons)); focus (simp (discharger := omega) only [go_sem, tNode, simprocAttr]; with_reducible rfl)))); done)))
    exact (by simp (discharger := omega) only [go_sem, simprocAttr])
end
end Go.Proofs.YtfhncnhkeodngaaDoor
namespace Go.Proofs.YtfhncnhkeodngaaDoor
open Go.RowKit
section
variable {G : World → Prop} (hG : Lasting G)
include hG
set_option maxHeartbeats 8000000 in
set_option maxRecDepth 100000 in
theorem RNodeFault_5 (var other word word2 num : Int) (coefs : List Int) : Snd Tryd.prog G 65 [tNode ⟨5, var, other, word, word2, num, coefs⟩] (tInt (nodeErr ⟨5, var, other, word, word2, num, coefs⟩)) := by
  refine snd_of_body (n := 206) (tm := [(0, .t (tNode ⟨5, var, other, word, word2, num, coefs⟩))]) (rs := [.tmp 2]) tt_ok Tryd.func65 rfl rfl rfl rfl rfl ?_
  have htb : Tab.ok Tryd.prog G [] := Tab.nil
  refine SW_lenA (t := 0) (i := 6) rfl rfl fun hcl => ?_
  rw [List.length_map] at hcl
  have hcl : coefs.length ≤ 9223372036854775807 := hcl
  have e3 : nodeErr ⟨5, var, other, word, word2, num, coefs⟩ = if nodeOk ⟨5, var, other, word, word2, num, coefs⟩ = false then 1 else if nodeMore ⟨5, var, other, word, word2, num, coefs⟩ = true then 2 else if 0 < coefs.length ∧ coefs[coefs.length - 1]! = 0 then 2 else 0 := by unfold nodeErr; rw [if_neg (by simp only; omega)]
  have e1 : nodeOk ⟨5, var, other, word, word2, num, coefs⟩ = true := by unfold nodeOk; simp
  have e2 : usedN ⟨5, var, other, word, word2, num, coefs⟩ = ⟨5, 0, 0, 0, 0, 0, []⟩ := by unfold usedN; simp
  have e4 : nodeMore ⟨5, var, other, word, word2, num, coefs⟩ = (decide (var ≠ 0) || decide (other ≠ 0) || decide (word ≠ 0) || decide (word2 ≠ 0) || decide (num ≠ 0) || decide (coefs.length ≠ 0)) := by unfold nodeMore; rw [e2]; simp
  repeat' (first | (with_reducible first | refine SW_seq ?_ | refine SW_block ?_ | refine SThen_n ?_ | refine SThen_r ?_ | refine SThen_e ?_ | refine SIn_n ?_ | refine SIn_r ?_ | refine SIn_eq ?_ | refine SW_skip ?_ | refine SW_exit ?_ | refine SW_ret ?_ | refine SPost_r ?_) | ((with_reducible refine SIn_ne ?_ ?_); focus decide) | ((with_reducible refine SW_true ?_ ?_); focus exact rfl) | ((with_reducible refine SW_false ?_ ?_); focus exact rfl) | ((first | (with_reducible apply SW_run tt_ok hG htb) | ((with_reducible apply SW_draw rfl tt_ok hG htb); (focus kernel_rfl); (focus (simp only [List.range, List.range.loop, List.size_toArray, List.length_cons, List.length_nil, Nat.reduceAdd])))); focus ((repeat' (first | (with_reducible exact runX_nil) | (with_reducible exact runI_nil) | ((first | (with_reducible apply runX_cons) | (with_reducible apply runI_cons)); focus (simp (discharger := omega) only [go_sem, tNode, simprocAttr]; with_reducible rfl)))); done)))
  refine SW_norm (Norm.headS (own := []) (keep := [1, 3, 4, 5]) (by refine ⟨?_, ?_⟩; (simp (discharger := omega) only [go_sem, simprocAttr]; with_reducible rfl); refine ⟨?_, ?_, ?_, ?_⟩ <;> (simp only [go_sem, simprocAttr]; with_reducible rfl))) ?_
  have hok : nodeOk ⟨5, var, other, word, word2, num, coefs⟩ = true := by rw [e1]
  have e5 : nodeErr ⟨5, var, other, word, word2, num, coefs⟩ = if nodeMore ⟨5, var, other, word, word2, num, coefs⟩ = true then 2 else if 0 < coefs.length ∧ coefs[coefs.length - 1]! = 0 then 2 else 0 := by rw [e3, hok, if_neg (by decide)]
  by_cases mvar : var = 0
  · skip
    by_cases mother : other = 0
    · skip
      by_cases mword2 : word2 = 0
      · skip
        by_cases mword : word = 0
        · skip
          by_cases mnum : num = 0
          · skip
            by_cases mC : coefs.length = 0
            · skip
              have hmo : nodeMore ⟨5, var, other, word, word2, num, coefs⟩ = false := by rw [e4]; simp [mvar, mother, mword2, mword, mnum, mC]
              rw [e5, hmo, if_neg (by decide)]
              clear e1 e2 e3 e4 e5 hok hmo
              subst mvar
              subst mother
              subst mword2
              subst mword
              subst mnum
              rw [if_neg (by omega)]
              repeat' (first | (with_reducible first | refine SW_seq ?_ | refine SW_block ?_ | refine SThen_n ?_ | refine SThen_r ?_ | refine SThen_e ?_ | refine SIn_n ?_ | refine SIn_r ?_ | refine SIn_eq ?_ | refine SW_skip ?_ | refine SW_exit ?_ | refine SW_ret ?_ | refine SPost_r ?_) | ((with_reducible refine SIn_ne ?_ ?_); focus decide) | ((with_reducible refine SW_true ?_ ?_); focus exact rfl) | ((with_reducible refine SW_false ?_ ?_); focus exact rfl) | ((first | (with_reducible apply SW_run tt_ok hG htb) | ((with_reducible apply SW_draw rfl tt_ok hG htb); (focus kernel_rfl); (focus (simp only [List.range, List.range.loop, List.size_toArray, List.length_cons, List.length_nil, Nat.reduceAdd])))); focus ((repeat' (first | (with_reducible exact runX_nil) | (with_reducible exact runI_nil) | ((first | (with_reducible apply runX_cons) | (with_reducible apply runI_cons)); focus (simp (discharger := omega) only [go_sem, tNode, mC, simprocAttr]; with_reducible rfl)))); done)))
              exact (by simp (discharger := omega) only [go_sem, simprocAttr])
            · have hmo : nodeMore ⟨5, var, other, word, word2, num, coefs⟩ = true := by rw [e4]; simp [mC]
              rw [e5, hmo, if_pos rfl]
              clear e1 e2 e3 e4 e5 hok hmo
              subst mvar
              subst mother
              subst mword2
              subst mword
              subst mnum
              repeat' (first | (with_reducible first | refine SW_seq ?_ | refine SW_block ?_ | refine SThen_n ?_ | refine SThen_r ?_ | refine SThen_e ?_ | refine SIn_n ?_ | refine SIn_r ?_ | refine SIn_eq ?_ | refine SW_skip ?_ | refine SW_exit ?_ | refine SW_ret ?_ | refine SPost_r ?_) | ((with_reducible refine SIn_ne ?_ ?_); focus decide) | ((with_reducible refine SW_true ?_ ?_); focus exact rfl) | ((with_reducible refine SW_false ?_ ?_); focus exact rfl) | ((first | (with_reducible apply SW_run tt_ok hG htb) | ((with_reducible apply SW_draw rfl tt_ok hG htb); (focus kernel_rfl); (focus (simp only [List.range, List.range.loop, List.size_toArray, List.length_cons, List.length_nil, Nat.reduceAdd])))); focus ((repeat' (first | (with_reducible exact runX_nil) | (with_reducible exact runI_nil) | ((first | (with_reducible apply runX_cons) | (with_reducible apply runI_cons)); focus (simp (discharger := omega) only [go_sem, tNode, mC, simprocAttr]; with_reducible rfl)))); done)))
              exact (by simp (discharger := omega) only [go_sem, simprocAttr])
          · have hmo : nodeMore ⟨5, var, other, word, word2, num, coefs⟩ = true := by rw [e4]; simp [mnum]
            rw [e5, hmo, if_pos rfl]
            clear e1 e2 e3 e4 e5 hok hmo
            subst mvar
            subst mother
            subst mword2
            subst mword
            repeat' (first | (with_reducible first | refine SW_seq ?_ | refine SW_block ?_ | refine SThen_n ?_ | refine SThen_r ?_ | refine SThen_e ?_ | refine SIn_n ?_ | refine SIn_r ?_ | refine SIn_eq ?_ | refine SW_skip ?_ | refine SW_exit ?_ | refine SW_ret ?_ | refine SPost_r ?_) | ((with_reducible refine SIn_ne ?_ ?_); focus decide) | ((with_reducible refine SW_true ?_ ?_); focus exact rfl) | ((with_reducible refine SW_false ?_ ?_); focus exact rfl) | ((first | (with_reducible apply SW_run tt_ok hG htb) | ((with_reducible apply SW_draw rfl tt_ok hG htb); (focus kernel_rfl); (focus (simp only [List.range, List.range.loop, List.size_toArray, List.length_cons, List.length_nil, Nat.reduceAdd])))); focus ((repeat' (first | (with_reducible exact runX_nil) | (with_reducible exact runI_nil) | ((first | (with_reducible apply runX_cons) | (with_reducible apply runI_cons)); focus (simp (discharger := omega) only [go_sem, tNode, mnum, simprocAttr]; with_reducible rfl)))); done)))
            exact (by simp (discharger := omega) only [go_sem, simprocAttr])
        · have hmo : nodeMore ⟨5, var, other, word, word2, num, coefs⟩ = true := by rw [e4]; simp [mword]
          rw [e5, hmo, if_pos rfl]
          clear e1 e2 e3 e4 e5 hok hmo
          subst mvar
          subst mother
          subst mword2
          repeat' (first | (with_reducible first | refine SW_seq ?_ | refine SW_block ?_ | refine SThen_n ?_ | refine SThen_r ?_ | refine SThen_e ?_ | refine SIn_n ?_ | refine SIn_r ?_ | refine SIn_eq ?_ | refine SW_skip ?_ | refine SW_exit ?_ | refine SW_ret ?_ | refine SPost_r ?_) | ((with_reducible refine SIn_ne ?_ ?_); focus decide) | ((with_reducible refine SW_true ?_ ?_); focus exact rfl) | ((with_reducible refine SW_false ?_ ?_); focus exact rfl) | ((first | (with_reducible apply SW_run tt_ok hG htb) | ((with_reducible apply SW_draw rfl tt_ok hG htb); (focus kernel_rfl); (focus (simp only [List.range, List.range.loop, List.size_toArray, List.length_cons, List.length_nil, Nat.reduceAdd])))); focus ((repeat' (first | (with_reducible exact runX_nil) | (with_reducible exact runI_nil) | ((first | (with_reducible apply runX_cons) | (with_reducible apply runI_cons)); focus (simp (discharger := omega) only [go_sem, tNode, mword, simprocAttr]; with_reducible rfl)))); done)))
          exact (by simp (discharger := omega) only [go_sem, simprocAttr])
      · have hmo : nodeMore ⟨5, var, other, word, word2, num, coefs⟩ = true := by rw [e4]; simp [mword2]
        rw [e5, hmo, if_pos rfl]
        clear e1 e2 e3 e4 e5 hok hmo
        subst mvar
        subst mother
        repeat' (first | (with_reducible first | refine SW_seq ?_ | refine SW_block ?_ | refine SThen_n ?_ | refine SThen_r ?_ | refine SThen_e ?_ | refine SIn_n ?_ | refine SIn_r ?_ | refine SIn_eq ?_ | refine SW_skip ?_ | refine SW_exit ?_ | refine SW_ret ?_ | refine SPost_r ?_) | ((with_reducible refine SIn_ne ?_ ?_); focus decide) | ((with_reducible refine SW_true ?_ ?_); focus exact rfl) | ((with_reducible refine SW_false ?_ ?_); focus exact rfl) | ((first | (with_reducible apply SW_run tt_ok hG htb) | ((with_reducible apply SW_draw rfl tt_ok hG htb); (focus kernel_rfl); (focus (simp only [List.range, List.range.loop, List.size_toArray, List.length_cons, List.length_nil, Nat.reduceAdd])))); focus ((repeat' (first | (with_reducible exact runX_nil) | (with_reducible exact runI_nil) | ((first | (with_reducible apply runX_cons) | (with_reducible apply runI_cons)); focus (simp (discharger := omega) only [go_sem, tNode, mword2, simprocAttr]; with_reducible rfl)))); done)))
        exact (by simp (discharger := omega) only [go_sem, simprocAttr])
    · have hmo : nodeMore ⟨5, var, other, word, word2, num, coefs⟩ = true := by rw [e4]; simp [mother]
      rw [e5, hmo, if_pos rfl]
      clear e1 e2 e3 e4 e5 hok hmo
      subst mvar
      repeat' (first | (with_reducible first | refine SW_seq ?_ | refine SW_block ?_ | refine SThen_n ?_ | refine SThen_r ?_ | refine SThen_e ?_ | refine SIn_n ?_ | refine SIn_r ?_ | refine SIn_eq ?_ | refine SW_skip ?_ | refine SW_exit ?_ | refine SW_ret ?_ | refine SPost_r ?_) | ((with_reducible refine SIn_ne ?_ ?_); focus decide) | ((with_reducible refine SW_true ?_ ?_); focus exact rfl) | ((with_reducible refine SW_false ?_ ?_); focus exact rfl) | ((first | (with_reducible apply SW_run tt_ok hG htb) | ((with_reducible apply SW_draw rfl tt_ok hG htb); (focus kernel_rfl); (focus (simp only [List.range, List.range.loop, List.size_toArray, List.length_cons, List.length_nil, Nat.reduceAdd])))); focus ((repeat' (first | (with_reducible exact runX_nil) | (with_reducible exact runI_nil) | ((first | (with_reducible apply runX_cons) | (with_reducible apply runI_cons)); focus (simp (discharger := omega) only [go_sem, tNode, mother, simprocAttr]; with_reducible rfl)))); done)))
      exact (by simp (discharger := omega) only [go_sem, simprocAttr])
  · have hmo : nodeMore ⟨5, var, other, word, word2, num, coefs⟩ = true := by rw [e4]; simp [mvar]
    rw [e5, hmo, if_pos rfl]
    clear e1 e2 e3 e4 e5 hok hmo
    repeat' (first | (with_reducible first | refine SW_seq ?_ | refine SW_block ?_ | refine SThen_n ?_ | refine SThen_r ?_ | refine SThen_e ?_ | refine SIn_n ?_ | refine SIn_r ?_ | refine SIn_eq ?_ | refine SW_skip ?_ | refine SW_exit ?_ | refine SW_ret ?_ | refine SPost_r ?_) | ((with_reducible refine SIn_ne ?_ ?_); focus decide) | ((with_reducible refine SW_true ?_ ?_); focus exact rfl) | ((with_reducible refine SW_false ?_ ?_); focus exact rfl) | ((first | (with_reducible apply SW_run tt_ok hG htb) | ((with_reducible apply SW_draw rfl tt_ok hG htb); (focus kernel_rfl); (focus (simp only [List.range, List.range.loop, List.size_toArray, List.length_cons, List.length_nil, Nat.reduceAdd])))); focus ((repeat' (first | (with_reducible exact runX_nil) | (with_reducible exact runI_nil) | ((first | (with_reducible apply runX_cons) | (with_reducible apply runI_cons)); focus (simp (discharger := omega) only [go_sem, tNode, mvar, simprocAttr]; with_reducible rfl)))); done)))
    exact (by simp (discharger := omega) only [go_sem, simprocAttr])
set_option maxHeartbeats 8000000 in
set_option maxRecDepth 100000 in
theorem RNodeFault_6 (var other word word2 num : Int) (coefs : List Int) : Snd Tryd.prog G 65 [tNode ⟨6, var, other, word, word2, num, coefs⟩] (tInt (nodeErr ⟨6, var, other, word, word2, num, coefs⟩)) := by
  refine snd_of_body (n := 206) (tm := [(0, .t (tNode ⟨6, var, other, word, word2, num, coefs⟩))]) (rs := [.tmp 2]) tt_ok Tryd.func65 rfl rfl rfl rfl rfl ?_
  have htb : Tab.ok Tryd.prog G [] := Tab.nil
  refine SW_lenA (t := 0) (i := 6) rfl rfl fun hcl => ?_
  rw [List.length_map] at hcl
  have hcl : coefs.length ≤ 9223372036854775807 := hcl
  have e3 : nodeErr ⟨6, var, other, word, word2, num, coefs⟩ = if nodeOk ⟨6, var, other, word, word2, num, coefs⟩ = false then 1 else if nodeMore ⟨6, var, other, word, word2, num, coefs⟩ = true then 2 else if 0 < coefs.length ∧ coefs[coefs.length - 1]! = 0 then 2 else 0 := by unfold nodeErr; rw [if_neg (by simp only; omega)]
  have e1 : nodeOk ⟨6, var, other, word, word2, num, coefs⟩ = true := by unfold nodeOk; simp
  have e2 : usedN ⟨6, var, other, word, word2, num, coefs⟩ = ⟨6, 0, 0, 0, 0, 0, []⟩ := by unfold usedN; simp
  have e4 : nodeMore ⟨6, var, other, word, word2, num, coefs⟩ = (decide (var ≠ 0) || decide (other ≠ 0) || decide (word ≠ 0) || decide (word2 ≠ 0) || decide (num ≠ 0) || decide (coefs.length ≠ 0)) := by unfold nodeMore; rw [e2]; simp
  repeat' (first | (with_reducible first | refine SW_seq ?_ | refine SW_block ?_ | refine SThen_n ?_ | refine SThen_r ?_ | refine SThen_e ?_ | refine SIn_n ?_ | refine SIn_r ?_ | refine SIn_eq ?_ | refine SW_skip ?_ | refine SW_exit ?_ | refine SW_ret ?_ | refine SPost_r ?_) | ((with_reducible refine SIn_ne ?_ ?_); focus decide) | ((with_reducible refine SW_true ?_ ?_); focus exact rfl) | ((with_reducible refine SW_false ?_ ?_); focus exact rfl) | ((first | (with_reducible apply SW_run tt_ok hG htb) | ((with_reducible apply SW_draw rfl tt_ok hG htb); (focus kernel_rfl); (focus (simp only [List.range, List.range.loop, List.size_toArray, List.length_cons, List.length_nil, Nat.reduceAdd])))); focus ((repeat' (first | (with_reducible exact runX_nil) | (with_reducible exact runI_nil) | ((first | (with_reducible apply runX_cons) | (with_reducible apply runI_cons)); focus (simp (discharger := omega) only [go_sem, tNode, simprocAttr]; with_reducible rfl)))); done)))
  refine SW_norm (Norm.headS (own := []) (keep := [1, 3, 4, 5]) (by refine ⟨?_, ?_⟩; (simp (discharger := omega) only [go_sem, simprocAttr]; with_reducible rfl); refine ⟨?_, ?_, ?_, ?_⟩ <;> (simp only [go_sem, simprocAttr]; with_reducible rfl))) ?_
  have hok : nodeOk ⟨6, var, other, word, word2, num, coefs⟩ = true := by rw [e1]
  have e5 : nodeErr ⟨6, var, other, word, word2, num, coefs⟩ = if nodeMore ⟨6, var, other, word, word2, num, coefs⟩ = true then 2 else if 0 < coefs.length ∧ coefs[coefs.length - 1]! = 0 then 2 else 0 := by rw [e3, hok, if_neg (by decide)]
  by_cases mvar : var = 0
  · skip
    by_cases mother : other = 0
    · skip
      by_cases mword2 : word2 = 0
      · skip
        by_cases mword : word = 0
        · skip
          by_cases mnum : num = 0
          · skip
            by_cases mC : coefs.length = 0
            · skip
              have hmo : nodeMore ⟨6, var, other, word, word2, num, coefs⟩ = false := by rw [e4]; simp [mvar, mother, mword2, mword, mnum, mC]
              rw [e5, hmo, if_neg (by decide)]
              clear e1 e2 e3 e4 e5 hok hmo
              subst mvar
              subst mother
              subst mword2
              subst mword
              subst mnum
              rw [if_neg (by omega)]
              repeat' (first | (with_reducible first | refine SW_seq ?_ | refine SW_block ?_ | refine SThen_n ?_ | refine SThen_r ?_ | refine SThen_e ?_ | refine SIn_n ?_ | refine SIn_r ?_ | refine SIn_eq ?_ | refine SW_skip ?_ | refine SW_exit ?_ | refine SW_ret ?_ | refine SPost_r ?_) | ((with_reducible refine SIn_ne ?_ ?_); focus decide) | ((with_reducible refine SW_true ?_ ?_); focus exact rfl) | ((with_reducible refine SW_false ?_ ?_); focus exact rfl) | ((first | (with_reducible apply SW_run tt_ok hG htb) | ((with_reducible apply SW_draw rfl tt_ok hG htb); (focus kernel_rfl); (focus (simp only [List.range, List.range.loop, List.size_toArray, List.length_cons, List.length_nil, Nat.reduceAdd])))); focus ((repeat' (first | (with_reducible exact runX_nil) | (with_reducible exact runI_nil) | ((first | (with_reducible apply runX_cons) | (with_reducible apply runI_cons)); focus (simp (discharger := omega) only [go_sem, tNode, mC, simprocAttr]; with_reducible rfl)))); done)))
              exact (by simp (discharger := omega) only [go_sem, simprocAttr])
            · have hmo : nodeMore ⟨6, var, other, word, word2, num, coefs⟩ = true := by rw [e4]; simp [mC]
              rw [e5, hmo, if_pos rfl]
              clear e1 e2 e3 e4 e5 hok hmo
              subst mvar
              subst mother
              subst mword2
              subst mword
              subst mnum
              repeat' (first | (with_reducible first | refine SW_seq ?_ | refine SW_block ?_ | refine SThen_n ?_ | refine SThen_r ?_ | refine SThen_e ?_ | refine SIn_n ?_ | refine SIn_r ?_ | refine SIn_eq ?_ | refine SW_skip ?_ | refine SW_exit ?_ | refine SW_ret ?_ | refine SPost_r ?_) | ((with_reducible refine SIn_ne ?_ ?_); focus decide) | ((with_reducible refine SW_true ?_ ?_); focus exact rfl) | ((with_reducible refine SW_false ?_ ?_); focus exact rfl) | ((first | (with_reducible apply SW_run tt_ok hG htb) | ((with_reducible apply SW_draw rfl tt_ok hG htb); (focus kernel_rfl); (focus (simp only [List.range, List.range.loop, List.size_toArray, List.length_cons, List.length_nil, Nat.reduceAdd])))); focus ((repeat' (first | (with_reducible exact runX_nil) | (with_reducible exact runI_nil) | ((first | (with_reducible apply runX_cons) | (with_reducible apply runI_cons)); focus (simp (discharger := omega) only [go_sem, tNode, mC, simprocAttr]; with_reducible rfl)))); done)))
              exact (by simp (discharger := omega) only [go_sem, simprocAttr])
          · have hmo : nodeMore ⟨6, var, other, word, word2, num, coefs⟩ = true := by rw [e4]; simp [mnum]
            rw [e5, hmo, if_pos rfl]
            clear e1 e2 e3 e4 e5 hok hmo
            subst mvar
            subst mother
            subst mword2
            subst mword
            repeat' (first | (with_reducible first | refine SW_seq ?_ | refine SW_block ?_ | refine SThen_n ?_ | refine SThen_r ?_ | refine SThen_e ?_ | refine SIn_n ?_ | refine SIn_r ?_ | refine SIn_eq ?_ | refine SW_skip ?_ | refine SW_exit ?_ | refine SW_ret ?_ | refine SPost_r ?_) | ((with_reducible refine SIn_ne ?_ ?_); focus decide) | ((with_reducible refine SW_true ?_ ?_); focus exact rfl) | ((with_reducible refine SW_false ?_ ?_); focus exact rfl) | ((first | (with_reducible apply SW_run tt_ok hG htb) | ((with_reducible apply SW_draw rfl tt_ok hG htb); (focus kernel_rfl); (focus (simp only [List.range, List.range.loop, List.size_toArray, List.length_cons, List.length_nil, Nat.reduceAdd])))); focus ((repeat' (first | (with_reducible exact runX_nil) | (with_reducible exact runI_nil) | ((first | (with_reducible apply runX_cons) | (with_reducible apply runI_cons)); focus (simp (discharger := omega) only [go_sem, tNode, mnum, simprocAttr]; with_reducible rfl)))); done)))
            exact (by simp (discharger := omega) only [go_sem, simprocAttr])
        · have hmo : nodeMore ⟨6, var, other, word, word2, num, coefs⟩ = true := by rw [e4]; simp [mword]
          rw [e5, hmo, if_pos rfl]
          clear e1 e2 e3 e4 e5 hok hmo
          subst mvar
          subst mother
          subst mword2
          repeat' (first | (with_reducible first | refine SW_seq ?_ | refine SW_block ?_ | refine SThen_n ?_ | refine SThen_r ?_ | refine SThen_e ?_ | refine SIn_n ?_ | refine SIn_r ?_ | refine SIn_eq ?_ | refine SW_skip ?_ | refine SW_exit ?_ | refine SW_ret ?_ | refine SPost_r ?_) | ((with_reducible refine SIn_ne ?_ ?_); focus decide) | ((with_reducible refine SW_true ?_ ?_); focus exact rfl) | ((with_reducible refine SW_false ?_ ?_); focus exact rfl) | ((first | (with_reducible apply SW_run tt_ok hG htb) | ((with_reducible apply SW_draw rfl tt_ok hG htb); (focus kernel_rfl); (focus (simp only [List.range, List.range.loop, List.size_toArray, List.length_cons, List.length_nil, Nat.reduceAdd])))); focus ((repeat' (first | (with_reducible exact runX_nil) | (with_reducible exact runI_nil) | ((first | (with_reducible apply runX_cons) | (with_reducible apply runI_cons)); focus (simp (discharger := omega) only [go_sem, tNode, mword, simprocAttr]; with_reducible rfl)))); done)))
          exact (by simp (discharger := omega) only [go_sem, simprocAttr])
      · have hmo : nodeMore ⟨6, var, other, word, word2, num, coefs⟩ = true := by rw [e4]; simp [mword2]
        rw [e5, hmo, if_pos rfl]
        clear e1 e2 e3 e4 e5 hok hmo
        subst mvar
        subst mother
        repeat' (first | (with_reducible first | refine SW_seq ?_ | refine SW_block ?_ | refine SThen_n ?_ | refine SThen_r ?_ | refine SThen_e ?_ | refine SIn_n ?_ | refine SIn_r ?_ | refine SIn_eq ?_ | refine SW_skip ?_ | refine SW_exit ?_ | refine SW_ret ?_ | refine SPost_r ?_) | ((with_reducible refine SIn_ne ?_ ?_); focus decide) | ((with_reducible refine SW_true ?_ ?_); focus exact rfl) | ((with_reducible refine SW_false ?_ ?_); focus exact rfl) | ((first | (with_reducible apply SW_run tt_ok hG htb) | ((with_reducible apply SW_draw rfl tt_ok hG htb); (focus kernel_rfl); (focus (simp only [List.range, List.range.loop, List.size_toArray, List.length_cons, List.length_nil, Nat.reduceAdd])))); focus ((repeat' (first | (with_reducible exact runX_nil) | (with_reducible exact runI_nil) | ((first | (with_reducible apply runX_cons) | (with_reducible apply runI_cons)); focus (simp (discharger := omega) only [go_sem, tNode, mword2, simprocAttr]; with_reducible rfl)))); done)))
        exact (by simp (discharger := omega) only [go_sem, simprocAttr])
    · have hmo : nodeMore ⟨6, var, other, word, word2, num, coefs⟩ = true := by rw [e4]; simp [mother]
      rw [e5, hmo, if_pos rfl]
      clear e1 e2 e3 e4 e5 hok hmo
      subst mvar
      repeat' (first | (with_reducible first | refine SW_seq ?_ | refine SW_block ?_ | refine SThen_n ?_ | refine SThen_r ?_ | refine SThen_e ?_ | refine SIn_n ?_ | refine SIn_r ?_ | refine SIn_eq ?_ | refine SW_skip ?_ | refine SW_exit ?_ | refine SW_ret ?_ | refine SPost_r ?_) | ((with_reducible refine SIn_ne ?_ ?_); focus decide) | ((with_reducible refine SW_true ?_ ?_); focus exact rfl) | ((with_reducible refine SW_false ?_ ?_); focus exact rfl) | ((first | (with_reducible apply SW_run tt_ok hG htb) | ((with_reducible apply SW_draw rfl tt_ok hG htb); (focus kernel_rfl); (focus (simp only [List.range, List.range.loop, List.size_toArray, List.length_cons, List.length_nil, Nat.reduceAdd])))); focus ((repeat' (first | (with_reducible exact runX_nil) | (with_reducible exact runI_nil) | ((first | (with_reducible apply runX_cons) | (with_reducible apply runI_cons)); focus (simp (discharger := omega) only [go_sem, tNode, mother, simprocAttr]; with_reducible rfl)))); done)))
      exact (by simp (discharger := omega) only [go_sem, simprocAttr])
  · have hmo : nodeMore ⟨6, var, other, word, word2, num, coefs⟩ = true := by rw [e4]; simp [mvar]
    rw [e5, hmo, if_pos rfl]
    clear e1 e2 e3 e4 e5 hok hmo
    repeat' (first | (with_reducible first | refine SW_seq ?_ | refine SW_block ?_ | refine SThen_n ?_ | refine SThen_r ?_ | refine SThen_e ?_ | refine SIn_n ?_ | refine SIn_r ?_ | refine SIn_eq ?_ | refine SW_skip ?_ | refine SW_exit ?_ | refine SW_ret ?_ | refine SPost_r ?_) | ((with_reducible refine SIn_ne ?_ ?_); focus decide) | ((with_reducible refine SW_true ?_ ?_); focus exact rfl) | ((with_reducible refine SW_false ?_ ?_); focus exact rfl) | ((first | (with_reducible apply SW_run tt_ok hG htb) | ((with_reducible apply SW_draw rfl tt_ok hG htb); (focus kernel_rfl); (focus (simp only [List.range, List.range.loop, List.size_toArray, List.length_cons, List.length_nil, Nat.reduceAdd])))); focus ((repeat' (first | (with_reducible exact runX_nil) | (with_reducible exact runI_nil) | ((first | (with_reducible apply runX_cons) | (with_reducible apply runI_cons)); focus (simp (discharger := omega) only [go_sem, tNode, mvar, simprocAttr]; with_reducible rfl)))); done)))
    exact (by simp (discharger := omega) only [go_sem, simprocAttr])
set_option maxHeartbeats 8000000 in
set_option maxRecDepth 100000 in
theorem RNodeFault_7 (var other word word2 num : Int) (coefs : List Int) : Snd Tryd.prog G 65 [tNode ⟨7, var, other, word, word2, num, coefs⟩] (tInt (nodeErr ⟨7, var, other, word, word2, num, coefs⟩)) := by
  refine snd_of_body (n := 206) (tm := [(0, .t (tNode ⟨7, var, other, word, word2, num, coefs⟩))]) (rs := [.tmp 2]) tt_ok Tryd.func65 rfl rfl rfl rfl rfl ?_
  have htb : Tab.ok Tryd.prog G [] := Tab.nil
  refine SW_lenA (t := 0) (i := 6) rfl rfl fun hcl => ?_
  rw [List.length_map] at hcl
  have hcl : coefs.length ≤ 9223372036854775807 := hcl
  have e3 : nodeErr ⟨7, var, other, word, word2, num, coefs⟩ = if nodeOk ⟨7, var, other, word, word2, num, coefs⟩ = false then 1 else if nodeMore ⟨7, var, other, word, word2, num, coefs⟩ = true then 2 else if 0 < coefs.length ∧ coefs[coefs.length - 1]! = 0 then 2 else 0 := by unfold nodeErr; rw [if_neg (by simp only; omega)]
  have e1 : nodeOk ⟨7, var, other, word, word2, num, coefs⟩ = true := by unfold nodeOk; simp
  have e2 : usedN ⟨7, var, other, word, word2, num, coefs⟩ = ⟨7, 0, 0, 0, 0, 0, []⟩ := by unfold usedN; simp
  have e4 : nodeMore ⟨7, var, other, word, word2, num, coefs⟩ = (decide (var ≠ 0) || decide (other ≠ 0) || decide (word ≠ 0) || decide (word2 ≠ 0) || decide (num ≠ 0) || decide (coefs.length ≠ 0)) := by unfold nodeMore; rw [e2]; simp
  repeat' (first | (with_reducible first | refine SW_seq ?_ | refine SW_block ?_ | refine SThen_n ?_ | refine SThen_r ?_ | refine SThen_e ?_ | refine SIn_n ?_ | refine SIn_r ?_ | refine SIn_eq ?_ | refine SW_skip ?_ | refine SW_exit ?_ | refine SW_ret ?_ | refine SPost_r ?_) | ((with_reducible refine SIn_ne ?_ ?_); focus decide) | ((with_reducible refine SW_true ?_ ?_); focus exact rfl) | ((with_reducible refine SW_false ?_ ?_); focus exact rfl) | ((first | (with_reducible apply SW_run tt_ok hG htb) | ((with_reducible apply SW_draw rfl tt_ok hG htb); (focus kernel_rfl); (focus (simp only [List.range, List.range.loop, List.size_toArray, List.length_cons, List.length_nil, Nat.reduceAdd])))); focus ((repeat' (first | (with_reducible exact runX_nil) | (with_reducible exact runI_nil) | ((first | (with_reducible apply runX_cons) | (with_reducible apply runI_cons)); focus (simp (discharger := omega) only [go_sem, tNode, simprocAttr]; with_reducible rfl)))); done)))
  refine SW_norm (Norm.headS (own := []) (keep := [1, 3, 4, 5]) (by refine ⟨?_, ?_⟩; (simp (discharger := omega) only [go_sem, simprocAttr]; with_reducible rfl); refine ⟨?_, ?_, ?_, ?_⟩ <;> (simp only [go_sem, simprocAttr]; with_reducible rfl))) ?_
  have hok : nodeOk ⟨7, var, other, word, word2, num, coefs⟩ = true := by rw [e1]
  have e5 : nodeErr ⟨7, var, other, word, word2, num, coefs⟩ = if nodeMore ⟨7, var, other, word, word2, num, coefs⟩ = true then 2 else if 0 < coefs.length ∧ coefs[coefs.length - 1]! = 0 then 2 else 0 := by rw [e3, hok, if_neg (by decide)]
  by_cases mvar : var = 0
  · skip
    by_cases mother : other = 0
    · skip
      by_cases mword2 : word2 = 0
      · skip
        by_cases mword : word = 0
        · skip
          by_cases mnum : num = 0
          · skip
            by_cases mC : coefs.length = 0
            · skip
              have hmo : nodeMore ⟨7, var, other, word, word2, num, coefs⟩ = false := by rw [e4]; simp [mvar, mother, mword2, mword, mnum, mC]
              rw [e5, hmo, if_neg (by decide)]
              clear e1 e2 e3 e4 e5 hok hmo
              subst mvar
              subst mother
              subst mword2
              subst mword
              subst mnum
              rw [if_neg (by omega)]
              repeat' (first | (with_reducible first | refine SW_seq ?_ | refine SW_block ?_ | refine SThen_n ?_ | refine SThen_r ?_ | refine SThen_e ?_ | refine SIn_n ?_ | refine SIn_r ?_ | refine SIn_eq ?_ | refine SW_skip ?_ | refine SW_exit ?_ | refine SW_ret ?_ | refine SPost_r ?_) | ((with_reducible refine SIn_ne ?_ ?_); focus decide) | ((with_reducible refine SW_true ?_ ?_); focus exact rfl) | ((with_reducible refine SW_false ?_ ?_); focus exact rfl) | ((first | (with_reducible apply SW_run tt_ok hG htb) | ((with_reducible apply SW_draw rfl tt_ok hG htb); (focus kernel_rfl); (focus (simp only [List.range, List.range.loop, List.size_toArray, List.length_cons, List.length_nil, Nat.reduceAdd])))); focus ((repeat' (first | (with_reducible exact runX_nil) | (with_reducible exact runI_nil) | ((first | (with_reducible apply runX_cons) | (with_reducible apply runI_cons)); focus (simp (discharger := omega) only [go_sem, tNode, mC, simprocAttr]; with_reducible rfl)))); done)))
              exact (by simp (discharger := omega) only [go_sem, simprocAttr])
            · have hmo : nodeMore ⟨7, var, other, word, word2, num, coefs⟩ = true := by rw [e4]; simp [mC]
              rw [e5, hmo, if_pos rfl]
              clear e1 e2 e3 e4 e5 hok hmo
              subst mvar
              subst mother
              subst mword2
              subst mword
              subst mnum
              repeat' (first | (with_reducible first | refine SW_seq ?_ | refine SW_block ?_ | refine SThen_n ?_ | refine SThen_r ?_ | refine SThen_e ?_ | refine SIn_n ?_ | refine SIn_r ?_ | refine SIn_eq ?_ | refine SW_skip ?_ | refine SW_exit ?_ | refine SW_ret ?_ | refine SPost_r ?_) | ((with_reducible refine SIn_ne ?_ ?_); focus decide) | ((with_reducible refine SW_true ?_ ?_); focus exact rfl) | ((with_reducible refine SW_false ?_ ?_); focus exact rfl) | ((first | (with_reducible apply SW_run tt_ok hG htb) | ((with_reducible apply SW_draw rfl tt_ok hG htb); (focus kernel_rfl); (focus (simp only [List.range, List.range.loop, List.size_toArray, List.length_cons, List.length_nil, Nat.reduceAdd])))); focus ((repeat' (first | (with_reducible exact runX_nil) | (with_reducible exact runI_nil) | ((first | (with_reducible apply runX_cons) | (with_reducible apply runI_cons)); focus (simp (discharger := omega) only [go_sem, tNode, mC, simprocAttr]; with_reducible rfl)))); done)))
              exact (by simp (discharger := omega) only [go_sem, simprocAttr])
          · have hmo : nodeMore ⟨7, var, other, word, word2, num, coefs⟩ = true := by rw [e4]; simp [mnum]
            rw [e5, hmo, if_pos rfl]
            clear e1 e2 e3 e4 e5 hok hmo
            subst mvar
            subst mother
            subst mword2
            subst mword
            repeat' (first | (with_reducible first | refine SW_seq ?_ | refine SW_block ?_ | refine SThen_n ?_ | refine SThen_r ?_ | refine SThen_e ?_ | refine SIn_n ?_ | refine SIn_r ?_ | refine SIn_eq ?_ | refine SW_skip ?_ | refine SW_exit ?_ | refine SW_ret ?_ | refine SPost_r ?_) | ((with_reducible refine SIn_ne ?_ ?_); focus decide) | ((with_reducible refine SW_true ?_ ?_); focus exact rfl) | ((with_reducible refine SW_false ?_ ?_); focus exact rfl) | ((first | (with_reducible apply SW_run tt_ok hG htb) | ((with_reducible apply SW_draw rfl tt_ok hG htb); (focus kernel_rfl); (focus (simp only [List.range, List.range.loop, List.size_toArray, List.length_cons, List.length_nil, Nat.reduceAdd])))); focus ((repeat' (first | (with_reducible exact runX_nil) | (with_reducible exact runI_nil) | ((first | (with_reducible apply runX_cons) | (with_reducible apply runI_cons)); focus (simp (discharger := omega) only [go_sem, tNode, mnum, simprocAttr]; with_reducible rfl)))); done)))
            exact (by simp (discharger := omega) only [go_sem, simprocAttr])
        · have hmo : nodeMore ⟨7, var, other, word, word2, num, coefs⟩ = true := by rw [e4]; simp [mword]
          rw [e5, hmo, if_pos rfl]
          clear e1 e2 e3 e4 e5 hok hmo
          subst mvar
          subst mother
          subst mword2
          repeat' (first | (with_reducible first | refine SW_seq ?_ | refine SW_block ?_ | refine SThen_n ?_ | refine SThen_r ?_ | refine SThen_e ?_ | refine SIn_n ?_ | refine SIn_r ?_ | refine SIn_eq ?_ | refine SW_skip ?_ | refine SW_exit ?_ | refine SW_ret ?_ | refine SPost_r ?_) | ((with_reducible refine SIn_ne ?_ ?_); focus decide) | ((with_reducible refine SW_true ?_ ?_); focus exact rfl) | ((with_reducible refine SW_false ?_ ?_); focus exact rfl) | ((first | (with_reducible apply SW_run tt_ok hG htb) | ((with_reducible apply SW_draw rfl tt_ok hG htb); (focus kernel_rfl); (focus (simp only [List.range, List.range.loop, List.size_toArray, List.length_cons, List.length_nil, Nat.reduceAdd])))); focus ((repeat' (first | (with_reducible exact runX_nil) | (with_reducible exact runI_nil) | ((first | (with_reducible apply runX_cons) | (with_reducible apply runI_cons)); focus (simp (discharger := omega) only [go_sem, tNode, mword, simprocAttr]; with_reducible rfl)))); done)))
          exact (by simp (discharger := omega) only [go_sem, simprocAttr])
      · have hmo : nodeMore ⟨7, var, other, word, word2, num, coefs⟩ = true := by rw [e4]; simp [mword2]
        rw [e5, hmo, if_pos rfl]
        clear e1 e2 e3 e4 e5 hok hmo
        subst mvar
        subst mother
        repeat' (first | (with_reducible first | refine SW_seq ?_ | refine SW_block ?_ | refine SThen_n ?_ | refine SThen_r ?_ | refine SThen_e ?_ | refine SIn_n ?_ | refine SIn_r ?_ | refine SIn_eq ?_ | refine SW_skip ?_ | refine SW_exit ?_ | refine SW_ret ?_ | refine SPost_r ?_) | ((with_reducible refine SIn_ne ?_ ?_); focus decide) | ((with_reducible refine SW_true ?_ ?_); focus exact rfl) | ((with_reducible refine SW_false ?_ ?_); focus exact rfl) | ((first | (with_reducible apply SW_run tt_ok hG htb) | ((with_reducible apply SW_draw rfl tt_ok hG htb); (focus kernel_rfl); (focus (simp only [List.range, List.range.loop, List.size_toArray, List.length_cons, List.length_nil, Nat.reduceAdd])))); focus ((repeat' (first | (with_reducible exact runX_nil) | (with_reducible exact runI_nil) | ((first | (with_reducible apply runX_cons) | (with_reducible apply runI_cons)); focus (simp (discharger := omega) only [go_sem, tNode, mword2, simprocAttr]; with_reducible rfl)))); done)))
        exact (by simp (discharger := omega) only [go_sem, simprocAttr])
    · have hmo : nodeMore ⟨7, var, other, word, word2, num, coefs⟩ = true := by rw [e4]; simp [mother]
      rw [e5, hmo, if_pos rfl]
      clear e1 e2 e3 e4 e5 hok hmo
      subst mvar
      repeat' (first | (with_reducible first | refine SW_seq ?_ | refine SW_block ?_ | refine SThen_n ?_ | refine SThen_r ?_ | refine SThen_e ?_ | refine SIn_n ?_ | refine SIn_r ?_ | refine SIn_eq ?_ | refine SW_skip ?_ | refine SW_exit ?_ | refine SW_ret ?_ | refine SPost_r ?_) | ((with_reducible refine SIn_ne ?_ ?_); focus decide) | ((with_reducible refine SW_true ?_ ?_); focus exact rfl) | ((with_reducible refine SW_false ?_ ?_); focus exact rfl) | ((first | (with_reducible apply SW_run tt_ok hG htb) | ((with_reducible apply SW_draw rfl tt_ok hG htb); (focus kernel_rfl); (focus (simp only [List.range, List.range.loop, List.size_toArray, List.length_cons, List.length_nil, Nat.reduceAdd])))); focus ((repeat' (first | (with_reducible exact runX_nil) | (with_reducible exact runI_nil) | ((first | (with_reducible apply runX_cons) | (with_reducible apply runI_cons)); focus (simp (discharger := omega) only [go_sem, tNode, mother, simprocAttr]; with_reducible rfl)))); done)))
      exact (by simp (discharger := omega) only [go_sem, simprocAttr])
  · have hmo : nodeMore ⟨7, var, other, word, word2, num, coefs⟩ = true := by rw [e4]; simp [mvar]
    rw [e5, hmo, if_pos rfl]
    clear e1 e2 e3 e4 e5 hok hmo
    repeat' (first | (with_reducible first | refine SW_seq ?_ | refine SW_block ?_ | refine SThen_n ?_ | refine SThen_r ?_ | refine SThen_e ?_ | refine SIn_n ?_ | refine SIn_r ?_ | refine SIn_eq ?_ | refine SW_skip ?_ | refine SW_exit ?_ | refine SW_ret ?_ | refine SPost_r ?_) | ((with_reducible refine SIn_ne ?_ ?_); focus decide) | ((with_reducible refine SW_true ?_ ?_); focus exact rfl) | ((with_reducible refine SW_false ?_ ?_); focus exact rfl) | ((first | (with_reducible apply SW_run tt_ok hG htb) | ((with_reducible apply SW_draw rfl tt_ok hG htb); (focus kernel_rfl); (focus (simp only [List.range, List.range.loop, List.size_toArray, List.length_cons, List.length_nil, Nat.reduceAdd])))); focus ((repeat' (first | (with_reducible exact runX_nil) | (with_reducible exact runI_nil) | ((first | (with_reducible apply runX_cons) | (with_reducible apply runI_cons)); focus (simp (discharger := omega) only [go_sem, tNode, mvar, simprocAttr]; with_reducible rfl)))); done)))
    exact (by simp (discharger := omega) only [go_sem, simprocAttr])
set_option maxHeartbeats 8000000 in
set_option maxRecDepth 100000 in
theorem RNodeFault_8 (var other word word2 num : Int) (coefs : List Int) : Snd Tryd.prog G 65 [tNode ⟨8, var, other, word, word2, num, coefs⟩] (tInt (nodeErr ⟨8, var, other, word, word2, num, coefs⟩)) := by
  refine snd_of_body (n := 206) (tm := [(0, .t (tNode ⟨8, var, other, word, word2, num, coefs⟩))]) (rs := [.tmp 2]) tt_ok Tryd.func65 rfl rfl rfl rfl rfl ?_
  have htb : Tab.ok Tryd.prog G [] := Tab.nil
  refine SW_lenA (t := 0) (i := 6) rfl rfl fun hcl => ?_
  rw [List.length_map] at hcl
  have hcl : coefs.length ≤ 9223372036854775807 := hcl
  have e3 : nodeErr ⟨8, var, other, word, word2, num, coefs⟩ = if nodeOk ⟨8, var, other, word, word2, num, coefs⟩ = false then 1 else if nodeMore ⟨8, var, other, word, word2, num, coefs⟩ = true then 2 else if 0 < coefs.length ∧ coefs[coefs.length - 1]! = 0 then 2 else 0 := by unfold nodeErr; rw [if_neg (by simp only; omega)]
  have e1 : nodeOk ⟨8, var, other, word, word2, num, coefs⟩ = isVar var := by unfold nodeOk; simp
  have e2 : usedN ⟨8, var, other, word, word2, num, coefs⟩ = ⟨8, var, 0, 0, 0, 0, []⟩ := by unfold usedN; simp
  have e4 : nodeMore ⟨8, var, other, word, word2, num, coefs⟩ = (decide (other ≠ 0) || decide (word ≠ 0) || decide (word2 ≠ 0) || decide (num ≠ 0) || decide (coefs.length ≠ 0)) := by unfold nodeMore; rw [e2]; simp
  repeat' (first | (with_reducible first | refine SW_seq ?_ | refine SW_block ?_ | refine SThen_n ?_ | refine SThen_r ?_ | refine SThen_e ?_ | refine SIn_n ?_ | refine SIn_r ?_ | refine SIn_eq ?_ | refine SW_skip ?_ | refine SW_exit ?_ | refine SW_ret ?_ | refine SPost_r ?_) | ((with_reducible refine SIn_ne ?_ ?_); focus decide) | ((with_reducible refine SW_true ?_ ?_); focus exact rfl) | ((with_reducible refine SW_false ?_ ?_); focus exact rfl) | ((first | (with_reducible apply SW_run tt_ok hG htb) | ((with_reducible apply SW_draw rfl tt_ok hG htb); (focus kernel_rfl); (focus (simp only [List.range, List.range.loop, List.size_toArray, List.length_cons, List.length_nil, Nat.reduceAdd])))); focus ((repeat' (first | (with_reducible exact runX_nil) | (with_reducible exact runI_nil) | ((first | (with_reducible apply runX_cons) | (with_reducible apply runI_cons)); focus (simp (discharger := omega) only [go_sem, tNode, simprocAttr]; with_reducible rfl)))); done)))
  refine SW_norm (Norm.headS (own := []) (keep := [1, 3, 4, 5]) (by refine ⟨?_, ?_⟩; (simp (discharger := omega) only [go_sem, simprocAttr]; with_reducible rfl); refine ⟨?_, ?_, ?_, ?_⟩ <;> (simp only [go_sem, simprocAttr]; with_reducible rfl))) ?_
  by_cases q0 : 0 ≤ var
  · skip
    by_cases q1 : var < 5
    · skip
      have hok : nodeOk ⟨8, var, other, word, word2, num, coefs⟩ = true := by rw [e1]; simp [isVar, q0, q1]
      have e5 : nodeErr ⟨8, var, other, word, word2, num, coefs⟩ = if nodeMore ⟨8, var, other, word, word2, num, coefs⟩ = true then 2 else if 0 < coefs.length ∧ coefs[coefs.length - 1]! = 0 then 2 else 0 := by rw [e3, hok, if_neg (by decide)]
      repeat' (first | (with_reducible first | refine SW_seq ?_ | refine SW_block ?_ | refine SThen_n ?_ | refine SThen_r ?_ | refine SThen_e ?_ | refine SIn_n ?_ | refine SIn_r ?_ | refine SIn_eq ?_ | refine SW_skip ?_ | refine SW_exit ?_ | refine SW_ret ?_ | refine SPost_r ?_) | ((with_reducible refine SIn_ne ?_ ?_); focus decide) | ((with_reducible refine SW_true ?_ ?_); focus exact rfl) | ((with_reducible refine SW_false ?_ ?_); focus exact rfl) | ((first | (with_reducible apply SW_run tt_ok hG htb) | ((with_reducible apply SW_draw rfl tt_ok hG htb); (focus kernel_rfl); (focus (simp only [List.range, List.range.loop, List.size_toArray, List.length_cons, List.length_nil, Nat.reduceAdd])))); focus ((repeat' (first | (with_reducible exact runX_nil) | (with_reducible exact runI_nil) | ((first | (with_reducible apply runX_cons) | (with_reducible apply runI_cons)); focus (simp (discharger := omega) only [go_sem, tNode, simprocAttr]; with_reducible rfl)))); done)))
      refine SW_norm (Norm.headS (own := []) (keep := [1, 3, 4, 5]) (by refine ⟨?_, ?_⟩; (simp (discharger := omega) only [go_sem, simprocAttr]; with_reducible rfl); refine ⟨?_, ?_, ?_, ?_⟩ <;> (simp only [go_sem, simprocAttr]; with_reducible rfl))) ?_
      by_cases mother : other = 0
      · skip
        by_cases mword2 : word2 = 0
        · skip
          by_cases mword : word = 0
          · skip
            by_cases mnum : num = 0
            · skip
              by_cases mC : coefs.length = 0
              · skip
                have hmo : nodeMore ⟨8, var, other, word, word2, num, coefs⟩ = false := by rw [e4]; simp [mother, mword2, mword, mnum, mC]
                rw [e5, hmo, if_neg (by decide)]
                clear e1 e2 e3 e4 e5 hok hmo
                subst mother
                subst mword2
                subst mword
                subst mnum
                rw [if_neg (by omega)]
                repeat' (first | (with_reducible first | refine SW_seq ?_ | refine SW_block ?_ | refine SThen_n ?_ | refine SThen_r ?_ | refine SThen_e ?_ | refine SIn_n ?_ | refine SIn_r ?_ | refine SIn_eq ?_ | refine SW_skip ?_ | refine SW_exit ?_ | refine SW_ret ?_ | refine SPost_r ?_) | ((with_reducible refine SIn_ne ?_ ?_); focus decide) | ((with_reducible refine SW_true ?_ ?_); focus exact rfl) | ((with_reducible refine SW_false ?_ ?_); focus exact rfl) | ((first | (with_reducible apply SW_run tt_ok hG htb) | ((with_reducible apply SW_draw rfl tt_ok hG htb); (focus kernel_rfl); (focus (simp only [List.range, List.range.loop, List.size_toArray, List.length_cons, List.length_nil, Nat.reduceAdd])))); focus ((repeat' (first | (with_reducible exact runX_nil) | (with_reducible exact runI_nil) | ((first | (with_reducible apply runX_cons) | (with_reducible apply runI_cons)); focus (simp (discharger := omega) only [go_sem, tNode, mC, simprocAttr]; with_reducible rfl)))); done)))
                exact (by simp (discharger := omega) only [go_sem, simprocAttr])
              · have hmo : nodeMore ⟨8, var, other, word, word2, num, coefs⟩ = true := by rw [e4]; simp [mC]
                rw [e5, hmo, if_pos rfl]
                clear e1 e2 e3 e4 e5 hok hmo
                subst mother
                subst mword2
                subst mword
                subst mnum
                repeat' (first | (with_reducible first | refine SW_seq ?_ | refine SW_block ?_ | refine SThen_n ?_ | refine SThen_r ?_ | refine SThen_e ?_ | refine SIn_n ?_ | refine SIn_r ?_ | refine SIn_eq ?_ | refine SW_skip ?_ | refine SW_exit ?_ | refine SW_ret ?_ | refine SPost_r ?_) | ((with_reducible refine SIn_ne ?_ ?_); focus decide) | ((with_reducible refine SW_true ?_ ?_); focus exact rfl) | ((with_reducible refine SW_false ?_ ?_); focus exact rfl) | ((first | (with_reducible apply SW_run tt_ok hG htb) | ((with_reducible apply SW_draw rfl tt_ok hG htb); (focus kernel_rfl); (focus (simp only [List.range, List.range.loop, List.size_toArray, List.length_cons, List.length_nil, Nat.reduceAdd])))); focus ((repeat' (first | (with_reducible exact runX_nil) | (with_reducible exact runI_nil) | ((first | (with_reducible apply runX_cons) | (with_reducible apply runI_cons)); focus (simp (discharger := omega) only [go_sem, tNode, mC, simprocAttr]; with_reducible rfl)))); done)))
                exact (by simp (discharger := omega) only [go_sem, simprocAttr])
            · have hmo : nodeMore ⟨8, var, other, word, word2, num, coefs⟩ = true := by rw [e4]; simp [mnum]
              rw [e5, hmo, if_pos rfl]
              clear e1 e2 e3 e4 e5 hok hmo
              subst mother
              subst mword2
              subst mword
              repeat' (first | (with_reducible first | refine SW_seq ?_ | refine SW_block ?_ | refine SThen_n ?_ | refine SThen_r ?_ | refine SThen_e ?_ | refine SIn_n ?_ | refine SIn_r ?_ | refine SIn_eq ?_ | refine SW_skip ?_ | refine SW_exit ?_ | refine SW_ret ?_ | refine SPost_r ?_) | ((with_reducible refine SIn_ne ?_ ?_); focus decide) | ((with_reducible refine SW_true ?_ ?_); focus exact rfl) | ((with_reducible refine SW_false ?_ ?_); focus exact rfl) | ((first | (with_reducible apply SW_run tt_ok hG htb) | ((with_reducible apply SW_draw rfl tt_ok hG htb); (focus kernel_rfl); (focus (simp only [List.range, List.range.loop, List.size_toArray, List.length_cons, List.length_nil, Nat.reduceAdd])))); focus ((repeat' (first | (with_reducible exact runX_nil) | (with_reducible exact runI_nil) | ((first | (with_reducible apply runX_cons) | (with_reducible apply runI_cons)); focus (simp (discharger := omega) only [go_sem, tNode, mnum, simprocAttr]; with_reducible rfl)))); done)))
              exact (by simp (discharger := omega) only [go_sem, simprocAttr])
          · have hmo : nodeMore ⟨8, var, other, word, word2, num, coefs⟩ = true := by rw [e4]; simp [mword]
            rw [e5, hmo, if_pos rfl]
            clear e1 e2 e3 e4 e5 hok hmo
            subst mother
            subst mword2
            repeat' (first | (with_reducible first | refine SW_seq ?_ | refine SW_block ?_ | refine SThen_n ?_ | refine SThen_r ?_ | refine SThen_e ?_ | refine SIn_n ?_ | refine SIn_r ?_ | refine SIn_eq ?_ | refine SW_skip ?_ | refine SW_exit ?_ | refine SW_ret ?_ | refine SPost_r ?_) | ((with_reducible refine SIn_ne ?_ ?_); focus decide) | ((with_reducible refine SW_true ?_ ?_); focus exact rfl) | ((with_reducible refine SW_false ?_ ?_); focus exact rfl) | ((first | (with_reducible apply SW_run tt_ok hG htb) | ((with_reducible apply SW_draw rfl tt_ok hG htb); (focus kernel_rfl); (focus (simp only [List.range, List.range.loop, List.size_toArray, List.length_cons, List.length_nil, Nat.reduceAdd])))); focus ((repeat' (first | (with_reducible exact runX_nil) | (with_reducible exact runI_nil) | ((first | (with_reducible apply runX_cons) | (with_reducible apply runI_cons)); focus (simp (discharger := omega) only [go_sem, tNode, mword, simprocAttr]; with_reducible rfl)))); done)))
            exact (by simp (discharger := omega) only [go_sem, simprocAttr])
        · have hmo : nodeMore ⟨8, var, other, word, word2, num, coefs⟩ = true := by rw [e4]; simp [mword2]
          rw [e5, hmo, if_pos rfl]
          clear e1 e2 e3 e4 e5 hok hmo
          subst mother
          repeat' (first | (with_reducible first | refine SW_seq ?_ | refine SW_block ?_ | refine SThen_n ?_ | refine SThen_r ?_ | refine SThen_e ?_ | refine SIn_n ?_ | refine SIn_r ?_ | refine SIn_eq ?_ | refine SW_skip ?_ | refine SW_exit ?_ | refine SW_ret ?_ | refine SPost_r ?_) | ((with_reducible refine SIn_ne ?_ ?_); focus decide) | ((with_reducible refine SW_true ?_ ?_); focus exact rfl) | ((with_reducible refine SW_false ?_ ?_); focus exact rfl) | ((first | (with_reducible apply SW_run tt_ok hG htb) | ((with_reducible apply SW_draw rfl tt_ok hG htb); (focus kernel_rfl); (focus (simp only [List.range, List.range.loop, List.size_toArray, List.length_cons, List.length_nil, Nat.reduceAdd])))); focus ((repeat' (first | (with_reducible exact runX_nil) | (with_reducible exact runI_nil) | ((first | (with_reducible apply runX_cons) | (with_reducible apply runI_cons)); focus (simp (discharger := omega) only [go_sem, tNode, mword2, simprocAttr]; with_reducible rfl)))); done)))
          exact (by simp (discharger := omega) only [go_sem, simprocAttr])
      · have hmo : nodeMore ⟨8, var, other, word, word2, num, coefs⟩ = true := by rw [e4]; simp [mother]
        rw [e5, hmo, if_pos rfl]
        clear e1 e2 e3 e4 e5 hok hmo
        repeat' (first | (with_reducible first | refine SW_seq ?_ | refine SW_block ?_ | refine SThen_n ?_ | refine SThen_r ?_ | refine SThen_e ?_ | refine SIn_n ?_ | refine SIn_r ?_ | refine SIn_eq ?_ | refine SW_skip ?_ | refine SW_exit ?_ | refine SW_ret ?_ | refine SPost_r ?_) | ((with_reducible refine SIn_ne ?_ ?_); focus decide) | ((with_reducible refine SW_true ?_ ?_); focus exact rfl) | ((with_reducible refine SW_false ?_ ?_); focus exact rfl) | ((first | (with_reducible apply SW_run tt_ok hG htb) | ((with_reducible apply SW_draw rfl tt_ok hG htb); (focus kernel_rfl); (focus (simp only [List.range, List.range.loop, List.size_toArray, List.length_cons, List.length_nil, Nat.reduceAdd])))); focus ((repeat' (first | (with_reducible exact runX_nil) | (with_reducible exact runI_nil) | ((first | (with_reducible apply runX_cons) | (with_reducible apply runI_cons)); focus (simp (discharger := omega) only [go_sem, tNode, mother, simprocAttr]; with_reducible rfl)))); done)))
        exact (by simp (discharger := omega) only [go_sem, simprocAttr])
    · have e5 : nodeErr ⟨8, var, other, word, word2, num, coefs⟩ = 1 := by rw [e3, e1]; simp [isVar, q1]
      rw [e5]
      clear e1 e2 e3 e4 e5
      repeat' (first | (with_reducible first | refine SW_seq ?_ | refine SW_block ?_ | refine SThen_n ?_ | refine SThen_r ?_ | refine SThen_e ?_ | refine SIn_n ?_ | refine SIn_r ?_ | refine SIn_eq ?_ | refine SW_skip ?_ | refine SW_exit ?_ | refine SW_ret ?_ | refine SPost_r ?_) | ((with_reducible refine SIn_ne ?_ ?_); focus decide) | ((with_reducible refine SW_true ?_ ?_); focus exact rfl) | ((with_reducible refine SW_false ?_ ?_); focus exact rfl) | ((first | (with_reducible apply SW_run tt_ok hG htb) | ((with_reducible apply SW_draw rfl tt_ok hG htb); (focus kernel_rfl); (focus (simp only [List.range, List.range.loop, List.size_toArray, List.length_cons, List.length_nil, Nat.reduceAdd])))); focus ((repeat' (first | (with_reducible exact runX_nil) | (with_reducible exact runI_nil) | ((first | (with_reducible apply runX_cons) | (with_reducible apply runI_cons)); focus (simp (discharger := omega) only [go_sem, tNode, simprocAttr]; with_reducible rfl)))); done)))
      exact (by simp (discharger := omega) only [go_sem, simprocAttr])
  · have e5 : nodeErr ⟨8, var, other, word, word2, num, coefs⟩ = 1 := by rw [e3, e1]; simp [isVar, q0]
    rw [e5]
    clear e1 e2 e3 e4 e5
    repeat' (first | (with_reducible first | refine SW_seq ?_ | refine SW_block ?_ | refine SThen_n ?_ | refine SThen_r ?_ | refine SThen_e ?_ | refine SIn_n ?_ | refine SIn_r ?_ | refine SIn_eq ?_ | refine SW_skip ?_ | refine SW_exit ?_ | refine SW_ret ?_ | refine SPost_r ?_) | ((with_reducible refine SIn_ne ?_ ?_); focus decide) | ((with_reducible refine SW_true ?_ ?_); focus exact rfl) | ((with_reducible refine SW_false ?_ ?_); focus exact rfl) | ((first | (with_reducible apply SW_run tt_ok hG htb) | ((with_reducible apply SW_draw rfl tt_ok hG htb); (focus kernel_rfl); (focus (simp only [List.range, List.range.loop, List.size_toArray, List.length_cons, List.length_nil, Nat.reduceAdd])))); focus ((repeat' (first | (with_reducible exact runX_nil) | (with_reducible exact runI_nil) | ((first | (with_reducible apply runX_cons) | (with_reducible apply runI_cons)); focus (simp (discharger := omega) only [go_sem, tNode, simprocAttr]; with_reducible rfl)))); done)))
    exact (by simp (discharger := omega) only [go_sem, simprocAttr])
set_option maxHeartbeats 8000000 in
set_option maxRecDepth 100000 in
theorem RNodeFault_9 (var other word word2 num : Int) (coefs : List Int) : Snd Tryd.prog G 65 [tNode ⟨9, var, other, word, word2, num, coefs⟩] (tInt (nodeErr ⟨9, var, other, word, word2, num, coefs⟩)) := by
  refine snd_of_body (n := 206) (tm := [(0, .t (tNode ⟨9, var, other, word, word2, num, coefs⟩))]) (rs := [.tmp 2]) tt_ok Tryd.func65 rfl rfl rfl rfl rfl ?_
  have htb : Tab.ok Tryd.prog G [] := Tab.nil
  refine SW_lenA (t := 0) (i := 6) rfl rfl fun hcl => ?_
  rw [List.length_map] at hcl
  have hcl : coefs.length ≤ 9223372036854775807 := hcl
  have e3 : nodeErr ⟨9, var, other, word, word2, num, coefs⟩ = if nodeOk ⟨9, var, other, word, word2, num, coefs⟩ = false then 1 else if nodeMore ⟨9, var, other, word, word2, num, coefs⟩ = true then 2 else if 0 < coefs.length ∧ coefs[coefs.length - 1]! = 0 then 2 else 0 := by unfold nodeErr; rw [if_neg (by simp only; omega)]
  have e1 : nodeOk ⟨9, var, other, word, word2, num, coefs⟩ = isVar var := by unfold nodeOk; simp
  have e2 : usedN ⟨9, var, other, word, word2, num, coefs⟩ = ⟨9, var, 0, 0, 0, 0, []⟩ := by unfold usedN; simp
  have e4 : nodeMore ⟨9, var, other, word, word2, num, coefs⟩ = (decide (other ≠ 0) || decide (word ≠ 0) || decide (word2 ≠ 0) || decide (num ≠ 0) || decide (coefs.length ≠ 0)) := by unfold nodeMore; rw [e2]; simp
  repeat' (first | (with_reducible first | refine SW_seq ?_ | refine SW_block ?_ | refine SThen_n ?_ | refine SThen_r ?_ | refine SThen_e ?_ | refine SIn_n ?_ | refine SIn_r ?_ | refine SIn_eq ?_ | refine SW_skip ?_ | refine SW_exit ?_ | refine SW_ret ?_ | refine SPost_r ?_) | ((with_reducible refine SIn_ne ?_ ?_); focus decide) | ((with_reducible refine SW_true ?_ ?_); focus exact rfl) | ((with_reducible refine SW_false ?_ ?_); focus exact rfl) | ((first | (with_reducible apply SW_run tt_ok hG htb) | ((with_reducible apply SW_draw rfl tt_ok hG htb); (focus kernel_rfl); (focus (simp only [List.range, List.range.loop, List.size_toArray, List.length_cons, List.length_nil, Nat.reduceAdd])))); focus ((repeat' (first | (with_reducible exact runX_nil) | (with_reducible exact runI_nil) | ((first | (with_reducible apply runX_cons) | (with_reducible apply runI_cons)); focus (simp (discharger := omega) only [go_sem, tNode, simprocAttr]; with_reducible rfl)))); done)))
  refine SW_norm (Norm.headS (own := []) (keep := [1, 3, 4, 5]) (by refine ⟨?_, ?_⟩; (simp (discharger := omega) only [go_sem, simprocAttr]; with_reducible rfl); refine ⟨?_, ?_, ?_, ?_⟩ <;> (simp only [go_sem, simprocAttr]; with_reducible rfl))) ?_
  by_cases q0 : 0 ≤ var
  · skip
    by_cases q1 : var < 5
    · skip
      have hok : nodeOk ⟨9, var, other, word, word2, num, coefs⟩ = true := by rw [e1]; simp [isVar, q0, q1]
      have e5 : nodeErr ⟨9, var, other, word, word2, num, coefs⟩ = if nodeMore ⟨9, var, other, word, word2, num, coefs⟩ = true then 2 else if 0 < coefs.length ∧ coefs[coefs.length - 1]! = 0 then 2 else 0 := by rw [e3, hok, if_neg (by decide)]
      repeat' (first | (with_reducible first | refine SW_seq ?_ | refine SW_block ?_ | refine SThen_n ?_ | refine SThen_r ?_ | refine SThen_e ?_ | refine SIn_n ?_ | refine SIn_r ?_ | refine SIn_eq ?_ | refine SW_skip ?_ | refine SW_exit ?_ | refine SW_ret ?_ | refine SPost_r ?_) | ((with_reducible refine SIn_ne ?_ ?_); focus decide) | ((with_reducible refine SW_true ?_ ?_); focus exact rfl) | ((with_reducible refine SW_false ?_ ?_); focus exact rfl) | ((first | (with_reducible apply SW_run tt_ok hG htb) | ((with_reducible apply SW_draw rfl tt_ok hG htb); (focus kernel_rfl); (focus (simp only [List.range, List.range.loop, List.size_toArray, List.length_cons, List.length_nil, Nat.reduceAdd])))); focus ((repeat' (first | (with_reducible exact runX_nil) | (with_reducible exact runI_nil) | ((first | (with_reducible apply runX_cons) | (with_reducible apply runI_cons)); focus (simp (discharger := omega) only [go_sem, tNode, simprocAttr]; with_reducible rfl)))); done)))
      refine SW_norm (Norm.headS (own := []) (keep := [1, 3, 4, 5]) (by refine ⟨?_, ?_⟩; (simp (discharger := omega) only [go_sem, simprocAttr]; with_reducible rfl); refine ⟨?_, ?_, ?_, ?_⟩ <;> (simp only [go_sem, simprocAttr]; with_reducible rfl))) ?_
      by_cases mother : other = 0
      · skip
        by_cases mword2 : word2 = 0
        · skip
          by_cases mword : word = 0
          · skip
            by_cases mnum : num = 0
            · skip
              by_cases mC : coefs.length = 0
              · skip
                have hmo : nodeMore ⟨9, var, other, word, word2, num, coefs⟩ = false := by rw [e4]; simp [mother, mword2, mword, mnum, mC]
                rw [e5, hmo, if_neg (by decide)]
                clear e1 e2 e3 e4 e5 hok hmo
                subst mother
                subst mword2
                subst mword
                subst mnum
                rw [if_neg (by omega)]
                repeat' (first | (with_reducible first | refine SW_seq ?_ | refine SW_block ?_ | refine SThen_n ?_ | refine SThen_r ?_ | refine SThen_e ?_ | refine SIn_n ?_ | refine SIn_r ?_ | refine SIn_eq ?_ | refine SW_skip ?_ | refine SW_exit ?_ | refine SW_ret ?_ | refine SPost_r ?_) | ((with_reducible refine SIn_ne ?_ ?_); focus decide) | ((with_reducible refine SW_true ?_ ?_); focus exact rfl) | ((with_reducible refine SW_false ?_ ?_); focus exact rfl) | ((first | (with_reducible apply SW_run tt_ok hG htb) | ((with_reducible apply SW_draw rfl tt_ok hG htb); (focus kernel_rfl); (focus (simp only [List.range, List.range.loop, List.size_toArray, List.length_cons, List.length_nil, Nat.reduceAdd])))); focus ((repeat' (first | (with_reducible exact runX_nil) | (with_reducible exact runI_nil) | ((first | (with_reducible apply runX_cons) | (with_reducible apply runI_cons)); focus (simp (discharger := omega) only [go_sem, tNode, mC, simprocAttr]; with_reducible rfl)))); done)))
                exact (by simp (discharger := omega) only [go_sem, simprocAttr])
              · have hmo : nodeMore ⟨9, var, other, word, word2, num, coefs⟩ = true := by rw [e4]; simp [mC]
                rw [e5, hmo, if_pos rfl]
                clear e1 e2 e3 e4 e5 hok hmo
                subst mother
                subst mword2
                subst mword
                subst mnum
                repeat' (first | (with_reducible first | refine SW_seq ?_ | refine SW_block ?_ | refine SThen_n ?_ | refine SThen_r ?_ | refine SThen_e ?_ | refine SIn_n ?_ | refine SIn_r ?_ | refine SIn_eq ?_ | refine SW_skip ?_ | refine SW_exit ?_ | refine SW_ret ?_ | refine SPost_r ?_) | ((with_reducible refine SIn_ne ?_ ?_); focus decide) | ((with_reducible refine SW_true ?_ ?_); focus exact rfl) | ((with_reducible refine SW_false ?_ ?_); focus exact rfl) | ((first | (with_reducible apply SW_run tt_ok hG htb) | ((with_reducible apply SW_draw rfl tt_ok hG htb); (focus kernel_rfl); (focus (simp only [List.range, List.range.loop, List.size_toArray, List.length_cons, List.length_nil, Nat.reduceAdd])))); focus ((repeat' (first | (with_reducible exact runX_nil) | (with_reducible exact runI_nil) | ((first | (with_reducible apply runX_cons) | (with_reducible apply runI_cons)); focus (simp (discharger := omega) only [go_sem, tNode, mC, simprocAttr]; with_reducible rfl)))); done)))
                exact (by simp (discharger := omega) only [go_sem, simprocAttr])
            · have hmo : nodeMore ⟨9, var, other, word, word2, num, coefs⟩ = true := by rw [e4]; simp [mnum]
              rw [e5, hmo, if_pos rfl]
              clear e1 e2 e3 e4 e5 hok hmo
              subst mother
              subst mword2
              subst mword
              repeat' (first | (with_reducible first | refine SW_seq ?_ | refine SW_block ?_ | refine SThen_n ?_ | refine SThen_r ?_ | refine SThen_e ?_ | refine SIn_n ?_ | refine SIn_r ?_ | refine SIn_eq ?_ | refine SW_skip ?_ | refine SW_exit ?_ | refine SW_ret ?_ | refine SPost_r ?_) | ((with_reducible refine SIn_ne ?_ ?_); focus decide) | ((with_reducible refine SW_true ?_ ?_); focus exact rfl) | ((with_reducible refine SW_false ?_ ?_); focus exact rfl) | ((first | (with_reducible apply SW_run tt_ok hG htb) | ((with_reducible apply SW_draw rfl tt_ok hG htb); (focus kernel_rfl); (focus (simp only [List.range, List.range.loop, List.size_toArray, List.length_cons, List.length_nil, Nat.reduceAdd])))); focus ((repeat' (first | (with_reducible exact runX_nil) | (with_reducible exact runI_nil) | ((first | (with_reducible apply runX_cons) | (with_reducible apply runI_cons)); focus (simp (discharger := omega) only [go_sem, tNode, mnum, simprocAttr]; with_reducible rfl)))); done)))
              exact (by simp (discharger := omega) only [go_sem, simprocAttr])
          · have hmo : nodeMore ⟨9, var, other, word, word2, num, coefs⟩ = true := by rw [e4]; simp [mword]
            rw [e5, hmo, if_pos rfl]
            clear e1 e2 e3 e4 e5 hok hmo
            subst mother
            subst mword2
            repeat' (first | (with_reducible first | refine SW_seq ?_ | refine SW_block ?_ | refine SThen_n ?_ | refine SThen_r ?_ | refine SThen_e ?_ | refine SIn_n ?_ | refine SIn_r ?_ | refine SIn_eq ?_ | refine SW_skip ?_ | refine SW_exit ?_ | refine SW_ret ?_ | refine SPost_r ?_) | ((with_reducible refine SIn_ne ?_ ?_); focus decide) | ((with_reducible refine SW_true ?_ ?_); focus exact rfl) | ((with_reducible refine SW_false ?_ ?_); focus exact rfl) | ((first | (with_reducible apply SW_run tt_ok hG htb) | ((with_reducible apply SW_draw rfl tt_ok hG htb); (focus kernel_rfl); (focus (simp only [List.range, List.range.loop, List.size_toArray, List.length_cons, List.length_nil, Nat.reduceAdd])))); focus ((repeat' (first | (with_reducible exact runX_nil) | (with_reducible exact runI_nil) | ((first | (with_reducible apply runX_cons) | (with_reducible apply runI_cons)); focus (simp (discharger := omega) only [go_sem, tNode, mword, simprocAttr]; with_reducible rfl)))); done)))
            exact (by simp (discharger := omega) only [go_sem, simprocAttr])
        · have hmo : nodeMore ⟨9, var, other, word, word2, num, coefs⟩ = true := by rw [e4]; simp [mword2]
          rw [e5, hmo, if_pos rfl]
          clear e1 e2 e3 e4 e5 hok hmo
          subst mother
          repeat' (first | (with_reducible first | refine SW_seq ?_ | refine SW_block ?_ | refine SThen_n ?_ | refine SThen_r ?_ | refine SThen_e ?_ | refine SIn_n ?_ | refine SIn_r ?_ | refine SIn_eq ?_ | refine SW_skip ?_ | refine SW_exit ?_ | refine SW_ret ?_ | refine SPost_r ?_) | ((with_reducible refine SIn_ne ?_ ?_); focus decide) | ((with_reducible refine SW_true ?_ ?_); focus exact rfl) | ((with_reducible refine SW_false ?_ ?_); focus exact rfl) | ((first | (with_reducible apply SW_run tt_ok hG htb) | ((with_reducible apply SW_draw rfl tt_ok hG htb); (focus kernel_rfl); (focus (simp only [List.range, List.range.loop, List.size_toArray, List.length_cons, List.length_nil, Nat.reduceAdd])))); focus ((repeat' (first | (with_reducible exact runX_nil) | (with_reducible exact runI_nil) | ((first | (with_reducible apply runX_cons) | (with_reducible apply runI_cons)); focus (simp (discharger := omega) only [go_sem, tNode, mword2, simprocAttr]; with_reducible rfl)))); done)))
          exact (by simp (discharger := omega) only [go_sem, simprocAttr])
      · have hmo : nodeMore ⟨9, var, other, word, word2, num, coefs⟩ = true := by rw [e4]; simp [mother]
        rw [e5, hmo, if_pos rfl]
        clear e1 e2 e3 e4 e5 hok hmo
        repeat' (first | (with_reducible first | refine SW_seq ?_ | refine SW_block ?_ | refine SThen_n ?_ | refine SThen_r ?_ | refine SThen_e ?_ | refine SIn_n ?_ | refine SIn_r ?_ | refine SIn_eq ?_ | refine SW_skip ?_ | refine SW_exit ?_ | refine SW_ret ?_ | refine SPost_r ?_) | ((with_reducible refine SIn_ne ?_ ?_); focus decide) | ((with_reducible refine SW_true ?_ ?_); focus exact rfl) | ((with_reducible refine SW_false ?_ ?_); focus exact rfl) | ((first | (with_reducible apply SW_run tt_ok hG htb) | ((with_reducible apply SW_draw rfl tt_ok hG htb); (focus kernel_rfl); (focus (simp only [List.range, List.range.loop, List.size_toArray, List.length_cons, List.length_nil, Nat.reduceAdd])))); focus ((repeat' (first | (with_reducible exact runX_nil) | (with_reducible exact runI_nil) | ((first | (with_reducible apply runX_cons) | (with_reducible apply runI_cons)); focus (simp (discharger := omega) only [go_sem, tNode, mother, simprocAttr]; with_reducible rfl)))); done)))
        exact (by simp (discharger := omega) only [go_sem, simprocAttr])
    · have e5 : nodeErr ⟨9, var, other, word, word2, num, coefs⟩ = 1 := by rw [e3, e1]; simp [isVar, q1]
      rw [e5]
      clear e1 e2 e3 e4 e5
      repeat' (first | (with_reducible first | refine SW_seq ?_ | refine SW_block ?_ | refine SThen_n ?_ | refine SThen_r ?_ | refine SThen_e ?_ | refine SIn_n ?_ | refine SIn_r ?_ | refine SIn_eq ?_ | refine SW_skip ?_ | refine SW_exit ?_ | refine SW_ret ?_ | refine SPost_r ?_) | ((with_reducible refine SIn_ne ?_ ?_); focus decide) | ((with_reducible refine SW_true ?_ ?_); focus exact rfl) | ((with_reducible refine SW_false ?_ ?_); focus exact rfl) | ((first | (with_reducible apply SW_run tt_ok hG htb) | ((with_reducible apply SW_draw rfl tt_ok hG htb); (focus kernel_rfl); (focus (simp only [List.range, List.range.loop, List.size_toArray, List.length_cons, List.length_nil, Nat.reduceAdd])))); focus ((repeat' (first | (with_reducible exact runX_nil) | (with_reducible exact runI_nil) | ((first | (with_reducible apply runX_cons) | (with_reducible apply runI_cons)); focus (simp (discharger := omega) only [go_sem, tNode, simprocAttr]; with_reducible rfl)))); done)))
      exact (by simp (discharger := omega) only [go_sem, simprocAttr])
  · have e5 : nodeErr ⟨9, var, other, word, word2, num, coefs⟩ = 1 := by rw [e3, e1]; simp [isVar, q0]
    rw [e5]
    clear e1 e2 e3 e4 e5
    repeat' (first | (with_reducible first | refine SW_seq ?_ | refine SW_block ?_ | refine SThen_n ?_ | refine SThen_r ?_ | refine SThen_e ?_ | refine SIn_n ?_ | refine SIn_r ?_ | refine SIn_eq ?_ | refine SW_skip ?_ | refine SW_exit ?_ | refine SW_ret ?_ | refine SPost_r ?_) | ((with_reducible refine SIn_ne ?_ ?_); focus decide) | ((with_reducible refine SW_true ?_ ?_); focus exact rfl) | ((with_reducible refine SW_false ?_ ?_); focus exact rfl) | ((first | (with_reducible apply SW_run tt_ok hG htb) | ((with_reducible apply SW_draw rfl tt_ok hG htb); (focus kernel_rfl); (focus (simp only [List.range, List.range.loop, List.size_toArray, List.length_cons, List.length_nil, Nat.reduceAdd])))); focus ((repeat' (first | (with_reducible exact runX_nil) | (with_reducible exact runI_nil) | ((first | (with_reducible apply runX_cons) | (with_reducible apply runI_cons)); focus (simp (discharger := omega) only [go_sem, tNode, simprocAttr]; with_reducible rfl)))); done)))
    exact (by simp (discharger := omega) only [go_sem, simprocAttr])
end
end Go.Proofs.YtfhncnhkeodngaaDoor
namespace Go.Proofs.YtfhncnhkeodngaaDoor
open Go.RowKit
section
variable {G : World → Prop} (hG : Lasting G)
include hG
set_option maxHeartbeats 8000000 in
set_option maxRecDepth 100000 in
theorem RNodeFault_snd (n : GNode) : Snd Tryd.prog G 65 [tNode n] (tInt (nodeErr n)) := by
  obtain ⟨op, var, other, word, word2, num, coefs⟩ := n
  by_cases hop : 1 ≤ op ∧ op ≤ 9
  · have hop3 : op = 1 ∨ op = 2 ∨ op = 3 ∨ op = 4 ∨ op = 5 ∨ op = 6 ∨ op = 7 ∨ op = 8 ∨ op = 9 := by omega
    rcases hop3 with h | h | h | h | h | h | h | h | h <;> subst h
    · exact RNodeFault_1 hG var other word word2 num coefs
    · exact RNodeFault_2 hG var other word word2 num coefs
    · exact RNodeFault_3 hG var other word word2 num coefs
    · exact RNodeFault_4 hG var other word word2 num coefs
    · exact RNodeFault_5 hG var other word word2 num coefs
    · exact RNodeFault_6 hG var other word word2 num coefs
    · exact RNodeFault_7 hG var other word word2 num coefs
    · exact RNodeFault_8 hG var other word word2 num coefs
    · exact RNodeFault_9 hG var other word word2 num coefs
  · refine snd_of_body (n := 206) (tm := [(0, .t (tNode ⟨op, var, other, word, word2, num, coefs⟩))]) (rs := [.tmp 2]) tt_ok Tryd.func65 rfl rfl rfl rfl rfl ?_
    have htb : Tab.ok Tryd.prog G [] := Tab.nil
    have e3 : nodeErr ⟨op, var, other, word, word2, num, coefs⟩ = 1 := by unfold nodeErr; rw [if_pos (by simp only; omega)]
    rw [e3]
    by_cases h0 : op < 1
    · repeat' (first | (with_reducible first | refine SW_seq ?_ | refine SW_block ?_ | refine SThen_n ?_ | refine SThen_r ?_ | refine SThen_e ?_ | refine SIn_n ?_ | refine SIn_r ?_ | refine SIn_eq ?_ | refine SW_skip ?_ | refine SW_exit ?_ | refine SW_ret ?_ | refine SPost_r ?_) | ((with_reducible refine SIn_ne ?_ ?_); focus decide) | ((with_reducible refine SW_true ?_ ?_); focus exact rfl) | ((with_reducible refine SW_false ?_ ?_); focus exact rfl) | ((first | (with_reducible apply SW_run tt_ok hG htb) | ((with_reducible apply SW_draw rfl tt_ok hG htb); (focus kernel_rfl); (focus (simp only [List.range, List.range.loop, List.size_toArray, List.length_cons, List.length_nil, Nat.reduceAdd])))); focus ((repeat' (first | (with_reducible exact runX_nil) | (with_reducible exact runI_nil) | ((first | (with_reducible apply runX_cons) | (with_reducible apply runI_cons)); focus (simp (discharger := omega) only [go_sem, tNode, simprocAttr]; with_reducible rfl)))); done)))
      exact (by simp (discharger := omega) only [go_sem, simprocAttr])
    · have h9 : 9 < op := by omega
      repeat' (first | (with_reducible first | refine SW_seq ?_ | refine SW_block ?_ | refine SThen_n ?_ | refine SThen_r ?_ | refine SThen_e ?_ | refine SIn_n ?_ | refine SIn_r ?_ | refine SIn_eq ?_ | refine SW_skip ?_ | refine SW_exit ?_ | refine SW_ret ?_ | refine SPost_r ?_) | ((with_reducible refine SIn_ne ?_ ?_); focus decide) | ((with_reducible refine SW_true ?_ ?_); focus exact rfl) | ((with_reducible refine SW_false ?_ ?_); focus exact rfl) | ((first | (with_reducible apply SW_run tt_ok hG htb) | ((with_reducible apply SW_draw rfl tt_ok hG htb); (focus kernel_rfl); (focus (simp only [List.range, List.range.loop, List.size_toArray, List.length_cons, List.length_nil, Nat.reduceAdd])))); focus ((repeat' (first | (with_reducible exact runX_nil) | (with_reducible exact runI_nil) | ((first | (with_reducible apply runX_cons) | (with_reducible apply runI_cons)); focus (simp (discharger := omega) only [go_sem, tNode, simprocAttr]; with_reducible rfl)))); done)))
      exact (by simp (discharger := omega) only [go_sem, simprocAttr])
set_option maxHeartbeats 8000000 in
theorem RFormFault_snd (f : List GNode) : Snd Tryd.prog G 26 [tForm f] (.tup [tInt (formErr f).1, tInt (formErr f).2]) := by
  refine snd_of_body (n := 44) (tm := [(0, .t (tForm f))]) (rs := [.tmp 2, .tmp 3]) tt_ok Tryd.func26 rfl rfl rfl rfl rfl ?_
  have htb : Tab.ok Tryd.prog G [] := Tab.nil
  refine SW_len (t := 0) rfl fun hcl => ?_
  rw [List.length_map] at hcl
  unfold formErr tForm
  by_cases h1 : f.length = 0
  · rw [if_pos h1]
    repeat' (first | (with_reducible first | refine SW_seq ?_ | refine SW_block ?_ | refine SThen_n ?_ | refine SThen_r ?_ | refine SThen_e ?_ | refine SIn_n ?_ | refine SIn_r ?_ | refine SIn_eq ?_ | refine SW_skip ?_ | refine SW_exit ?_ | refine SW_ret ?_ | refine SPost_r ?_) | ((with_reducible refine SIn_ne ?_ ?_); focus decide) | ((with_reducible refine SW_true ?_ ?_); focus exact rfl) | ((with_reducible refine SW_false ?_ ?_); focus exact rfl) | ((first | (with_reducible apply SW_run tt_ok hG htb) | ((with_reducible apply SW_draw rfl tt_ok hG htb); (focus kernel_rfl); (focus (simp only [List.range, List.range.loop, List.size_toArray, List.length_cons, List.length_nil, Nat.reduceAdd])))); focus ((repeat' (first | (with_reducible exact runX_nil) | (with_reducible exact runI_nil) | ((first | (with_reducible apply runX_cons) | (with_reducible apply runI_cons)); focus (simp (discharger := omega) only [go_sem, h1, simprocAttr]; with_reducible rfl)))); done)))
    exact (by simp (discharger := omega) only [go_sem, simprocAttr])
  · rw [if_neg h1]
    by_cases h2 : 40 < f.length
    · rw [if_pos h2]
      repeat' (first | (with_reducible first | refine SW_seq ?_ | refine SW_block ?_ | refine SThen_n ?_ | refine SThen_r ?_ | refine SThen_e ?_ | refine SIn_n ?_ | refine SIn_r ?_ | refine SIn_eq ?_ | refine SW_skip ?_ | refine SW_exit ?_ | refine SW_ret ?_ | refine SPost_r ?_) | ((with_reducible refine SIn_ne ?_ ?_); focus decide) | ((with_reducible refine SW_true ?_ ?_); focus exact rfl) | ((with_reducible refine SW_false ?_ ?_); focus exact rfl) | ((first | (with_reducible apply SW_run tt_ok hG htb) | ((with_reducible apply SW_draw rfl tt_ok hG htb); (focus kernel_rfl); (focus (simp only [List.range, List.range.loop, List.size_toArray, List.length_cons, List.length_nil, Nat.reduceAdd])))); focus ((repeat' (first | (with_reducible exact runX_nil) | (with_reducible exact runI_nil) | ((first | (with_reducible apply runX_cons) | (with_reducible apply runI_cons)); focus (simp (discharger := omega) only [go_sem, simprocAttr]; with_reducible rfl)))); done)))
      exact (by simp (discharger := omega) only [go_sem, simprocAttr])
    · rw [if_neg h2]
      repeat' (first | (with_reducible first | refine SW_seq ?_ | refine SW_block ?_ | refine SThen_n ?_ | refine SThen_r ?_ | refine SThen_e ?_ | refine SIn_n ?_ | refine SIn_r ?_ | refine SIn_eq ?_ | refine SW_skip ?_ | refine SW_exit ?_ | refine SW_ret ?_ | refine SPost_r ?_) | ((with_reducible refine SIn_ne ?_ ?_); focus decide) | ((with_reducible refine SW_true ?_ ?_); focus exact rfl) | ((with_reducible refine SW_false ?_ ?_); focus exact rfl) | ((first | (with_reducible apply SW_run tt_ok hG htb) | ((with_reducible apply SW_draw rfl tt_ok hG htb); (focus kernel_rfl); (focus (simp only [List.range, List.range.loop, List.size_toArray, List.length_cons, List.length_nil, Nat.reduceAdd])))); focus ((repeat' (first | (with_reducible exact runX_nil) | (with_reducible exact runI_nil) | ((first | (with_reducible apply runX_cons) | (with_reducible apply runI_cons)); focus (simp (discharger := omega) only [go_sem, simprocAttr]; with_reducible rfl)))); done)))
      refine SW_loop (fun mm s => ∃ (i : Nat) (q : Int), mm = f.length - i ∧ s = ⟨44, [(0, .t (.list (f.map tNode))), (4, .t (tInt q)), (5, .t (tInt i))], []⟩ ∧ i ≤ f.length ∧ (0 ≤ q ∧ q ≤ (i : Int) + 1) ∧ formGo f 0 1 = formGo (f.drop i) i q) f.length
        ⟨_, Norm.headS (own := []) (keep := [0, 4, 5]) (by refine ⟨?_, ?_⟩; (simp (discharger := omega) only [go_sem, simprocAttr]; with_reducible rfl); refine ⟨?_, ?_, ?_, ?_⟩ <;> (simp only [go_sem, simprocAttr]; with_reducible rfl)), 0, 1, rfl, rfl, Nat.zero_le _, by omega, by rw [List.drop_zero]⟩ ?_
      rintro mm s ⟨i, q, rfl, rfl, hi, hq, hF⟩
      by_cases hlt : i < f.length
      · obtain ⟨n, hn⟩ : ∃ n, f[i]! = n := ⟨_, rfl⟩
        have hio : f[i]? = some n := bang_get hn hlt
        rw [drop_cons hio, formGo] at hF
        have c1 := RNodeFault_snd hG n
        have c2 := RPartsOf_snd hG n.op
        by_cases hw : nodeErr n = 0
        · rw [if_neg (by omega)] at hF
          rw [hw] at c1
          by_cases hq0 : q = 0
          · rw [if_pos hq0] at hF
            rw [hF]
            have htb := Tab.cons c1 (Tab.cons c2 Tab.nil)
            repeat' (first | (with_reducible first | refine SW_seq ?_ | refine SW_block ?_ | refine SThen_n ?_ | refine SThen_r ?_ | refine SThen_e ?_ | refine SIn_n ?_ | refine SIn_r ?_ | refine SIn_eq ?_ | refine SW_skip ?_ | refine SW_exit ?_ | refine SW_ret ?_ | refine SPost_r ?_) | ((with_reducible refine SIn_ne ?_ ?_); focus decide) | ((with_reducible refine SW_true ?_ ?_); focus exact rfl) | ((with_reducible refine SW_false ?_ ?_); focus exact rfl) | ((first | (with_reducible apply SW_run tt_ok hG htb) | ((with_reducible apply SW_draw rfl tt_ok hG htb); (focus kernel_rfl); (focus (simp only [List.range, List.range.loop, List.size_toArray, List.length_cons, List.length_nil, Nat.reduceAdd])))); focus ((repeat' (first | (with_reducible exact runX_nil) | (with_reducible exact runI_nil) | ((first | (with_reducible apply runX_cons) | (with_reducible apply runI_cons)); focus (simp (discharger := omega) only [go_sem, hn, tNode, hq0, simprocAttr]; with_reducible rfl)))); done)))
            exact (by simp (discharger := omega) only [go_sem, simprocAttr])
          · rw [if_neg hq0] at hF
            have hb := formGo_bd hq n.op hq0
            have hpc := parts_cases n.op
            rw [show q + (partsOf n.op - 1) = q - 1 + partsOf n.op by omega] at hF hb
            generalize partsOf n.op = pp at *
            have htb := Tab.cons c1 (Tab.cons c2 Tab.nil)
            repeat' (first | (with_reducible first | refine SW_seq ?_ | refine SW_block ?_ | refine SThen_n ?_ | refine SThen_r ?_ | refine SThen_e ?_ | refine SIn_n ?_ | refine SIn_r ?_ | refine SIn_eq ?_ | refine SW_skip ?_ | refine SW_exit ?_ | refine SW_ret ?_ | refine SPost_r ?_) | ((with_reducible refine SIn_ne ?_ ?_); focus decide) | ((with_reducible refine SW_true ?_ ?_); focus exact rfl) | ((with_reducible refine SW_false ?_ ?_); focus exact rfl) | ((first | (with_reducible apply SW_run tt_ok hG htb) | ((with_reducible apply SW_draw rfl tt_ok hG htb); (focus kernel_rfl); (focus (simp only [List.range, List.range.loop, List.size_toArray, List.length_cons, List.length_nil, Nat.reduceAdd])))); focus ((repeat' (first | (with_reducible exact runX_nil) | (with_reducible exact runI_nil) | ((first | (with_reducible apply runX_cons) | (with_reducible apply runI_cons)); focus (simp (discharger := omega) only [go_sem, hn, tNode, hq0, simprocAttr]; with_reducible rfl)))); done)))
            exact ⟨f.length - (i + 1), _, by omega, Norm.headS (own := []) (keep := [0, 4, 5]) (by refine ⟨?_, ?_⟩; (simp (discharger := omega) only [go_sem, simprocAttr]; with_reducible rfl); refine ⟨?_, ?_, ?_, ?_⟩ <;> (simp only [go_sem, simprocAttr]; with_reducible rfl)), i + 1, _, rfl, rfl, by omega, hb, hF⟩
        · rw [if_pos hw] at hF
          rw [hF]
          generalize nodeErr n = e at *
          have htb := Tab.cons c1 Tab.nil
          repeat' (first | (with_reducible first | refine SW_seq ?_ | refine SW_block ?_ | refine SThen_n ?_ | refine SThen_r ?_ | refine SThen_e ?_ | refine SIn_n ?_ | refine SIn_r ?_ | refine SIn_eq ?_ | refine SW_skip ?_ | refine SW_exit ?_ | refine SW_ret ?_ | refine SPost_r ?_) | ((with_reducible refine SIn_ne ?_ ?_); focus decide) | ((with_reducible refine SW_true ?_ ?_); focus exact rfl) | ((with_reducible refine SW_false ?_ ?_); focus exact rfl) | ((first | (with_reducible apply SW_run tt_ok hG htb) | ((with_reducible apply SW_draw rfl tt_ok hG htb); (focus kernel_rfl); (focus (simp only [List.range, List.range.loop, List.size_toArray, List.length_cons, List.length_nil, Nat.reduceAdd])))); focus ((repeat' (first | (with_reducible exact runX_nil) | (with_reducible exact runI_nil) | ((first | (with_reducible apply runX_cons) | (with_reducible apply runI_cons)); focus (simp (discharger := omega) only [go_sem, hn, tNode, hw, simprocAttr]; with_reducible rfl)))); done)))
          exact (by simp (discharger := omega) only [go_sem, hw, simprocAttr])
      · obtain rfl : i = f.length := by omega
        rw [List.drop_length, formGo] at hF
        by_cases hq0 : 0 < q
        · rw [if_pos hq0] at hF
          rw [hF]
          repeat' (first | (with_reducible first | refine SW_seq ?_ | refine SW_block ?_ | refine SThen_n ?_ | refine SThen_r ?_ | refine SThen_e ?_ | refine SIn_n ?_ | refine SIn_r ?_ | refine SIn_eq ?_ | refine SW_skip ?_ | refine SW_exit ?_ | refine SW_ret ?_ | refine SPost_r ?_) | ((with_reducible refine SIn_ne ?_ ?_); focus decide) | ((with_reducible refine SW_true ?_ ?_); focus exact rfl) | ((with_reducible refine SW_false ?_ ?_); focus exact rfl) | ((first | (with_reducible apply SW_run tt_ok hG htb) | ((with_reducible apply SW_draw rfl tt_ok hG htb); (focus kernel_rfl); (focus (simp only [List.range, List.range.loop, List.size_toArray, List.length_cons, List.length_nil, Nat.reduceAdd])))); focus ((repeat' (first | (with_reducible exact runX_nil) | (with_reducible exact runI_nil) | ((first | (with_reducible apply runX_cons) | (with_reducible apply runI_cons)); focus (simp (discharger := omega) only [go_sem, simprocAttr]; with_reducible rfl)))); done)))
          exact (by simp (discharger := omega) only [go_sem, simprocAttr])
        · rw [if_neg hq0] at hF
          rw [hF]
          repeat' (first | (with_reducible first | refine SW_seq ?_ | refine SW_block ?_ | refine SThen_n ?_ | refine SThen_r ?_ | refine SThen_e ?_ | refine SIn_n ?_ | refine SIn_r ?_ | refine SIn_eq ?_ | refine SW_skip ?_ | refine SW_exit ?_ | refine SW_ret ?_ | refine SPost_r ?_) | ((with_reducible refine SIn_ne ?_ ?_); focus decide) | ((with_reducible refine SW_true ?_ ?_); focus exact rfl) | ((with_reducible refine SW_false ?_ ?_); focus exact rfl) | ((first | (with_reducible apply SW_run tt_ok hG htb) | ((with_reducible apply SW_draw rfl tt_ok hG htb); (focus kernel_rfl); (focus (simp only [List.range, List.range.loop, List.size_toArray, List.length_cons, List.length_nil, Nat.reduceAdd])))); focus ((repeat' (first | (with_reducible exact runX_nil) | (with_reducible exact runI_nil) | ((first | (with_reducible apply runX_cons) | (with_reducible apply runI_cons)); focus (simp (discharger := omega) only [go_sem, simprocAttr]; with_reducible rfl)))); done)))
          exact (by simp (discharger := omega) only [go_sem, simprocAttr])
end
end Go.Proofs.YtfhncnhkeodngaaDoor
