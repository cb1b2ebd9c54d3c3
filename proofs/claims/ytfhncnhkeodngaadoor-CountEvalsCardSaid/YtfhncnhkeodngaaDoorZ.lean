/- The law CountEvals returns true at every input and leaves its arguments as they read; the card ties the variable that errors.As reads. No conditions. -/
import Derived.Test.YtfhncnhkeodngaaDoorM4
set_option linter.unusedSimpArgs false
set_option linter.unusedVariables false
set_option linter.unnecessarySimpa false
set_option linter.unusedSectionVars false
namespace Go.Proofs.YtfhncnhkeodngaaDoor
open Go.RowKit

def cap (x : Int) : Int := if 1152921504606846976 < x then 1152921504606846977 else x
structure RowOk (n : Nat) (row : List Int) : Prop where
  len : row.length = n
  ok : ∀ x ∈ row, 0 ≤ x ∧ x ≤ 1152921504606846976
def prt (row : List Int) (m : List (List Int)) (n s t : Nat) : List Int := (List.range n).map fun t' => psum (ent row m t') (if t' < t then s + 1 else s)
def cdone (row : List Int) (m : List (List Int)) (n t : Nat) : List Int := (List.range n).map fun t' => if t' < t then psum (ent row m t') n else 0
theorem prt_zero (row : List Int) (m : List (List Int)) (n : Nat) : prt row m n 0 0 = List.replicate n 0 := by
  unfold prt
  apply List.ext_getElem (by simp)
  intro i h1 h2
  simp [psum]
theorem prt_end (row : List Int) (m : List (List Int)) (n s : Nat) : prt row m n s n = prt row m n (s + 1) 0 := by
  unfold prt
  apply List.map_congr_left
  intro t ht
  rw [if_pos (List.mem_range.1 ht), if_neg (by omega)]
theorem prt_full (row : List Int) (m : List (List Int)) (n : Nat) : prt row m n n 0 = mulRow n row m := by
  unfold prt mulRow
  apply List.map_congr_left
  intro t _
  rw [if_neg (by omega)]
theorem prt_set (row : List Int) (m : List (List Int)) {n s t : Nat} (h : t < n) : (prt row m n s t).set t (psum (ent row m t) (s + 1)) = prt row m n s (t + 1) := by
  unfold prt
  apply List.ext_getElem (by simp)
  intro i h1 h2
  simp only [List.length_map, List.length_range] at h2
  rw [List.getElem_set]
  by_cases e : t = i
  · subst e; simp
  · rw [if_neg e]
    simp only [List.getElem_map, List.getElem_range]
    by_cases h3 : i < t
    · rw [if_pos h3, if_pos (by omega)]
    · rw [if_neg h3, if_neg (by omega)]
theorem prt_at (row : List Int) (m : List (List Int)) {n s t : Nat} (h : t < n) : (prt row m n s t)[t]? = some (psum (ent row m t) s) := by
  unfold prt; simp [h]
theorem cdone_zero (row : List Int) (m : List (List Int)) (n : Nat) : cdone row m n 0 = List.replicate n 0 := by
  unfold cdone
  apply List.ext_getElem (by simp)
  intro i h1 h2
  simp
theorem cdone_full (row : List Int) (m : List (List Int)) (n : Nat) : cdone row m n n = mulRow n row m := by
  unfold cdone mulRow
  apply List.map_congr_left
  intro t ht
  rw [if_pos (List.mem_range.1 ht)]
theorem cdone_set (row : List Int) (m : List (List Int)) {n t : Nat} (h : t < n) : (cdone row m n t).set t (psum (ent row m t) n) = cdone row m n (t + 1) := by
  unfold cdone
  apply List.ext_getElem (by simp)
  intro i h1 h2
  simp only [List.length_map, List.length_range] at h2
  rw [List.getElem_set]
  by_cases e : t = i
  · subst e; simp
  · rw [if_neg e]
    simp only [List.getElem_map, List.getElem_range]
    by_cases h3 : i < t
    · rw [if_pos h3, if_pos (by omega)]
    · rw [if_neg h3, if_neg (by omega)]
theorem cdone_self (row : List Int) (m : List (List Int)) {n t : Nat} (h : t < n) : (cdone row m n t).set t 0 = cdone row m n t := by
  apply List.ext_getElem (by simp)
  intro i h1 h2
  rw [List.getElem_set]
  by_cases e : t = i
  · subst e
    rw [if_pos rfl]
    simp [cdone]
  · rw [if_neg e]
theorem ent_nonneg {row : List Int} {m : List (List Int)} {n : Nat} (h : RowOk n row) (hm : ∀ q ∈ m, ∀ x ∈ q, 0 ≤ x ∧ x ≤ 1152921504606846976) (t : Nat) (k : Nat) : 0 ≤ ent row m t k := by
  unfold ent
  refine Int.mul_nonneg ?_ ?_
  · rw [List.getD_eq_getElem?_getD]
    cases e : row[k]? with
    | none => simp
    | some x => exact (h.ok x (List.mem_of_getElem? e)).1
  · rw [List.getD_eq_getElem?_getD, List.getD_eq_getElem?_getD]
    cases e : m[k]? with
    | none => simp
    | some q =>
      simp only [Option.getD_some]
      cases e2 : q[t]? with
      | none => simp
      | some x => exact (hm q (List.mem_of_getElem? e) x (List.mem_of_getElem? e2)).1
theorem dot_nonneg {row last : List Int} {n : Nat} (h : RowOk n row) (hl : ∀ x ∈ last, 0 ≤ x ∧ x ≤ 1152921504606846976) (k : Nat) : 0 ≤ dotE row last k := by
  unfold dotE
  refine Int.mul_nonneg ?_ ?_
  · rw [List.getD_eq_getElem?_getD]
    cases e : row[k]? with
    | none => simp
    | some x => exact (h.ok x (List.mem_of_getElem? e)).1
  · rw [List.getD_eq_getElem?_getD]
    cases e : last[k]? with
    | none => simp
    | some x => exact (hl x (List.mem_of_getElem? e)).1
theorem mulRow_at (row : List Int) (m : List (List Int)) {n t : Nat} (h : t < n) : psum (ent row m t) n ∈ mulRow n row m := List.mem_map.2 ⟨t, List.mem_range.2 h, rfl⟩
theorem mulRow_ok {row : List Int} {m : List (List Int)} {n : Nat} (hr : RowOk n row) (hm : ∀ q ∈ m, ∀ x ∈ q, 0 ≤ x ∧ x ≤ 1152921504606846976) (h : ∀ t, t < n → psum (ent row m t) n ≤ 1152921504606846976) : RowOk n (mulRow n row m) :=
  ⟨by simp [mulRow], fun x hx => by
    obtain ⟨t, ht, rfl⟩ := List.mem_map.1 hx
    exact ⟨psum_nonneg (ent_nonneg hr hm t) n, h t (List.mem_range.1 ht)⟩⟩
theorem eval_over {steps : List (List (List Int))} {row : List Int} {n : Nat} {l : Int} {w : List Int} {m : List (List Int)} (hm : steps.getD l.toNat [] = m) {t : Nat} (ht : t < n) (h : 1152921504606846976 < psum (ent row m t) n) : evalGo n steps row (l :: w) = none := by
  unfold evalGo
  rw [hm, if_neg]
  intro e
  have h2 : psum (ent row m t) n ≤ 1152921504606846976 := of_decide_eq_true (List.all_eq_true.1 e _ (mulRow_at row m ht))
  omega
theorem eval_next {steps : List (List (List Int))} {row : List Int} {n : Nat} {l : Int} {w : List Int} {m : List (List Int)} (hm : steps.getD l.toNat [] = m) (h : ∀ t, t < n → psum (ent row m t) n ≤ 1152921504606846976) : evalGo n steps row (l :: w) = evalGo n steps (mulRow n row m) w := by
  rw [evalGo, hm, if_pos]
  rw [List.all_eq_true]
  intro x hx
  obtain ⟨t, ht, rfl⟩ := List.mem_map.1 hx
  exact decide_eq_true (h t (List.mem_range.1 ht))
theorem drop_next {w : List Int} {k : Nat} {l : Int} (h : w[k]! = l) (hk : k < w.length) : w.drop k = l :: w.drop (k + 1) := by
  rw [List.drop_eq_getElem_cons hk, bang_at h hk]
section
variable {G : World → Prop} (hG : Lasting G)
include hG
set_option maxHeartbeats 16000000 in
theorem Eval_snd (r : GRep) (w : List Int) : Snd Tryd.prog G 12 [tRep r, tInts w] (.tup [tInt (evVal r w), tErr (evErr r w)]) := by
  have c1 := RepCheck_snd hG r
  refine snd_of_body (n := 127) (tm := [(0, .t (tRep r)), (1, .t (tInts w))]) (rs := [.tmp 4, .tmp 5]) tt_ok Tryd.func12 rfl rfl rfl rfl rfl ?_
  refine SW_len (t := 1) (l := _) rfl fun hwl => ?_
  simp only [List.length_map] at hwl
  have bad : ∀ e, evErr r w = e → e ≠ 0 → evVal r w = 0 := fun e h1 h2 => by unfold evVal; rw [if_pos (by omega)]
  by_cases h0 : repErr r = 0
  · rw [h0] at c1
    have g := rep_ok h0
    have hn0 := g.n0
    have hn80 := g.n80
    have hL36 := g.L36
    have hlast := g.last
    have htb := Tab.cons c1 Tab.nil
    by_cases h4 : 400 < w.length
    · have e : evErr r w = 3 := by unfold evErr longFault; rw [if_neg (by omega), if_pos (by rw [if_pos h4]; decide), if_pos h4]
      rw [bad 3 e (by decide), e]
      repeat' (first | (with_reducible first | refine SW_seq ?_ | refine SW_block ?_ | refine SThen_n ?_ | refine SThen_r ?_ | refine SThen_e ?_ | refine SIn_n ?_ | refine SIn_r ?_ | refine SIn_eq ?_ | refine SW_skip ?_ | refine SW_exit ?_ | refine SW_ret ?_ | refine SPost_r ?_) | ((with_reducible refine SIn_ne ?_ ?_); focus decide) | ((with_reducible refine SW_true ?_ ?_); focus exact rfl) | ((with_reducible refine SW_false ?_ ?_); focus exact rfl) | ((first | (with_reducible apply SW_run tt_ok hG htb) | ((with_reducible apply SW_draw rfl tt_ok hG htb); (focus kernel_rfl); (focus (simp only [List.range, List.range.loop, List.size_toArray, List.length_cons, List.length_nil, Nat.reduceAdd])))); focus ((repeat' (first | (with_reducible exact runX_nil) | (with_reducible exact runI_nil) | ((first | (with_reducible apply runX_cons) | (with_reducible apply runI_cons)); focus (simp (discharger := omega) only [go_sem, tRep, tErr, ↓reduceIte, reduceIte, Nat.reduceEqDiff, Nat.reduceLT, Nat.reduceLeDiff, Nat.reduceAdd, Nat.reduceSub, Nat.reduceMul, Nat.reduceDiv, Nat.reduceMod, Nat.reduceBEq, Int.reduceEq, Int.reduceLT, Int.reduceLE, Int.reduceNeg, Int.reduceToNat, reduceCtorEq]; with_reducible rfl)))); done)))
      exact (by simp (discharger := omega) only [go_sem, tErr, ↓reduceIte, reduceIte, Nat.reduceEqDiff, Nat.reduceLT, Nat.reduceLeDiff, Nat.reduceAdd, Nat.reduceSub, Nat.reduceMul, Nat.reduceDiv, Nat.reduceMod, Nat.reduceBEq, Int.reduceEq, Int.reduceLT, Int.reduceLE, Int.reduceNeg, Int.reduceToNat, reduceCtorEq])
    · repeat' (first | (with_reducible first | refine SW_seq ?_ | refine SW_block ?_ | refine SThen_n ?_ | refine SThen_r ?_ | refine SThen_e ?_ | refine SIn_n ?_ | refine SIn_r ?_ | refine SIn_eq ?_ | refine SW_skip ?_ | refine SW_exit ?_ | refine SW_ret ?_ | refine SPost_r ?_) | ((with_reducible refine SIn_ne ?_ ?_); focus decide) | ((with_reducible refine SW_true ?_ ?_); focus exact rfl) | ((with_reducible refine SW_false ?_ ?_); focus exact rfl) | ((first | (with_reducible apply SW_run tt_ok hG htb) | ((with_reducible apply SW_draw rfl tt_ok hG htb); (focus kernel_rfl); (focus (simp only [List.range, List.range.loop, List.size_toArray, List.length_cons, List.length_nil, Nat.reduceAdd])))); focus ((repeat' (first | (with_reducible exact runX_nil) | (with_reducible exact runI_nil) | ((first | (with_reducible apply runX_cons) | (with_reducible apply runI_cons)); focus (simp (discharger := omega) only [go_sem, tRep, tErr, ↓reduceIte, reduceIte, Nat.reduceEqDiff, Nat.reduceLT, Nat.reduceLeDiff, Nat.reduceAdd, Nat.reduceSub, Nat.reduceMul, Nat.reduceDiv, Nat.reduceMod, Nat.reduceBEq, Int.reduceEq, Int.reduceLT, Int.reduceLE, Int.reduceNeg, Int.reduceToNat, reduceCtorEq]; with_reducible rfl)))); done)))
      clear htb
      have htb : Tab.ok Tryd.prog G [] := Tab.nil
      refine SW_loop (fun mm s => ∃ i : Nat, mm = w.length - i ∧ s = ⟨127, [(1, .t (tInts w)), (2, .bptr 0 0), (33, .t (tInts w)), (34, .t (tInt w.length)), (35, .t (tInt i))], [.box [.t (tInt r.base), .t (tInt r.tracks), .t (tInts r.first), .t (.list (r.steps.map tIntss)), .t (tInts r.last)]]⟩ ∧ i ≤ w.length ∧ ∀ x ∈ w.take i, 0 ≤ x ∧ x < (r.steps.length : Int)) (w.length)
        ⟨_, Norm.headS (own := []) (keep := [1, 2, 33, 34, 35]) (by simp (discharger := omega) only [go_sem, ↓reduceIte, reduceIte, Nat.reduceEqDiff, Nat.reduceLT, Nat.reduceLeDiff, Nat.reduceAdd, Nat.reduceSub, Nat.reduceMul, Nat.reduceDiv, Nat.reduceMod, Nat.reduceBEq, Int.reduceEq, Int.reduceLT, Int.reduceLE, Int.reduceNeg, Int.reduceToNat, reduceCtorEq]; with_reducible rfl) (by simp only [go_sem, ↓reduceIte, reduceIte, Nat.reduceEqDiff, Nat.reduceLT, Nat.reduceLeDiff, Nat.reduceAdd, Nat.reduceSub, Nat.reduceMul, Nat.reduceDiv, Nat.reduceMod, Nat.reduceBEq, Int.reduceEq, Int.reduceLT, Int.reduceLE, Int.reduceNeg, Int.reduceToNat, reduceCtorEq]; with_reducible rfl) (by simp only [go_sem, ↓reduceIte, reduceIte, Nat.reduceEqDiff, Nat.reduceLT, Nat.reduceLeDiff, Nat.reduceAdd, Nat.reduceSub, Nat.reduceMul, Nat.reduceDiv, Nat.reduceMod, Nat.reduceBEq, Int.reduceEq, Int.reduceLT, Int.reduceLE, Int.reduceNeg, Int.reduceToNat, reduceCtorEq]; with_reducible rfl) (by simp only [go_sem, ↓reduceIte, reduceIte, Nat.reduceEqDiff, Nat.reduceLT, Nat.reduceLeDiff, Nat.reduceAdd, Nat.reduceSub, Nat.reduceMul, Nat.reduceDiv, Nat.reduceMod, Nat.reduceBEq, Int.reduceEq, Int.reduceLT, Int.reduceLE, Int.reduceNeg, Int.reduceToNat, reduceCtorEq]; with_reducible rfl) (by simp only [go_sem, ↓reduceIte, reduceIte, Nat.reduceEqDiff, Nat.reduceLT, Nat.reduceLeDiff, Nat.reduceAdd, Nat.reduceSub, Nat.reduceMul, Nat.reduceDiv, Nat.reduceMod, Nat.reduceBEq, Int.reduceEq, Int.reduceLT, Int.reduceLE, Int.reduceNeg, Int.reduceToNat, reduceCtorEq]; with_reducible rfl), 0, rfl, rfl, Nat.zero_le _, fun x hx => by simp at hx⟩ ?_
      rintro mm s ⟨i, rfl, rfl, hi, hA⟩
      by_cases hlt : i < w.length
      · obtain ⟨l, hl⟩ : ∃ l, w[i]! = l := ⟨_, rfl⟩
        have e : ¬ (0 ≤ l ∧ l < (r.steps.length : Int)) → evErr r w = 1 := fun h => by
          unfold evErr longFault
          rw [if_neg (by omega), if_pos]
          · rw [if_neg h4, if_neg]
            intro e; exact h (by simpa using List.all_eq_true.1 e l (bang_mem hl hlt))
          · rw [if_neg h4, if_neg]
            · decide
            · intro e; exact h (by simpa using List.all_eq_true.1 e l (bang_mem hl hlt))
        by_cases hl0 : l < 0
        · rw [bad 1 (e (by omega)) (by decide), e (by omega)]
          repeat' (first | (with_reducible first | refine SW_seq ?_ | refine SW_block ?_ | refine SThen_n ?_ | refine SThen_r ?_ | refine SThen_e ?_ | refine SIn_n ?_ | refine SIn_r ?_ | refine SIn_eq ?_ | refine SW_skip ?_ | refine SW_exit ?_ | refine SW_ret ?_ | refine SPost_r ?_) | ((with_reducible refine SIn_ne ?_ ?_); focus decide) | ((with_reducible refine SW_true ?_ ?_); focus exact rfl) | ((with_reducible refine SW_false ?_ ?_); focus exact rfl) | ((first | (with_reducible apply SW_run tt_ok hG htb) | ((with_reducible apply SW_draw rfl tt_ok hG htb); (focus kernel_rfl); (focus (simp only [List.range, List.range.loop, List.size_toArray, List.length_cons, List.length_nil, Nat.reduceAdd])))); focus ((repeat' (first | (with_reducible exact runX_nil) | (with_reducible exact runI_nil) | ((first | (with_reducible apply runX_cons) | (with_reducible apply runI_cons)); focus (simp (discharger := omega) only [go_sem, hl, ↓reduceIte, reduceIte, Nat.reduceEqDiff, Nat.reduceLT, Nat.reduceLeDiff, Nat.reduceAdd, Nat.reduceSub, Nat.reduceMul, Nat.reduceDiv, Nat.reduceMod, Nat.reduceBEq, Int.reduceEq, Int.reduceLT, Int.reduceLE, Int.reduceNeg, Int.reduceToNat, reduceCtorEq]; with_reducible rfl)))); done)))
          exact (by simp (discharger := omega) only [go_sem, tErr, ↓reduceIte, reduceIte, Nat.reduceEqDiff, Nat.reduceLT, Nat.reduceLeDiff, Nat.reduceAdd, Nat.reduceSub, Nat.reduceMul, Nat.reduceDiv, Nat.reduceMod, Nat.reduceBEq, Int.reduceEq, Int.reduceLT, Int.reduceLE, Int.reduceNeg, Int.reduceToNat, reduceCtorEq])
        · by_cases hl1 : (r.steps.length : Int) ≤ l
          · rw [bad 1 (e (by omega)) (by decide), e (by omega)]
            repeat' (first | (with_reducible first | refine SW_seq ?_ | refine SW_block ?_ | refine SThen_n ?_ | refine SThen_r ?_ | refine SThen_e ?_ | refine SIn_n ?_ | refine SIn_r ?_ | refine SIn_eq ?_ | refine SW_skip ?_ | refine SW_exit ?_ | refine SW_ret ?_ | refine SPost_r ?_) | ((with_reducible refine SIn_ne ?_ ?_); focus decide) | ((with_reducible refine SW_true ?_ ?_); focus exact rfl) | ((with_reducible refine SW_false ?_ ?_); focus exact rfl) | ((first | (with_reducible apply SW_run tt_ok hG htb) | ((with_reducible apply SW_draw rfl tt_ok hG htb); (focus kernel_rfl); (focus (simp only [List.range, List.range.loop, List.size_toArray, List.length_cons, List.length_nil, Nat.reduceAdd])))); focus ((repeat' (first | (with_reducible exact runX_nil) | (with_reducible exact runI_nil) | ((first | (with_reducible apply runX_cons) | (with_reducible apply runI_cons)); focus (simp (discharger := omega) only [go_sem, hl, ↓reduceIte, reduceIte, Nat.reduceEqDiff, Nat.reduceLT, Nat.reduceLeDiff, Nat.reduceAdd, Nat.reduceSub, Nat.reduceMul, Nat.reduceDiv, Nat.reduceMod, Nat.reduceBEq, Int.reduceEq, Int.reduceLT, Int.reduceLE, Int.reduceNeg, Int.reduceToNat, reduceCtorEq]; with_reducible rfl)))); done)))
            exact (by simp (discharger := omega) only [go_sem, tErr, ↓reduceIte, reduceIte, Nat.reduceEqDiff, Nat.reduceLT, Nat.reduceLeDiff, Nat.reduceAdd, Nat.reduceSub, Nat.reduceMul, Nat.reduceDiv, Nat.reduceMod, Nat.reduceBEq, Int.reduceEq, Int.reduceLT, Int.reduceLE, Int.reduceNeg, Int.reduceToNat, reduceCtorEq])
          · repeat' (first | (with_reducible first | refine SW_seq ?_ | refine SW_block ?_ | refine SThen_n ?_ | refine SThen_r ?_ | refine SThen_e ?_ | refine SIn_n ?_ | refine SIn_r ?_ | refine SIn_eq ?_ | refine SW_skip ?_ | refine SW_exit ?_ | refine SW_ret ?_ | refine SPost_r ?_) | ((with_reducible refine SIn_ne ?_ ?_); focus decide) | ((with_reducible refine SW_true ?_ ?_); focus exact rfl) | ((with_reducible refine SW_false ?_ ?_); focus exact rfl) | ((first | (with_reducible apply SW_run tt_ok hG htb) | ((with_reducible apply SW_draw rfl tt_ok hG htb); (focus kernel_rfl); (focus (simp only [List.range, List.range.loop, List.size_toArray, List.length_cons, List.length_nil, Nat.reduceAdd])))); focus ((repeat' (first | (with_reducible exact runX_nil) | (with_reducible exact runI_nil) | ((first | (with_reducible apply runX_cons) | (with_reducible apply runI_cons)); focus (simp (discharger := omega) only [go_sem, hl, ↓reduceIte, reduceIte, Nat.reduceEqDiff, Nat.reduceLT, Nat.reduceLeDiff, Nat.reduceAdd, Nat.reduceSub, Nat.reduceMul, Nat.reduceDiv, Nat.reduceMod, Nat.reduceBEq, Int.reduceEq, Int.reduceLT, Int.reduceLE, Int.reduceNeg, Int.reduceToNat, reduceCtorEq]; with_reducible rfl)))); done)))
            exact ⟨w.length - (i + 1), _, by omega, Norm.headS (own := []) (keep := [1, 2, 33, 34, 35]) (by simp (discharger := omega) only [go_sem, ↓reduceIte, reduceIte, Nat.reduceEqDiff, Nat.reduceLT, Nat.reduceLeDiff, Nat.reduceAdd, Nat.reduceSub, Nat.reduceMul, Nat.reduceDiv, Nat.reduceMod, Nat.reduceBEq, Int.reduceEq, Int.reduceLT, Int.reduceLE, Int.reduceNeg, Int.reduceToNat, reduceCtorEq]; with_reducible rfl) (by simp only [go_sem, ↓reduceIte, reduceIte, Nat.reduceEqDiff, Nat.reduceLT, Nat.reduceLeDiff, Nat.reduceAdd, Nat.reduceSub, Nat.reduceMul, Nat.reduceDiv, Nat.reduceMod, Nat.reduceBEq, Int.reduceEq, Int.reduceLT, Int.reduceLE, Int.reduceNeg, Int.reduceToNat, reduceCtorEq]; with_reducible rfl) (by simp only [go_sem, ↓reduceIte, reduceIte, Nat.reduceEqDiff, Nat.reduceLT, Nat.reduceLeDiff, Nat.reduceAdd, Nat.reduceSub, Nat.reduceMul, Nat.reduceDiv, Nat.reduceMod, Nat.reduceBEq, Int.reduceEq, Int.reduceLT, Int.reduceLE, Int.reduceNeg, Int.reduceToNat, reduceCtorEq]; with_reducible rfl) (by simp only [go_sem, ↓reduceIte, reduceIte, Nat.reduceEqDiff, Nat.reduceLT, Nat.reduceLeDiff, Nat.reduceAdd, Nat.reduceSub, Nat.reduceMul, Nat.reduceDiv, Nat.reduceMod, Nat.reduceBEq, Int.reduceEq, Int.reduceLT, Int.reduceLE, Int.reduceNeg, Int.reduceToNat, reduceCtorEq]; with_reducible rfl) (by simp only [go_sem, ↓reduceIte, reduceIte, Nat.reduceEqDiff, Nat.reduceLT, Nat.reduceLeDiff, Nat.reduceAdd, Nat.reduceSub, Nat.reduceMul, Nat.reduceDiv, Nat.reduceMod, Nat.reduceBEq, Int.reduceEq, Int.reduceLT, Int.reduceLE, Int.reduceNeg, Int.reduceToNat, reduceCtorEq]; with_reducible rfl), i + 1, rfl, rfl, by omega, take_all hA hl hlt (by omega)⟩
      · obtain rfl : i = w.length := by omega
        rw [List.take_length] at hA
        have hlf : longFault r.steps.length w = 0 := longFault_zero.2 ⟨by omega, hA⟩
        have hev : evErr r w = (match evalGo r.first.length r.steps r.first w with
            | none => 3
            | some row => if maxC < psum (dotE row r.last) r.first.length then 3 else 0) := by unfold evErr; rw [if_neg (by omega), if_neg (by omega)]; rfl
        clear hlt hi
        obtain ⟨n, hnn⟩ : ∃ n, r.first.length = n := ⟨_, rfl⟩
        rw [hnn] at hev hn0 hn80 hlast
        repeat' (first | (with_reducible first | refine SW_seq ?_ | refine SW_block ?_ | refine SThen_n ?_ | refine SThen_r ?_ | refine SThen_e ?_ | refine SIn_n ?_ | refine SIn_r ?_ | refine SIn_eq ?_ | refine SW_skip ?_ | refine SW_exit ?_ | refine SW_ret ?_ | refine SPost_r ?_) | ((with_reducible refine SIn_ne ?_ ?_); focus decide) | ((with_reducible refine SW_true ?_ ?_); focus exact rfl) | ((with_reducible refine SW_false ?_ ?_); focus exact rfl) | ((first | (with_reducible apply SW_run tt_ok hG htb) | ((with_reducible apply SW_draw rfl tt_ok hG htb); (focus kernel_rfl); (focus (simp only [List.range, List.range.loop, List.size_toArray, List.length_cons, List.length_nil, Nat.reduceAdd])))); focus ((repeat' (first | (with_reducible exact runX_nil) | (with_reducible exact runI_nil) | ((first | (with_reducible apply runX_cons) | (with_reducible apply runI_cons)); focus (simp (discharger := omega) only [go_sem, ↓reduceIte, reduceIte, Nat.reduceEqDiff, Nat.reduceLT, Nat.reduceLeDiff, Nat.reduceAdd, Nat.reduceSub, Nat.reduceMul, Nat.reduceDiv, Nat.reduceMod, Nat.reduceBEq, Int.reduceEq, Int.reduceLT, Int.reduceLE, Int.reduceNeg, Int.reduceToNat, reduceCtorEq]; with_reducible rfl)))); done)))
        refine SW_loop (fun mm s => ∃ (k : Nat) (row : List Int), mm = w.length - k ∧ s = ⟨127, [(2, .bptr 0 0), (9, .t (tInts row)), (52, .t (tInts w)), (53, .t (tInt w.length)), (54, .t (tInt k))], [.box [.t (tInt r.base), .t (tInt r.tracks), .t (tInts r.first), .t (.list (r.steps.map tIntss)), .t (tInts r.last)]]⟩ ∧ k ≤ w.length ∧ RowOk n row ∧ evalGo n r.steps r.first w = evalGo n r.steps row (w.drop k)) (w.length)
          ⟨_, Norm.headS (own := []) (keep := [2, 9, 52, 53, 54]) (by simp (discharger := omega) only [go_sem, ↓reduceIte, reduceIte, Nat.reduceEqDiff, Nat.reduceLT, Nat.reduceLeDiff, Nat.reduceAdd, Nat.reduceSub, Nat.reduceMul, Nat.reduceDiv, Nat.reduceMod, Nat.reduceBEq, Int.reduceEq, Int.reduceLT, Int.reduceLE, Int.reduceNeg, Int.reduceToNat, reduceCtorEq]; with_reducible rfl) (by simp only [go_sem, ↓reduceIte, reduceIte, Nat.reduceEqDiff, Nat.reduceLT, Nat.reduceLeDiff, Nat.reduceAdd, Nat.reduceSub, Nat.reduceMul, Nat.reduceDiv, Nat.reduceMod, Nat.reduceBEq, Int.reduceEq, Int.reduceLT, Int.reduceLE, Int.reduceNeg, Int.reduceToNat, reduceCtorEq]; with_reducible rfl) (by simp only [go_sem, ↓reduceIte, reduceIte, Nat.reduceEqDiff, Nat.reduceLT, Nat.reduceLeDiff, Nat.reduceAdd, Nat.reduceSub, Nat.reduceMul, Nat.reduceDiv, Nat.reduceMod, Nat.reduceBEq, Int.reduceEq, Int.reduceLT, Int.reduceLE, Int.reduceNeg, Int.reduceToNat, reduceCtorEq]; with_reducible rfl) (by simp only [go_sem, ↓reduceIte, reduceIte, Nat.reduceEqDiff, Nat.reduceLT, Nat.reduceLeDiff, Nat.reduceAdd, Nat.reduceSub, Nat.reduceMul, Nat.reduceDiv, Nat.reduceMod, Nat.reduceBEq, Int.reduceEq, Int.reduceLT, Int.reduceLE, Int.reduceNeg, Int.reduceToNat, reduceCtorEq]; with_reducible rfl) (by simp only [go_sem, ↓reduceIte, reduceIte, Nat.reduceEqDiff, Nat.reduceLT, Nat.reduceLeDiff, Nat.reduceAdd, Nat.reduceSub, Nat.reduceMul, Nat.reduceDiv, Nat.reduceMod, Nat.reduceBEq, Int.reduceEq, Int.reduceLT, Int.reduceLE, Int.reduceNeg, Int.reduceToNat, reduceCtorEq]; with_reducible rfl), 0, r.first, rfl, rfl, Nat.zero_le _, ⟨hnn, g.first⟩, by rw [List.drop_zero]⟩ ?_
        rintro mm s ⟨k, row, rfl, rfl, hk, hrow, hgo⟩
        have hrl := hrow.len
        by_cases hlt : k < w.length
        · obtain ⟨l, hl⟩ : ∃ l, w[k]! = l := ⟨_, rfl⟩
          have hlb := hA l (bang_mem hl hlt)
          obtain ⟨m, hm⟩ : ∃ m, r.steps[l.toNat]! = m := ⟨_, rfl⟩
          have hmm := bang_mem hm (by omega)
          have hmD : r.steps.getD l.toNat [] = m := bang_D hm (by omega)
          have hsh := g.shape m hmm
          rw [hnn] at hsh
          have hst := g.stepa m hmm
          rw [drop_next hl hlt] at hgo
          repeat' (first | (with_reducible first | refine SW_seq ?_ | refine SW_block ?_ | refine SThen_n ?_ | refine SThen_r ?_ | refine SThen_e ?_ | refine SIn_n ?_ | refine SIn_r ?_ | refine SIn_eq ?_ | refine SW_skip ?_ | refine SW_exit ?_ | refine SW_ret ?_ | refine SPost_r ?_) | ((with_reducible refine SIn_ne ?_ ?_); focus decide) | ((with_reducible refine SW_true ?_ ?_); focus exact rfl) | ((with_reducible refine SW_false ?_ ?_); focus exact rfl) | ((first | (with_reducible apply SW_run tt_ok hG htb) | ((with_reducible apply SW_draw rfl tt_ok hG htb); (focus kernel_rfl); (focus (simp only [List.range, List.range.loop, List.size_toArray, List.length_cons, List.length_nil, Nat.reduceAdd])))); focus ((repeat' (first | (with_reducible exact runX_nil) | (with_reducible exact runI_nil) | ((first | (with_reducible apply runX_cons) | (with_reducible apply runI_cons)); focus (simp (discharger := omega) only [go_sem, hl, hrl, ↓reduceIte, reduceIte, Nat.reduceEqDiff, Nat.reduceLT, Nat.reduceLeDiff, Nat.reduceAdd, Nat.reduceSub, Nat.reduceMul, Nat.reduceDiv, Nat.reduceMod, Nat.reduceBEq, Int.reduceEq, Int.reduceLT, Int.reduceLE, Int.reduceNeg, Int.reduceToNat, reduceCtorEq]; with_reducible rfl)))); done)))
          refine SW_loop (fun mm s => ∃ (s0 : Nat) (nt : List T), mm = n - s0 ∧ s = ⟨127, [(2, .bptr 0 0), (11, .t (tInt l)), (12, .sref 1), (52, .t (tInts w)), (53, .t (tInt w.length)), (54, .t (tInt k)), (61, .t (tInts row)), (62, .t (tInt n)), (63, .t (tInt s0))], [.box [.t (tInt r.base), .t (tInt r.tracks), .t (tInts r.first), .t (.list (r.steps.map tIntss)), .t (tInts r.last)], .row 3 1 true nt]⟩ ∧ nt = (prt row m n s0 0).map tInt ∧ s0 ≤ n ∧ ∀ t, t < n → psum (ent row m t) s0 ≤ 1152921504606846976) (n)
            ⟨_, Norm.headS (own := [(12, 3, 1, true)]) (keep := [2, 11, 12, 52, 53, 54, 61, 62, 63]) (by simp (discharger := omega) only [go_sem, ↓reduceIte, reduceIte, Nat.reduceEqDiff, Nat.reduceLT, Nat.reduceLeDiff, Nat.reduceAdd, Nat.reduceSub, Nat.reduceMul, Nat.reduceDiv, Nat.reduceMod, Nat.reduceBEq, Int.reduceEq, Int.reduceLT, Int.reduceLE, Int.reduceNeg, Int.reduceToNat, reduceCtorEq]; with_reducible rfl) (by simp only [go_sem, ↓reduceIte, reduceIte, Nat.reduceEqDiff, Nat.reduceLT, Nat.reduceLeDiff, Nat.reduceAdd, Nat.reduceSub, Nat.reduceMul, Nat.reduceDiv, Nat.reduceMod, Nat.reduceBEq, Int.reduceEq, Int.reduceLT, Int.reduceLE, Int.reduceNeg, Int.reduceToNat, reduceCtorEq]; with_reducible rfl) (by simp only [go_sem, ↓reduceIte, reduceIte, Nat.reduceEqDiff, Nat.reduceLT, Nat.reduceLeDiff, Nat.reduceAdd, Nat.reduceSub, Nat.reduceMul, Nat.reduceDiv, Nat.reduceMod, Nat.reduceBEq, Int.reduceEq, Int.reduceLT, Int.reduceLE, Int.reduceNeg, Int.reduceToNat, reduceCtorEq]; with_reducible rfl) (by simp only [go_sem, ↓reduceIte, reduceIte, Nat.reduceEqDiff, Nat.reduceLT, Nat.reduceLeDiff, Nat.reduceAdd, Nat.reduceSub, Nat.reduceMul, Nat.reduceDiv, Nat.reduceMod, Nat.reduceBEq, Int.reduceEq, Int.reduceLT, Int.reduceLE, Int.reduceNeg, Int.reduceToNat, reduceCtorEq]; with_reducible rfl) (by simp only [go_sem, ↓reduceIte, reduceIte, Nat.reduceEqDiff, Nat.reduceLT, Nat.reduceLeDiff, Nat.reduceAdd, Nat.reduceSub, Nat.reduceMul, Nat.reduceDiv, Nat.reduceMod, Nat.reduceBEq, Int.reduceEq, Int.reduceLT, Int.reduceLE, Int.reduceNeg, Int.reduceToNat, reduceCtorEq]; with_reducible rfl), 0, _, rfl, rfl, by rw [prt_zero]; simp [tInt], Nat.zero_le _, fun t ht => by show (0 : Int) ≤ _; omega⟩ ?_
          rintro mm s ⟨s0, nt, rfl, rfl, hnt, hs0, hB⟩
          have hntl : nt.length = n := by rw [hnt]; simp [prt]
          by_cases hlt2 : s0 < n
          · obtain ⟨x, hx⟩ : ∃ x, row[s0]! = x := ⟨_, rfl⟩
            have hxb := hrow.ok x (bang_mem hx (by omega))
            obtain ⟨q, hq⟩ : ∃ q, m[s0]! = q := ⟨_, rfl⟩
            have hqm := bang_mem hq (by omega)
            have hql := hsh.2 q hqm
            have hqb := hst q hqm
            repeat' (first | (with_reducible first | refine SW_seq ?_ | refine SW_block ?_ | refine SThen_n ?_ | refine SThen_r ?_ | refine SThen_e ?_ | refine SIn_n ?_ | refine SIn_r ?_ | refine SIn_eq ?_ | refine SW_skip ?_ | refine SW_exit ?_ | refine SW_ret ?_ | refine SPost_r ?_) | ((with_reducible refine SIn_ne ?_ ?_); focus decide) | ((with_reducible refine SW_true ?_ ?_); focus exact rfl) | ((with_reducible refine SW_false ?_ ?_); focus exact rfl) | ((first | (with_reducible apply SW_run tt_ok hG htb) | ((with_reducible apply SW_draw rfl tt_ok hG htb); (focus kernel_rfl); (focus (simp only [List.range, List.range.loop, List.size_toArray, List.length_cons, List.length_nil, Nat.reduceAdd])))); focus ((repeat' (first | (with_reducible exact runX_nil) | (with_reducible exact runI_nil) | ((first | (with_reducible apply runX_cons) | (with_reducible apply runI_cons)); focus (simp (discharger := omega) only [go_sem, hx, hm, hq, hql, ↓reduceIte, reduceIte, Nat.reduceEqDiff, Nat.reduceLT, Nat.reduceLeDiff, Nat.reduceAdd, Nat.reduceSub, Nat.reduceMul, Nat.reduceDiv, Nat.reduceMod, Nat.reduceBEq, Int.reduceEq, Int.reduceLT, Int.reduceLE, Int.reduceNeg, Int.reduceToNat, reduceCtorEq]; with_reducible rfl)))); done)))
            refine SW_loop (fun mm s => ∃ (t : Nat) (nt : List T), mm = n - t ∧ s = ⟨127, [(2, .bptr 0 0), (11, .t (tInt l)), (12, .sref 1), (13, .t (tInt s0)), (14, .t (tInt x)), (52, .t (tInts w)), (53, .t (tInt w.length)), (54, .t (tInt k)), (61, .t (tInts row)), (62, .t (tInt n)), (63, .t (tInt s0)), (75, .t (tInts q)), (76, .t (tInt n)), (77, .t (tInt t))], [.box [.t (tInt r.base), .t (tInt r.tracks), .t (tInts r.first), .t (.list (r.steps.map tIntss)), .t (tInts r.last)], .row 3 1 true nt]⟩ ∧ nt = (prt row m n s0 t).map tInt ∧ t ≤ n ∧ ∀ t', t' < t → psum (ent row m t') (s0 + 1) ≤ 1152921504606846976) (n)
              ⟨_, Norm.headS (own := [(12, 3, 1, true)]) (keep := [2, 11, 12, 13, 14, 52, 53, 54, 61, 62, 63, 75, 76, 77]) (by simp (discharger := omega) only [go_sem, ↓reduceIte, reduceIte, Nat.reduceEqDiff, Nat.reduceLT, Nat.reduceLeDiff, Nat.reduceAdd, Nat.reduceSub, Nat.reduceMul, Nat.reduceDiv, Nat.reduceMod, Nat.reduceBEq, Int.reduceEq, Int.reduceLT, Int.reduceLE, Int.reduceNeg, Int.reduceToNat, reduceCtorEq]; with_reducible rfl) (by simp only [go_sem, ↓reduceIte, reduceIte, Nat.reduceEqDiff, Nat.reduceLT, Nat.reduceLeDiff, Nat.reduceAdd, Nat.reduceSub, Nat.reduceMul, Nat.reduceDiv, Nat.reduceMod, Nat.reduceBEq, Int.reduceEq, Int.reduceLT, Int.reduceLE, Int.reduceNeg, Int.reduceToNat, reduceCtorEq]; with_reducible rfl) (by simp only [go_sem, ↓reduceIte, reduceIte, Nat.reduceEqDiff, Nat.reduceLT, Nat.reduceLeDiff, Nat.reduceAdd, Nat.reduceSub, Nat.reduceMul, Nat.reduceDiv, Nat.reduceMod, Nat.reduceBEq, Int.reduceEq, Int.reduceLT, Int.reduceLE, Int.reduceNeg, Int.reduceToNat, reduceCtorEq]; with_reducible rfl) (by simp only [go_sem, ↓reduceIte, reduceIte, Nat.reduceEqDiff, Nat.reduceLT, Nat.reduceLeDiff, Nat.reduceAdd, Nat.reduceSub, Nat.reduceMul, Nat.reduceDiv, Nat.reduceMod, Nat.reduceBEq, Int.reduceEq, Int.reduceLT, Int.reduceLE, Int.reduceNeg, Int.reduceToNat, reduceCtorEq]; with_reducible rfl) (by simp only [go_sem, ↓reduceIte, reduceIte, Nat.reduceEqDiff, Nat.reduceLT, Nat.reduceLeDiff, Nat.reduceAdd, Nat.reduceSub, Nat.reduceMul, Nat.reduceDiv, Nat.reduceMod, Nat.reduceBEq, Int.reduceEq, Int.reduceLT, Int.reduceLE, Int.reduceNeg, Int.reduceToNat, reduceCtorEq]; with_reducible rfl), 0, _, rfl, rfl, hnt, Nat.zero_le _, fun t ht => by omega⟩ ?_
            rintro mm s ⟨t, nt, rfl, rfl, hnt, ht, hC⟩
            have hntl : nt.length = n := by rw [hnt]; simp [prt]
            by_cases hlt3 : t < n
            · obtain ⟨y, hy⟩ : ∃ y, q[t]! = y := ⟨_, rfl⟩
              have hyb := hqb y (bang_mem hy (by omega))
              obtain ⟨p, hp⟩ : ∃ p, psum (ent row m t) s0 = p := ⟨_, rfl⟩
              have hp0 : 0 ≤ p := by rw [← hp]; exact psum_nonneg (ent_nonneg hrow hst t) s0
              have hp1 : p ≤ 1152921504606846976 := by rw [← hp]; exact hB t hlt3
              have hcur : nt[t]! = .int .i64 p := by
                rw [hnt, getElem!_pos _ t (by simp [prt]; omega)]
                have := prt_at row m (s := s0) hlt3
                rw [List.getElem?_eq_getElem (by simp [prt]; omega)] at this
                simp only [List.getElem_map]
                rw [Option.some.inj this, hp]; rfl
              have hps : psum (ent row m t) (s0 + 1) = p + x * y := by
                show psum (ent row m t) s0 + ent row m t s0 = _
                rw [hp]
                unfold ent
                rw [bang_D hx (by omega), bang_D hq (by omega), bang_D hy (by omega)]
              have c2 := plus_snd hG p x y ⟨hp0, hp1⟩ hxb hyb
              by_cases hov : 1152921504606846976 < p + x * y
              · have hmono := psum_mono (ent_nonneg hrow hst t) (show s0 + 1 ≤ n by omega)
                have hgn := eval_over (w := w.drop (k + 1)) hmD hlt3 (show 1152921504606846976 < psum (ent row m t) n by omega)
                rw [hgn] at hgo
                rw [hgo] at hev
                have e : evErr r w = 3 := hev
                rw [bad 3 e (by decide), e]
                rw [if_pos hov] at c2
                clear htb
                have htb := Tab.cons c2 Tab.nil
                repeat' (first | (with_reducible first | refine SW_seq ?_ | refine SW_block ?_ | refine SThen_n ?_ | refine SThen_r ?_ | refine SThen_e ?_ | refine SIn_n ?_ | refine SIn_r ?_ | refine SIn_eq ?_ | refine SW_skip ?_ | refine SW_exit ?_ | refine SW_ret ?_ | refine SPost_r ?_) | ((with_reducible refine SIn_ne ?_ ?_); focus decide) | ((with_reducible refine SW_true ?_ ?_); focus exact rfl) | ((with_reducible refine SW_false ?_ ?_); focus exact rfl) | ((first | (with_reducible apply SW_run tt_ok hG htb) | ((with_reducible apply SW_draw rfl tt_ok hG htb); (focus kernel_rfl); (focus (simp only [List.range, List.range.loop, List.size_toArray, List.length_cons, List.length_nil, Nat.reduceAdd])))); focus ((repeat' (first | (with_reducible exact runX_nil) | (with_reducible exact runI_nil) | ((first | (with_reducible apply runX_cons) | (with_reducible apply runI_cons)); focus (simp (discharger := omega) only [go_sem, hy, hcur, ↓reduceIte, reduceIte, Nat.reduceEqDiff, Nat.reduceLT, Nat.reduceLeDiff, Nat.reduceAdd, Nat.reduceSub, Nat.reduceMul, Nat.reduceDiv, Nat.reduceMod, Nat.reduceBEq, Int.reduceEq, Int.reduceLT, Int.reduceLE, Int.reduceNeg, Int.reduceToNat, reduceCtorEq]; with_reducible rfl)))); done)))
                exact (by simp (discharger := omega) only [go_sem, tErr, ↓reduceIte, reduceIte, Nat.reduceEqDiff, Nat.reduceLT, Nat.reduceLeDiff, Nat.reduceAdd, Nat.reduceSub, Nat.reduceMul, Nat.reduceDiv, Nat.reduceMod, Nat.reduceBEq, Int.reduceEq, Int.reduceLT, Int.reduceLE, Int.reduceNeg, Int.reduceToNat, reduceCtorEq])
              · rw [if_neg hov] at c2
                have hset := prt_set row m (s := s0) hlt3
                rw [hps] at hset
                generalize p + x * y = pv at *
                clear htb
                have htb := Tab.cons c2 Tab.nil
                repeat' (first | (with_reducible first | refine SW_seq ?_ | refine SW_block ?_ | refine SThen_n ?_ | refine SThen_r ?_ | refine SThen_e ?_ | refine SIn_n ?_ | refine SIn_r ?_ | refine SIn_eq ?_ | refine SW_skip ?_ | refine SW_exit ?_ | refine SW_ret ?_ | refine SPost_r ?_) | ((with_reducible refine SIn_ne ?_ ?_); focus decide) | ((with_reducible refine SW_true ?_ ?_); focus exact rfl) | ((with_reducible refine SW_false ?_ ?_); focus exact rfl) | ((first | (with_reducible apply SW_run tt_ok hG htb) | ((with_reducible apply SW_draw rfl tt_ok hG htb); (focus kernel_rfl); (focus (simp only [List.range, List.range.loop, List.size_toArray, List.length_cons, List.length_nil, Nat.reduceAdd])))); focus ((repeat' (first | (with_reducible exact runX_nil) | (with_reducible exact runI_nil) | ((first | (with_reducible apply runX_cons) | (with_reducible apply runI_cons)); focus (simp (discharger := omega) only [go_sem, hy, hcur, ↓reduceIte, reduceIte, Nat.reduceEqDiff, Nat.reduceLT, Nat.reduceLeDiff, Nat.reduceAdd, Nat.reduceSub, Nat.reduceMul, Nat.reduceDiv, Nat.reduceMod, Nat.reduceBEq, Int.reduceEq, Int.reduceLT, Int.reduceLE, Int.reduceNeg, Int.reduceToNat, reduceCtorEq]; with_reducible rfl)))); done)))
                exact ⟨n - (t + 1), _, by omega, Norm.headS (own := [(12, 3, 1, true)]) (keep := [2, 11, 12, 13, 14, 52, 53, 54, 61, 62, 63, 75, 76, 77]) (by simp (discharger := omega) only [go_sem, ↓reduceIte, reduceIte, Nat.reduceEqDiff, Nat.reduceLT, Nat.reduceLeDiff, Nat.reduceAdd, Nat.reduceSub, Nat.reduceMul, Nat.reduceDiv, Nat.reduceMod, Nat.reduceBEq, Int.reduceEq, Int.reduceLT, Int.reduceLE, Int.reduceNeg, Int.reduceToNat, reduceCtorEq]; with_reducible rfl) (by simp only [go_sem, ↓reduceIte, reduceIte, Nat.reduceEqDiff, Nat.reduceLT, Nat.reduceLeDiff, Nat.reduceAdd, Nat.reduceSub, Nat.reduceMul, Nat.reduceDiv, Nat.reduceMod, Nat.reduceBEq, Int.reduceEq, Int.reduceLT, Int.reduceLE, Int.reduceNeg, Int.reduceToNat, reduceCtorEq]; with_reducible rfl) (by simp only [go_sem, ↓reduceIte, reduceIte, Nat.reduceEqDiff, Nat.reduceLT, Nat.reduceLeDiff, Nat.reduceAdd, Nat.reduceSub, Nat.reduceMul, Nat.reduceDiv, Nat.reduceMod, Nat.reduceBEq, Int.reduceEq, Int.reduceLT, Int.reduceLE, Int.reduceNeg, Int.reduceToNat, reduceCtorEq]; with_reducible rfl) (by simp only [go_sem, ↓reduceIte, reduceIte, Nat.reduceEqDiff, Nat.reduceLT, Nat.reduceLeDiff, Nat.reduceAdd, Nat.reduceSub, Nat.reduceMul, Nat.reduceDiv, Nat.reduceMod, Nat.reduceBEq, Int.reduceEq, Int.reduceLT, Int.reduceLE, Int.reduceNeg, Int.reduceToNat, reduceCtorEq]; with_reducible rfl) (by simp only [go_sem, ↓reduceIte, reduceIte, Nat.reduceEqDiff, Nat.reduceLT, Nat.reduceLeDiff, Nat.reduceAdd, Nat.reduceSub, Nat.reduceMul, Nat.reduceDiv, Nat.reduceMod, Nat.reduceBEq, Int.reduceEq, Int.reduceLT, Int.reduceLE, Int.reduceNeg, Int.reduceToNat, reduceCtorEq]; with_reducible rfl), t + 1, _, rfl, rfl, by rw [hnt, ← hset, List.map_set]; rfl, by omega, fun t' ht' => by
                    by_cases e : t' = t
                    · subst e; omega
                    · exact hC t' (by omega)⟩
            · obtain rfl : t = n := by omega
              rw [prt_end] at hnt
              repeat' (first | (with_reducible first | refine SW_seq ?_ | refine SW_block ?_ | refine SThen_n ?_ | refine SThen_r ?_ | refine SThen_e ?_ | refine SIn_n ?_ | refine SIn_r ?_ | refine SIn_eq ?_ | refine SW_skip ?_ | refine SW_exit ?_ | refine SW_ret ?_ | refine SPost_r ?_) | ((with_reducible refine SIn_ne ?_ ?_); focus decide) | ((with_reducible refine SW_true ?_ ?_); focus exact rfl) | ((with_reducible refine SW_false ?_ ?_); focus exact rfl) | ((first | (with_reducible apply SW_run tt_ok hG htb) | ((with_reducible apply SW_draw rfl tt_ok hG htb); (focus kernel_rfl); (focus (simp only [List.range, List.range.loop, List.size_toArray, List.length_cons, List.length_nil, Nat.reduceAdd])))); focus ((repeat' (first | (with_reducible exact runX_nil) | (with_reducible exact runI_nil) | ((first | (with_reducible apply runX_cons) | (with_reducible apply runI_cons)); focus (simp (discharger := omega) only [go_sem, ↓reduceIte, reduceIte, Nat.reduceEqDiff, Nat.reduceLT, Nat.reduceLeDiff, Nat.reduceAdd, Nat.reduceSub, Nat.reduceMul, Nat.reduceDiv, Nat.reduceMod, Nat.reduceBEq, Int.reduceEq, Int.reduceLT, Int.reduceLE, Int.reduceNeg, Int.reduceToNat, reduceCtorEq]; with_reducible rfl)))); done)))
              exact ⟨t - (s0 + 1), _, by omega, Norm.headS (own := [(12, 3, 1, true)]) (keep := [2, 11, 12, 52, 53, 54, 61, 62, 63]) (by simp (discharger := omega) only [go_sem, ↓reduceIte, reduceIte, Nat.reduceEqDiff, Nat.reduceLT, Nat.reduceLeDiff, Nat.reduceAdd, Nat.reduceSub, Nat.reduceMul, Nat.reduceDiv, Nat.reduceMod, Nat.reduceBEq, Int.reduceEq, Int.reduceLT, Int.reduceLE, Int.reduceNeg, Int.reduceToNat, reduceCtorEq]; with_reducible rfl) (by simp only [go_sem, ↓reduceIte, reduceIte, Nat.reduceEqDiff, Nat.reduceLT, Nat.reduceLeDiff, Nat.reduceAdd, Nat.reduceSub, Nat.reduceMul, Nat.reduceDiv, Nat.reduceMod, Nat.reduceBEq, Int.reduceEq, Int.reduceLT, Int.reduceLE, Int.reduceNeg, Int.reduceToNat, reduceCtorEq]; with_reducible rfl) (by simp only [go_sem, ↓reduceIte, reduceIte, Nat.reduceEqDiff, Nat.reduceLT, Nat.reduceLeDiff, Nat.reduceAdd, Nat.reduceSub, Nat.reduceMul, Nat.reduceDiv, Nat.reduceMod, Nat.reduceBEq, Int.reduceEq, Int.reduceLT, Int.reduceLE, Int.reduceNeg, Int.reduceToNat, reduceCtorEq]; with_reducible rfl) (by simp only [go_sem, ↓reduceIte, reduceIte, Nat.reduceEqDiff, Nat.reduceLT, Nat.reduceLeDiff, Nat.reduceAdd, Nat.reduceSub, Nat.reduceMul, Nat.reduceDiv, Nat.reduceMod, Nat.reduceBEq, Int.reduceEq, Int.reduceLT, Int.reduceLE, Int.reduceNeg, Int.reduceToNat, reduceCtorEq]; with_reducible rfl) (by simp only [go_sem, ↓reduceIte, reduceIte, Nat.reduceEqDiff, Nat.reduceLT, Nat.reduceLeDiff, Nat.reduceAdd, Nat.reduceSub, Nat.reduceMul, Nat.reduceDiv, Nat.reduceMod, Nat.reduceBEq, Int.reduceEq, Int.reduceLT, Int.reduceLE, Int.reduceNeg, Int.reduceToNat, reduceCtorEq]; with_reducible rfl), s0 + 1, _, rfl, rfl, hnt, by omega, hC⟩
          · obtain rfl : s0 = n := by omega
            rw [prt_full] at hnt
            rw [eval_next hmD hB] at hgo
            subst hnt
            repeat' (first | (with_reducible first | refine SW_seq ?_ | refine SW_block ?_ | refine SThen_n ?_ | refine SThen_r ?_ | refine SThen_e ?_ | refine SIn_n ?_ | refine SIn_r ?_ | refine SIn_eq ?_ | refine SW_skip ?_ | refine SW_exit ?_ | refine SW_ret ?_ | refine SPost_r ?_) | ((with_reducible refine SIn_ne ?_ ?_); focus decide) | ((with_reducible refine SW_true ?_ ?_); focus exact rfl) | ((with_reducible refine SW_false ?_ ?_); focus exact rfl) | ((first | (with_reducible apply SW_run tt_ok hG htb) | ((with_reducible apply SW_draw rfl tt_ok hG htb); (focus kernel_rfl); (focus (simp only [List.range, List.range.loop, List.size_toArray, List.length_cons, List.length_nil, Nat.reduceAdd])))); focus ((repeat' (first | (with_reducible exact runX_nil) | (with_reducible exact runI_nil) | ((first | (with_reducible apply runX_cons) | (with_reducible apply runI_cons)); focus (simp (discharger := omega) only [go_sem, ↓reduceIte, reduceIte, Nat.reduceEqDiff, Nat.reduceLT, Nat.reduceLeDiff, Nat.reduceAdd, Nat.reduceSub, Nat.reduceMul, Nat.reduceDiv, Nat.reduceMod, Nat.reduceBEq, Int.reduceEq, Int.reduceLT, Int.reduceLE, Int.reduceNeg, Int.reduceToNat, reduceCtorEq]; with_reducible rfl)))); done)))
            exact ⟨w.length - (k + 1), _, by omega, ((Norm.frzRow 1 rfl).trans (Norm.datum 9 1 rfl rfl)).trans (Norm.headS (own := []) (keep := [2, 9, 52, 53, 54]) (by simp (discharger := omega) only [go_sem, ↓reduceIte, reduceIte, Nat.reduceEqDiff, Nat.reduceLT, Nat.reduceLeDiff, Nat.reduceAdd, Nat.reduceSub, Nat.reduceMul, Nat.reduceDiv, Nat.reduceMod, Nat.reduceBEq, Int.reduceEq, Int.reduceLT, Int.reduceLE, Int.reduceNeg, Int.reduceToNat, reduceCtorEq]; with_reducible rfl) (by simp only [go_sem, ↓reduceIte, reduceIte, Nat.reduceEqDiff, Nat.reduceLT, Nat.reduceLeDiff, Nat.reduceAdd, Nat.reduceSub, Nat.reduceMul, Nat.reduceDiv, Nat.reduceMod, Nat.reduceBEq, Int.reduceEq, Int.reduceLT, Int.reduceLE, Int.reduceNeg, Int.reduceToNat, reduceCtorEq]; with_reducible rfl) (by simp only [go_sem, ↓reduceIte, reduceIte, Nat.reduceEqDiff, Nat.reduceLT, Nat.reduceLeDiff, Nat.reduceAdd, Nat.reduceSub, Nat.reduceMul, Nat.reduceDiv, Nat.reduceMod, Nat.reduceBEq, Int.reduceEq, Int.reduceLT, Int.reduceLE, Int.reduceNeg, Int.reduceToNat, reduceCtorEq]; with_reducible rfl) (by simp only [go_sem, ↓reduceIte, reduceIte, Nat.reduceEqDiff, Nat.reduceLT, Nat.reduceLeDiff, Nat.reduceAdd, Nat.reduceSub, Nat.reduceMul, Nat.reduceDiv, Nat.reduceMod, Nat.reduceBEq, Int.reduceEq, Int.reduceLT, Int.reduceLE, Int.reduceNeg, Int.reduceToNat, reduceCtorEq]; with_reducible rfl) (by simp only [go_sem, ↓reduceIte, reduceIte, Nat.reduceEqDiff, Nat.reduceLT, Nat.reduceLeDiff, Nat.reduceAdd, Nat.reduceSub, Nat.reduceMul, Nat.reduceDiv, Nat.reduceMod, Nat.reduceBEq, Int.reduceEq, Int.reduceLT, Int.reduceLE, Int.reduceNeg, Int.reduceToNat, reduceCtorEq]; with_reducible rfl)), k + 1, mulRow s0 row m, rfl, rfl, by omega, mulRow_ok hrow hst hB, hgo⟩
        · obtain rfl : k = w.length := by omega
          rw [List.drop_length] at hgo
          have hgo2 : evalGo n r.steps r.first w = some row := hgo
          rw [hgo2] at hev
          have hev : evErr r w = if maxC < psum (dotE row r.last) n then 3 else 0 := hev
          have hvv : evErr r w = 0 → evVal r w = psum (dotE row r.last) n := fun e => by unfold evVal; rw [if_neg (by omega), hnn, hgo2]
          have hla := g.lasta
          repeat' (first | (with_reducible first | refine SW_seq ?_ | refine SW_block ?_ | refine SThen_n ?_ | refine SThen_r ?_ | refine SThen_e ?_ | refine SIn_n ?_ | refine SIn_r ?_ | refine SIn_eq ?_ | refine SW_skip ?_ | refine SW_exit ?_ | refine SW_ret ?_ | refine SPost_r ?_) | ((with_reducible refine SIn_ne ?_ ?_); focus decide) | ((with_reducible refine SW_true ?_ ?_); focus exact rfl) | ((with_reducible refine SW_false ?_ ?_); focus exact rfl) | ((first | (with_reducible apply SW_run tt_ok hG htb) | ((with_reducible apply SW_draw rfl tt_ok hG htb); (focus kernel_rfl); (focus (simp only [List.range, List.range.loop, List.size_toArray, List.length_cons, List.length_nil, Nat.reduceAdd])))); focus ((repeat' (first | (with_reducible exact runX_nil) | (with_reducible exact runI_nil) | ((first | (with_reducible apply runX_cons) | (with_reducible apply runI_cons)); focus (simp (discharger := omega) only [go_sem, hrl, ↓reduceIte, reduceIte, Nat.reduceEqDiff, Nat.reduceLT, Nat.reduceLeDiff, Nat.reduceAdd, Nat.reduceSub, Nat.reduceMul, Nat.reduceDiv, Nat.reduceMod, Nat.reduceBEq, Int.reduceEq, Int.reduceLT, Int.reduceLE, Int.reduceNeg, Int.reduceToNat, reduceCtorEq]; with_reducible rfl)))); done)))
          refine SW_loop (fun mm s => ∃ (s0 : Nat) (q : Int), mm = n - s0 ∧ s = ⟨127, [(2, .bptr 0 0), (19, .t (tInt q)), (103, .t (tInts row)), (104, .t (tInt n)), (105, .t (tInt s0))], [.box [.t (tInt r.base), .t (tInt r.tracks), .t (tInts r.first), .t (.list (r.steps.map tIntss)), .t (tInts r.last)]]⟩ ∧ s0 ≤ n ∧ q = psum (dotE row r.last) s0 ∧ q ≤ 1152921504606846976) (n)
            ⟨_, Norm.headS (own := []) (keep := [2, 19, 103, 104, 105]) (by simp (discharger := omega) only [go_sem, ↓reduceIte, reduceIte, Nat.reduceEqDiff, Nat.reduceLT, Nat.reduceLeDiff, Nat.reduceAdd, Nat.reduceSub, Nat.reduceMul, Nat.reduceDiv, Nat.reduceMod, Nat.reduceBEq, Int.reduceEq, Int.reduceLT, Int.reduceLE, Int.reduceNeg, Int.reduceToNat, reduceCtorEq]; with_reducible rfl) (by simp only [go_sem, ↓reduceIte, reduceIte, Nat.reduceEqDiff, Nat.reduceLT, Nat.reduceLeDiff, Nat.reduceAdd, Nat.reduceSub, Nat.reduceMul, Nat.reduceDiv, Nat.reduceMod, Nat.reduceBEq, Int.reduceEq, Int.reduceLT, Int.reduceLE, Int.reduceNeg, Int.reduceToNat, reduceCtorEq]; with_reducible rfl) (by simp only [go_sem, ↓reduceIte, reduceIte, Nat.reduceEqDiff, Nat.reduceLT, Nat.reduceLeDiff, Nat.reduceAdd, Nat.reduceSub, Nat.reduceMul, Nat.reduceDiv, Nat.reduceMod, Nat.reduceBEq, Int.reduceEq, Int.reduceLT, Int.reduceLE, Int.reduceNeg, Int.reduceToNat, reduceCtorEq]; with_reducible rfl) (by simp only [go_sem, ↓reduceIte, reduceIte, Nat.reduceEqDiff, Nat.reduceLT, Nat.reduceLeDiff, Nat.reduceAdd, Nat.reduceSub, Nat.reduceMul, Nat.reduceDiv, Nat.reduceMod, Nat.reduceBEq, Int.reduceEq, Int.reduceLT, Int.reduceLE, Int.reduceNeg, Int.reduceToNat, reduceCtorEq]; with_reducible rfl) (by simp only [go_sem, ↓reduceIte, reduceIte, Nat.reduceEqDiff, Nat.reduceLT, Nat.reduceLeDiff, Nat.reduceAdd, Nat.reduceSub, Nat.reduceMul, Nat.reduceDiv, Nat.reduceMod, Nat.reduceBEq, Int.reduceEq, Int.reduceLT, Int.reduceLE, Int.reduceNeg, Int.reduceToNat, reduceCtorEq]; with_reducible rfl), 0, 0, rfl, rfl, Nat.zero_le _, rfl, by omega⟩ ?_
          rintro mm s ⟨s0, q, rfl, rfl, hs0, hq, hq1⟩
          have hq0 : 0 ≤ q := by rw [hq]; exact psum_nonneg (dot_nonneg hrow hla) s0
          by_cases hlt2 : s0 < n
          · obtain ⟨x, hx⟩ : ∃ x, row[s0]! = x := ⟨_, rfl⟩
            obtain ⟨y, hy⟩ : ∃ y, r.last[s0]! = y := ⟨_, rfl⟩
            have hxb := hrow.ok x (bang_mem hx (by omega))
            have hyb := hla y (bang_mem hy (by omega))
            have hps : psum (dotE row r.last) (s0 + 1) = q + x * y := by
              show psum (dotE row r.last) s0 + dotE row r.last s0 = _
              unfold dotE
              rw [bang_D hx (by omega), bang_D hy (by omega)]
              unfold dotE at hq
              rw [← hq]
            have c2 := plus_snd hG q x y ⟨hq0, hq1⟩ hxb hyb
            by_cases hov : 1152921504606846976 < q + x * y
            · have hmono := psum_mono (dot_nonneg hrow hla) (show s0 + 1 ≤ n by omega)
              have e : evErr r w = 3 := by rw [hev, if_pos]; unfold maxC; omega
              rw [bad 3 e (by decide), e]
              rw [if_pos hov] at c2
              clear htb
              have htb := Tab.cons c2 Tab.nil
              repeat' (first | (with_reducible first | refine SW_seq ?_ | refine SW_block ?_ | refine SThen_n ?_ | refine SThen_r ?_ | refine SThen_e ?_ | refine SIn_n ?_ | refine SIn_r ?_ | refine SIn_eq ?_ | refine SW_skip ?_ | refine SW_exit ?_ | refine SW_ret ?_ | refine SPost_r ?_) | ((with_reducible refine SIn_ne ?_ ?_); focus decide) | ((with_reducible refine SW_true ?_ ?_); focus exact rfl) | ((with_reducible refine SW_false ?_ ?_); focus exact rfl) | ((first | (with_reducible apply SW_run tt_ok hG htb) | ((with_reducible apply SW_draw rfl tt_ok hG htb); (focus kernel_rfl); (focus (simp only [List.range, List.range.loop, List.size_toArray, List.length_cons, List.length_nil, Nat.reduceAdd])))); focus ((repeat' (first | (with_reducible exact runX_nil) | (with_reducible exact runI_nil) | ((first | (with_reducible apply runX_cons) | (with_reducible apply runI_cons)); focus (simp (discharger := omega) only [go_sem, hx, hy, ↓reduceIte, reduceIte, Nat.reduceEqDiff, Nat.reduceLT, Nat.reduceLeDiff, Nat.reduceAdd, Nat.reduceSub, Nat.reduceMul, Nat.reduceDiv, Nat.reduceMod, Nat.reduceBEq, Int.reduceEq, Int.reduceLT, Int.reduceLE, Int.reduceNeg, Int.reduceToNat, reduceCtorEq]; with_reducible rfl)))); done)))
              exact (by simp (discharger := omega) only [go_sem, tErr, ↓reduceIte, reduceIte, Nat.reduceEqDiff, Nat.reduceLT, Nat.reduceLeDiff, Nat.reduceAdd, Nat.reduceSub, Nat.reduceMul, Nat.reduceDiv, Nat.reduceMod, Nat.reduceBEq, Int.reduceEq, Int.reduceLT, Int.reduceLE, Int.reduceNeg, Int.reduceToNat, reduceCtorEq])
            · rw [if_neg hov] at c2
              generalize q + x * y = pv at *
              clear htb
              have htb := Tab.cons c2 Tab.nil
              repeat' (first | (with_reducible first | refine SW_seq ?_ | refine SW_block ?_ | refine SThen_n ?_ | refine SThen_r ?_ | refine SThen_e ?_ | refine SIn_n ?_ | refine SIn_r ?_ | refine SIn_eq ?_ | refine SW_skip ?_ | refine SW_exit ?_ | refine SW_ret ?_ | refine SPost_r ?_) | ((with_reducible refine SIn_ne ?_ ?_); focus decide) | ((with_reducible refine SW_true ?_ ?_); focus exact rfl) | ((with_reducible refine SW_false ?_ ?_); focus exact rfl) | ((first | (with_reducible apply SW_run tt_ok hG htb) | ((with_reducible apply SW_draw rfl tt_ok hG htb); (focus kernel_rfl); (focus (simp only [List.range, List.range.loop, List.size_toArray, List.length_cons, List.length_nil, Nat.reduceAdd])))); focus ((repeat' (first | (with_reducible exact runX_nil) | (with_reducible exact runI_nil) | ((first | (with_reducible apply runX_cons) | (with_reducible apply runI_cons)); focus (simp (discharger := omega) only [go_sem, hx, hy, ↓reduceIte, reduceIte, Nat.reduceEqDiff, Nat.reduceLT, Nat.reduceLeDiff, Nat.reduceAdd, Nat.reduceSub, Nat.reduceMul, Nat.reduceDiv, Nat.reduceMod, Nat.reduceBEq, Int.reduceEq, Int.reduceLT, Int.reduceLE, Int.reduceNeg, Int.reduceToNat, reduceCtorEq]; with_reducible rfl)))); done)))
              exact ⟨n - (s0 + 1), _, by omega, Norm.headS (own := []) (keep := [2, 19, 103, 104, 105]) (by simp (discharger := omega) only [go_sem, ↓reduceIte, reduceIte, Nat.reduceEqDiff, Nat.reduceLT, Nat.reduceLeDiff, Nat.reduceAdd, Nat.reduceSub, Nat.reduceMul, Nat.reduceDiv, Nat.reduceMod, Nat.reduceBEq, Int.reduceEq, Int.reduceLT, Int.reduceLE, Int.reduceNeg, Int.reduceToNat, reduceCtorEq]; with_reducible rfl) (by simp only [go_sem, ↓reduceIte, reduceIte, Nat.reduceEqDiff, Nat.reduceLT, Nat.reduceLeDiff, Nat.reduceAdd, Nat.reduceSub, Nat.reduceMul, Nat.reduceDiv, Nat.reduceMod, Nat.reduceBEq, Int.reduceEq, Int.reduceLT, Int.reduceLE, Int.reduceNeg, Int.reduceToNat, reduceCtorEq]; with_reducible rfl) (by simp only [go_sem, ↓reduceIte, reduceIte, Nat.reduceEqDiff, Nat.reduceLT, Nat.reduceLeDiff, Nat.reduceAdd, Nat.reduceSub, Nat.reduceMul, Nat.reduceDiv, Nat.reduceMod, Nat.reduceBEq, Int.reduceEq, Int.reduceLT, Int.reduceLE, Int.reduceNeg, Int.reduceToNat, reduceCtorEq]; with_reducible rfl) (by simp only [go_sem, ↓reduceIte, reduceIte, Nat.reduceEqDiff, Nat.reduceLT, Nat.reduceLeDiff, Nat.reduceAdd, Nat.reduceSub, Nat.reduceMul, Nat.reduceDiv, Nat.reduceMod, Nat.reduceBEq, Int.reduceEq, Int.reduceLT, Int.reduceLE, Int.reduceNeg, Int.reduceToNat, reduceCtorEq]; with_reducible rfl) (by simp only [go_sem, ↓reduceIte, reduceIte, Nat.reduceEqDiff, Nat.reduceLT, Nat.reduceLeDiff, Nat.reduceAdd, Nat.reduceSub, Nat.reduceMul, Nat.reduceDiv, Nat.reduceMod, Nat.reduceBEq, Int.reduceEq, Int.reduceLT, Int.reduceLE, Int.reduceNeg, Int.reduceToNat, reduceCtorEq]; with_reducible rfl), s0 + 1, _, rfl, rfl, by omega, hps.symm, by omega⟩
          · obtain rfl : s0 = n := by omega
            have e : evErr r w = 0 := by rw [hev, if_neg]; unfold maxC; omega
            rw [e, hvv e, ← hq]
            repeat' (first | (with_reducible first | refine SW_seq ?_ | refine SW_block ?_ | refine SThen_n ?_ | refine SThen_r ?_ | refine SThen_e ?_ | refine SIn_n ?_ | refine SIn_r ?_ | refine SIn_eq ?_ | refine SW_skip ?_ | refine SW_exit ?_ | refine SW_ret ?_ | refine SPost_r ?_) | ((with_reducible refine SIn_ne ?_ ?_); focus decide) | ((with_reducible refine SW_true ?_ ?_); focus exact rfl) | ((with_reducible refine SW_false ?_ ?_); focus exact rfl) | ((first | (with_reducible apply SW_run tt_ok hG htb) | ((with_reducible apply SW_draw rfl tt_ok hG htb); (focus kernel_rfl); (focus (simp only [List.range, List.range.loop, List.size_toArray, List.length_cons, List.length_nil, Nat.reduceAdd])))); focus ((repeat' (first | (with_reducible exact runX_nil) | (with_reducible exact runI_nil) | ((first | (with_reducible apply runX_cons) | (with_reducible apply runI_cons)); focus (simp (discharger := omega) only [go_sem, ↓reduceIte, reduceIte, Nat.reduceEqDiff, Nat.reduceLT, Nat.reduceLeDiff, Nat.reduceAdd, Nat.reduceSub, Nat.reduceMul, Nat.reduceDiv, Nat.reduceMod, Nat.reduceBEq, Int.reduceEq, Int.reduceLT, Int.reduceLE, Int.reduceNeg, Int.reduceToNat, reduceCtorEq]; with_reducible rfl)))); done)))
            exact (by simp (discharger := omega) only [go_sem, tErr, ↓reduceIte, reduceIte, Nat.reduceEqDiff, Nat.reduceLT, Nat.reduceLeDiff, Nat.reduceAdd, Nat.reduceSub, Nat.reduceMul, Nat.reduceDiv, Nat.reduceMod, Nat.reduceBEq, Int.reduceEq, Int.reduceLT, Int.reduceLE, Int.reduceNeg, Int.reduceToNat, reduceCtorEq])
  · have e : evErr r w = repErr r := by unfold evErr; rw [if_pos h0]
    rw [bad _ e h0, e]
    generalize repErr r = f at *
    have htb := Tab.cons c1 Tab.nil
    repeat' (first | (with_reducible first | refine SW_seq ?_ | refine SW_block ?_ | refine SThen_n ?_ | refine SThen_r ?_ | refine SThen_e ?_ | refine SIn_n ?_ | refine SIn_r ?_ | refine SIn_eq ?_ | refine SW_skip ?_ | refine SW_exit ?_ | refine SW_ret ?_ | refine SPost_r ?_) | ((with_reducible refine SIn_ne ?_ ?_); focus decide) | ((with_reducible refine SW_true ?_ ?_); focus exact rfl) | ((with_reducible refine SW_false ?_ ?_); focus exact rfl) | ((first | (with_reducible apply SW_run tt_ok hG htb) | ((with_reducible apply SW_draw rfl tt_ok hG htb); (focus kernel_rfl); (focus (simp only [List.range, List.range.loop, List.size_toArray, List.length_cons, List.length_nil, Nat.reduceAdd])))); focus ((repeat' (first | (with_reducible exact runX_nil) | (with_reducible exact runI_nil) | ((first | (with_reducible apply runX_cons) | (with_reducible apply runI_cons)); focus (simp (discharger := omega) only [go_sem, tRep, tErr, h0, ↓reduceIte, reduceIte, Nat.reduceEqDiff, Nat.reduceLT, Nat.reduceLeDiff, Nat.reduceAdd, Nat.reduceSub, Nat.reduceMul, Nat.reduceDiv, Nat.reduceMod, Nat.reduceBEq, Int.reduceEq, Int.reduceLT, Int.reduceLE, Int.reduceNeg, Int.reduceToNat, reduceCtorEq]; with_reducible rfl)))); done)))
    exact (by simp (discharger := omega) only [go_sem, tErr, h0, ↓reduceIte, reduceIte, Nat.reduceEqDiff, Nat.reduceLT, Nat.reduceLeDiff, Nat.reduceAdd, Nat.reduceSub, Nat.reduceMul, Nat.reduceDiv, Nat.reduceMod, Nat.reduceBEq, Int.reduceEq, Int.reduceLT, Int.reduceLE, Int.reduceNeg, Int.reduceToNat, reduceCtorEq])
end
end Go.Proofs.YtfhncnhkeodngaaDoor
namespace Go.Proofs.YtfhncnhkeodngaaDoor
open Go.RowKit

theorem cap_zero : cap 0 = 0 := rfl
theorem cap_bd {p : Int} (h : 0 ≤ p) : 0 ≤ cap p ∧ cap p ≤ 1152921504606846977 := by unfold cap; split <;> omega
theorem cap_step {p z : Int} (hz : 0 ≤ z) : (if 1152921504606846976 < cap p + z then 1152921504606846977 else cap p + z) = cap (p + z) := by
  unfold cap
  by_cases h : 1152921504606846976 < p
  · rw [if_pos h, if_pos (by omega), if_pos (by omega)]
  · rw [if_neg h]
theorem cap_over {p : Int} (h : 1152921504606846976 < p) : cap p = 1152921504606846977 := by unfold cap; rw [if_pos h]
theorem cap_fine {p : Int} (h : ¬ 1152921504606846976 < p) : cap p = p := by unfold cap; rw [if_neg h]
section
variable {G : World → Prop} (hG : Lasting G)
include hG
set_option maxHeartbeats 16000000 in
theorem EvalRep_snd (r : GRep) (w : List Int) : Snd Tryd.prog G 11 [tRep r, tInts w] (.tup [tInt (evVal r w), tInt (evErr r w)]) := by
  have c1 := RRepFault_snd hG r
  refine snd_of_body (n := 102) (tm := [(0, .t (tRep r)), (1, .t (tInts w))]) (rs := [.tmp 4, .tmp 5]) tt_ok Tryd.func11 rfl rfl rfl rfl rfl ?_
  refine SW_len (t := 1) (l := _) rfl fun hwl => ?_
  simp only [List.length_map] at hwl
  have bad : ∀ e, evErr r w = e → e ≠ 0 → evVal r w = 0 := fun e h1 h2 => by unfold evVal; rw [if_pos (by omega)]
  by_cases h0 : repErr r = 0
  · rw [h0] at c1
    have g := rep_ok h0
    have hn0 := g.n0
    have hn80 := g.n80
    have hL36 := g.L36
    have hlast := g.last
    have c2 := LongFault_snd hG (r.steps.length : Nat) w
    by_cases h4 : longFault (r.steps.length : Nat) w = 0
    · rw [h4] at c2
      obtain ⟨hw4, hA⟩ := longFault_zero.1 h4
      have hev : evErr r w = (match evalGo r.first.length r.steps r.first w with
          | none => 3
          | some row => if maxC < psum (dotE row r.last) r.first.length then 3 else 0) := by unfold evErr; rw [if_neg (by omega), if_neg (by omega)]; rfl
      obtain ⟨n, hnn⟩ : ∃ n, r.first.length = n := ⟨_, rfl⟩
      rw [hnn] at hev hn0 hn80 hlast
      have htb := Tab.cons c1 (Tab.cons c2 Tab.nil)
      repeat' (first | (with_reducible first | refine SW_seq ?_ | refine SW_block ?_ | refine SThen_n ?_ | refine SThen_r ?_ | refine SThen_e ?_ | refine SIn_n ?_ | refine SIn_r ?_ | refine SIn_eq ?_ | refine SW_skip ?_ | refine SW_exit ?_ | refine SW_ret ?_ | refine SPost_r ?_) | ((with_reducible refine SIn_ne ?_ ?_); focus decide) | ((with_reducible refine SW_true ?_ ?_); focus exact rfl) | ((with_reducible refine SW_false ?_ ?_); focus exact rfl) | ((first | (with_reducible apply SW_run tt_ok hG htb) | ((with_reducible apply SW_draw rfl tt_ok hG htb); (focus kernel_rfl); (focus (simp only [List.range, List.range.loop, List.size_toArray, List.length_cons, List.length_nil, Nat.reduceAdd])))); focus ((repeat' (first | (with_reducible exact runX_nil) | (with_reducible exact runI_nil) | ((first | (with_reducible apply runX_cons) | (with_reducible apply runI_cons)); focus (simp (discharger := omega) only [go_sem, tRep, hnn, ↓reduceIte, reduceIte, Nat.reduceEqDiff, Nat.reduceLT, Nat.reduceLeDiff, Nat.reduceAdd, Nat.reduceSub, Nat.reduceMul, Nat.reduceDiv, Nat.reduceMod, Nat.reduceBEq, Int.reduceEq, Int.reduceLT, Int.reduceLE, Int.reduceNeg, Int.reduceToNat, reduceCtorEq]; with_reducible rfl)))); done)))
      clear htb
      have htb : Tab.ok Tryd.prog G [] := Tab.nil
      refine SW_loop (fun mm s => ∃ (k : Nat) (row : List Int), mm = w.length - k ∧ s = ⟨102, [(1, .t (tInts w)), (2, .bptr 0 0), (7, .t (tInt n)), (8, .t (tInts row)), (9, .t (tInt k))], [.box [.t (tInt r.base), .t (tInt r.tracks), .t (tInts r.first), .t (.list (r.steps.map tIntss)), .t (tInts r.last)]]⟩ ∧ k ≤ w.length ∧ RowOk n row ∧ evalGo n r.steps r.first w = evalGo n r.steps row (w.drop k)) (w.length)
        ⟨_, Norm.headS (own := []) (keep := [1, 2, 7, 8, 9]) (by simp (discharger := omega) only [go_sem, ↓reduceIte, reduceIte, Nat.reduceEqDiff, Nat.reduceLT, Nat.reduceLeDiff, Nat.reduceAdd, Nat.reduceSub, Nat.reduceMul, Nat.reduceDiv, Nat.reduceMod, Nat.reduceBEq, Int.reduceEq, Int.reduceLT, Int.reduceLE, Int.reduceNeg, Int.reduceToNat, reduceCtorEq]; with_reducible rfl) (by simp only [go_sem, ↓reduceIte, reduceIte, Nat.reduceEqDiff, Nat.reduceLT, Nat.reduceLeDiff, Nat.reduceAdd, Nat.reduceSub, Nat.reduceMul, Nat.reduceDiv, Nat.reduceMod, Nat.reduceBEq, Int.reduceEq, Int.reduceLT, Int.reduceLE, Int.reduceNeg, Int.reduceToNat, reduceCtorEq]; with_reducible rfl) (by simp only [go_sem, ↓reduceIte, reduceIte, Nat.reduceEqDiff, Nat.reduceLT, Nat.reduceLeDiff, Nat.reduceAdd, Nat.reduceSub, Nat.reduceMul, Nat.reduceDiv, Nat.reduceMod, Nat.reduceBEq, Int.reduceEq, Int.reduceLT, Int.reduceLE, Int.reduceNeg, Int.reduceToNat, reduceCtorEq]; with_reducible rfl) (by simp only [go_sem, ↓reduceIte, reduceIte, Nat.reduceEqDiff, Nat.reduceLT, Nat.reduceLeDiff, Nat.reduceAdd, Nat.reduceSub, Nat.reduceMul, Nat.reduceDiv, Nat.reduceMod, Nat.reduceBEq, Int.reduceEq, Int.reduceLT, Int.reduceLE, Int.reduceNeg, Int.reduceToNat, reduceCtorEq]; with_reducible rfl) (by simp only [go_sem, ↓reduceIte, reduceIte, Nat.reduceEqDiff, Nat.reduceLT, Nat.reduceLeDiff, Nat.reduceAdd, Nat.reduceSub, Nat.reduceMul, Nat.reduceDiv, Nat.reduceMod, Nat.reduceBEq, Int.reduceEq, Int.reduceLT, Int.reduceLE, Int.reduceNeg, Int.reduceToNat, reduceCtorEq]; with_reducible rfl), 0, r.first, rfl, rfl, Nat.zero_le _, ⟨hnn, g.first⟩, by rw [List.drop_zero]⟩ ?_
      rintro mm s ⟨k, row, rfl, rfl, hk, hrow, hgo⟩
      have hrl := hrow.len
      by_cases hlt : k < w.length
      · obtain ⟨l, hl⟩ : ∃ l, w[k]! = l := ⟨_, rfl⟩
        have hlb := hA l (bang_mem hl hlt)
        obtain ⟨m, hm⟩ : ∃ m, r.steps[l.toNat]! = m := ⟨_, rfl⟩
        have hmm := bang_mem hm (by omega)
        have hmD : r.steps.getD l.toNat [] = m := bang_D hm (by omega)
        have hsh := g.shape m hmm
        rw [hnn] at hsh
        have hst := g.stepa m hmm
        rw [drop_next hl hlt] at hgo
        repeat' (first | (with_reducible first | refine SW_seq ?_ | refine SW_block ?_ | refine SThen_n ?_ | refine SThen_r ?_ | refine SThen_e ?_ | refine SIn_n ?_ | refine SIn_r ?_ | refine SIn_eq ?_ | refine SW_skip ?_ | refine SW_exit ?_ | refine SW_ret ?_ | refine SPost_r ?_) | ((with_reducible refine SIn_ne ?_ ?_); focus decide) | ((with_reducible refine SW_true ?_ ?_); focus exact rfl) | ((with_reducible refine SW_false ?_ ?_); focus exact rfl) | ((first | (with_reducible apply SW_run tt_ok hG htb) | ((with_reducible apply SW_draw rfl tt_ok hG htb); (focus kernel_rfl); (focus (simp only [List.range, List.range.loop, List.size_toArray, List.length_cons, List.length_nil, Nat.reduceAdd])))); focus ((repeat' (first | (with_reducible exact runX_nil) | (with_reducible exact runI_nil) | ((first | (with_reducible apply runX_cons) | (with_reducible apply runI_cons)); focus (simp (discharger := omega) only [go_sem, ↓reduceIte, reduceIte, Nat.reduceEqDiff, Nat.reduceLT, Nat.reduceLeDiff, Nat.reduceAdd, Nat.reduceSub, Nat.reduceMul, Nat.reduceDiv, Nat.reduceMod, Nat.reduceBEq, Int.reduceEq, Int.reduceLT, Int.reduceLE, Int.reduceNeg, Int.reduceToNat, reduceCtorEq]; with_reducible rfl)))); done)))
        refine SW_loop (fun mm s => ∃ (t : Nat) (nt : List T), mm = n - t ∧ s = ⟨102, [(1, .t (tInts w)), (2, .bptr 0 0), (7, .t (tInt n)), (8, .t (tInts row)), (9, .t (tInt k)), (10, .sref 1), (11, .t (tInt t))], [.box [.t (tInt r.base), .t (tInt r.tracks), .t (tInts r.first), .t (.list (r.steps.map tIntss)), .t (tInts r.last)], .row 3 1 true nt]⟩ ∧ nt = (cdone row m n t).map tInt ∧ t ≤ n ∧ ∀ t', t' < t → psum (ent row m t') n ≤ 1152921504606846976) (n)
          ⟨_, Norm.headS (own := [(10, 3, 1, true)]) (keep := [1, 2, 7, 8, 9, 10, 11]) (by simp (discharger := omega) only [go_sem, ↓reduceIte, reduceIte, Nat.reduceEqDiff, Nat.reduceLT, Nat.reduceLeDiff, Nat.reduceAdd, Nat.reduceSub, Nat.reduceMul, Nat.reduceDiv, Nat.reduceMod, Nat.reduceBEq, Int.reduceEq, Int.reduceLT, Int.reduceLE, Int.reduceNeg, Int.reduceToNat, reduceCtorEq]; with_reducible rfl) (by simp only [go_sem, ↓reduceIte, reduceIte, Nat.reduceEqDiff, Nat.reduceLT, Nat.reduceLeDiff, Nat.reduceAdd, Nat.reduceSub, Nat.reduceMul, Nat.reduceDiv, Nat.reduceMod, Nat.reduceBEq, Int.reduceEq, Int.reduceLT, Int.reduceLE, Int.reduceNeg, Int.reduceToNat, reduceCtorEq]; with_reducible rfl) (by simp only [go_sem, ↓reduceIte, reduceIte, Nat.reduceEqDiff, Nat.reduceLT, Nat.reduceLeDiff, Nat.reduceAdd, Nat.reduceSub, Nat.reduceMul, Nat.reduceDiv, Nat.reduceMod, Nat.reduceBEq, Int.reduceEq, Int.reduceLT, Int.reduceLE, Int.reduceNeg, Int.reduceToNat, reduceCtorEq]; with_reducible rfl) (by simp only [go_sem, ↓reduceIte, reduceIte, Nat.reduceEqDiff, Nat.reduceLT, Nat.reduceLeDiff, Nat.reduceAdd, Nat.reduceSub, Nat.reduceMul, Nat.reduceDiv, Nat.reduceMod, Nat.reduceBEq, Int.reduceEq, Int.reduceLT, Int.reduceLE, Int.reduceNeg, Int.reduceToNat, reduceCtorEq]; with_reducible rfl) (by simp only [go_sem, ↓reduceIte, reduceIte, Nat.reduceEqDiff, Nat.reduceLT, Nat.reduceLeDiff, Nat.reduceAdd, Nat.reduceSub, Nat.reduceMul, Nat.reduceDiv, Nat.reduceMod, Nat.reduceBEq, Int.reduceEq, Int.reduceLT, Int.reduceLE, Int.reduceNeg, Int.reduceToNat, reduceCtorEq]; with_reducible rfl), 0, _, rfl, rfl, by rw [cdone_zero]; simp [tInt], Nat.zero_le _, fun t ht => by omega⟩ ?_
        rintro mm s ⟨t, nt, rfl, rfl, hnt, ht, hC⟩
        have hntl : nt.length = n := by rw [hnt]; simp [cdone]
        by_cases hlt2 : t < n
        · repeat' (first | (with_reducible first | refine SW_seq ?_ | refine SW_block ?_ | refine SThen_n ?_ | refine SThen_r ?_ | refine SThen_e ?_ | refine SIn_n ?_ | refine SIn_r ?_ | refine SIn_eq ?_ | refine SW_skip ?_ | refine SW_exit ?_ | refine SW_ret ?_ | refine SPost_r ?_) | ((with_reducible refine SIn_ne ?_ ?_); focus decide) | ((with_reducible refine SW_true ?_ ?_); focus exact rfl) | ((with_reducible refine SW_false ?_ ?_); focus exact rfl) | ((first | (with_reducible apply SW_run tt_ok hG htb) | ((with_reducible apply SW_draw rfl tt_ok hG htb); (focus kernel_rfl); (focus (simp only [List.range, List.range.loop, List.size_toArray, List.length_cons, List.length_nil, Nat.reduceAdd])))); focus ((repeat' (first | (with_reducible exact runX_nil) | (with_reducible exact runI_nil) | ((first | (with_reducible apply runX_cons) | (with_reducible apply runI_cons)); focus (simp (discharger := omega) only [go_sem, ↓reduceIte, reduceIte, Nat.reduceEqDiff, Nat.reduceLT, Nat.reduceLeDiff, Nat.reduceAdd, Nat.reduceSub, Nat.reduceMul, Nat.reduceDiv, Nat.reduceMod, Nat.reduceBEq, Int.reduceEq, Int.reduceLT, Int.reduceLE, Int.reduceNeg, Int.reduceToNat, reduceCtorEq]; with_reducible rfl)))); done)))
          refine SW_loop (fun mm s => ∃ (s0 : Nat) (nt : List T), mm = n - s0 ∧ s = ⟨102, [(1, .t (tInts w)), (2, .bptr 0 0), (7, .t (tInt n)), (8, .t (tInts row)), (9, .t (tInt k)), (10, .sref 1), (11, .t (tInt t)), (12, .t (tInt s0))], [.box [.t (tInt r.base), .t (tInt r.tracks), .t (tInts r.first), .t (.list (r.steps.map tIntss)), .t (tInts r.last)], .row 3 1 true nt]⟩ ∧ nt = ((cdone row m n t).set t (cap (psum (ent row m t) s0))).map tInt ∧ s0 ≤ n) (n)
            ⟨_, Norm.headS (own := [(10, 3, 1, true)]) (keep := [1, 2, 7, 8, 9, 10, 11, 12]) (by simp (discharger := omega) only [go_sem, ↓reduceIte, reduceIte, Nat.reduceEqDiff, Nat.reduceLT, Nat.reduceLeDiff, Nat.reduceAdd, Nat.reduceSub, Nat.reduceMul, Nat.reduceDiv, Nat.reduceMod, Nat.reduceBEq, Int.reduceEq, Int.reduceLT, Int.reduceLE, Int.reduceNeg, Int.reduceToNat, reduceCtorEq]; with_reducible rfl) (by simp only [go_sem, ↓reduceIte, reduceIte, Nat.reduceEqDiff, Nat.reduceLT, Nat.reduceLeDiff, Nat.reduceAdd, Nat.reduceSub, Nat.reduceMul, Nat.reduceDiv, Nat.reduceMod, Nat.reduceBEq, Int.reduceEq, Int.reduceLT, Int.reduceLE, Int.reduceNeg, Int.reduceToNat, reduceCtorEq]; with_reducible rfl) (by simp only [go_sem, ↓reduceIte, reduceIte, Nat.reduceEqDiff, Nat.reduceLT, Nat.reduceLeDiff, Nat.reduceAdd, Nat.reduceSub, Nat.reduceMul, Nat.reduceDiv, Nat.reduceMod, Nat.reduceBEq, Int.reduceEq, Int.reduceLT, Int.reduceLE, Int.reduceNeg, Int.reduceToNat, reduceCtorEq]; with_reducible rfl) (by simp only [go_sem, ↓reduceIte, reduceIte, Nat.reduceEqDiff, Nat.reduceLT, Nat.reduceLeDiff, Nat.reduceAdd, Nat.reduceSub, Nat.reduceMul, Nat.reduceDiv, Nat.reduceMod, Nat.reduceBEq, Int.reduceEq, Int.reduceLT, Int.reduceLE, Int.reduceNeg, Int.reduceToNat, reduceCtorEq]; with_reducible rfl) (by simp only [go_sem, ↓reduceIte, reduceIte, Nat.reduceEqDiff, Nat.reduceLT, Nat.reduceLeDiff, Nat.reduceAdd, Nat.reduceSub, Nat.reduceMul, Nat.reduceDiv, Nat.reduceMod, Nat.reduceBEq, Int.reduceEq, Int.reduceLT, Int.reduceLE, Int.reduceNeg, Int.reduceToNat, reduceCtorEq]; with_reducible rfl), 0, _, rfl, rfl, by rw [show psum (ent row m t) 0 = 0 from rfl, cap_zero, cdone_self row m hlt2, hnt], Nat.zero_le _⟩ ?_
          rintro mm s ⟨s0, nt, rfl, rfl, hnt, hs0⟩
          have hntl : nt.length = n := by rw [hnt]; simp [cdone]
          have hcur : nt[t]! = .int .i64 (cap (psum (ent row m t) s0)) := by
            rw [getElem!_pos _ t (by omega)]
            simp [hnt, List.getElem_set, tInt]
          have hp0 : 0 ≤ psum (ent row m t) s0 := psum_nonneg (ent_nonneg hrow hst t) s0
          by_cases hlt3 : s0 < n
          · obtain ⟨x, hx⟩ : ∃ x, row[s0]! = x := ⟨_, rfl⟩
            have hxb := hrow.ok x (bang_mem hx (by omega))
            obtain ⟨q, hq⟩ : ∃ q, m[s0]! = q := ⟨_, rfl⟩
            have hqm := bang_mem hq (by omega)
            have hql := hsh.2 q hqm
            have hqb := hst q hqm
            obtain ⟨y, hy⟩ : ∃ y, q[t]! = y := ⟨_, rfl⟩
            have hyb := hqb y (bang_mem hy (by omega))
            have hps : psum (ent row m t) (s0 + 1) = psum (ent row m t) s0 + x * y := by
              show psum (ent row m t) s0 + ent row m t s0 = _
              congr 1
              unfold ent
              rw [bang_D hx (by omega), bang_D hq (by omega), bang_D hy (by omega)]
            have hcs := cap_step (p := psum (ent row m t) s0) (Int.mul_nonneg hxb.1 hyb.1)
            rw [← hps] at hcs
            have hab := cap_bd hp0
            obtain ⟨a, ha⟩ : ∃ a, cap (psum (ent row m t) s0) = a := ⟨_, rfl⟩
            rw [ha] at hcur hab hcs
            have c3 := more_snd hG a x y hab hxb hyb
            rw [hcs] at c3
            obtain ⟨pv, hpv⟩ : ∃ pv, cap (psum (ent row m t) (s0 + 1)) = pv := ⟨_, rfl⟩
            rw [hpv] at c3
            clear htb
            have htb := Tab.cons c3 Tab.nil
            repeat' (first | (with_reducible first | refine SW_seq ?_ | refine SW_block ?_ | refine SThen_n ?_ | refine SThen_r ?_ | refine SThen_e ?_ | refine SIn_n ?_ | refine SIn_r ?_ | refine SIn_eq ?_ | refine SW_skip ?_ | refine SW_exit ?_ | refine SW_ret ?_ | refine SPost_r ?_) | ((with_reducible refine SIn_ne ?_ ?_); focus decide) | ((with_reducible refine SW_true ?_ ?_); focus exact rfl) | ((with_reducible refine SW_false ?_ ?_); focus exact rfl) | ((first | (with_reducible apply SW_run tt_ok hG htb) | ((with_reducible apply SW_draw rfl tt_ok hG htb); (focus kernel_rfl); (focus (simp only [List.range, List.range.loop, List.size_toArray, List.length_cons, List.length_nil, Nat.reduceAdd])))); focus ((repeat' (first | (with_reducible exact runX_nil) | (with_reducible exact runI_nil) | ((first | (with_reducible apply runX_cons) | (with_reducible apply runI_cons)); focus (simp (discharger := omega) only [go_sem, hx, hm, hq, hql, hy, hl, hcur, ↓reduceIte, reduceIte, Nat.reduceEqDiff, Nat.reduceLT, Nat.reduceLeDiff, Nat.reduceAdd, Nat.reduceSub, Nat.reduceMul, Nat.reduceDiv, Nat.reduceMod, Nat.reduceBEq, Int.reduceEq, Int.reduceLT, Int.reduceLE, Int.reduceNeg, Int.reduceToNat, reduceCtorEq]; with_reducible rfl)))); done)))
            exact ⟨n - (s0 + 1), _, by omega, Norm.headS (own := [(10, 3, 1, true)]) (keep := [1, 2, 7, 8, 9, 10, 11, 12]) (by simp (discharger := omega) only [go_sem, ↓reduceIte, reduceIte, Nat.reduceEqDiff, Nat.reduceLT, Nat.reduceLeDiff, Nat.reduceAdd, Nat.reduceSub, Nat.reduceMul, Nat.reduceDiv, Nat.reduceMod, Nat.reduceBEq, Int.reduceEq, Int.reduceLT, Int.reduceLE, Int.reduceNeg, Int.reduceToNat, reduceCtorEq]; with_reducible rfl) (by simp only [go_sem, ↓reduceIte, reduceIte, Nat.reduceEqDiff, Nat.reduceLT, Nat.reduceLeDiff, Nat.reduceAdd, Nat.reduceSub, Nat.reduceMul, Nat.reduceDiv, Nat.reduceMod, Nat.reduceBEq, Int.reduceEq, Int.reduceLT, Int.reduceLE, Int.reduceNeg, Int.reduceToNat, reduceCtorEq]; with_reducible rfl) (by simp only [go_sem, ↓reduceIte, reduceIte, Nat.reduceEqDiff, Nat.reduceLT, Nat.reduceLeDiff, Nat.reduceAdd, Nat.reduceSub, Nat.reduceMul, Nat.reduceDiv, Nat.reduceMod, Nat.reduceBEq, Int.reduceEq, Int.reduceLT, Int.reduceLE, Int.reduceNeg, Int.reduceToNat, reduceCtorEq]; with_reducible rfl) (by simp only [go_sem, ↓reduceIte, reduceIte, Nat.reduceEqDiff, Nat.reduceLT, Nat.reduceLeDiff, Nat.reduceAdd, Nat.reduceSub, Nat.reduceMul, Nat.reduceDiv, Nat.reduceMod, Nat.reduceBEq, Int.reduceEq, Int.reduceLT, Int.reduceLE, Int.reduceNeg, Int.reduceToNat, reduceCtorEq]; with_reducible rfl) (by simp only [go_sem, ↓reduceIte, reduceIte, Nat.reduceEqDiff, Nat.reduceLT, Nat.reduceLeDiff, Nat.reduceAdd, Nat.reduceSub, Nat.reduceMul, Nat.reduceDiv, Nat.reduceMod, Nat.reduceBEq, Int.reduceEq, Int.reduceLT, Int.reduceLE, Int.reduceNeg, Int.reduceToNat, reduceCtorEq]; with_reducible rfl), s0 + 1, _, rfl, rfl, by rw [hpv, hnt]; simp [List.map_set, List.set_set, tInt], by omega⟩
          · obtain rfl : s0 = n := by omega
            by_cases hov : 1152921504606846976 < psum (ent row m t) s0
            · have hgn := eval_over (w := w.drop (k + 1)) hmD hlt2 hov
              rw [hgn] at hgo
              rw [hgo] at hev
              have e : evErr r w = 3 := hev
              rw [bad 3 e (by decide), e]
              rw [cap_over hov] at hcur
              repeat' (first | (with_reducible first | refine SW_seq ?_ | refine SW_block ?_ | refine SThen_n ?_ | refine SThen_r ?_ | refine SThen_e ?_ | refine SIn_n ?_ | refine SIn_r ?_ | refine SIn_eq ?_ | refine SW_skip ?_ | refine SW_exit ?_ | refine SW_ret ?_ | refine SPost_r ?_) | ((with_reducible refine SIn_ne ?_ ?_); focus decide) | ((with_reducible refine SW_true ?_ ?_); focus exact rfl) | ((with_reducible refine SW_false ?_ ?_); focus exact rfl) | ((first | (with_reducible apply SW_run tt_ok hG htb) | ((with_reducible apply SW_draw rfl tt_ok hG htb); (focus kernel_rfl); (focus (simp only [List.range, List.range.loop, List.size_toArray, List.length_cons, List.length_nil, Nat.reduceAdd])))); focus ((repeat' (first | (with_reducible exact runX_nil) | (with_reducible exact runI_nil) | ((first | (with_reducible apply runX_cons) | (with_reducible apply runI_cons)); focus (simp (discharger := omega) only [go_sem, hcur, ↓reduceIte, reduceIte, Nat.reduceEqDiff, Nat.reduceLT, Nat.reduceLeDiff, Nat.reduceAdd, Nat.reduceSub, Nat.reduceMul, Nat.reduceDiv, Nat.reduceMod, Nat.reduceBEq, Int.reduceEq, Int.reduceLT, Int.reduceLE, Int.reduceNeg, Int.reduceToNat, reduceCtorEq]; with_reducible rfl)))); done)))
              exact (by simp (discharger := omega) only [go_sem, ↓reduceIte, reduceIte, Nat.reduceEqDiff, Nat.reduceLT, Nat.reduceLeDiff, Nat.reduceAdd, Nat.reduceSub, Nat.reduceMul, Nat.reduceDiv, Nat.reduceMod, Nat.reduceBEq, Int.reduceEq, Int.reduceLT, Int.reduceLE, Int.reduceNeg, Int.reduceToNat, reduceCtorEq])
            · rw [cap_fine hov] at hcur
              have hset := cdone_set row m hlt2
              rw [cap_fine hov, hset] at hnt
              obtain ⟨pv, hpv⟩ : ∃ pv, psum (ent row m t) s0 = pv := ⟨_, rfl⟩
              rw [hpv] at hcur hov
              repeat' (first | (with_reducible first | refine SW_seq ?_ | refine SW_block ?_ | refine SThen_n ?_ | refine SThen_r ?_ | refine SThen_e ?_ | refine SIn_n ?_ | refine SIn_r ?_ | refine SIn_eq ?_ | refine SW_skip ?_ | refine SW_exit ?_ | refine SW_ret ?_ | refine SPost_r ?_) | ((with_reducible refine SIn_ne ?_ ?_); focus decide) | ((with_reducible refine SW_true ?_ ?_); focus exact rfl) | ((with_reducible refine SW_false ?_ ?_); focus exact rfl) | ((first | (with_reducible apply SW_run tt_ok hG htb) | ((with_reducible apply SW_draw rfl tt_ok hG htb); (focus kernel_rfl); (focus (simp only [List.range, List.range.loop, List.size_toArray, List.length_cons, List.length_nil, Nat.reduceAdd])))); focus ((repeat' (first | (with_reducible exact runX_nil) | (with_reducible exact runI_nil) | ((first | (with_reducible apply runX_cons) | (with_reducible apply runI_cons)); focus (simp (discharger := omega) only [go_sem, hcur, ↓reduceIte, reduceIte, Nat.reduceEqDiff, Nat.reduceLT, Nat.reduceLeDiff, Nat.reduceAdd, Nat.reduceSub, Nat.reduceMul, Nat.reduceDiv, Nat.reduceMod, Nat.reduceBEq, Int.reduceEq, Int.reduceLT, Int.reduceLE, Int.reduceNeg, Int.reduceToNat, reduceCtorEq]; with_reducible rfl)))); done)))
              exact ⟨s0 - (t + 1), _, by omega, Norm.headS (own := [(10, 3, 1, true)]) (keep := [1, 2, 7, 8, 9, 10, 11]) (by simp (discharger := omega) only [go_sem, ↓reduceIte, reduceIte, Nat.reduceEqDiff, Nat.reduceLT, Nat.reduceLeDiff, Nat.reduceAdd, Nat.reduceSub, Nat.reduceMul, Nat.reduceDiv, Nat.reduceMod, Nat.reduceBEq, Int.reduceEq, Int.reduceLT, Int.reduceLE, Int.reduceNeg, Int.reduceToNat, reduceCtorEq]; with_reducible rfl) (by simp only [go_sem, ↓reduceIte, reduceIte, Nat.reduceEqDiff, Nat.reduceLT, Nat.reduceLeDiff, Nat.reduceAdd, Nat.reduceSub, Nat.reduceMul, Nat.reduceDiv, Nat.reduceMod, Nat.reduceBEq, Int.reduceEq, Int.reduceLT, Int.reduceLE, Int.reduceNeg, Int.reduceToNat, reduceCtorEq]; with_reducible rfl) (by simp only [go_sem, ↓reduceIte, reduceIte, Nat.reduceEqDiff, Nat.reduceLT, Nat.reduceLeDiff, Nat.reduceAdd, Nat.reduceSub, Nat.reduceMul, Nat.reduceDiv, Nat.reduceMod, Nat.reduceBEq, Int.reduceEq, Int.reduceLT, Int.reduceLE, Int.reduceNeg, Int.reduceToNat, reduceCtorEq]; with_reducible rfl) (by simp only [go_sem, ↓reduceIte, reduceIte, Nat.reduceEqDiff, Nat.reduceLT, Nat.reduceLeDiff, Nat.reduceAdd, Nat.reduceSub, Nat.reduceMul, Nat.reduceDiv, Nat.reduceMod, Nat.reduceBEq, Int.reduceEq, Int.reduceLT, Int.reduceLE, Int.reduceNeg, Int.reduceToNat, reduceCtorEq]; with_reducible rfl) (by simp only [go_sem, ↓reduceIte, reduceIte, Nat.reduceEqDiff, Nat.reduceLT, Nat.reduceLeDiff, Nat.reduceAdd, Nat.reduceSub, Nat.reduceMul, Nat.reduceDiv, Nat.reduceMod, Nat.reduceBEq, Int.reduceEq, Int.reduceLT, Int.reduceLE, Int.reduceNeg, Int.reduceToNat, reduceCtorEq]; with_reducible rfl), t + 1, _, rfl, rfl, hnt, by omega, fun t' ht' => by
                  by_cases e : t' = t
                  · subst e; omega
                  · exact hC t' (by omega)⟩
        · obtain rfl : t = n := by omega
          rw [cdone_full] at hnt
          rw [eval_next hmD hC] at hgo
          subst hnt
          repeat' (first | (with_reducible first | refine SW_seq ?_ | refine SW_block ?_ | refine SThen_n ?_ | refine SThen_r ?_ | refine SThen_e ?_ | refine SIn_n ?_ | refine SIn_r ?_ | refine SIn_eq ?_ | refine SW_skip ?_ | refine SW_exit ?_ | refine SW_ret ?_ | refine SPost_r ?_) | ((with_reducible refine SIn_ne ?_ ?_); focus decide) | ((with_reducible refine SW_true ?_ ?_); focus exact rfl) | ((with_reducible refine SW_false ?_ ?_); focus exact rfl) | ((first | (with_reducible apply SW_run tt_ok hG htb) | ((with_reducible apply SW_draw rfl tt_ok hG htb); (focus kernel_rfl); (focus (simp only [List.range, List.range.loop, List.size_toArray, List.length_cons, List.length_nil, Nat.reduceAdd])))); focus ((repeat' (first | (with_reducible exact runX_nil) | (with_reducible exact runI_nil) | ((first | (with_reducible apply runX_cons) | (with_reducible apply runI_cons)); focus (simp (discharger := omega) only [go_sem, ↓reduceIte, reduceIte, Nat.reduceEqDiff, Nat.reduceLT, Nat.reduceLeDiff, Nat.reduceAdd, Nat.reduceSub, Nat.reduceMul, Nat.reduceDiv, Nat.reduceMod, Nat.reduceBEq, Int.reduceEq, Int.reduceLT, Int.reduceLE, Int.reduceNeg, Int.reduceToNat, reduceCtorEq]; with_reducible rfl)))); done)))
          exact ⟨w.length - (k + 1), _, by omega, ((Norm.frzRow 1 rfl).trans (Norm.datum 8 1 rfl rfl)).trans (Norm.headS (own := []) (keep := [1, 2, 7, 8, 9]) (by simp (discharger := omega) only [go_sem, ↓reduceIte, reduceIte, Nat.reduceEqDiff, Nat.reduceLT, Nat.reduceLeDiff, Nat.reduceAdd, Nat.reduceSub, Nat.reduceMul, Nat.reduceDiv, Nat.reduceMod, Nat.reduceBEq, Int.reduceEq, Int.reduceLT, Int.reduceLE, Int.reduceNeg, Int.reduceToNat, reduceCtorEq]; with_reducible rfl) (by simp only [go_sem, ↓reduceIte, reduceIte, Nat.reduceEqDiff, Nat.reduceLT, Nat.reduceLeDiff, Nat.reduceAdd, Nat.reduceSub, Nat.reduceMul, Nat.reduceDiv, Nat.reduceMod, Nat.reduceBEq, Int.reduceEq, Int.reduceLT, Int.reduceLE, Int.reduceNeg, Int.reduceToNat, reduceCtorEq]; with_reducible rfl) (by simp only [go_sem, ↓reduceIte, reduceIte, Nat.reduceEqDiff, Nat.reduceLT, Nat.reduceLeDiff, Nat.reduceAdd, Nat.reduceSub, Nat.reduceMul, Nat.reduceDiv, Nat.reduceMod, Nat.reduceBEq, Int.reduceEq, Int.reduceLT, Int.reduceLE, Int.reduceNeg, Int.reduceToNat, reduceCtorEq]; with_reducible rfl) (by simp only [go_sem, ↓reduceIte, reduceIte, Nat.reduceEqDiff, Nat.reduceLT, Nat.reduceLeDiff, Nat.reduceAdd, Nat.reduceSub, Nat.reduceMul, Nat.reduceDiv, Nat.reduceMod, Nat.reduceBEq, Int.reduceEq, Int.reduceLT, Int.reduceLE, Int.reduceNeg, Int.reduceToNat, reduceCtorEq]; with_reducible rfl) (by simp only [go_sem, ↓reduceIte, reduceIte, Nat.reduceEqDiff, Nat.reduceLT, Nat.reduceLeDiff, Nat.reduceAdd, Nat.reduceSub, Nat.reduceMul, Nat.reduceDiv, Nat.reduceMod, Nat.reduceBEq, Int.reduceEq, Int.reduceLT, Int.reduceLE, Int.reduceNeg, Int.reduceToNat, reduceCtorEq]; with_reducible rfl)), k + 1, mulRow t row m, rfl, rfl, by omega, mulRow_ok hrow hst hC, hgo⟩
      · obtain rfl : k = w.length := by omega
        rw [List.drop_length] at hgo
        have hgo2 : evalGo n r.steps r.first w = some row := hgo
        rw [hgo2] at hev
        have hev : evErr r w = if maxC < psum (dotE row r.last) n then 3 else 0 := hev
        have hvv : evErr r w = 0 → evVal r w = psum (dotE row r.last) n := fun e => by unfold evVal; rw [if_neg (by omega), hnn, hgo2]
        have hla := g.lasta
        repeat' (first | (with_reducible first | refine SW_seq ?_ | refine SW_block ?_ | refine SThen_n ?_ | refine SThen_r ?_ | refine SThen_e ?_ | refine SIn_n ?_ | refine SIn_r ?_ | refine SIn_eq ?_ | refine SW_skip ?_ | refine SW_exit ?_ | refine SW_ret ?_ | refine SPost_r ?_) | ((with_reducible refine SIn_ne ?_ ?_); focus decide) | ((with_reducible refine SW_true ?_ ?_); focus exact rfl) | ((with_reducible refine SW_false ?_ ?_); focus exact rfl) | ((first | (with_reducible apply SW_run tt_ok hG htb) | ((with_reducible apply SW_draw rfl tt_ok hG htb); (focus kernel_rfl); (focus (simp only [List.range, List.range.loop, List.size_toArray, List.length_cons, List.length_nil, Nat.reduceAdd])))); focus ((repeat' (first | (with_reducible exact runX_nil) | (with_reducible exact runI_nil) | ((first | (with_reducible apply runX_cons) | (with_reducible apply runI_cons)); focus (simp (discharger := omega) only [go_sem, ↓reduceIte, reduceIte, Nat.reduceEqDiff, Nat.reduceLT, Nat.reduceLeDiff, Nat.reduceAdd, Nat.reduceSub, Nat.reduceMul, Nat.reduceDiv, Nat.reduceMod, Nat.reduceBEq, Int.reduceEq, Int.reduceLT, Int.reduceLE, Int.reduceNeg, Int.reduceToNat, reduceCtorEq]; with_reducible rfl)))); done)))
        refine SW_loop (fun mm s => ∃ (s0 : Nat) (q : Int), mm = n - s0 ∧ s = ⟨102, [(2, .bptr 0 0), (7, .t (tInt n)), (8, .t (tInts row)), (13, .t (tInt q)), (14, .t (tInt s0))], [.box [.t (tInt r.base), .t (tInt r.tracks), .t (tInts r.first), .t (.list (r.steps.map tIntss)), .t (tInts r.last)]]⟩ ∧ s0 ≤ n ∧ q = cap (psum (dotE row r.last) s0)) (n)
          ⟨_, Norm.headS (own := []) (keep := [2, 7, 8, 13, 14]) (by simp (discharger := omega) only [go_sem, ↓reduceIte, reduceIte, Nat.reduceEqDiff, Nat.reduceLT, Nat.reduceLeDiff, Nat.reduceAdd, Nat.reduceSub, Nat.reduceMul, Nat.reduceDiv, Nat.reduceMod, Nat.reduceBEq, Int.reduceEq, Int.reduceLT, Int.reduceLE, Int.reduceNeg, Int.reduceToNat, reduceCtorEq]; with_reducible rfl) (by simp only [go_sem, ↓reduceIte, reduceIte, Nat.reduceEqDiff, Nat.reduceLT, Nat.reduceLeDiff, Nat.reduceAdd, Nat.reduceSub, Nat.reduceMul, Nat.reduceDiv, Nat.reduceMod, Nat.reduceBEq, Int.reduceEq, Int.reduceLT, Int.reduceLE, Int.reduceNeg, Int.reduceToNat, reduceCtorEq]; with_reducible rfl) (by simp only [go_sem, ↓reduceIte, reduceIte, Nat.reduceEqDiff, Nat.reduceLT, Nat.reduceLeDiff, Nat.reduceAdd, Nat.reduceSub, Nat.reduceMul, Nat.reduceDiv, Nat.reduceMod, Nat.reduceBEq, Int.reduceEq, Int.reduceLT, Int.reduceLE, Int.reduceNeg, Int.reduceToNat, reduceCtorEq]; with_reducible rfl) (by simp only [go_sem, ↓reduceIte, reduceIte, Nat.reduceEqDiff, Nat.reduceLT, Nat.reduceLeDiff, Nat.reduceAdd, Nat.reduceSub, Nat.reduceMul, Nat.reduceDiv, Nat.reduceMod, Nat.reduceBEq, Int.reduceEq, Int.reduceLT, Int.reduceLE, Int.reduceNeg, Int.reduceToNat, reduceCtorEq]; with_reducible rfl) (by simp only [go_sem, ↓reduceIte, reduceIte, Nat.reduceEqDiff, Nat.reduceLT, Nat.reduceLeDiff, Nat.reduceAdd, Nat.reduceSub, Nat.reduceMul, Nat.reduceDiv, Nat.reduceMod, Nat.reduceBEq, Int.reduceEq, Int.reduceLT, Int.reduceLE, Int.reduceNeg, Int.reduceToNat, reduceCtorEq]; with_reducible rfl), 0, 0, rfl, rfl, Nat.zero_le _, rfl⟩ ?_
        rintro mm s ⟨s0, q, rfl, rfl, hs0, hq⟩
        have hp0 : 0 ≤ psum (dotE row r.last) s0 := psum_nonneg (dot_nonneg hrow hla) s0
        by_cases hlt2 : s0 < n
        · obtain ⟨x, hx⟩ : ∃ x, row[s0]! = x := ⟨_, rfl⟩
          obtain ⟨y, hy⟩ : ∃ y, r.last[s0]! = y := ⟨_, rfl⟩
          have hxb := hrow.ok x (bang_mem hx (by omega))
          have hyb := hla y (bang_mem hy (by omega))
          have hps : psum (dotE row r.last) (s0 + 1) = psum (dotE row r.last) s0 + x * y := by
            show psum (dotE row r.last) s0 + dotE row r.last s0 = _
            congr 1
            unfold dotE
            rw [bang_D hx (by omega), bang_D hy (by omega)]
          have hcs := cap_step (p := psum (dotE row r.last) s0) (Int.mul_nonneg hxb.1 hyb.1)
          rw [← hps, ← hq] at hcs
          have hab := cap_bd hp0
          rw [← hq] at hab
          have c3 := more_snd hG q x y hab hxb hyb
          rw [hcs] at c3
          obtain ⟨pv, hpv⟩ : ∃ pv, cap (psum (dotE row r.last) (s0 + 1)) = pv := ⟨_, rfl⟩
          rw [hpv] at c3
          clear htb
          have htb := Tab.cons c3 Tab.nil
          repeat' (first | (with_reducible first | refine SW_seq ?_ | refine SW_block ?_ | refine SThen_n ?_ | refine SThen_r ?_ | refine SThen_e ?_ | refine SIn_n ?_ | refine SIn_r ?_ | refine SIn_eq ?_ | refine SW_skip ?_ | refine SW_exit ?_ | refine SW_ret ?_ | refine SPost_r ?_) | ((with_reducible refine SIn_ne ?_ ?_); focus decide) | ((with_reducible refine SW_true ?_ ?_); focus exact rfl) | ((with_reducible refine SW_false ?_ ?_); focus exact rfl) | ((first | (with_reducible apply SW_run tt_ok hG htb) | ((with_reducible apply SW_draw rfl tt_ok hG htb); (focus kernel_rfl); (focus (simp only [List.range, List.range.loop, List.size_toArray, List.length_cons, List.length_nil, Nat.reduceAdd])))); focus ((repeat' (first | (with_reducible exact runX_nil) | (with_reducible exact runI_nil) | ((first | (with_reducible apply runX_cons) | (with_reducible apply runI_cons)); focus (simp (discharger := omega) only [go_sem, hx, hy, ↓reduceIte, reduceIte, Nat.reduceEqDiff, Nat.reduceLT, Nat.reduceLeDiff, Nat.reduceAdd, Nat.reduceSub, Nat.reduceMul, Nat.reduceDiv, Nat.reduceMod, Nat.reduceBEq, Int.reduceEq, Int.reduceLT, Int.reduceLE, Int.reduceNeg, Int.reduceToNat, reduceCtorEq]; with_reducible rfl)))); done)))
          exact ⟨n - (s0 + 1), _, by omega, Norm.headS (own := []) (keep := [2, 7, 8, 13, 14]) (by simp (discharger := omega) only [go_sem, ↓reduceIte, reduceIte, Nat.reduceEqDiff, Nat.reduceLT, Nat.reduceLeDiff, Nat.reduceAdd, Nat.reduceSub, Nat.reduceMul, Nat.reduceDiv, Nat.reduceMod, Nat.reduceBEq, Int.reduceEq, Int.reduceLT, Int.reduceLE, Int.reduceNeg, Int.reduceToNat, reduceCtorEq]; with_reducible rfl) (by simp only [go_sem, ↓reduceIte, reduceIte, Nat.reduceEqDiff, Nat.reduceLT, Nat.reduceLeDiff, Nat.reduceAdd, Nat.reduceSub, Nat.reduceMul, Nat.reduceDiv, Nat.reduceMod, Nat.reduceBEq, Int.reduceEq, Int.reduceLT, Int.reduceLE, Int.reduceNeg, Int.reduceToNat, reduceCtorEq]; with_reducible rfl) (by simp only [go_sem, ↓reduceIte, reduceIte, Nat.reduceEqDiff, Nat.reduceLT, Nat.reduceLeDiff, Nat.reduceAdd, Nat.reduceSub, Nat.reduceMul, Nat.reduceDiv, Nat.reduceMod, Nat.reduceBEq, Int.reduceEq, Int.reduceLT, Int.reduceLE, Int.reduceNeg, Int.reduceToNat, reduceCtorEq]; with_reducible rfl) (by simp only [go_sem, ↓reduceIte, reduceIte, Nat.reduceEqDiff, Nat.reduceLT, Nat.reduceLeDiff, Nat.reduceAdd, Nat.reduceSub, Nat.reduceMul, Nat.reduceDiv, Nat.reduceMod, Nat.reduceBEq, Int.reduceEq, Int.reduceLT, Int.reduceLE, Int.reduceNeg, Int.reduceToNat, reduceCtorEq]; with_reducible rfl) (by simp only [go_sem, ↓reduceIte, reduceIte, Nat.reduceEqDiff, Nat.reduceLT, Nat.reduceLeDiff, Nat.reduceAdd, Nat.reduceSub, Nat.reduceMul, Nat.reduceDiv, Nat.reduceMod, Nat.reduceBEq, Int.reduceEq, Int.reduceLT, Int.reduceLE, Int.reduceNeg, Int.reduceToNat, reduceCtorEq]; with_reducible rfl), s0 + 1, _, rfl, rfl, by omega, hpv.symm⟩
        · obtain rfl : s0 = n := by omega
          by_cases hov : 1152921504606846976 < psum (dotE row r.last) s0
          · have e : evErr r w = 3 := by rw [hev, if_pos]; exact hov
            rw [bad 3 e (by decide), e]
            rw [cap_over hov] at hq
            subst hq
            repeat' (first | (with_reducible first | refine SW_seq ?_ | refine SW_block ?_ | refine SThen_n ?_ | refine SThen_r ?_ | refine SThen_e ?_ | refine SIn_n ?_ | refine SIn_r ?_ | refine SIn_eq ?_ | refine SW_skip ?_ | refine SW_exit ?_ | refine SW_ret ?_ | refine SPost_r ?_) | ((with_reducible refine SIn_ne ?_ ?_); focus decide) | ((with_reducible refine SW_true ?_ ?_); focus exact rfl) | ((with_reducible refine SW_false ?_ ?_); focus exact rfl) | ((first | (with_reducible apply SW_run tt_ok hG htb) | ((with_reducible apply SW_draw rfl tt_ok hG htb); (focus kernel_rfl); (focus (simp only [List.range, List.range.loop, List.size_toArray, List.length_cons, List.length_nil, Nat.reduceAdd])))); focus ((repeat' (first | (with_reducible exact runX_nil) | (with_reducible exact runI_nil) | ((first | (with_reducible apply runX_cons) | (with_reducible apply runI_cons)); focus (simp (discharger := omega) only [go_sem, ↓reduceIte, reduceIte, Nat.reduceEqDiff, Nat.reduceLT, Nat.reduceLeDiff, Nat.reduceAdd, Nat.reduceSub, Nat.reduceMul, Nat.reduceDiv, Nat.reduceMod, Nat.reduceBEq, Int.reduceEq, Int.reduceLT, Int.reduceLE, Int.reduceNeg, Int.reduceToNat, reduceCtorEq]; with_reducible rfl)))); done)))
            exact (by simp (discharger := omega) only [go_sem, ↓reduceIte, reduceIte, Nat.reduceEqDiff, Nat.reduceLT, Nat.reduceLeDiff, Nat.reduceAdd, Nat.reduceSub, Nat.reduceMul, Nat.reduceDiv, Nat.reduceMod, Nat.reduceBEq, Int.reduceEq, Int.reduceLT, Int.reduceLE, Int.reduceNeg, Int.reduceToNat, reduceCtorEq])
          · have e : evErr r w = 0 := by rw [hev, if_neg]; exact hov
            rw [cap_fine hov] at hq
            rw [e, hvv e, ← hq]
            rw [← hq] at hov
            repeat' (first | (with_reducible first | refine SW_seq ?_ | refine SW_block ?_ | refine SThen_n ?_ | refine SThen_r ?_ | refine SThen_e ?_ | refine SIn_n ?_ | refine SIn_r ?_ | refine SIn_eq ?_ | refine SW_skip ?_ | refine SW_exit ?_ | refine SW_ret ?_ | refine SPost_r ?_) | ((with_reducible refine SIn_ne ?_ ?_); focus decide) | ((with_reducible refine SW_true ?_ ?_); focus exact rfl) | ((with_reducible refine SW_false ?_ ?_); focus exact rfl) | ((first | (with_reducible apply SW_run tt_ok hG htb) | ((with_reducible apply SW_draw rfl tt_ok hG htb); (focus kernel_rfl); (focus (simp only [List.range, List.range.loop, List.size_toArray, List.length_cons, List.length_nil, Nat.reduceAdd])))); focus ((repeat' (first | (with_reducible exact runX_nil) | (with_reducible exact runI_nil) | ((first | (with_reducible apply runX_cons) | (with_reducible apply runI_cons)); focus (simp (discharger := omega) only [go_sem, ↓reduceIte, reduceIte, Nat.reduceEqDiff, Nat.reduceLT, Nat.reduceLeDiff, Nat.reduceAdd, Nat.reduceSub, Nat.reduceMul, Nat.reduceDiv, Nat.reduceMod, Nat.reduceBEq, Int.reduceEq, Int.reduceLT, Int.reduceLE, Int.reduceNeg, Int.reduceToNat, reduceCtorEq]; with_reducible rfl)))); done)))
            exact (by simp (discharger := omega) only [go_sem, ↓reduceIte, reduceIte, Nat.reduceEqDiff, Nat.reduceLT, Nat.reduceLeDiff, Nat.reduceAdd, Nat.reduceSub, Nat.reduceMul, Nat.reduceDiv, Nat.reduceMod, Nat.reduceBEq, Int.reduceEq, Int.reduceLT, Int.reduceLE, Int.reduceNeg, Int.reduceToNat, reduceCtorEq])
    · have e : evErr r w = longFault (r.steps.length : Nat) w := by unfold evErr; rw [if_neg (by omega), if_pos h4]
      rw [bad _ e h4, e]
      generalize longFault (r.steps.length : Nat) w = f at *
      have htb := Tab.cons c1 (Tab.cons c2 Tab.nil)
      repeat' (first | (with_reducible first | refine SW_seq ?_ | refine SW_block ?_ | refine SThen_n ?_ | refine SThen_r ?_ | refine SThen_e ?_ | refine SIn_n ?_ | refine SIn_r ?_ | refine SIn_eq ?_ | refine SW_skip ?_ | refine SW_exit ?_ | refine SW_ret ?_ | refine SPost_r ?_) | ((with_reducible refine SIn_ne ?_ ?_); focus decide) | ((with_reducible refine SW_true ?_ ?_); focus exact rfl) | ((with_reducible refine SW_false ?_ ?_); focus exact rfl) | ((first | (with_reducible apply SW_run tt_ok hG htb) | ((with_reducible apply SW_draw rfl tt_ok hG htb); (focus kernel_rfl); (focus (simp only [List.range, List.range.loop, List.size_toArray, List.length_cons, List.length_nil, Nat.reduceAdd])))); focus ((repeat' (first | (with_reducible exact runX_nil) | (with_reducible exact runI_nil) | ((first | (with_reducible apply runX_cons) | (with_reducible apply runI_cons)); focus (simp (discharger := omega) only [go_sem, tRep, h4, ↓reduceIte, reduceIte, Nat.reduceEqDiff, Nat.reduceLT, Nat.reduceLeDiff, Nat.reduceAdd, Nat.reduceSub, Nat.reduceMul, Nat.reduceDiv, Nat.reduceMod, Nat.reduceBEq, Int.reduceEq, Int.reduceLT, Int.reduceLE, Int.reduceNeg, Int.reduceToNat, reduceCtorEq]; with_reducible rfl)))); done)))
      exact (by simp (discharger := omega) only [go_sem, h4, ↓reduceIte, reduceIte, Nat.reduceEqDiff, Nat.reduceLT, Nat.reduceLeDiff, Nat.reduceAdd, Nat.reduceSub, Nat.reduceMul, Nat.reduceDiv, Nat.reduceMod, Nat.reduceBEq, Int.reduceEq, Int.reduceLT, Int.reduceLE, Int.reduceNeg, Int.reduceToNat, reduceCtorEq])
  · have e : evErr r w = repErr r := by unfold evErr; rw [if_pos h0]
    rw [bad _ e h0, e]
    generalize repErr r = f at *
    have htb := Tab.cons c1 Tab.nil
    repeat' (first | (with_reducible first | refine SW_seq ?_ | refine SW_block ?_ | refine SThen_n ?_ | refine SThen_r ?_ | refine SThen_e ?_ | refine SIn_n ?_ | refine SIn_r ?_ | refine SIn_eq ?_ | refine SW_skip ?_ | refine SW_exit ?_ | refine SW_ret ?_ | refine SPost_r ?_) | ((with_reducible refine SIn_ne ?_ ?_); focus decide) | ((with_reducible refine SW_true ?_ ?_); focus exact rfl) | ((with_reducible refine SW_false ?_ ?_); focus exact rfl) | ((first | (with_reducible apply SW_run tt_ok hG htb) | ((with_reducible apply SW_draw rfl tt_ok hG htb); (focus kernel_rfl); (focus (simp only [List.range, List.range.loop, List.size_toArray, List.length_cons, List.length_nil, Nat.reduceAdd])))); focus ((repeat' (first | (with_reducible exact runX_nil) | (with_reducible exact runI_nil) | ((first | (with_reducible apply runX_cons) | (with_reducible apply runI_cons)); focus (simp (discharger := omega) only [go_sem, tRep, h0, ↓reduceIte, reduceIte, Nat.reduceEqDiff, Nat.reduceLT, Nat.reduceLeDiff, Nat.reduceAdd, Nat.reduceSub, Nat.reduceMul, Nat.reduceDiv, Nat.reduceMod, Nat.reduceBEq, Int.reduceEq, Int.reduceLT, Int.reduceLE, Int.reduceNeg, Int.reduceToNat, reduceCtorEq]; with_reducible rfl)))); done)))
    exact (by simp (discharger := omega) only [go_sem, h0, ↓reduceIte, reduceIte, Nat.reduceEqDiff, Nat.reduceLT, Nat.reduceLeDiff, Nat.reduceAdd, Nat.reduceSub, Nat.reduceMul, Nat.reduceDiv, Nat.reduceMod, Nat.reduceBEq, Int.reduceEq, Int.reduceLT, Int.reduceLE, Int.reduceNeg, Int.reduceToNat, reduceCtorEq])
end
end Go.Proofs.YtfhncnhkeodngaaDoor
namespace Go.Proofs.YtfhncnhkeodngaaDoor
open Go.RowKit
theorem repErr_inv {S : Nat → Prop} {w : World} {v : Value} {e : Int} (h : RepT S w (tErr e) v) : v = errV 26 e := by
  unfold tErr at h; unfold errV
  split at h
  · rename_i h0
    rw [if_pos h0]; cases h; rfl
  · rename_i h0
    rw [if_neg h0]
    cases h with
    | iface t x v h => cases h; rfl
theorem errCell_lasting : Lasting errCell := fun _ _ hb h => errCell.below h hb
theorem Error_snd (e f : Int) : Snd Tryd.prog errCell 13 [tErr e, tInt f] (.bool (e == f)) :=
  snd2 Tryd.func13 rfl rfl fun S w v u hg _ h h' => by
    obtain rfl := repErr_inv h; obtain rfl := intInv h'
    exact ⟨_, Error_calls e f w hg, fun S w => .bool _⟩
end Go.Proofs.YtfhncnhkeodngaaDoor
namespace Go.Proofs.YtfhncnhkeodngaaDoor
open Go.ChangeShapes Go.WideShapes Go.ChangeAt Go.RowKit Go.Joins Go.Deep

section
variable {H : Type} {enc : TypeId × Value → H} {w : World} {sp : Nat → Bool} {held : Bool}
/-- One cell that reads as a datum. -/
def OpensT (enc : TypeId × Value → H) (w : World) (sp : Nat → Bool) (held : Bool) (T : TypeId) (Q : Go.Proofs.YtfhncnhkeodngaaDoor.T → Prop) : Prop :=
  ∀ n v y, DataW.trod enc Tryd.prog w 0 sp held n T [v] = some y → v.oneCell' = true ∧ ∃ x, Q x ∧ x.cells = [x] ∧ RepT (· < w.heap.size) w x v
theorem flat_cells : ∀ {l : List Go.Proofs.YtfhncnhkeodngaaDoor.T}, (∀ x ∈ l, x.cells = [x]) → Go.Proofs.YtfhncnhkeodngaaDoor.flat l = l
  | [], _ => rfl
  | a :: t, h => by
    have := flat_cells fun x hx => h x (List.mem_cons_of_mem a hx)
    simp only [Go.Proofs.YtfhncnhkeodngaaDoor.flat, List.flatMap_cons] at this ⊢
    rw [this, h a List.mem_cons_self]; rfl
theorem opensT_int {T : TypeId} (ht : Tryd.prog.underlying T = some (.int .i64)) : OpensT enc w sp held T fun x => ∃ n, x = tInt n ∧ I64 n := by
  intro n v y h
  obtain ⟨a, rfl, h2⟩ := opens_int ht n v y h
  exact ⟨rfl, _, ⟨a, rfl, h2⟩, rfl, .int _ _⟩
theorem opensT_slice {T e : TypeId} {Q : Go.Proofs.YtfhncnhkeodngaaDoor.T → Prop} (ht : Tryd.prog.underlying T = some (.slice e)) (hc : Tryd.prog.cellsOf e = 1) (hE : OpensT enc w sp held e Q) :
    OpensT enc w sp held T fun x => ∃ l, x = .list l ∧ ∀ y ∈ l, Q y := by
  intro n v y h
  rcases open_slice1 ht hc h with ⟨hcs, _⟩ | ⟨a, len, cap, m, n', V, D, Pl, hcs, _, hl, hcap, hm, _, hx⟩
  · obtain rfl : v = .slice none 0 0 := by simpa using hcs
    exact ⟨rfl, _, ⟨[], rfl, fun y hy => by simp at hy⟩, rfl, .list [] none 0 1 (fun _ => undef) (Nat.zero_le _) Nat.one_pos (fun x hx => by simp at hx) (fun h => (h rfl).elim) (fun k hk => by simp at hk) (fun k y hy => by simp [Go.Proofs.YtfhncnhkeodngaaDoor.flat] at hy) (Nat.le_refl _)⟩
  · obtain rfl : v = .slice (some a) len cap := by simpa using hcs
    have hlm : len ≤ m := by rw [hm]; split <;> omega
    have hall : ∀ i, i < len → (V i).oneCell' = true ∧ ∃ b, Q b ∧ b.cells = [b] ∧ RepT (· < w.heap.size) w b (V i) := fun i hi => hE _ _ _ (hx i (by omega)).2
    have key : ∀ k, k ≤ len → ∃ l : List Go.Proofs.YtfhncnhkeodngaaDoor.T, l.length = k ∧ ∀ i (hi : i < l.length), Q l[i] ∧ l[i].cells = [l[i]] ∧ RepT (· < w.heap.size) w l[i] (V i) := by
      intro k
      induction k with
      | zero => intro _; exact ⟨[], rfl, fun i hi => absurd hi (by simp)⟩
      | succ k ih =>
        intro hk
        obtain ⟨l, hl1, hl2⟩ := ih (by omega)
        obtain ⟨_, b, hb⟩ := hall k (by omega)
        refine ⟨l ++ [b], by simp [hl1], fun i hi => ?_⟩
        rw [List.getElem_append]
        split
        · exact hl2 i ‹_›
        · obtain rfl : i = k := by simp at hi; omega
          simpa using hb
    obtain ⟨l, hl1, hl2⟩ := key len (Nat.le_refl _)
    subst hl1
    have hcells : ∀ x ∈ l, x.cells = [x] := fun x hx => by obtain ⟨i, hi, rfl⟩ := List.mem_iff_getElem.1 hx; exact (hl2 i hi).2.1
    have hfl := flat_cells hcells
    refine ⟨rfl, _, ⟨l, rfl, fun y hy => by obtain ⟨i, hi, rfl⟩ := List.mem_iff_getElem.1 hy; exact (hl2 i hi).1⟩, rfl, ?_⟩
    refine .list l (some a) cap 1 V (by simp only [maxLen] at hcap ⊢; omega) Nat.one_pos (fun x hx => by rw [hcells x hx]; rfl) (fun hne => ?_) (fun k hk => (hall k (by omega)).1) (fun k y hy => ?_) (by omega)
    · obtain ⟨b, off, spot⟩ := a
      have hpos : 0 < l.length := List.length_pos_iff.2 hne
      have hc1 := (hx 0 (by omega)).1
      have hspot : spot = none := by simpa [Addr.add] using World.cell?_spot hc1
      subst hspot
      have hadd : ∀ i, (⟨b, off, none⟩ : Addr).add i = ⟨b, off + i, none⟩ := fun i => by unfold Addr.add; split <;> simp_all
      refine ⟨b, off, rfl, ?_, fun k hk => ?_⟩
      · rw [hadd] at hc1; exact cell_lt hc1
      · have := (hx k (by omega)).1
        rw [hadd] at this; exact this
    · rw [hfl] at hy
      obtain ⟨hk, rfl⟩ := List.getElem?_eq_some_iff.1 hy
      exact (hl2 k hk).2.2
theorem allMap {α : Type} {f : α → Go.Proofs.YtfhncnhkeodngaaDoor.T} {Q : α → Prop} : ∀ {l : List Go.Proofs.YtfhncnhkeodngaaDoor.T}, (∀ y ∈ l, ∃ a, y = f a ∧ Q a) → ∃ q : List α, l = q.map f ∧ ∀ a ∈ q, Q a
  | [], _ => ⟨[], rfl, fun a ha => by simp at ha⟩
  | x :: t, h => by
    obtain ⟨a, rfl, ha⟩ := h x List.mem_cons_self
    obtain ⟨q, rfl, hq⟩ := allMap fun y hy => h y (List.mem_cons_of_mem _ hy)
    exact ⟨a :: q, rfl, fun b hb => by
      rcases List.mem_cons.1 hb with rfl | hb
      · exact ha
      · exact hq b hb⟩
theorem opensT_ints {T : TypeId} (h : OpensT enc w sp held T fun x => ∃ l, x = .list l ∧ ∀ y ∈ l, ∃ n, y = tInt n ∧ I64 n) : OpensT enc w sp held T fun x => ∃ l, x = tInts l ∧ I64s l := fun n v y hy => by
  obtain ⟨h1, x, ⟨l, rfl, hl⟩, h2, h3⟩ := h n v y hy
  obtain ⟨q, rfl, hq⟩ := allMap hl
  exact ⟨h1, _, ⟨q, rfl, hq⟩, rfl, h3⟩
theorem opensIntsT : OpensT enc w sp held 22 fun x => ∃ l, x = tInts l ∧ I64s l := opensT_ints (opensT_slice Tryd.underlying22 (by kernel_rfl) (opensT_int Tryd.underlying3))
theorem opensIntssT : OpensT enc w sp held 35 fun x => ∃ l, x = tIntss l ∧ ∀ r ∈ l, I64s r := fun n v y hy => by
  obtain ⟨h1, x, ⟨l, rfl, hl⟩, h2, h3⟩ := opensT_slice Tryd.underlying35 (by kernel_rfl) opensIntsT n v y hy
  obtain ⟨q, rfl, hq⟩ := allMap hl
  exact ⟨h1, _, ⟨q, rfl, hq⟩, rfl, h3⟩
/-- An argument that reads as a list of numbers. -/
def ReadsInts (w : World) (v : Value) (l : List Int) : Prop := I64s l ∧ RepT (· < w.heap.size) w (tInts l) v
theorem openIntsT {v : Value} (hv : v.cells = #[v]) {d : DataW H} {p : List MemPlace} (hd : DataW.Trod enc Tryd.prog w 0 sp held 22 v d p) : ∃ l, ReadsInts w v l := by
  obtain ⟨n, hn⟩ := hd
  rw [hv] at hn
  obtain ⟨_, x, ⟨l, rfl, hl⟩, _, h3⟩ := opensIntsT n v _ hn
  exact ⟨l, hl, h3⟩
end
theorem walkN {P : Program} {G : World → Prop} {f : Nat} {xs : List T} {w : World} {vs : Array Value} (h : Snd P G f xs (.bool true)) (hG : G w) (hl : vs.size = xs.length) (hx : ∀ (k : Nat) (y : T) (v : Value), xs[k]? = some y → vs[k]? = some v → RepT (· < w.heap.size) w y v) : Calls P f vs w (Ret (.bool true) w) :=
  (h.calls (· < w.heap.size) w vs hG hl hx).mono fun e w' hq => by obtain ⟨u, h1, h2, h3⟩ := hq; cases h2; exact ⟨h1, h3⟩
end Go.Proofs.YtfhncnhkeodngaaDoor
namespace Go.Proofs.YtfhncnhkeodngaaDoor
open Go.ChangeShapes Go.WideShapes Go.ChangeAt Go.RowKit Go.Joins Go.Deep

section
variable {H : Type} {enc : TypeId × Value → H} {w : World} {sp : Nat → Bool} {held : Bool}
set_option maxRecDepth 100000 in
theorem openAggT {base : Nat} {t : TypeId} {fs : Array Field} {v : Value} {d : DataW H} {p : List MemPlace} (hs : Tryd.prog.underlying t = some (.struct fs)) (hone : oneCellFields Tryd.prog fs = true) (hC : Tryd.prog.cellsOf t = fs.size)
    (Qs : List (Go.Proofs.YtfhncnhkeodngaaDoor.T → Prop)) (hF : ∀ (k : Nat) (f : Field), fs[k]? = some f → ∃ Q, Qs[k]? = some Q ∧ OpensT enc w sp held f.type Q) (hv : Value.okWide Tryd.prog w .any base t v) (h : DataW.Trod enc Tryd.prog w 0 sp held t v d p) :
    ∃ xs : List Go.Proofs.YtfhncnhkeodngaaDoor.T, xs.length = fs.size ∧ (∀ (k : Nat) x Q, xs[k]? = some x → Qs[k]? = some Q → Q x) ∧ RepT (· < w.heap.size) w (.agg xs) v := by
  obtain ⟨cs, rfl, hsz⟩ := okWide_struct hs hv
  obtain ⟨fuel, hf⟩ := h
  obtain ⟨ys, n, _, _, hl, hlen, hg⟩ := DataW.trod_struct hs hf
  have hcell : ∀ k, k < fs.size → ∃ x Q, Qs[k]? = some Q ∧ Q x ∧ ∃ u, cs[k]? = some u ∧ u.oneCell' = true ∧ RepT (· < w.heap.size) w x u := fun k hk => by
    have hfk : fs[k]? = some fs[k] := Array.getElem?_eq_getElem hk
    obtain ⟨Q, hQ, hO⟩ := hF k _ hfk
    obtain ⟨o, c⟩ := hone_of hone k _ hfk
    have hg2 := hg k _ hfk
    have hkc : k < cs.size := by omega
    have hy : k < ys.length := by omega
    have e : ((Value.agg cs).cells.toList.drop fs[k].offset).take (Tryd.prog.cellsOf fs[k].type) = [cs[k]] := by
      rw [o, c]
      show (cs.toList.drop k).take 1 = [cs[k]]
      rw [List.drop_eq_getElem_cons (by simpa using hkc)]
      simp
    rw [e] at hg2
    obtain ⟨h1, x, hx1, _, hx2⟩ := hO _ _ _ (hg2.trans (List.getElem?_eq_getElem hy))
    exact ⟨x, Q, hQ, hx1, cs[k], Array.getElem?_eq_getElem hkc, h1, hx2⟩
  have key : ∀ k, k ≤ fs.size → ∃ l : List Go.Proofs.YtfhncnhkeodngaaDoor.T, l.length = k ∧ ∀ i (hi : i < l.length), ∃ Q, Qs[i]? = some Q ∧ Q l[i] ∧ ∃ u, cs[i]? = some u ∧ u.oneCell' = true ∧ RepT (· < w.heap.size) w l[i] u := by
    intro k
    induction k with
    | zero => intro _; exact ⟨[], rfl, fun i hi => absurd hi (by simp)⟩
    | succ k ih =>
      intro hk
      obtain ⟨l, hl1, hl2⟩ := ih (by omega)
      obtain ⟨x, Q, q1, q2, q3⟩ := hcell k (by omega)
      refine ⟨l ++ [x], by simp [hl1], fun i hi => ?_⟩
      rw [List.getElem_append]
      split
      · exact hl2 i ‹_›
      · obtain rfl : i = k := by simp at hi; omega
        simpa using ⟨Q, q1, q2, q3⟩
  obtain ⟨l, hl1, hl2⟩ := key fs.size (Nat.le_refl _)
  refine ⟨l, hl1, fun k x Q hx hQ => ?_, .agg _ _ (by omega) (fun k u hu => ?_) fun k y u hy hu => ?_⟩
  · obtain ⟨hk, rfl⟩ := List.getElem?_eq_some_iff.1 hx
    obtain ⟨Q', q1, q2, _⟩ := hl2 k hk
    rw [hQ] at q1; cases q1; exact q2
  · have hk := (Array.getElem?_eq_some_iff.1 hu).1
    obtain ⟨_, _, _, u', h1, h2, _⟩ := hl2 k (by omega)
    rw [hu] at h1; cases h1; exact h2
  · obtain ⟨hk, rfl⟩ := List.getElem?_eq_some_iff.1 hy
    obtain ⟨_, _, _, u', h1, _, h3⟩ := hl2 k hk
    rw [hu] at h1; cases h1; exact h3
end
end Go.Proofs.YtfhncnhkeodngaaDoor
namespace Go.Proofs.YtfhncnhkeodngaaDoor
open Go.RowKit

section
variable {G : World → Prop} (hG : Lasting G)
include hG
end
end Go.Proofs.YtfhncnhkeodngaaDoor
namespace Go.Proofs.YtfhncnhkeodngaaDoor
open Go.RowKit
set_option maxHeartbeats 4000000 in
theorem CountEvals_snd (r : GRep) (l : List Int) : Snd Tryd.prog errCell 3 [tRep r, tInts l] (.bool true) := by
  have hG := errCell_lasting
  have c1 := EvalRep_snd (G := errCell) hG r l
  have c2 := Eval_snd (G := errCell) hG r l
  have cE := Error_snd (evErr r l) (evErr r l)
  simp only [beq_self_eq_true] at cE
  generalize evErr r l = er at *
  generalize evVal r l = va at *
  refine snd_of_body (n := 31) (tm := [(0, .t (tRep r)), (1, .t (tInts l))]) (rs := [.tmp 4]) tt_ok Tryd.func3 rfl rfl rfl rfl rfl ?_
  by_cases h : er = 0
  · subst h
    have htb := Tab.cons c1 (Tab.cons c2 (Tab.cons cE Tab.nil))
    repeat' (first | (with_reducible first | refine SW_seq ?_ | refine SW_block ?_ | refine SThen_n ?_ | refine SThen_r ?_ | refine SThen_e ?_ | refine SIn_n ?_ | refine SIn_r ?_ | refine SIn_eq ?_ | refine SW_skip ?_ | refine SW_exit ?_ | refine SW_ret ?_ | refine SPost_r ?_) | ((with_reducible refine SIn_ne ?_ ?_); focus decide) | ((with_reducible refine SW_true ?_ ?_); focus exact rfl) | ((with_reducible refine SW_false ?_ ?_); focus exact rfl) | ((first | (with_reducible apply SW_run tt_ok hG htb) | ((with_reducible apply SW_draw rfl tt_ok hG htb); (focus kernel_rfl); (focus (simp only [List.range, List.range.loop, List.size_toArray, List.length_cons, List.length_nil, Nat.reduceAdd])))); focus ((repeat' (first | (with_reducible exact runX_nil) | (with_reducible exact runI_nil) | ((first | (with_reducible apply runX_cons) | (with_reducible apply runI_cons)); focus (simp (discharger := omega) only [go_sem, tRep, tErr, ↓reduceIte, reduceIte, Nat.reduceEqDiff, Nat.reduceLT, Nat.reduceLeDiff, Nat.reduceAdd, Nat.reduceSub, Nat.reduceMul, Nat.reduceDiv, Nat.reduceMod, Nat.reduceBEq, Int.reduceEq, Int.reduceLT, Int.reduceLE, Int.reduceNeg, Int.reduceToNat, reduceCtorEq]; with_reducible rfl)))); done)))
    exact (by simp (discharger := omega) only [go_sem, ↓reduceIte, reduceIte, Nat.reduceEqDiff, Nat.reduceLT, Nat.reduceLeDiff, Nat.reduceAdd, Nat.reduceSub, Nat.reduceMul, Nat.reduceDiv, Nat.reduceMod, Nat.reduceBEq, Int.reduceEq, Int.reduceLT, Int.reduceLE, Int.reduceNeg, Int.reduceToNat, reduceCtorEq])
  · have htb := Tab.cons c1 (Tab.cons c2 (Tab.cons cE Tab.nil))
    repeat' (first | (with_reducible first | refine SW_seq ?_ | refine SW_block ?_ | refine SThen_n ?_ | refine SThen_r ?_ | refine SThen_e ?_ | refine SIn_n ?_ | refine SIn_r ?_ | refine SIn_eq ?_ | refine SW_skip ?_ | refine SW_exit ?_ | refine SW_ret ?_ | refine SPost_r ?_) | ((with_reducible refine SIn_ne ?_ ?_); focus decide) | ((with_reducible refine SW_true ?_ ?_); focus exact rfl) | ((with_reducible refine SW_false ?_ ?_); focus exact rfl) | ((first | (with_reducible apply SW_run tt_ok hG htb) | ((with_reducible apply SW_draw rfl tt_ok hG htb); (focus kernel_rfl); (focus (simp only [List.range, List.range.loop, List.size_toArray, List.length_cons, List.length_nil, Nat.reduceAdd])))); focus ((repeat' (first | (with_reducible exact runX_nil) | (with_reducible exact runI_nil) | ((first | (with_reducible apply runX_cons) | (with_reducible apply runI_cons)); focus (simp (discharger := omega) only [go_sem, tRep, tErr, h, ↓reduceIte, reduceIte, Nat.reduceEqDiff, Nat.reduceLT, Nat.reduceLeDiff, Nat.reduceAdd, Nat.reduceSub, Nat.reduceMul, Nat.reduceDiv, Nat.reduceMod, Nat.reduceBEq, Int.reduceEq, Int.reduceLT, Int.reduceLE, Int.reduceNeg, Int.reduceToNat, reduceCtorEq]; with_reducible rfl)))); done)))
    exact (by simp (discharger := omega) only [go_sem, ↓reduceIte, reduceIte, Nat.reduceEqDiff, Nat.reduceLT, Nat.reduceLeDiff, Nat.reduceAdd, Nat.reduceSub, Nat.reduceMul, Nat.reduceDiv, Nat.reduceMod, Nat.reduceBEq, Int.reduceEq, Int.reduceLT, Int.reduceLE, Int.reduceNeg, Int.reduceToNat, reduceCtorEq])
def ReadsRep (w : World) (v : Value) (r : GRep) : Prop := RepT (· < w.heap.size) w (tRep r) v
section
variable {H : Type} {enc : TypeId × Value → H} {w : World} {sp : Nat → Bool} {held : Bool}
open Go.ChangeShapes Go.WideShapes Go.ChangeAt Go.RowKit Go.Joins Go.Deep
theorem opensIntsssT : OpensT enc w sp held 23 fun x => ∃ l : List (List (List Int)), x = .list (l.map tIntss) := fun n v y hy => by
  obtain ⟨h1, x, ⟨l, rfl, hl⟩, h2, h3⟩ := opensT_slice Tryd.underlying23 (by kernel_rfl) opensIntssT n v y hy
  obtain ⟨q, rfl, hq⟩ := allMap hl
  exact ⟨h1, _, ⟨q, rfl⟩, rfl, h3⟩
set_option maxRecDepth 100000 in
theorem openRepT {base : Nat} {v : Value} {d : DataW H} {p : List MemPlace} (hv : Value.okWide Tryd.prog w .any base 25 v) (h : DataW.Trod enc Tryd.prog w 0 sp held 25 v d p) : ∃ o : GRep, ReadsRep w v o := by
  obtain ⟨xs, hl, hx, hr⟩ := openAggT Tryd.underlying25 (by kernel_rfl) (by kernel_rfl)
    [fun x => ∃ n, x = tInt n ∧ I64 n, fun x => ∃ n, x = tInt n ∧ I64 n, fun x => ∃ l, x = tInts l ∧ I64s l, fun x => ∃ l : List (List (List Int)), x = .list (l.map tIntss), fun x => ∃ l, x = tInts l ∧ I64s l]
    (fun k f hf => by
      match k, hf with
      | 0, hf => cases hf; exact ⟨_, rfl, opensT_int Tryd.underlying3⟩
      | 1, hf => cases hf; exact ⟨_, rfl, opensT_int Tryd.underlying3⟩
      | 2, hf => cases hf; exact ⟨_, rfl, opensIntsT⟩
      | 3, hf => cases hf; exact ⟨_, rfl, opensIntsssT⟩
      | 4, hf => cases hf; exact ⟨_, rfl, opensIntsT⟩) hv h
  match xs, hl with
  | [x, y, z, u, t], _ =>
    obtain ⟨a, rfl, _⟩ := hx 0 x _ rfl rfl
    obtain ⟨b, rfl, _⟩ := hx 1 y _ rfl rfl
    obtain ⟨c, rfl, _⟩ := hx 2 z _ rfl rfl
    obtain ⟨e, rfl⟩ := hx 3 u _ rfl rfl
    obtain ⟨f, rfl, _⟩ := hx 4 t _ rfl rfl
    exact ⟨⟨a, b, c, e, f⟩, hr⟩
end
theorem CountEvals_walk (v : Value) (r : GRep) (u : Value) (l : List Int) (w : World) (h : ReadsRep w v r) (h' : ReadsInts w u l) (hg : errCell w) : Calls Tryd.prog 3 #[v, u] w (Ret (.bool true) w) :=
  walkN (CountEvals_snd r l) hg rfl fun k y z p q => by
    match k, p, q with
    | 0, p, q => cases p; cases q; exact h
    | 1, p, q => cases p; cases q; exact h'.2
end Go.Proofs.YtfhncnhkeodngaaDoor
namespace Go.Proofs.YtfhncnhkeodngaaDoor.countEvals
open Go.ChangeShapes Go.WideShapes Go.ChangeAt Go.RowKit

set_option maxRecDepth 100000 in
theorem lifted (os : Os) (started : os.Started) (H : Type) (enc : TypeId × Value → H) :
    ReturnsInHanded {} Tryd.checked os 3 .any (fun w args => (Rows.countEvalsSpec.pre enc Tryd.prog Tryd.f3 [] false w args ∧ laidMetH Tryd.prog laidL w) ∧ sizedMet enc Tryd.prog Tryd.f3 (OpenSpec.ofChange Rows.countEvalsSpec) false w args)
      (Rows.countEvalsSpec.post enc Tryd.prog Tryd.f3 false true false false) := by
  refine returnsInHanded_of_change_and (C := Tryd.checked) (X := fun w _ => laidMetH Tryd.prog laidL w) (fun _ _ _ hh h => h.of_heap hh) own started (by kernel_rfl) Tryd.func3
    (ChangeSpec.witness_at (enc := enc) (C := Tryd.checked) (os := os) (X := fun w _ => laidMetH Tryd.prog laidL w) false (laidWorld os) #[.agg #[.int .i64 0, .int .i64 0, .slice none 0 0, .slice none 0 0, .slice none 0 0], .slice none 0 0] 8 rfl (by kernel_rfl) (by kernel_rfl) (by kernel_rfl) (by kernel_rfl) (by kernel_rfl) (laidWorld_met os _)) ?_
  intro W base args ds gs before hval0 hW _ _ hL _
  have hval : ∀ (j : Nat) t v, Tryd.f3.params[j]? = some t → args[j]? = some v → Value.okWide Tryd.prog W .any base t v := hval0
  have hW' := hW
  obtain ⟨p, q, hA0, hV, rfl, hfz, hnd⟩ := hW
  have hA : DataW.TrodAll enc Tryd.prog W 0 (fun _ => true) true Tryd.f3.params.toList args.toList ds p := hA0
  rw [Tryd.params3] at hA hval
  obtain ⟨v0, vs0, d0, ds0, p0, q0, hargs, rfl, rfl, h0, r0⟩ := trodAll_cons hA
  obtain ⟨v1, vs1, d1, ds1, p1, q1, rfl, rfl, rfl, h1, r1⟩ := trodAll_cons r0
  obtain ⟨rfl, rfl, rfl⟩ := trodAll_nil r1
  obtain rfl : args = #[v0, v1] := by cases args; simp_all
  obtain ⟨rfl, rfl⟩ := trodVars_none hV
  have k0 := h0
  have lt0 : ∀ x ∈ p0, x.block < W.heap.size := by obtain ⟨m, hm⟩ := k0; exact DataW.trod_lt m _ _ _ hm
  obtain ⟨a0, w0⟩ := openRepT (hval 0 25 v0 rfl rfl) h0
  obtain ⟨b1, len1, cap1, rfl⟩ := okWide_slice Tryd.underlying22 (hval 1 22 v1 rfl rfl)
  have k1 := h1
  have lt1 : ∀ x ∈ p1, x.block < W.heap.size := by obtain ⟨m, hm⟩ := k1; exact DataW.trod_lt m _ _ _ hm
  obtain ⟨a1, w1⟩ := openIntsT rfl h1
  clear hA0 hval0
  refine (CountEvals_walk _ a0 _ a1 W w0 w1 (handle_of_laid hL)).mono fun e W' ⟨he, bel⟩ => ?_
  subst he
  exact ⟨_, rfl, _, _, _, [], _, [], hW', trodAll_mk1 (shut_bool Tryd.underlying4 _), (trodAll_cons_mk (Below.trod laidOut (by kernel_rfl) (of_decide_eq_true (by kernel_rfl)) k0 bel lt0) (trodAll_cons_mk (Below.trod laidOut (by kernel_rfl) (of_decide_eq_true (by kernel_rfl)) k1 bel lt1) trodAll_mk0)), rfl, bel.frame _, fun h => by cases h⟩

theorem over : Rows.countEvalsRow.holds Tryd.pinned (OpenSpec.ofChange Rows.countEvalsSpec) :=
  OpenClaim.holds_of_wide 3 Tryd.f3 rfl rfl rfl rfl rfl rfl rfl ⟨rfl, rfl, rfl, rfl, rfl⟩ rfl rfl rfl rfl rfl (by kernel_rfl) Tryd.func3 (by kernel_rfl)
    (of_decide_eq_true (by kernel_rfl)) (by unfold Func.isWrapper; first | (rw [if_pos (by decide +kernel)]; kernel_rfl) | (rw [if_neg (by decide +kernel)]; exact ⟨rfl, rfl⟩))
    (fun os started H enc _ => lifted os started H enc)

theorem said : Rows.CountEvalsSaid := over
theorem plain (f : FuncId) (fn : Func) (hf : Tryd.pinned.checked.prog.funcNamed "filbert/filbertlaw4.CountEvals" = some f) (hfn : Tryd.pinned.checked.prog.funcs[f]? = some fn) :
    true = Tryd.pinned.checked.prog.looks [] ∧ ∀ (j : Nat) t, fn.params[j]? = some t → Tryd.pinned.checked.prog.wantsStandIn t = false := by
  obtain rfl : f = 3 := Option.some.inj ((show Tryd.prog.funcNamed "filbert/filbertlaw4.CountEvals" = some 3 by kernel_rfl).symm.trans hf) |>.symm
  obtain rfl : fn = Tryd.f3 := (Option.some.inj (Tryd.func3.symm.trans hfn)).symm
  refine ⟨by kernel_rfl, fun j t ht => ?_⟩
  have hall : (Tryd.f3.params.toList.all fun t => !(Tryd.prog.wantsStandIn t)) = true := by kernel_rfl
  have := List.all_eq_true.1 hall t (Array.mem_toList_iff.2 (Array.mem_of_getElem? ht))
  exact (show Tryd.prog.wantsStandIn t = false by simpa using this)

/-- THE STATEMENT: THE CARD. -/
theorem proved : Rows.CountEvalsCardSaid :=
  Claim7.holds_tied_plain_at .later [] _ _ _ _ said (fun _ h => by cases h) (by kernel_rfl) (fun _ h => by cases h) countEvals_row_tie rfl ⟨rfl, rfl⟩ (by kernel_rfl) rfl plain (by kernel_rfl)
#print axioms proved
end Go.Proofs.YtfhncnhkeodngaaDoor.countEvals
