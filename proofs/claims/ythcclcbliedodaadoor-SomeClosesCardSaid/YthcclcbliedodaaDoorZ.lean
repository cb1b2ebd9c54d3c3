/- The law SomeCloses returns true at every input and leaves its arguments as they read; the card ties the variable that errors.As reads. No conditions. -/
import Derived.Test.YthcclcbliedodaaDoorM5
set_option linter.unusedSimpArgs false
set_option linter.unusedVariables false
set_option linter.unnecessarySimpa false
set_option linter.unusedSectionVars false
namespace Go.Proofs.YthcclcbliedodaaDoor
open Go.RowKit

def autoP (a : GAuto) : T := .ptr [.int .i64 a.base, .int .i64 a.tracks, tIntss a.next, tBools a.ends]
def stepF (next : List (List Int)) (s : List Int) (l : Nat) : List Int := s.map fun x => nx next x l
theorem stepF_in {n m : Nat} {next : List (List Int)} (h : Rows0 n m next) {s : List Int} (hs : Inm m s) {l : Nat} (hl : l < n) : Inm m (stepF next s l) := fun x hx => by
  obtain ⟨y, hy, rfl⟩ := List.mem_map.1 hx
  exact nx_ok h (hs y hy) hl
section
variable {G : World → Prop} (hG : Lasting G)
include hG
set_option maxHeartbeats 8000000 in
set_option maxRecDepth 100000 in
theorem CloseStep_snd {a : GAuto} {n m : Nat} (h : Rows0 n m a.next) (s : List Int) (hs : Inm m s) (hsl : s.length ≤ 1000) (l : Nat) (hl : l < n) :
    SndG Tryd.prog G 48 ([.t (tInts s), .t (tNat l)] ++ [autoP a].map .t) [] [] (.sref 0) [.row 3 1 true (iL (stepF a.next s l))] := by
  refine sndG_of_body tt_ok Tryd.func48 rfl rfl (n := 28) rfl (rs := [.tmp 5]) rfl (Nat.zero_le _) [] (fun i l h => by simp at h) (fun i hi => by simp at hi) fun bs => ?_
  show SW _ _ _ _ ⟨28, [(0, .t (tInts s)), (1, .t (tNat l)), (2, .t (autoP a))], []⟩
  have htb : Tab.ok Tryd.prog G [] := Tab.nil
  have hnl := h.len
  repeat' (first | (with_reducible first | apply w1 | apply w2 | apply w3 | apply w4 | apply w5 | apply w6 | apply w7 | apply w8 | apply w9 | apply wa | apply wb | apply wc) | ((with_reducible apply wd); focus decide) | ((with_reducible apply we); focus exact rfl) | ((with_reducible apply wf); focus exact rfl) | ((first | (with_reducible apply SW_run tt_ok hG htb) | ((with_reducible apply SW_draw rfl tt_ok hG htb); (focus kernel_rfl); focus simp only [List.range, List.range.loop, List.size_toArray, List.length_cons, List.length_nil, Nat.reduceAdd])); focus ((repeat' (first | (with_reducible first | exact wg | exact wh) | ((with_reducible first | apply wi | apply wj); focus (simp (discharger := omega) only [go_sem, simprocAttr]; with_reducible rfl)))); done)))
  refine SW_loop (fun mm st => ∃ (i : Nat) (os : List T), mm = s.length - i ∧ st = ⟨28, [(1, .t (tNat l)), (2, .t (autoP a)), (6, .sref 0), (9, .t (tInts s)), (10, .t (tNat s.length)), (11, .t (tNat i))], [.row 3 1 true os]⟩ ∧ i ≤ s.length ∧ os = iL (stepF a.next (s.take i) l)) s.length
    ⟨_, Norm.headS (own := [(6, 3, 1, true)]) (keep := [1, 2, 6, 9, 10, 11]) (by refine ⟨?_, ?_⟩; (simp (discharger := omega) only [go_sem, simprocAttr]; with_reducible rfl); refine ⟨?_, ?_, ?_, ?_⟩ <;> (simp only [go_sem, simprocAttr]; with_reducible rfl)), 0, _, rfl, rfl, Nat.zero_le _, rfl⟩ ?_
  rintro mm st ⟨i, os, rfl, rfl, hi, hos⟩
  have hol : os.length = i := by rw [hos, iL_length]; simp [stepF]; omega
  by_cases hlt : i < s.length
  · obtain ⟨x, hx⟩ : ∃ x, s[i]! = x := ⟨_, rfl⟩
    have hg := bang_get hx hlt
    have hxb := hs x (List.mem_of_getElem? hg)
    obtain ⟨row, hrow⟩ : ∃ row, a.next[x.toNat]! = row := ⟨_, rfl⟩
    have hrl := h.row row (bang_mem hrow (by omega))
    obtain ⟨t, ht⟩ : ∃ t, row[l]! = t := ⟨_, rfl⟩
    have hnx : nx a.next x l = t := by unfold nx rowOf; rw [bang_D hrow (by omega), bang_D ht (by omega)]
    have htk : s.take (i + 1) = s.take i ++ [x] := by
      rw [List.take_succ_eq_append_getElem hlt]
      obtain ⟨q1, q2⟩ := List.getElem?_eq_some_iff.1 hg
      rw [q2]
    have hos2 : iL (stepF a.next (s.take (i + 1)) l) = os ++ [.int .i64 t] := by rw [htk, hos]; simp [stepF, iL, hnx]
    repeat' (first | (with_reducible first | apply w1 | apply w2 | apply w3 | apply w4 | apply w5 | apply w6 | apply w7 | apply w8 | apply w9 | apply wa | apply wb | apply wc) | ((with_reducible apply wd); focus decide) | ((with_reducible apply we); focus exact rfl) | ((with_reducible apply wf); focus exact rfl) | ((first | (with_reducible apply SW_run tt_ok hG htb) | ((with_reducible apply SW_draw rfl tt_ok hG htb); (focus kernel_rfl); focus simp only [List.range, List.range.loop, List.size_toArray, List.length_cons, List.length_nil, Nat.reduceAdd])); focus ((repeat' (first | (with_reducible first | exact wg | exact wh) | ((with_reducible first | apply wi | apply wj); focus (simp (discharger := omega) only [go_sem, hx, hrow, ht, hrl, autoP, simprocAttr]; with_reducible rfl)))); done)))
    exact ⟨s.length - (i + 1), _, by omega, Norm.headS (own := []) (keep := [1, 2, 6, 9, 10, 11]) (by refine ⟨?_, ?_⟩; (simp (discharger := omega) only [go_sem, simprocAttr]; with_reducible rfl); refine ⟨?_, ?_, ?_, ?_⟩ <;> (simp only [go_sem, simprocAttr]; with_reducible rfl)), i + 1, _, rfl, rfl, by omega, hos2.symm⟩
  · obtain rfl : i = s.length := by omega
    rw [List.take_length] at hos
    rw [← hos]
    repeat' (first | (with_reducible first | apply w1 | apply w2 | apply w3 | apply w4 | apply w5 | apply w6 | apply w7 | apply w8 | apply w9 | apply wa | apply wb | apply wc) | ((with_reducible apply wd); focus decide) | ((with_reducible apply we); focus exact rfl) | ((with_reducible apply wf); focus exact rfl) | ((first | (with_reducible apply SW_run tt_ok hG htb) | ((with_reducible apply SW_draw rfl tt_ok hG htb); (focus kernel_rfl); focus simp only [List.range, List.range.loop, List.size_toArray, List.length_cons, List.length_nil, Nat.reduceAdd])); focus ((repeat' (first | (with_reducible first | exact wg | exact wh) | ((with_reducible first | apply wi | apply wj); focus (simp (discharger := omega) only [go_sem, simprocAttr]; with_reducible rfl)))); done)))
    refine SPostG_norm (Norm.headS (own := []) (keep := [5]) (by refine ⟨?_, ?_⟩; (simp (discharger := omega) only [go_sem, simprocAttr]; with_reducible rfl); refine ⟨?_, ?_, ?_, ?_⟩ <;> (simp only [go_sem, simprocAttr]; with_reducible rfl))) ?_
    exact SPostG_r (Norm.refl _) rfl rfl (fun i hi => by simp at hi)
theorem CloseEnd_snd {a : GAuto} {m : Nat} (h : a.ends.length = m) (x : Int) (hx : 0 ≤ x ∧ x < (m : Int)) : Snd Tryd.prog G 49 ([tInt x] ++ [autoP a]) (.bool (endOf a.ends x)) := by
  have htb : Tab.ok Tryd.prog G [] := Tab.nil
  refine snd_of_body (n := 9) (tm := [(0, .t (tInt x)), (1, .t (autoP a))]) (rs := [.tmp 3]) tt_ok Tryd.func49 rfl rfl rfl rfl rfl ?_
  obtain ⟨b, hb⟩ : ∃ b, a.ends[x.toNat]! = b := ⟨_, rfl⟩
  have he : endOf a.ends x = b := by unfold endOf; exact bang_D hb (by omega)
  rw [he]
  repeat' (first | (with_reducible first | apply w1 | apply w2 | apply w3 | apply w4 | apply w5 | apply w6 | apply w7 | apply w8 | apply w9 | apply wa | apply wb | apply wc) | ((with_reducible apply wd); focus decide) | ((with_reducible apply we); focus exact rfl) | ((with_reducible apply wf); focus exact rfl) | ((first | (with_reducible apply SW_run tt_ok hG htb) | ((with_reducible apply SW_draw rfl tt_ok hG htb); (focus kernel_rfl); focus simp only [List.range, List.range.loop, List.size_toArray, List.length_cons, List.length_nil, Nat.reduceAdd])); focus ((repeat' (first | (with_reducible first | exact wg | exact wh) | ((with_reducible first | apply wi | apply wj); focus (simp (discharger := omega) only [go_sem, autoP, hb, simprocAttr]; with_reducible rfl)))); done)))
  exact (by simp (discharger := omega) only [go_sem, simprocAttr])
theorem closure_lit {a : GAuto} {n m : Nat} (h : Rows0 n m a.next) (hm : 0 < m) (hm80 : m ≤ 80) {letters : List Int} (hl : ∀ l ∈ letters, 0 ≤ l ∧ l < (n : Int)) :
    SndG Tryd.prog G 47 [.t (tAuto a), .lit (iL letters)] [] [] (.sref 0) [.row 3 1 true (iL (closeL a letters))] :=
  (closure_snd hG h hm hm80 hl).weak rfl fun S w hd k x x' v h1 h2 h3 => by
    match k, h1, h2 with
    | 0, h1, h2 => cases h1; cases h2; exact h3
    | 1, h1, h2 => cases h1; cases h2; exact h3.litT
end
end Go.Proofs.YthcclcbliedodaaDoor
namespace Go.Proofs.YthcclcbliedodaaDoor
open Go.RowKit

section
variable {σ : Type} [DecidableEq σ] {δ δ' : σ → Nat → σ} {n : Nat} {s0 : σ} {p : σ → Prop}
theorem partS_cong {met : List σ} {s : σ} : ∀ l, (∀ j, j < l → δ s j = δ' s j) → partS δ met s l = partS δ' met s l
  | 0, _ => rfl
  | l + 1, h => by
    show addS (partS δ met s l) (δ s l) = addS (partS δ' met s l) (δ' s l)
    rw [partS_cong l fun j hj => h j (by omega), h l (by omega)]
theorem growS_cong (h0 : p s0) (hp : ∀ s l, l < n → p s → p (δ s l)) (h : ∀ s l, p s → l < n → δ s l = δ' s l) : ∀ k, growS δ n s0 k = growS δ' n s0 k
  | 0 => rfl
  | k + 1 => by
    have ih := growS_cong h0 hp h k
    cases hk : (growS δ n s0 k)[k]? with
    | none =>
      rw [growS_none (List.getElem?_eq_none_iff.1 hk), growS_none (by rw [← ih]; exact List.getElem?_eq_none_iff.1 hk), ih]
    | some s =>
      have hs : p s := growS_in' h0 hp k s (List.mem_of_getElem? hk)
      rw [growS_some hk, growS_some (by rw [← ih]; exact hk), ← ih]
      exact partS_cong n fun j hj => h s j hs hj
theorem sets_cong (h0 : p s0) (hp : ∀ s l, l < n → p s → p (δ s l)) (h : ∀ s l, p s → l < n → δ s l = δ' s l) : setsOf δ n s0 = setsOf δ' n s0 ∧ setsOk δ n s0 = setsOk δ' n s0 ∧ rowsOf δ n s0 = rowsOf δ' n s0 := by
  have e : setsOf δ n s0 = setsOf δ' n s0 := growS_cong h0 hp h _
  refine ⟨e, by unfold setsOk; rw [e], ?_⟩
  have hin : ∀ s ∈ setsOf δ n s0, p s := growS_in' h0 hp _
  unfold rowsOf rowsIn
  rw [← e]
  refine List.map_congr_left fun s hs => ?_
  unfold rowIn
  refine List.map_congr_left fun j hj => ?_
  rw [h s j (hin s (List.mem_of_mem_take hs)) (List.mem_range.1 hj)]
end
section
variable {G : World → Prop} (hG : Lasting G)
include hG
set_option maxHeartbeats 4000000 in
theorem ended_ref {a : GAuto} {m : Nat} (hn : a.next.length = m) (he : a.ends.length = m) (hm80 : m ≤ 80) (s : List Int) (hs : Inm m s) : Snd Tryd.prog G 44 [tAuto a, tSet s] (.bool (s.any (endOf a.ends))) := by
  have htb0 : Tab.ok Tryd.prog G [] := Tab.nil
  have htb := htb0
  refine snd_of_body (n := 23) (tm := [(0, .t (tAuto a)), (1, .t (tSet s))]) (rs := [.tmp 4]) tt_ok Tryd.func44 rfl rfl rfl rfl rfl ?_
  repeat' (first | (with_reducible first | refine SW_seq ?_ | refine SW_block ?_ | refine SThen_n ?_ | refine SThen_r ?_ | refine SThen_e ?_ | refine SIn_n ?_ | refine SIn_r ?_ | refine SIn_eq ?_ | refine SW_skip ?_ | refine SW_exit ?_ | refine SW_ret ?_ | refine SPost_r ?_) | ((with_reducible refine SIn_ne ?_ ?_); focus decide) | ((with_reducible refine SW_true ?_ ?_); focus exact rfl) | ((with_reducible refine SW_false ?_ ?_); focus exact rfl) | ((with_reducible apply SW_run tt_ok hG htb); focus ((repeat' (first | (with_reducible exact runX_nil) | ((with_reducible apply runX_cons); focus (simp (discharger := omega) only [go_sem, tAuto, tSet, simprocAttr]; with_reducible rfl)))); done)))
  refine SW_loop (fun mm st => ∃ i : Nat, mm = m - i ∧ st = ⟨23, [(2, .bptr 0 0), (3, .bptr 1 0), (5, .t (tNat i))], [.box [.t (tInt a.base), .t (tInt a.tracks), .t (tIntss a.next), .t (tBools a.ends)], .box [.t (tNat (lowOf s)), .t (tNat (highOf s))]]⟩ ∧ i ≤ m ∧ ∀ j : Nat, j < i → ((j : Nat) : Int) ∈ s → endOf a.ends ((j : Nat) : Int) = false) m
    ⟨_, Norm.headS (own := []) (keep := [2, 3, 5]) (by refine ⟨?_, ?_⟩; (simp (discharger := omega) only [go_sem, simprocAttr]; with_reducible rfl); refine ⟨?_, ?_, ?_, ?_⟩ <;> (simp only [go_sem, simprocAttr]; with_reducible rfl)), 0, rfl, rfl, Nat.zero_le _, fun j hj => by omega⟩ ?_
  rintro mm st ⟨i, rfl, rfl, hi, hno⟩
  by_cases hlt : i < m
  · have hlt2 : ((i : Nat) : Int) < ((m : Nat) : Int) := by omega
    obtain ⟨b, hb⟩ : ∃ b, a.ends[i]! = b := ⟨_, rfl⟩
    have heb : endOf a.ends ((i : Nat) : Int) = b := by unfold endOf; exact bang_D hb (by rw [he]; simpa using hlt)
    have c1 := In_snd hG s i (by omega)
    cases b with
    | false =>
      repeat' (first | (with_reducible first | apply w1 | apply w2 | apply w3 | apply w4 | apply w5 | apply w6 | apply w7 | apply w8 | apply w9 | apply wa | apply wb | apply wc) | ((with_reducible apply wd); focus decide) | ((with_reducible apply we); focus exact rfl) | ((with_reducible apply wf); focus exact rfl) | ((first | (with_reducible apply SW_run tt_ok hG htb) | ((with_reducible apply SW_draw rfl tt_ok hG htb); (focus kernel_rfl); focus simp only [List.range, List.range.loop, List.size_toArray, List.length_cons, List.length_nil, Nat.reduceAdd])); focus ((repeat' (first | (with_reducible first | exact wg | exact wh) | ((with_reducible first | apply wi | apply wj); focus (simp (discharger := omega) only [go_sem, hlt2, hn, hb, he, simprocAttr]; with_reducible rfl)))); done)))
      exact ⟨m - (i + 1), _, by omega, Norm.headS (own := []) (keep := [2, 3, 5]) (by refine ⟨?_, ?_⟩; (simp (discharger := omega) only [go_sem, simprocAttr]; with_reducible rfl); refine ⟨?_, ?_, ?_, ?_⟩ <;> (simp only [go_sem, simprocAttr]; with_reducible rfl)), i + 1, rfl, rfl, by omega, fun j hj hjs => by
        by_cases e : j = i
        · subst e; exact heb
        · exact hno j (by omega) hjs⟩
    | true =>
      by_cases hin : ((i : Nat) : Int) ∈ s
      · rw [decide_eq_true hin] at c1
        rw [show s.any (endOf a.ends) = true from List.any_eq_true.2 ⟨_, hin, heb⟩]
        have htb := Tab.cons c1 Tab.nil
        repeat' (first | (with_reducible first | apply w1 | apply w2 | apply w3 | apply w4 | apply w5 | apply w6 | apply w7 | apply w8 | apply w9 | apply wa | apply wb | apply wc) | ((with_reducible apply wd); focus decide) | ((with_reducible apply we); focus exact rfl) | ((with_reducible apply wf); focus exact rfl) | ((first | (with_reducible apply SW_run tt_ok hG htb) | ((with_reducible apply SW_draw rfl tt_ok hG htb); (focus kernel_rfl); focus simp only [List.range, List.range.loop, List.size_toArray, List.length_cons, List.length_nil, Nat.reduceAdd])); focus ((repeat' (first | (with_reducible first | exact wg | exact wh) | ((with_reducible first | apply wi | apply wj); focus (simp (discharger := omega) only [go_sem, hlt2, hn, hb, he, tSet, simprocAttr]; with_reducible rfl)))); done)))
        exact (by simp (discharger := omega) only [go_sem, simprocAttr])
      · rw [decide_eq_false hin] at c1
        have htb := Tab.cons c1 Tab.nil
        repeat' (first | (with_reducible first | apply w1 | apply w2 | apply w3 | apply w4 | apply w5 | apply w6 | apply w7 | apply w8 | apply w9 | apply wa | apply wb | apply wc) | ((with_reducible apply wd); focus decide) | ((with_reducible apply we); focus exact rfl) | ((with_reducible apply wf); focus exact rfl) | ((first | (with_reducible apply SW_run tt_ok hG htb) | ((with_reducible apply SW_draw rfl tt_ok hG htb); (focus kernel_rfl); focus simp only [List.range, List.range.loop, List.size_toArray, List.length_cons, List.length_nil, Nat.reduceAdd])); focus ((repeat' (first | (with_reducible first | exact wg | exact wh) | ((with_reducible first | apply wi | apply wj); focus (simp (discharger := omega) only [go_sem, hlt2, hn, hb, he, tSet, simprocAttr]; with_reducible rfl)))); done)))
        exact ⟨m - (i + 1), _, by omega, Norm.headS (own := []) (keep := [2, 3, 5]) (by refine ⟨?_, ?_⟩; (simp (discharger := omega) only [go_sem, simprocAttr]; with_reducible rfl); refine ⟨?_, ?_, ?_, ?_⟩ <;> (simp only [go_sem, simprocAttr]; with_reducible rfl)), i + 1, rfl, rfl, by omega, fun j hj hjs => by
          by_cases e : j = i
          · subst e; exact (hin hjs).elim
          · exact hno j (by omega) hjs⟩
  · obtain rfl : i = m := by omega
    have hlt2 : ¬ ((i : Nat) : Int) < ((i : Nat) : Int) := by omega
    have hany : s.any (endOf a.ends) = false := by
      rw [Bool.eq_false_iff]
      intro q
      obtain ⟨x, hx, hxe⟩ := List.any_eq_true.1 q
      have hxb := hs x hx
      have := hno x.toNat (by omega) (by rw [show ((x.toNat : Nat) : Int) = x by omega]; exact hx)
      rw [show ((x.toNat : Nat) : Int) = x by omega, hxe] at this
      cases this
    rw [hany]
    repeat' (first | (with_reducible first | apply w1 | apply w2 | apply w3 | apply w4 | apply w5 | apply w6 | apply w7 | apply w8 | apply w9 | apply wa | apply wb | apply wc) | ((with_reducible apply wd); focus decide) | ((with_reducible apply we); focus exact rfl) | ((with_reducible apply wf); focus exact rfl) | ((first | (with_reducible apply SW_run tt_ok hG htb) | ((with_reducible apply SW_draw rfl tt_ok hG htb); (focus kernel_rfl); focus simp only [List.range, List.range.loop, List.size_toArray, List.length_cons, List.length_nil, Nat.reduceAdd])); focus ((repeat' (first | (with_reducible first | exact wg | exact wh) | ((with_reducible first | apply wi | apply wj); focus (simp (discharger := omega) only [go_sem, hlt2, hn, simprocAttr]; with_reducible rfl)))); done)))
    exact (by simp (discharger := omega) only [go_sem, simprocAttr])
end
end Go.Proofs.YthcclcbliedodaaDoor
namespace Go.Proofs.YthcclcbliedodaaDoor
open Go.RowKit

section
variable {G : World → Prop} (hG : Lasting G)
include hG
end
end Go.Proofs.YthcclcbliedodaaDoor
namespace Go.Proofs.YthcclcbliedodaaDoor
open Go.RowKit

section
variable {G : World → Prop} (hG : Lasting G)
include hG
end
end Go.Proofs.YthcclcbliedodaaDoor
namespace Go.Proofs.YthcclcbliedodaaDoor
open Go.RowKit

section
variable {G : World → Prop} (hG : Lasting G)
include hG
end
end Go.Proofs.YthcclcbliedodaaDoor
namespace Go.Proofs.YthcclcbliedodaaDoor
open Go.RowKit

section
variable {G : World → Prop} (hG : Lasting G)
include hG
end
end Go.Proofs.YthcclcbliedodaaDoor
namespace Go.Proofs.YthcclcbliedodaaDoor

/-- The language of an automaton. -/
def lng (a : GAuto) : List Nat → Bool := lang a.next a.ends 0
/-- It is the least automaton of a language. -/
structure IsLeast (a : GAuto) (n : Nat) (base tracks : Int) (L : List Nat → Bool) : Prop where
  base : a.base = base
  tracks : a.tracks = tracks
  least : Least n a.next a.ends L
theorem IsLeast.unique {a b : GAuto} {n : Nat} {base tracks : Int} {L L' : List Nat → Bool} (h : IsLeast a n base tracks L) (h' : IsLeast b n base tracks L') (hL : ∀ w, Ltr n w → L w = L' w) : a = b := by
  have := (h.least.lang_congr hL).unique h'.least
  cases a; cases b
  simp only [GAuto.mk.injEq]
  exact ⟨h.base.trans h'.base.symm, h.tracks.trans h'.tracks.symm, this.1, this.2⟩
theorem Least.length_pos {n : Nat} {N : List (List Int)} {E : List Bool} {L : List Nat → Bool} (h : Least n N E L) : 0 < N.length := h.canon.m0
theorem IsLeast.good {a a0 : GAuto} {n m : Nat} {L : List Nat → Bool} (g : Good a0 n m) (h : IsLeast a n a0.base a0.tracks L) (h80 : a.next.length ≤ 80) : Good a n a.next.length :=
  ⟨by rw [h.base, h.tracks]; exact g.many, by rw [h.base, h.tracks]; exact g.n_eq, g.n0, g.n36, h.least.length_pos, h80, h.least.len, h.least.rows⟩
theorem leastA_isLeast {a : GAuto} {n m : Nat} (g : Good a n m) : IsLeast (leastA a) n a.base a.tracks (lng a) ∧ (leastA a).next.length ≤ m := by
  have h := leastRE_spec (ends := a.ends) g.rows g.m0
  have hn : (manyOf a.base a.tracks).toNat = n := by rw [g.n_eq]; rfl
  unfold leastA
  rw [hn]
  exact ⟨⟨rfl, rfl, h.1⟩, h.2⟩
theorem Least.not {n : Nat} {N : List (List Int)} {E : List Bool} {L : List Nat → Bool} (h : Least n N E L) : Least n N (E.map (!·)) fun w => !L w := by
  have key : ∀ k, k < N.length → (E.map (!·)).getD k false = !E.getD k false := fun k hk => by
    have := h.len
    rw [getD_lt (by simp; omega), getD_lt (by omega)]; simp
  have hrun : ∀ (w : List Nat) (s : Nat), s < N.length → Ltr n w → runN (fun k l => ((N.getD k []).getD l 0).toNat) s w < N.length := by
    intro w
    induction w with
    | nil => intro s hs _; exact hs
    | cons l w ih => intro s hs hw; exact ih _ (h.canon.lt s l hs (hw l List.mem_cons_self)) fun x hx => hw x (List.mem_cons_of_mem _ hx)
  refine ⟨by simp [h.len], h.row, h.pos, h.canon.m0, h.canon.lt, fun w hw => ?_, h.canon.rg, h.canon.reach, fun s t hs ht hh => h.canon.red s t hs ht fun w hw => ?_⟩
  · rw [key _ (hrun w 0 h.canon.m0 hw)]; exact congrArg _ (h.canon.lang w hw)
  · have := hh w hw
    rw [key _ (hrun w s hs hw), key _ (hrun w t ht hw)] at this
    simpa using this
/-- A least automaton takes the words of its language. -/
theorem IsLeast.lng {a : GAuto} {n : Nat} {base tracks : Int} {L : List Nat → Bool} (h : IsLeast a n base tracks L) {w : List Nat} (hw : Ltr n w) : Go.Proofs.YthcclcbliedodaaDoor.lng a w = L w := h.least.takes hw
end Go.Proofs.YthcclcbliedodaaDoor
namespace Go.Proofs.YthcclcbliedodaaDoor

section
variable {n n' m : Nat} {next : List (List Int)} {to : List Int}
end
end Go.Proofs.YthcclcbliedodaaDoor
namespace Go.Proofs.YthcclcbliedodaaDoor

end Go.Proofs.YthcclcbliedodaaDoor
namespace Go.Proofs.YthcclcbliedodaaDoor

theorem least_again {a : GAuto} {n m : Nat} (g : Good a n m) : leastOf (leastA a) = leastA a ∧ autoFault (leastA a) = 0 ∧ Good (leastA a) n (leastA a).next.length := by
  obtain ⟨h1, h2⟩ := leastA_isLeast g
  have g' := IsLeast.good g h1 (by have := g.m80; omega)
  obtain ⟨h3, _⟩ := leastA_isLeast g'
  refine ⟨?_, g'.fault, g'⟩
  unfold leastOf
  rw [if_pos g'.fault]
  exact IsLeast.unique (n := n) (base := a.base) (tracks := a.tracks) h3 h1 fun w hw => h1.lng hw
end Go.Proofs.YthcclcbliedodaaDoor
namespace Go.Proofs.YthcclcbliedodaaDoor
open Go.RowKit

noncomputable def closeN (a : GAuto) : Nat := (manyOf a.base a.tracks).toNat
noncomputable def closeS (a : GAuto) : List (List Int) := growSets (stepF (leastA a).next) (closeN a) (closeL (leastA a) [0])
noncomputable def closeR (a : GAuto) : List (List Int) := growRows (stepF (leastA a).next) (closeN a) (closeL (leastA a) [0])
noncomputable def closeOk (a : GAuto) : Bool := growOk (stepF (leastA a).next) (closeN a) (closeL (leastA a) [0])
noncomputable def closeRE (a : GAuto) : List (List Int) × List Bool := leastRE (closeN a) (closeRows (closeR a)) (closeEnds (leastA a).ends (closeS a))
noncomputable def closeErr (a : GAuto) : Int := if autoFault a ≠ 0 then autoFault a else if closeOk a = false then 3 else if (closeRE a).1.length ≤ 80 then 0 else 3
noncomputable def closeA (a : GAuto) : GAuto := if closeErr a = 0 then ⟨a.base, a.tracks, (closeRE a).1, (closeRE a).2⟩ else GAuto.zero
section
variable {G : World → Prop} (hG : Lasting G)
include hG
set_option maxHeartbeats 16000000 in
set_option maxRecDepth 100000 in
theorem Close_snd (a : GAuto) : Snd Tryd.prog G 19 [tAuto a] (.tup [tAuto (closeA a), tErr (closeErr a)]) := by
  have c1 := Least_snd hG a
  refine snd_of_body (n := 105) (tm := [(0, .t (tAuto a))]) (rs := [.cell 2 25, .tmp 3]) tt_ok Tryd.func19 rfl rfl rfl rfl rfl ?_
  by_cases hf : autoFault a = 0
  rotate_left
  · have he : closeErr a = autoFault a := if_pos hf
    have hz : closeA a = GAuto.zero := by unfold closeA; rw [he, if_neg hf]
    have hl0 : leastOf a = GAuto.zero := if_neg hf
    rw [he, hz]
    rw [hl0] at c1
    generalize autoFault a = e at *
    have htb := Tab.cons c1 Tab.nil
    repeat' (first | (with_reducible first | apply w1 | apply w2 | apply w3 | apply w4 | apply w5 | apply w6 | apply w7 | apply w8 | apply w9 | apply wa | apply wb | apply wc) | ((with_reducible apply wd); focus decide) | ((with_reducible apply we); focus exact rfl) | ((with_reducible apply wf); focus exact rfl) | ((first | (with_reducible apply SW_run tt_ok hG htb) | ((with_reducible apply SW_draw rfl tt_ok hG htb); (focus kernel_rfl); focus simp only [List.range, List.range.loop, List.size_toArray, List.length_cons, List.length_nil, Nat.reduceAdd])); focus ((repeat' (first | (with_reducible first | exact wg | exact wh) | ((with_reducible first | apply wi | apply wj); focus (simp (discharger := omega) only [go_sem, tAuto, tErr, hf, simprocAttr]; with_reducible rfl)))); done)))
    exact (by simp (discharger := omega) only [go_sem, tAuto, tErr, hf, GAuto.zero, simprocAttr])
  have g := good_of hf
  obtain ⟨n, hn⟩ : ∃ n, (manyOf a.base a.tracks).toNat = n := ⟨_, rfl⟩
  rw [hn] at g
  have hlA : leastOf a = leastA a := if_pos hf
  obtain ⟨_, _, gM⟩ := least_again g
  obtain ⟨M, hM⟩ : ∃ M, leastA a = M := ⟨_, rfl⟩
  rw [hlA, hf, hM] at c1
  rw [hM] at gM
  obtain ⟨m, hm⟩ : ∃ m, M.next.length = m := ⟨_, rfl⟩
  rw [hm] at gM
  have htb := Tab.cons c1 Tab.nil
  repeat' (first | (with_reducible first | apply w1 | apply w2 | apply w3 | apply w4 | apply w5 | apply w6 | apply w7 | apply w8 | apply w9 | apply wa | apply wb | apply wc) | ((with_reducible apply wd); focus decide) | ((with_reducible apply we); focus exact rfl) | ((with_reducible apply wf); focus exact rfl) | ((first | (with_reducible apply SW_run tt_ok hG htb) | ((with_reducible apply SW_draw rfl tt_ok hG htb); (focus kernel_rfl); focus simp only [List.range, List.range.loop, List.size_toArray, List.length_cons, List.length_nil, Nat.reduceAdd])); focus ((repeat' (first | (with_reducible first | exact wg | exact wh) | ((with_reducible first | apply wi | apply wj); focus (simp (discharger := omega) only [go_sem, tErr0, tAuto, simprocAttr]; with_reducible rfl)))); done)))
  clear htb
  have htb : Tab.ok Tryd.prog G [] := Tab.nil
  refine SW_norm (Norm.headS (own := []) (keep := [1, 2, 3, 4]) (by refine ⟨?_, ?_⟩; (simp (discharger := omega) only [go_sem, simprocAttr]; with_reducible rfl); refine ⟨?_, ?_, ?_, ?_⟩ <;> (simp only [go_sem, simprocAttr]; with_reducible rfl))) ?_
  refine SW_norm (Norm.fixBox 0 rfl rfl) ?_
  refine SW_norm (Norm.fixBox 2 rfl rfl) ?_
  refine SW_norm (Norm.tr 1 rfl rfl) ?_
  refine SW_norm (Norm.tr 4 rfl rfl) ?_
  refine SW_norm (Norm.headS (own := []) (keep := [1, 2, 3, 4]) (by refine ⟨?_, ?_⟩; (simp (discharger := omega) only [go_sem, simprocAttr]; with_reducible rfl); refine ⟨?_, ?_, ?_, ?_⟩ <;> (simp only [go_sem, simprocAttr]; with_reducible rfl))) ?_
  have hm80 := gM.m80
  have hn36 := gM.n36
  have hn0 := gM.n0
  have hm0 := gM.m0
  have c2 := closure_lit hG gM.rows gM.m0 hm80 (letters := [0]) (fun l hl => by simp at hl; omega)
  have hIm : Inm m (closeL M [0]) := close_in gM.rows hm0 (fun l hl => by simp at hl; omega) _
  have hIl : (closeL M [0]).length ≤ m := close_len gM.rows hm0 (fun l hl => by simp at hl; omega) _
  have c3 := Grow_snd hG hm80 (closeL M [0]) n 48 [autoP M] (stepF M.next) hIm (by omega) hn36 (fun s l hs hl => stepF_in gM.rows hs hl) (fun s l hs ha hl => by have := inm_len hs ha; simp [stepF]; omega) (fun s l hs ha hl => CloseStep_snd hG gM.rows s hs (by have := inm_len hs ha; omega) l hl)
  obtain ⟨R, hR⟩ : ∃ R, iL (closeL M [0]) = R := ⟨_, rfl⟩
  rw [hR] at c2 c3
  obtain ⟨r0, hr0⟩ : ∃ r0, M.next[0]! = r0 := ⟨_, rfl⟩
  have hrl := gM.rows.row r0 (bang_mem hr0 (by have := gM.m0; omega))
  show SW _ _ _ _ ⟨105, [(1, .t (autoP a)), (2, .bptr 0 0), (3, .t .nilI), (4, .t (autoP M))], [.box [.t (tInt 0), .t (tInt 0), .nil, .nil]]⟩
  obtain ⟨S, hS⟩ : ∃ S, growSets (stepF M.next) n (closeL M [0]) = S := ⟨_, rfl⟩
  obtain ⟨N, hN⟩ : ∃ N, growRows (stepF M.next) n (closeL M [0]) = N := ⟨_, rfl⟩
  obtain ⟨ok, hok⟩ : ∃ ok, growOk (stepF M.next) n (closeL M [0]) = ok := ⟨_, rfl⟩
  rw [hS, hN, hok] at c3
  refine SW_drawS (fun k => if k = 2 then some ⟨[.box [.t (tInt 0), .t (tInt 0), .nil, .nil]], [.t (.fn 47 []), .t (tAuto M), .lit (iL [0])], [.box [.t (tInt 0), .t (tInt 0), .nil, .nil], .row 3 1 true R], .sref 1, pastG [] []⟩ else if k = 9 then some ⟨[.box [.t (tInt 0), .t (tInt 0), .nil, .nil], .row 3 1 true R], [.t (.fn 46 []), .sref 1, .t (tNat n), .t (.fn 48 [autoP M])], [.hole, .box [.t (tInt 0), .t (tInt 0), .nil, .nil], .box [.t (tIntss S)]], .t (.tup [tIntss S, tIntss N, .bool ok]), fun i => (posIn [1, 0] i).bind (pastG [.row 3 1 true R] [])⟩ else none) [2, 9] rfl tt_ok hG htb (t := ?zt) ?topo ?hlk ?hok ?run ?rest
  case topo => kernel_rfl
  case hlk =>
    intro k L h
    by_cases h2 : k = 2
    · subst h2; simp
    · by_cases h9 : k = 9
      · subst h9; simp
      · simp [h2, h9] at h
  case hok =>
    intro k L o hL ho
    by_cases h2 : k = 2
    · subst h2
      rw [if_pos rfl] at hL
      cases hL
      cases ho
      exact LoudOk.call (asl := [.t (tAuto M), .lit (iL [0])]) (obs := []) (rst := [.box [.t (tInt 0), .t (tInt 0), .nil, .nil]]) (ks := []) (cap := []) rfl rfl rfl c2 rfl rfl
    · rw [if_neg h2] at hL
      by_cases h9 : k = 9
      · subst h9
        rw [if_pos rfl] at hL
        cases hL
        cases ho
        refine LoudOk.perm [1, 0] rfl (LoudOk.call (asl := [.sref 0, .t (tNat n), .t (.fn 48 [autoP M])]) (obs := [.row 3 1 true R]) (rst := [.box [.t (tInt 0), .t (tInt 0), .nil, .nil]]) (ks := []) (cap := []) rfl rfl rfl c3 rfl rfl) rfl rfl ?_
        intro v hv
        simp [Op.operands, Call.operands] at hv
      · rw [if_neg h9] at hL
        cases hL
  case run =>
    (simp only [List.range, List.range.loop, List.size_toArray, List.length_cons, List.length_nil, Nat.reduceAdd]; repeat' (first | (with_reducible exact runA_nil) | ((with_reducible apply runA_cons); focus (first | (apply stepS_quietE rfl rfl rfl rfl; (focus (intro H; simp (discharger := omega) only [go_sem, autoP, tAuto, hr0, hrl, hm, simprocAttr]; with_reducible rfl)); (focus rfl); (focus rfl); (focus (simp only [go_sem, simprocAttr]; with_reducible rfl))) | (apply stepS_loud rfl rfl rfl rfl rfl rfl; (focus (simp only [go_sem, loudSt, St.put, List.map_cons, List.map_nil, SV.ren, renL, pastG, posIn, Option.bind, List.getElem?_cons_zero, List.getElem?_cons_succ, List.getElem?_nil, simprocAttr]; with_reducible rfl)))))))
  case rest =>
    have hSe : closeS a = S := by unfold closeS closeN; rw [hn, hM]; exact hS
    have hNe : closeR a = N := by unfold closeR closeN; rw [hn, hM]; exact hN
    have hoke : closeOk a = ok := by unfold closeOk closeN; rw [hn, hM]; exact hok
    cases ok with
    | false =>
      have he : closeErr a = 3 := by unfold closeErr; rw [if_neg (fun q => q hf), if_pos hoke]
      have hz : closeA a = GAuto.zero := by unfold closeA; rw [he, if_neg (by decide)]
      rw [he, hz]
      repeat' (first | (with_reducible first | apply w1 | apply w2 | apply w3 | apply w4 | apply w5 | apply w6 | apply w7 | apply w8 | apply w9 | apply wa | apply wb | apply wc) | ((with_reducible apply wd); focus decide) | ((with_reducible apply we); focus exact rfl) | ((with_reducible apply wf); focus exact rfl) | ((first | (with_reducible apply SW_run tt_ok hG htb) | ((with_reducible apply SW_draw rfl tt_ok hG htb); (focus kernel_rfl); focus simp only [List.range, List.range.loop, List.size_toArray, List.length_cons, List.length_nil, Nat.reduceAdd])); focus ((repeat' (first | (with_reducible first | exact wg | exact wh) | ((with_reducible first | apply wi | apply wj); focus (simp (discharger := omega) only [go_sem, simprocAttr]; with_reducible rfl)))); done)))
      exact (by simp (discharger := omega) only [go_sem, tAuto, tErr, GAuto.zero, simprocAttr])
    | true =>
      obtain ⟨f1, f2, f3, f4, f5, _⟩ := grow_facts hok
      have fS := grow_inm hIm (fun s l hs hl => stepF_in gM.rows hs hl) (n := n)
      rw [hS, hN] at f1 f4
      rw [hS] at f2 f3 f5 fS
      have hRE := closeRows_ok f4 f2 hn0
      have hr0w := closeRows0_row f4 f2 hn0
      obtain ⟨nr, hnr⟩ : ∃ nr, N[0]! = nr := ⟨_, rfl⟩
      have hnrl := f4.row nr (bang_mem hnr (by omega))
      have hr0e : closeRows0 N = ((-1) :: nr.drop 1) :: N := by unfold closeRows0; rw [hnr]
      have hN0 : 0 < N.length := by omega
      have hnr1 : 1 ≤ nr.length := by omega
      have hrows0 : (closeRows0 N).length = N.length + 1 := by rw [hr0e]; rfl
      have hall : ∀ l : List Int, (l.all fun _ => true) = true := fun l => by simp
      have hall2 : ∀ l : List (List Int), (l.all fun _ => true) = true := fun l => by simp
      obtain ⟨d, hd⟩ : ∃ d, nr.drop 1 = d := ⟨_, rfl⟩
      rw [hd] at hr0e
      have hdl : d.length + 1 = n := by rw [← hd, List.length_drop]; omega
      have hdr : List.drop 1 (List.take nr.length (List.map tInt nr)) = d.map tInt := by
        rw [List.take_of_length_le (by simp), ← hd, List.map_drop]
      repeat' (first | (with_reducible first | refine SW_seq ?_ | refine SW_block ?_ | refine SThen_n ?_ | refine SThen_r ?_ | refine SThen_e ?_ | refine SIn_n ?_ | refine SIn_r ?_ | refine SIn_eq ?_ | refine SW_skip ?_ | refine SW_exit ?_ | refine SW_ret ?_ | refine SPost_r ?_) | ((with_reducible refine SIn_ne ?_ ?_); focus decide) | ((with_reducible refine SW_true ?_ ?_); focus exact rfl) | ((with_reducible refine SW_false ?_ ?_); focus exact rfl) | ((with_reducible apply SW_run tt_ok hG htb); focus ((repeat' (first | (with_reducible exact runX_nil) | ((with_reducible apply runX_cons); focus (simp (discharger := omega) only [go_sem, simprocAttr]; with_reducible rfl)))); done)))
      refine SW_region ?_
      refine SL_k tt_ok hG htb 6 (by simp only [List.take_succ_cons, List.take_zero]; rfl) (by simp only [List.drop_succ_cons, List.drop_zero, Nat.reduceAdd]; rfl) (by (repeat' (first | (with_reducible exact runX_nil) | ((with_reducible apply runX_cons); focus (simp (discharger := omega) only [go_sem, hnr, Function.comp_def, hall, hall2, hdr, List.length_map, simprocAttr]; with_reducible rfl))))) ?_
      refine SL_norm (Norm.frzRow 3 rfl) ?_
      refine SL_litO tt_ok rfl rfl rfl rfl rfl rfl (ys := [.list (tInt (-1) :: d.map tInt)]) (by simp only [go_sem, simprocAttr]) ?_
      refine SL_done tt_ok hG htb (by (repeat' (first | (with_reducible exact runX_nil) | ((with_reducible apply runX_cons); focus (simp (discharger := omega) only [go_sem, simprocAttr]; with_reducible rfl))))) ?_
      repeat' (first | (with_reducible first | refine SW_seq ?_ | refine SW_block ?_ | refine SThen_n ?_ | refine SThen_r ?_ | refine SThen_e ?_ | refine SIn_n ?_ | refine SIn_r ?_ | refine SIn_eq ?_ | refine SW_skip ?_ | refine SW_exit ?_ | refine SW_ret ?_ | refine SPost_r ?_) | ((with_reducible refine SIn_ne ?_ ?_); focus decide) | ((with_reducible refine SW_true ?_ ?_); focus exact rfl) | ((with_reducible refine SW_false ?_ ?_); focus exact rfl) | ((with_reducible apply SW_run tt_ok hG htb); focus ((repeat' (first | (with_reducible exact runX_nil) | ((with_reducible apply runX_cons); focus (simp (discharger := omega) only [go_sem, hall2, Function.comp_def, List.length_map, simprocAttr]; with_reducible rfl)))); done)))
      obtain ⟨Q, hQ⟩ : ∃ Q, closeRows0 N = Q := ⟨_, rfl⟩
      obtain ⟨Q', hQ'⟩ : ∃ Q', closeRows N = Q' := ⟨_, rfl⟩
      have hQQ : Q' = Q.map fun r => r.map (· + 1) := by rw [← hQ', ← hQ]; rfl
      rw [hQ] at hr0w hr0e hrows0
      rw [hQ'] at hRE
      have hQl' : Q'.length = N.length + 1 := by rw [hQQ, List.length_map]; exact hrows0
      refine SW_loop (fun mm st => ∃ (i : Nat) (rs : List T), mm = N.length + 1 - i ∧ st = ⟨105, [(1, .t (autoP a)), (2, .bptr 0 0), (3, .t .nilI), (4, .t (autoP M)), (6, .t (tIntss S)), (9, .sref 1), (54, .sref 1), (55, .t (tNat (N.length + 1))), (56, .t (tNat i))], [.box [.t (tInt 0), .t (tInt 0), .nil, .nil], .row 35 1 true rs]⟩ ∧ i ≤ N.length + 1 ∧ rs = (Q'.take i ++ Q.drop i).map tInts) (N.length + 1)
        ⟨_, Norm.headS (own := []) (keep := [1, 2, 3, 4, 6, 9, 54, 55, 56]) (by refine ⟨?_, ?_⟩; (simp (discharger := omega) only [go_sem, simprocAttr]; with_reducible rfl); refine ⟨?_, ?_, ?_, ?_⟩ <;> (simp only [go_sem, simprocAttr]; with_reducible rfl)), 0, _, rfl, rfl, Nat.zero_le _, by rw [hr0e]; rfl⟩ ?_
      rintro mm st ⟨i, rs, rfl, rfl, hi, hrs⟩
      have hrl2 : rs.length = N.length + 1 := by rw [hrs]; simp [hrows0, hQl']; omega
      by_cases hlt : i < N.length + 1
      · obtain ⟨q, hq⟩ : ∃ q, Q[i]? = some q := ⟨_, List.getElem?_eq_getElem (by omega)⟩
        have hqw := (hr0w q (List.mem_of_getElem? hq)).1
        have hlt3 : ((i : Nat) : Int) < ((N.length + 1 : Nat) : Int) := by omega
        have hri : rs[i]! = tInts q := by
          have : rs[i]? = some (tInts q) := by
            rw [hrs, List.getElem?_map, List.getElem?_append_right (by rw [List.length_take]; omega), List.length_take, Nat.min_eq_left (by omega), Nat.sub_self, List.getElem?_drop, Nat.add_zero, hq]; rfl
          obtain ⟨q1, q2⟩ := List.getElem?_eq_some_iff.1 this
          rw [getElem!_pos rs i q1]; exact q2
        obtain ⟨q', hq'⟩ : ∃ q' : List Int, q.map (· + 1) = q' := ⟨_, rfl⟩
        have hql' : q'.length = n := by rw [← hq', List.length_map]; exact hqw
        have hset : (Q'.take i ++ Q.drop i).set i q' = Q'.take (i + 1) ++ Q.drop (i + 1) := by
          have hQi : Q'[i]? = some q' := by rw [hQQ, List.getElem?_map, hq]; simp [hq']
          obtain ⟨w1, w2⟩ := List.getElem?_eq_some_iff.1 hQi
          obtain ⟨w3, w4⟩ := List.getElem?_eq_some_iff.1 hq
          rw [List.set_append_right _ _ (by rw [List.length_take]; omega), List.length_take, Nat.min_eq_left (by omega), Nat.sub_self, List.drop_eq_getElem_cons w3, List.set_cons_zero, List.take_succ_eq_append_getElem w1, w2, List.append_assoc]; rfl
        repeat' (first | (with_reducible first | apply w1 | apply w2 | apply w3 | apply w4 | apply w5 | apply w6 | apply w7 | apply w8 | apply w9 | apply wa | apply wb | apply wc) | ((with_reducible apply wd); focus decide) | ((with_reducible apply we); focus exact rfl) | ((with_reducible apply wf); focus exact rfl) | ((first | (with_reducible apply SW_run tt_ok hG htb) | ((with_reducible apply SW_draw rfl tt_ok hG htb); (focus kernel_rfl); focus simp only [List.range, List.range.loop, List.size_toArray, List.length_cons, List.length_nil, Nat.reduceAdd])); focus ((repeat' (first | (with_reducible first | exact wg | exact wh) | ((with_reducible first | apply wi | apply wj); focus (simp (discharger := omega) only [go_sem, hlt3, hrl2, hri, hqw, simprocAttr]; with_reducible rfl)))); done)))
        refine SW_loop (fun mm st => ∃ (l : Nat) (rr : List T), mm = n - l ∧ st = ⟨105, [(1, .t (autoP a)), (2, .bptr 0 0), (3, .t .nilI), (4, .t (autoP M)), (6, .t (tIntss S)), (9, .sref 1), (54, .sref 1), (55, .t (tNat (N.length + 1))), (56, .t (tNat i)), (10, .t (tNat i)), (12, .sref 2), (64, .t (tInts q)), (65, .t (tNat n)), (66, .t (tNat l))], [.box [.t (tInt 0), .t (tInt 0), .nil, .nil], .row 35 1 true rs, .row 3 1 true rr]⟩ ∧ l ≤ n ∧ rr = (fillB q' l).map (T.int .i64)) n
          ⟨_, Norm.headS (own := []) (keep := [1, 2, 3, 4, 6, 9, 54, 55, 56, 10, 12, 64, 65, 66]) (by refine ⟨?_, ?_⟩; (simp (discharger := omega) only [go_sem, simprocAttr]; with_reducible rfl); refine ⟨?_, ?_, ?_, ?_⟩ <;> (simp only [go_sem, simprocAttr]; with_reducible rfl)), 0, _, rfl, rfl, Nat.zero_le _, by rw [fillB_zero, List.map_replicate, hql']⟩ ?_
        rintro mm st ⟨l, rr, rfl, rfl, hl, hrr⟩
        have hrrl : rr.length = n := by rw [hrr, List.length_map, fillB_len (by omega), hql']
        by_cases hll : l < n
        · obtain ⟨t, ht⟩ : ∃ t, q[l]! = t := ⟨_, rfl⟩
          have htg := bang_get ht (by omega)
          have htg' : q'[l]? = some (t + 1) := by rw [← hq', List.getElem?_map, htg]; rfl
          have htb2 := (hr0w q (List.mem_of_getElem? hq)).2 t (bang_mem ht (by omega))
          have hwr : IntKind.i64.wrap (t + 1) = t + 1 := wrap_i64 _ (by omega)
          repeat' (first | (with_reducible first | apply w1 | apply w2 | apply w3 | apply w4 | apply w5 | apply w6 | apply w7 | apply w8 | apply w9 | apply wa | apply wb | apply wc) | ((with_reducible apply wd); focus decide) | ((with_reducible apply we); focus exact rfl) | ((with_reducible apply wf); focus exact rfl) | ((first | (with_reducible apply SW_run tt_ok hG htb) | ((with_reducible apply SW_draw rfl tt_ok hG htb); (focus kernel_rfl); focus simp only [List.range, List.range.loop, List.size_toArray, List.length_cons, List.length_nil, Nat.reduceAdd])); focus ((repeat' (first | (with_reducible first | exact wg | exact wh) | ((with_reducible first | apply wi | apply wj); focus (simp (discharger := omega) only [go_sem, ht, hrrl, hqw, hwr, simprocAttr]; with_reducible rfl)))); done)))
          exact ⟨n - (l + 1), _, by omega, Norm.headS (own := []) (keep := [1, 2, 3, 4, 6, 9, 54, 55, 56, 10, 12, 64, 65, 66]) (by refine ⟨?_, ?_⟩; (simp (discharger := omega) only [go_sem, simprocAttr]; with_reducible rfl); refine ⟨?_, ?_, ?_, ?_⟩ <;> (simp only [go_sem, simprocAttr]; with_reducible rfl)), l + 1, _, rfl, rfl, by omega, by rw [← fillB_set htg', List.map_set, ← hrr]⟩
        · obtain rfl : l = n := by omega
          have hrr2 : rr = q'.map (T.int .i64) := by rw [hrr, ← hql', fillB_all]
          repeat' (first | (with_reducible first | apply w1 | apply w2 | apply w3 | apply w4 | apply w5 | apply w6 | apply w7 | apply w8 | apply w9 | apply wa | apply wb | apply wc) | ((with_reducible apply wd); focus decide) | ((with_reducible apply we); focus exact rfl) | ((with_reducible apply wf); focus exact rfl) | ((first | (with_reducible apply SW_run tt_ok hG htb) | ((with_reducible apply SW_draw rfl tt_ok hG htb); (focus kernel_rfl); focus simp only [List.range, List.range.loop, List.size_toArray, List.length_cons, List.length_nil, Nat.reduceAdd])); focus ((repeat' (first | (with_reducible first | exact wg | exact wh) | ((with_reducible first | apply wi | apply wj); focus (simp (discharger := omega) only [go_sem, hrl2, simprocAttr]; with_reducible rfl)))); done)))
          exact ⟨N.length + 1 - (i + 1), _, by omega, Norm.headS (own := []) (keep := [1, 2, 3, 4, 6, 9, 54, 55, 56]) (by refine ⟨?_, ?_⟩; (simp (discharger := omega) only [go_sem, simprocAttr]; with_reducible rfl); refine ⟨?_, ?_, ?_, ?_⟩ <;> (simp only [go_sem, simprocAttr]; with_reducible rfl)), i + 1, _, rfl, rfl, by omega, by rw [← hset, List.map_set, ← hrs, hrr2]; rfl⟩
      · obtain rfl : i = N.length + 1 := by omega
        have hrs2 : rs = Q'.map tInts := by
          rw [hrs, List.take_of_length_le (by omega), List.drop_of_length_le (by omega), List.append_nil]
        obtain ⟨s0, hs0⟩ : ∃ s0, S[0]! = s0 := ⟨_, rfl⟩
        have hSs : ∀ s ∈ s0 :: S, Inm m s := fun s hs => by
          rcases List.mem_cons.1 hs with rfl | hs
          · exact (fS _ (bang_mem hs0 f2)).1
          · exact (fS s hs).1
        have c5 := Ends_snd hG (s0 :: S) (by simp; omega) 49 [autoP M] (endOf M.ends) (fun s hs x hx => CloseEnd_snd hG gM.ends x (hSs s hs x hx))
        obtain ⟨E, hE⟩ : ∃ E, ((s0 :: S).map fun s => s.any (endOf M.ends)) = E := ⟨_, rfl⟩
        rw [hE] at c5
        have hEl : E.length = S.length + 1 := by rw [← hE]; simp
        have c6 := Shrink_snd hG a.base a.tracks hRE (Nat.succ_pos _) (by omega) (ends := E) hEl (by omega)
        have htb := Tab.cons c5 (Tab.cons c6 Tab.nil)
        have hlt4 : ¬ ((N.length + 1 : Nat) : Int) < ((N.length + 1 : Nat) : Int) := by omega
        have hSl : 0 < S.length := f2
        clear hrs
        subst hrs2
        have hREe : closeRE a = leastRE n Q' E := by
          unfold closeRE
          rw [hNe, hSe, hM, hQ']
          unfold closeEnds closeN
          rw [hs0, hE, hn]
        repeat' (first | (with_reducible first | refine SW_seq ?_ | refine SW_block ?_ | refine SThen_n ?_ | refine SThen_r ?_ | refine SThen_e ?_ | refine SIn_n ?_ | refine SIn_r ?_ | refine SIn_eq ?_ | refine SW_skip ?_ | refine SW_exit ?_ | refine SW_ret ?_ | refine SPost_r ?_) | ((with_reducible refine SIn_ne ?_ ?_); focus decide) | ((with_reducible refine SW_true ?_ ?_); focus exact rfl) | ((with_reducible refine SW_false ?_ ?_); focus exact rfl) | ((with_reducible apply SW_run tt_ok hG htb); focus ((repeat' (first | (with_reducible exact runX_nil) | ((with_reducible apply runX_cons); focus (simp (discharger := omega) only [go_sem, simprocAttr]; with_reducible rfl)))); done)))
        refine SW_norm (Norm.frzRow 1 rfl) ?_
        refine SW_region ?_
        refine SL_k tt_ok hG htb 6 (by simp only [List.take_succ_cons, List.take_zero]; rfl) (by simp only [List.drop_succ_cons, List.drop_zero, Nat.reduceAdd]; rfl) (by (repeat' (first | (with_reducible exact runX_nil) | ((with_reducible apply runX_cons); focus (simp (discharger := omega) only [go_sem, hs0, hall2, Function.comp_def, List.length_map, simprocAttr]; with_reducible rfl))))) ?_
        refine SL_norm (Norm.frzRow 2 rfl) ?_
        refine SL_done tt_ok hG htb (by (repeat' (first | (with_reducible exact runX_nil) | ((with_reducible apply runX_cons); focus (simp (discharger := omega) only [go_sem, autoP, simprocAttr]; with_reducible rfl))))) ?_
        by_cases h80 : (leastRE n Q' E).1.length ≤ 80
        · have hsh : shrinkT a.base a.tracks n Q' E = .tup [tAuto ⟨a.base, a.tracks, (leastRE n Q' E).1, (leastRE n Q' E).2⟩, .bool true] := if_pos h80
          have he : closeErr a = 0 := by unfold closeErr; rw [if_neg (fun q => q hf), if_neg (by rw [hoke]; decide), hREe, if_pos h80]
          have hz : closeA a = ⟨a.base, a.tracks, (leastRE n Q' E).1, (leastRE n Q' E).2⟩ := by unfold closeA; rw [he, if_pos rfl, hREe]
          rw [he, hz]
          rw [hsh] at htb c6
          generalize leastRE n Q' E = RE at *
          repeat' (first | (with_reducible first | apply w1 | apply w2 | apply w3 | apply w4 | apply w5 | apply w6 | apply w7 | apply w8 | apply w9 | apply wa | apply wb | apply wc) | ((with_reducible apply wd); focus decide) | ((with_reducible apply we); focus exact rfl) | ((with_reducible apply wf); focus exact rfl) | ((first | (with_reducible apply SW_run tt_ok hG htb) | ((with_reducible apply SW_draw rfl tt_ok hG htb); (focus kernel_rfl); focus simp only [List.range, List.range.loop, List.size_toArray, List.length_cons, List.length_nil, Nat.reduceAdd])); focus ((repeat' (first | (with_reducible first | exact wg | exact wh) | ((with_reducible first | apply wi | apply wj); focus (simp (discharger := omega) only [go_sem, autoP, tAuto, tErr0, simprocAttr]; with_reducible rfl)))); done)))
          exact (by simp (discharger := omega) only [go_sem, tAuto, tErr0, simprocAttr])
        · have hsh : shrinkT a.base a.tracks n Q' E = .tup [tAuto GAuto.zero, .bool false] := if_neg h80
          have he : closeErr a = 3 := by unfold closeErr; rw [if_neg (fun q => q hf), if_neg (by rw [hoke]; decide), hREe, if_neg h80]
          have hz : closeA a = GAuto.zero := by unfold closeA; rw [he, if_neg (by decide)]
          rw [he, hz]
          rw [hsh] at htb c6
          repeat' (first | (with_reducible first | apply w1 | apply w2 | apply w3 | apply w4 | apply w5 | apply w6 | apply w7 | apply w8 | apply w9 | apply wa | apply wb | apply wc) | ((with_reducible apply wd); focus decide) | ((with_reducible apply we); focus exact rfl) | ((with_reducible apply wf); focus exact rfl) | ((first | (with_reducible apply SW_run tt_ok hG htb) | ((with_reducible apply SW_draw rfl tt_ok hG htb); (focus kernel_rfl); focus simp only [List.range, List.range.loop, List.size_toArray, List.length_cons, List.length_nil, Nat.reduceAdd])); focus ((repeat' (first | (with_reducible first | exact wg | exact wh) | ((with_reducible first | apply wi | apply wj); focus (simp (discharger := omega) only [go_sem, autoP, tAuto, simprocAttr]; with_reducible rfl)))); done)))
          exact (by simp (discharger := omega) only [go_sem, tAuto, tErr, GAuto.zero, simprocAttr])
end
end Go.Proofs.YthcclcbliedodaaDoor
namespace Go.Proofs.YthcclcbliedodaaDoor
open Go.RowKit

section
variable {G : World → Prop} (hG : Lasting G)
include hG
set_option maxHeartbeats 4000000 in
theorem RMet_snd {n m : Nat} {next : List (List Int)} (hR : Rows0 n m next) (hm : 0 < m) (hm2 : m ≤ 2000000) (hn : n ≤ 1000) : Snd Tryd.prog G 58 [tIntss next] (tInts (met next)) := by
  have htb : Tab.ok Tryd.prog G [] := Tab.nil
  have hlen := hR.len
  refine snd_of_body (n := 55) (tm := [(0, .t (tIntss next))]) (rs := [.tmp 2]) tt_ok Tryd.func58 rfl rfl rfl rfl rfl ?_
  repeat' (first | (with_reducible first | apply w1 | apply w2 | apply w3 | apply w4 | apply w5 | apply w6 | apply w7 | apply w8 | apply w9 | apply wa | apply wb | apply wc) | ((with_reducible apply wd); focus decide) | ((with_reducible apply we); focus exact rfl) | ((with_reducible apply wf); focus exact rfl) | ((first | (with_reducible apply SW_run tt_ok hG htb) | ((with_reducible apply SW_draw rfl tt_ok hG htb); (focus kernel_rfl); focus simp only [List.range, List.range.loop, List.size_toArray, List.length_cons, List.length_nil, Nat.reduceAdd])); focus ((repeat' (first | (with_reducible first | exact wg | exact wh) | ((with_reducible first | apply wi | apply wj); focus (simp (discharger := omega) only [go_sem, simprocAttr]; with_reducible rfl)))); done)))
  refine SW_loop (fun k s => ∃ (i : Nat) (out : List Int) (st : List T), k = m - i ∧ s = ⟨55, [(0, .t (tIntss next)), (3, .sref 0), (4, .sref 1), (5, .t (tInt i))], [.row 4 1 true st, .row 3 1 false (out.map tInt)]⟩ ∧
      st = (seenOf m out).map T.bool ∧ i ≤ out.length ∧ MetOk m out ∧ metLoop next (m - i) i out = met next) m ⟨_, Norm.headS (own := [(4, 3, 1, false), (3, 4, 1, true)]) (keep := [0, 3, 4, 5]) (by refine ⟨?_, ?_⟩; (simp (discharger := omega) only [go_sem, simprocAttr]; with_reducible rfl); refine ⟨?_, ?_, ?_, ?_⟩ <;> (simp only [go_sem, simprocAttr]; with_reducible rfl)), 0, [0], _, rfl, rfl, ?_⟩ ?_
  · refine ⟨?_, by simp, ⟨by simp, fun s hs => by simp at hs; subst hs; omega⟩, by unfold met; rw [hlen]; rfl⟩
    have := seenOf_set m [] 0
    rw [List.nil_append] at this
    rw [show ((0 : Nat) : Int) = 0 from rfl] at this
    rw [← this, seenOf_nil, List.map_set, List.map_replicate, hlen]
  · rintro k s ⟨i, out, st, rfl, rfl, rfl, hi, hmo, hml⟩
    have hol := hmo.len
    by_cases hlt : i < out.length
    · obtain ⟨r, hor⟩ : ∃ r, out[i]! = r := ⟨_, rfl⟩
      have hio : out[i]? = some r := by rw [← hor, getElem!_pos out i hlt]; exact List.getElem?_eq_getElem hlt
      have hs : 0 ≤ r ∧ r < (m : Int) := hmo.ok _ (List.mem_of_getElem? hio)
      obtain ⟨row, hrow⟩ : ∃ row, next[r.toNat]! = row := ⟨_, rfl⟩
      have hrl : r.toNat < next.length := by omega
      have hrow2 : rowOf next r = row := by unfold rowOf; rw [getD_lt hrl, ← hrow, getElem!_pos next _ hrl]
      have hrm : row ∈ next := by rw [← hrow, getElem!_pos next _ hrl]; exact List.getElem_mem hrl
      have hrn : row.length = n := hR.row _ hrm
      have hstep : metLoop next (m - i) i out = metLoop next (m - (i + 1)) (i + 1) (metRow out row) := by
        rw [metLoop_step next hol hlt]
        rw [List.getElem?_eq_getElem hlt] at hio
        rw [Option.some.inj hio, hrow2]
      rw [hstep] at hml
      repeat' (first | (with_reducible first | apply w1 | apply w2 | apply w3 | apply w4 | apply w5 | apply w6 | apply w7 | apply w8 | apply w9 | apply wa | apply wb | apply wc) | ((with_reducible apply wd); focus decide) | ((with_reducible apply we); focus exact rfl) | ((with_reducible apply wf); focus exact rfl) | ((first | (with_reducible apply SW_run tt_ok hG htb) | ((with_reducible apply SW_draw rfl tt_ok hG htb); (focus kernel_rfl); focus simp only [List.range, List.range.loop, List.size_toArray, List.length_cons, List.length_nil, Nat.reduceAdd])); focus ((repeat' (first | (with_reducible first | exact wg | exact wh) | ((with_reducible first | apply wi | apply wj); focus (simp (discharger := omega) only [go_sem, hor, hrow, simprocAttr]; with_reducible rfl)))); done)))
      refine SW_loop (fun k s => ∃ (l : Nat) (o : List Int) (st : List T), k = n - l ∧ s = ⟨55, [(0, .t (tIntss next)), (3, .sref 0), (4, .sref 1), (5, .t (tInt i)), (6, .t (tInts row)), (7, .t (tInt l))], [.row 4 1 true st, .row 3 1 false (o.map tInt)]⟩ ∧
          st = (seenOf m o).map T.bool ∧ l ≤ n ∧ o = metRow out (row.take l) ∧ MetOk m o) n ⟨_, Norm.headS (own := [(4, 3, 1, false), (3, 4, 1, true)]) (keep := [0, 3, 4, 5, 6, 7]) (by refine ⟨?_, ?_⟩; (simp (discharger := omega) only [go_sem, simprocAttr]; with_reducible rfl); refine ⟨?_, ?_, ?_, ?_⟩ <;> (simp only [go_sem, simprocAttr]; with_reducible rfl)), 0, out, _, rfl, rfl, rfl, Nat.zero_le _, rfl, hmo⟩ ?_
      rintro k s ⟨l, o, st, rfl, rfl, rfl, hl, ho, hmo'⟩
      have hol' := hmo'.len
      have hsl := seenOf_length m o
      by_cases hlt2 : l < n
      · have hll : l < row.length := by omega
        obtain ⟨u, hul⟩ : ∃ u, row[l]! = u := ⟨_, rfl⟩
        have hul2 : row[l]? = some u := by rw [← hul, getElem!_pos row l hll]; exact List.getElem?_eq_getElem hll
        have hu : 0 ≤ u ∧ u < (m : Int) := hR.ok _ hrm _ (List.mem_of_getElem? hul2)
        have htk2 : row.take (l + 1) = row.take l ++ [u] := by
          rw [List.take_succ_eq_append_getElem hll]
          rw [List.getElem?_eq_getElem hll] at hul2
          rw [Option.some.inj hul2]
        obtain ⟨j, rfl⟩ : ∃ j : Nat, u = j := ⟨u.toNat, by omega⟩
        have hsn : (seenOf m o)[j]! = decide ((j : Int) ∈ o) := by
          rw [getElem!_pos _ _ (by omega), seenOf_at]
        have hset := seenOf_set m o j
        generalize hsne : seenOf m o = sn at hsn hsl hset
        by_cases hm1 : (j : Int) ∈ o
        · rw [decide_eq_true hm1] at hsn
          repeat' (first | (with_reducible first | apply w1 | apply w2 | apply w3 | apply w4 | apply w5 | apply w6 | apply w7 | apply w8 | apply w9 | apply wa | apply wb | apply wc) | ((with_reducible apply wd); focus decide) | ((with_reducible apply we); focus exact rfl) | ((with_reducible apply wf); focus exact rfl) | ((first | (with_reducible apply SW_run tt_ok hG htb) | ((with_reducible apply SW_draw rfl tt_ok hG htb); (focus kernel_rfl); focus simp only [List.range, List.range.loop, List.size_toArray, List.length_cons, List.length_nil, Nat.reduceAdd])); focus ((repeat' (first | (with_reducible first | exact wg | exact wh) | ((with_reducible first | apply wi | apply wj); focus (simp (discharger := omega) only [go_sem, hsn, hul, simprocAttr]; with_reducible rfl)))); done)))
          exact ⟨n - (l + 1), _, by omega, Norm.headS (own := [(4, 3, 1, false), (3, 4, 1, true)]) (keep := [0, 3, 4, 5, 6, 7]) (by refine ⟨?_, ?_⟩; (simp (discharger := omega) only [go_sem, simprocAttr]; with_reducible rfl); refine ⟨?_, ?_, ?_, ?_⟩ <;> (simp only [go_sem, simprocAttr]; with_reducible rfl)), l + 1, o, _, rfl, rfl, by rw [hsne], by omega, by rw [htk2, metRow_snoc, ← ho, if_pos hm1], hmo'⟩
        · rw [decide_eq_false hm1] at hsn
          repeat' (first | (with_reducible first | apply w1 | apply w2 | apply w3 | apply w4 | apply w5 | apply w6 | apply w7 | apply w8 | apply w9 | apply wa | apply wb | apply wc) | ((with_reducible apply wd); focus decide) | ((with_reducible apply we); focus exact rfl) | ((with_reducible apply wf); focus exact rfl) | ((first | (with_reducible apply SW_run tt_ok hG htb) | ((with_reducible apply SW_draw rfl tt_ok hG htb); (focus kernel_rfl); focus simp only [List.range, List.range.loop, List.size_toArray, List.length_cons, List.length_nil, Nat.reduceAdd])); focus ((repeat' (first | (with_reducible first | exact wg | exact wh) | ((with_reducible first | apply wi | apply wj); focus (simp (discharger := omega) only [go_sem, hsn, hul, simprocAttr]; with_reducible rfl)))); done)))
          exact ⟨n - (l + 1), _, by omega, Norm.headS (own := [(4, 3, 1, false), (3, 4, 1, true)]) (keep := [0, 3, 4, 5, 6, 7]) (by refine ⟨?_, ?_⟩; (simp (discharger := omega) only [go_sem, simprocAttr]; with_reducible rfl); refine ⟨?_, ?_, ?_, ?_⟩ <;> (simp only [go_sem, simprocAttr]; with_reducible rfl)), l + 1, o ++ [(j : Int)], _, rfl, by simp only [List.map_append, List.map_cons, List.map_nil, tInt]; rfl, by rw [← hset, List.map_set], by omega, by rw [htk2, metRow_snoc, ← ho, if_neg hm1], hmo'.snoc hu hm1⟩
      · obtain rfl : l = n := by omega
        rw [List.take_of_length_le (by omega)] at ho
        repeat' (first | (with_reducible first | apply w1 | apply w2 | apply w3 | apply w4 | apply w5 | apply w6 | apply w7 | apply w8 | apply w9 | apply wa | apply wb | apply wc) | ((with_reducible apply wd); focus decide) | ((with_reducible apply we); focus exact rfl) | ((with_reducible apply wf); focus exact rfl) | ((first | (with_reducible apply SW_run tt_ok hG htb) | ((with_reducible apply SW_draw rfl tt_ok hG htb); (focus kernel_rfl); focus simp only [List.range, List.range.loop, List.size_toArray, List.length_cons, List.length_nil, Nat.reduceAdd])); focus ((repeat' (first | (with_reducible first | exact wg | exact wh) | ((with_reducible first | apply wi | apply wj); focus (simp (discharger := omega) only [go_sem, simprocAttr]; with_reducible rfl)))); done)))
        exact ⟨m - (i + 1), _, by omega, Norm.headS (own := [(4, 3, 1, false), (3, 4, 1, true)]) (keep := [0, 3, 4, 5]) (by refine ⟨?_, ?_⟩; (simp (discharger := omega) only [go_sem, simprocAttr]; with_reducible rfl); refine ⟨?_, ?_, ?_, ?_⟩ <;> (simp only [go_sem, simprocAttr]; with_reducible rfl)), i + 1, o, _, rfl, rfl, rfl, by rw [ho]; have := metRow_len row out; omega, hmo', by rw [ho]; exact hml⟩
    · rw [metLoop_end next hlt] at hml
      rw [← hml]
      repeat' (first | (with_reducible first | apply w1 | apply w2 | apply w3 | apply w4 | apply w5 | apply w6 | apply w7 | apply w8 | apply w9 | apply wa | apply wb | apply wc) | ((with_reducible apply wd); focus decide) | ((with_reducible apply we); focus exact rfl) | ((with_reducible apply wf); focus exact rfl) | ((first | (with_reducible apply SW_run tt_ok hG htb) | ((with_reducible apply SW_draw rfl tt_ok hG htb); (focus kernel_rfl); focus simp only [List.range, List.range.loop, List.size_toArray, List.length_cons, List.length_nil, Nat.reduceAdd])); focus ((repeat' (first | (with_reducible first | exact wg | exact wh) | ((with_reducible first | apply wi | apply wj); focus (simp (discharger := omega) only [go_sem, simprocAttr]; with_reducible rfl)))); done)))
      exact (by simp (discharger := omega) only [go_sem, simprocAttr])

/-- Are two states alike, and the classes of their nexts? -/
def likesB (next : List (List Int)) (ends : List Bool) (n : Nat) (cl : Int → Nat) (s t : Int) : Bool :=
  decide (endOf ends s = endOf ends t ∧ cl s = cl t ∧ (List.range n).map (fun l => cl (nx next s l)) = (List.range n).map (fun l => cl (nx next t l)))
omit hG in
theorem range_same {n : Nat} {f g : Nat → Nat} : (List.range n).map f = (List.range n).map g ↔ ∀ l, l < n → f l = g l := by
  constructor
  · intro h l hl
    have := congrArg (fun q : List Nat => q[l]?) h
    simpa [List.getElem?_map, List.getElem?_range hl] using this
  · intro h
    exact List.map_congr_left fun l hl => h l (List.mem_range.1 hl)
set_option maxHeartbeats 4000000 in
theorem likes_snd {n m : Nat} {next : List (List Int)} {ends : List Bool} {cls : List Nat} {s t : Int} (hR : Rows0 n m next) (he : ends.length = m) (hc : cls.length = m) (hs : 0 ≤ s ∧ s < (m : Int)) (ht : 0 ≤ t ∧ t < (m : Int)) (hn : n ≤ 1000) :
    Snd Tryd.prog G 59 [tIntss next, tBools ends, .list (cls.map tNat), tInt s, tInt t] (.bool (likesB next ends n (clf cls) s t)) := by
  have htb : Tab.ok Tryd.prog G [] := Tab.nil
  have hlen := hR.len
  have hes : ends[s.toNat]! = endOf ends s := by unfold endOf; rw [getD_lt (by omega), getElem!_pos ends _ (by omega)]
  have het : ends[t.toNat]! = endOf ends t := by unfold endOf; rw [getD_lt (by omega), getElem!_pos ends _ (by omega)]
  have hcs : cls[s.toNat]! = clf cls s := clf_at hs.1 (by omega)
  have hct : cls[t.toNat]! = clf cls t := clf_at ht.1 (by omega)
  have hrow : ∀ s : Int, 0 ≤ s ∧ s < (m : Int) → (next[s.toNat]!).length = n ∧ next[s.toNat]! ∈ next ∧ rowOf next s = next[s.toNat]! := fun s hs => by
    have h1 : s.toNat < next.length := by omega
    refine ⟨?_, ?_, ?_⟩
    · rw [getElem!_pos next _ h1]; exact hR.row _ (List.getElem_mem h1)
    · rw [getElem!_pos next _ h1]; exact List.getElem_mem h1
    · unfold rowOf; rw [getD_lt h1, getElem!_pos next _ h1]
  obtain ⟨rs, hrs⟩ : ∃ r, next[s.toNat]! = r := ⟨_, rfl⟩
  obtain ⟨rt, hrt⟩ : ∃ r, next[t.toNat]! = r := ⟨_, rfl⟩
  obtain ⟨s1, s2, s3⟩ := hrow s hs
  obtain ⟨t1, t2, t3⟩ := hrow t ht
  rw [hrs] at s1 s2 s3
  rw [hrt] at t1 t2 t3
  refine snd_of_body (n := 62) (tm := [(0, .t (tIntss next)), (1, .t (tBools ends)), (2, .t (.list (cls.map tNat))), (3, .t (tInt s)), (4, .t (tInt t))]) (rs := [.tmp 10]) tt_ok Tryd.func59 rfl rfl rfl rfl rfl ?_
  unfold likesB
  by_cases h1 : endOf ends s = endOf ends t
  · have hb : (ends[s.toNat]! == ends[t.toNat]!) = true := by rw [hes, het, h1]; simp
    by_cases h2 : clf cls s = clf cls t
    · have hb2 : ((cls[s.toNat]! : Nat) : Int) = ((cls[t.toNat]! : Nat) : Int) := by rw [hcs, hct, h2]
      repeat' (first | (with_reducible first | apply w1 | apply w2 | apply w3 | apply w4 | apply w5 | apply w6 | apply w7 | apply w8 | apply w9 | apply wa | apply wb | apply wc) | ((with_reducible apply wd); focus decide) | ((with_reducible apply we); focus exact rfl) | ((with_reducible apply wf); focus exact rfl) | ((first | (with_reducible apply SW_run tt_ok hG htb) | ((with_reducible apply SW_draw rfl tt_ok hG htb); (focus kernel_rfl); focus simp only [List.range, List.range.loop, List.size_toArray, List.length_cons, List.length_nil, Nat.reduceAdd])); focus ((repeat' (first | (with_reducible first | exact wg | exact wh) | ((with_reducible first | apply wi | apply wj); focus (simp (discharger := omega) only [go_sem, hb, hb2, simprocAttr]; with_reducible rfl)))); done)))
      refine SW_loop (fun k st => ∃ l : Nat, k = n - l ∧ st = ⟨62, [(0, .t (tIntss next)), (2, .t (.list (cls.map tNat))), (3, .t (tInt s)), (4, .t (tInt t)), (11, .t (tInt l))], []⟩ ∧ l ≤ n ∧ ∀ j, j < l → clf cls (nx next s j) = clf cls (nx next t j)) n ⟨_, Norm.headS (own := []) (keep := [0, 2, 3, 4, 11]) (by refine ⟨?_, ?_⟩; (simp (discharger := omega) only [go_sem, simprocAttr]; with_reducible rfl); refine ⟨?_, ?_, ?_, ?_⟩ <;> (simp only [go_sem, simprocAttr]; with_reducible rfl)), 0, rfl, rfl, Nat.zero_le _, fun j hj => by omega⟩ ?_
      rintro k st ⟨l, rfl, rfl, hl, hA⟩
      by_cases hlt : l < n
      · obtain ⟨u, hu⟩ : ∃ u, rs[l]! = u := ⟨_, rfl⟩
        obtain ⟨v, hv⟩ : ∃ v, rt[l]! = v := ⟨_, rfl⟩
        have hnu : nx next s l = u := by unfold nx; rw [s3, getD_lt (by omega), ← hu, getElem!_pos rs l (by omega)]
        have hnv : nx next t l = v := by unfold nx; rw [t3, getD_lt (by omega), ← hv, getElem!_pos rt l (by omega)]
        have hu2 : 0 ≤ u ∧ u < (m : Int) := by rw [← hu, getElem!_pos rs l (by omega)]; exact hR.ok _ s2 _ (List.getElem_mem (by omega))
        have hv2 : 0 ≤ v ∧ v < (m : Int) := by rw [← hv, getElem!_pos rt l (by omega)]; exact hR.ok _ t2 _ (List.getElem_mem (by omega))
        obtain ⟨c, hcu⟩ : ∃ c, cls[u.toNat]! = c := ⟨_, rfl⟩
        obtain ⟨d, hcv⟩ : ∃ d, cls[v.toNat]! = d := ⟨_, rfl⟩
        have hcu2 : clf cls u = c := by rw [← clf_at hu2.1 (by omega), hcu]
        have hcv2 : clf cls v = d := by rw [← clf_at hv2.1 (by omega), hcv]
        by_cases h3 : c = d
        · repeat' (first | (with_reducible first | apply w1 | apply w2 | apply w3 | apply w4 | apply w5 | apply w6 | apply w7 | apply w8 | apply w9 | apply wa | apply wb | apply wc) | ((with_reducible apply wd); focus decide) | ((with_reducible apply we); focus exact rfl) | ((with_reducible apply wf); focus exact rfl) | ((first | (with_reducible apply SW_run tt_ok hG htb) | ((with_reducible apply SW_draw rfl tt_ok hG htb); (focus kernel_rfl); focus simp only [List.range, List.range.loop, List.size_toArray, List.length_cons, List.length_nil, Nat.reduceAdd])); focus ((repeat' (first | (with_reducible first | exact wg | exact wh) | ((with_reducible first | apply wi | apply wj); focus (simp (discharger := omega) only [go_sem, hrs, hrt, hu, hv, hcu, hcv, simprocAttr]; with_reducible rfl)))); done)))
          exact ⟨n - (l + 1), _, by omega, Norm.headS (own := []) (keep := [0, 2, 3, 4, 11]) (by refine ⟨?_, ?_⟩; (simp (discharger := omega) only [go_sem, simprocAttr]; with_reducible rfl); refine ⟨?_, ?_, ?_, ?_⟩ <;> (simp only [go_sem, simprocAttr]; with_reducible rfl)), l + 1, rfl, rfl, by omega, fun j hj => by
            by_cases e : j = l
            · subst e; rw [hnu, hnv, hcu2, hcv2, h3]
            · exact hA j (by omega)⟩
        · rw [decide_eq_false (fun e => h3 (by have := range_same.1 e.2.2 l hlt; rwa [hnu, hnv, hcu2, hcv2] at this))]
          repeat' (first | (with_reducible first | apply w1 | apply w2 | apply w3 | apply w4 | apply w5 | apply w6 | apply w7 | apply w8 | apply w9 | apply wa | apply wb | apply wc) | ((with_reducible apply wd); focus decide) | ((with_reducible apply we); focus exact rfl) | ((with_reducible apply wf); focus exact rfl) | ((first | (with_reducible apply SW_run tt_ok hG htb) | ((with_reducible apply SW_draw rfl tt_ok hG htb); (focus kernel_rfl); focus simp only [List.range, List.range.loop, List.size_toArray, List.length_cons, List.length_nil, Nat.reduceAdd])); focus ((repeat' (first | (with_reducible first | exact wg | exact wh) | ((with_reducible first | apply wi | apply wj); focus (simp (discharger := omega) only [go_sem, hrs, hrt, hu, hv, hcu, hcv, simprocAttr]; with_reducible rfl)))); done)))
          exact (by simp (discharger := omega) only [go_sem, simprocAttr])
      · obtain rfl : l = n := by omega
        rw [decide_eq_true ⟨h1, h2, range_same.2 hA⟩]
        repeat' (first | (with_reducible first | apply w1 | apply w2 | apply w3 | apply w4 | apply w5 | apply w6 | apply w7 | apply w8 | apply w9 | apply wa | apply wb | apply wc) | ((with_reducible apply wd); focus decide) | ((with_reducible apply we); focus exact rfl) | ((with_reducible apply wf); focus exact rfl) | ((first | (with_reducible apply SW_run tt_ok hG htb) | ((with_reducible apply SW_draw rfl tt_ok hG htb); (focus kernel_rfl); focus simp only [List.range, List.range.loop, List.size_toArray, List.length_cons, List.length_nil, Nat.reduceAdd])); focus ((repeat' (first | (with_reducible first | exact wg | exact wh) | ((with_reducible first | apply wi | apply wj); focus (simp (discharger := omega) only [go_sem, hrs, simprocAttr]; with_reducible rfl)))); done)))
        exact (by simp (discharger := omega) only [go_sem, simprocAttr])
    · have hb2 : ¬ ((cls[s.toNat]! : Nat) : Int) = ((cls[t.toNat]! : Nat) : Int) := by rw [hcs, hct]; omega
      rw [decide_eq_false (fun e => h2 e.2.1)]
      repeat' (first | (with_reducible first | apply w1 | apply w2 | apply w3 | apply w4 | apply w5 | apply w6 | apply w7 | apply w8 | apply w9 | apply wa | apply wb | apply wc) | ((with_reducible apply wd); focus decide) | ((with_reducible apply we); focus exact rfl) | ((with_reducible apply wf); focus exact rfl) | ((first | (with_reducible apply SW_run tt_ok hG htb) | ((with_reducible apply SW_draw rfl tt_ok hG htb); (focus kernel_rfl); focus simp only [List.range, List.range.loop, List.size_toArray, List.length_cons, List.length_nil, Nat.reduceAdd])); focus ((repeat' (first | (with_reducible first | exact wg | exact wh) | ((with_reducible first | apply wi | apply wj); focus (simp (discharger := omega) only [go_sem, hb, hb2, simprocAttr]; with_reducible rfl)))); done)))
      exact (by simp (discharger := omega) only [go_sem, simprocAttr])
  · have hb : (ends[s.toNat]! == ends[t.toNat]!) = false := by rw [hes, het]; simpa using h1
    rw [decide_eq_false (fun e => h1 e.1)]
    repeat' (first | (with_reducible first | apply w1 | apply w2 | apply w3 | apply w4 | apply w5 | apply w6 | apply w7 | apply w8 | apply w9 | apply wa | apply wb | apply wc) | ((with_reducible apply wd); focus decide) | ((with_reducible apply we); focus exact rfl) | ((with_reducible apply wf); focus exact rfl) | ((first | (with_reducible apply SW_run tt_ok hG htb) | ((with_reducible apply SW_draw rfl tt_ok hG htb); (focus kernel_rfl); focus simp only [List.range, List.range.loop, List.size_toArray, List.length_cons, List.length_nil, Nat.reduceAdd])); focus ((repeat' (first | (with_reducible first | exact wg | exact wh) | ((with_reducible first | apply wi | apply wj); focus (simp (discharger := omega) only [go_sem, hb, simprocAttr]; with_reducible rfl)))); done)))
    exact (by simp (discharger := omega) only [go_sem, simprocAttr])
end
end Go.Proofs.YthcclcbliedodaaDoor
namespace Go.Proofs.YthcclcbliedodaaDoor
open Go.RowKit

/-- What a state looks like to the reference. -/
def kap (next : List (List Int)) (ends : List Bool) (n : Nat) (cl : Int → Nat) (s : Int) : Bool × Nat × List Nat := (endOf ends s, cl s, (List.range n).map fun l => cl (nx next s l))
theorem likesB_iff {next : List (List Int)} {ends : List Bool} {n : Nat} {cl : Int → Nat} {s t : Int} : likesB next ends n cl s t = true ↔ kap next ends n cl s = kap next ends n cl t := by
  simp [likesB, kap]
theorem kap_looks (next : List (List Int)) (ends : List Bool) (n : Nat) (out : List Int) (cl : Int → Nat) : Looks next ends n out cl (kap next ends n cl) := by
  refine ⟨fun s t _ _ h => ?_, fun s t _ _ h l hl => ?_, fun s t _ _ h => ?_, fun s t _ _ h1 h2 h3 => ?_⟩
  · simp only [kap, Prod.mk.injEq] at h; exact h.2.1
  · simp only [kap, Prod.mk.injEq] at h; exact range_same.1 h.2.2 l hl
  · simp only [kap, Prod.mk.injEq] at h; exact h.1
  · simp only [kap, Prod.mk.injEq]; exact ⟨h1, h2, range_same.2 h3⟩
section
variable {G : World → Prop} (hG : Lasting G)
include hG
set_option maxHeartbeats 4000000 in
set_option maxRecDepth 100000 in
theorem Shrunk_snd (base tracks : Int) {n m : Nat} {next : List (List Int)} {ends : List Bool} (hR : Rows0 n m next) (hm : 0 < m) (hm2 : m ≤ 2000000) (he : ends.length = m) (hn : n ≤ 1000) :
    Snd Tryd.prog G 38 [tInt base, tInt tracks, tIntss next, tBools ends] (shrinkT base tracks n next ends) := by
  have htb := Tab.cons (RMet_snd (G := G) hG hR hm hm2 hn) Tab.nil
  have hlen := hR.len
  have hmo := met_ok hR hm
  have hbf := met_bfs hR hm
  have hol := hmo.len
  generalize met next = out at htb hmo hbf hol
  refine snd_of_body (n := 135) (tm := [(0, .t (tInt base)), (1, .t (tInt tracks)), (2, .t (tIntss next)), (3, .t (tBools ends))]) (rs := [.cell 8 25, .tmp 9]) tt_ok Tryd.func38 rfl rfl rfl rfl rfl ?_
  repeat' (first | (with_reducible first | apply w1 | apply w2 | apply w3 | apply w4 | apply w5 | apply w6 | apply w7 | apply w8 | apply w9 | apply wa | apply wb | apply wc) | ((with_reducible apply wd); focus decide) | ((with_reducible apply we); focus exact rfl) | ((with_reducible apply wf); focus exact rfl) | ((first | (with_reducible apply SW_run tt_ok hG htb) | ((with_reducible apply SW_draw rfl tt_ok hG htb); (focus kernel_rfl); focus simp only [List.range, List.range.loop, List.size_toArray, List.length_cons, List.length_nil, Nat.reduceAdd])); focus ((repeat' (first | (with_reducible first | exact wg | exact wh) | ((with_reducible first | apply wi | apply wj); focus (simp (discharger := omega) only [go_sem, simprocAttr]; with_reducible rfl)))); done)))
  refine SW_loop (fun k s => ∃ (many : Nat) (cls : List Nat), k = m + 1 - many ∧ s = ⟨135, [(0, .t (tInt base)), (1, .t (tInt tracks)), (2, .t (tIntss next)), (3, .t (tBools ends)), (8, .bptr 0 0), (10, .t (tInts out)), (11, .sref 1), (12, .t (tNat many))], [.box [.t (tInt 0), .t (tInt 0), .nil, .nil], .row 3 1 false (cls.map tNat)]⟩ ∧ cls.length = m ∧ many ≤ m ∧ RInv next ends n out (clf cls) many) (m + 1)
    ⟨_, Norm.headS (own := [(11, 3, 1, false)]) (keep := [0, 1, 2, 3, 8, 10, 11, 12]) (by refine ⟨?_, ?_⟩; (simp (discharger := omega) only [go_sem, simprocAttr]; with_reducible rfl); refine ⟨?_, ?_, ?_, ?_⟩ <;> (simp only [go_sem, simprocAttr]; with_reducible rfl)), 0, List.replicate m 0, rfl, by rw [List.map_replicate, hlen]; rfl, by simp, Nat.zero_le _, RInv.start fun s t hs ht e => by
      have h1 := hmo.ok s hs
      have h2 := hmo.ok t ht
      unfold clf
      rw [if_pos h1.1, if_pos h2.1, getD_lt (by simp; omega), getD_lt (by simp; omega)]; simp⟩ ?_
  clear htb
  have htb : Tab.ok Tryd.prog G [] := Tab.nil
  rintro k s ⟨many, cls, rfl, rfl, hcl, hmany, hinv⟩
  have hlook := kap_looks next ends n out (clf cls)
  repeat' (first | (with_reducible first | apply w1 | apply w2 | apply w3 | apply w4 | apply w5 | apply w6 | apply w7 | apply w8 | apply w9 | apply wa | apply wb | apply wc) | ((with_reducible apply wd); focus decide) | ((with_reducible apply we); focus exact rfl) | ((with_reducible apply wf); focus exact rfl) | ((first | (with_reducible apply SW_run tt_ok hG htb) | ((with_reducible apply SW_draw rfl tt_ok hG htb); (focus kernel_rfl); focus simp only [List.range, List.range.loop, List.size_toArray, List.length_cons, List.length_nil, Nat.reduceAdd])); focus ((repeat' (first | (with_reducible first | exact wg | exact wh) | ((with_reducible first | apply wi | apply wj); focus (simp (discharger := omega) only [go_sem, simprocAttr]; with_reducible rfl)))); done)))
  refine SW_loop (fun k s => ∃ (i : Nat) (frs : List Nat) (R : List Int), k = m - i ∧ s = ⟨135, [(0, .t (tInt base)), (1, .t (tInt tracks)), (2, .t (tIntss next)), (3, .t (tBools ends)), (8, .bptr 0 0), (10, .t (tInts out)), (11, .sref 1), (12, .t (tNat many)), (13, .sref 2), (14, .sref 3), (15, .t (tInt i))], [.box [.t (tInt 0), .t (tInt 0), .nil, .nil], .row 3 1 false (cls.map tNat), .row 3 1 false (R.map tInt), .row 3 1 true (frs.map tNat)]⟩ ∧ frs.length = m ∧ i ≤ out.length ∧ R.length ≤ 80 ∧ Numd (out.take i) (kap next ends n (clf cls)) (clf frs) R) m
    ⟨_, Norm.headS (own := [(11, 3, 1, false), (13, 3, 1, false), (14, 3, 1, true)]) (keep := [0, 1, 2, 3, 8, 10, 11, 12, 13, 14, 15]) (by refine ⟨?_, ?_⟩; (simp (discharger := omega) only [go_sem, simprocAttr]; with_reducible rfl); refine ⟨?_, ?_, ?_, ?_⟩ <;> (simp only [go_sem, simprocAttr]; with_reducible rfl)), 0, List.replicate m 0, [], rfl, by rw [List.map_replicate, hlen]; rfl, by simp, Nat.zero_le _, by simp, by rw [List.take_zero]; exact Numd.start _ _⟩ ?_
  rintro k s ⟨i, frs, R, rfl, rfl, hfl, hi, hR8, hN⟩
  have hRi : R.length ≤ i ∧ ∀ q ∈ R, 0 ≤ q ∧ q < (m : Int) := by
    refine ⟨?_, fun q hq => hmo.ok q (List.mem_of_mem_take (hN.mem hq))⟩
    have h1 : R.Nodup := (hN.distinct).imp fun {a b} h e => h (by rw [e])
    have h2 : (R.map fun q => ((out.take i).idxOf q)).length ≤ i := nodup_boundN i _ (by
      refine List.pairwise_map.2 (h1.imp_of_mem fun {a b} ha hb hne e => hne ?_)
      have e1 := List.getElem_idxOf (List.idxOf_lt_length_of_mem (hN.mem ha))
      have e2 := List.getElem_idxOf (List.idxOf_lt_length_of_mem (hN.mem hb))
      simp only [e] at e1
      exact e1.symm.trans e2) fun k hk => by
        obtain ⟨q, hq, rfl⟩ := List.mem_map.1 hk
        have := List.idxOf_lt_length_of_mem (hN.mem hq)
        simp at this; omega
    simpa using h2
  by_cases hlt : i < out.length
  · obtain ⟨r, hor⟩ : ∃ r, out[i]! = r := ⟨_, rfl⟩
    have hio : out[i]? = some r := by rw [← hor, getElem!_pos out i hlt]; exact List.getElem?_eq_getElem hlt
    have hrm : r ∈ out := List.mem_of_getElem? hio
    have hs : 0 ≤ r ∧ r < (m : Int) := hmo.ok _ hrm
    have hnr : r ∉ out.take i := fun hm => by
      obtain ⟨q, hq, e⟩ := List.mem_iff_getElem.1 hm
      simp only [List.getElem_take] at e
      rw [List.getElem?_eq_getElem hlt] at hio
      have := nodup_inj hmo.nd (by simp at hq; omega) hlt (e.trans (Option.some.inj hio).symm)
      simp at hq; omega
    have htk : out.take (i + 1) = out.take i ++ [r] := by
      rw [List.take_succ_eq_append_getElem hlt]
      rw [List.getElem?_eq_getElem hlt] at hio
      rw [Option.some.inj hio]
    repeat' (first | (with_reducible first | apply w1 | apply w2 | apply w3 | apply w4 | apply w5 | apply w6 | apply w7 | apply w8 | apply w9 | apply wa | apply wb | apply wc) | ((with_reducible apply wd); focus decide) | ((with_reducible apply we); focus exact rfl) | ((with_reducible apply wf); focus exact rfl) | ((first | (with_reducible apply SW_run tt_ok hG htb) | ((with_reducible apply SW_draw rfl tt_ok hG htb); (focus kernel_rfl); focus simp only [List.range, List.range.loop, List.size_toArray, List.length_cons, List.length_nil, Nat.reduceAdd])); focus ((repeat' (first | (with_reducible first | exact wg | exact wh) | ((with_reducible first | apply wi | apply wj); focus (simp (discharger := omega) only [go_sem, hor, simprocAttr]; with_reducible rfl)))); done)))
    refine SW_loop (fun k s => ∃ j : Nat, k = R.length - j ∧ s = ⟨135, [(0, .t (tInt base)), (1, .t (tInt tracks)), (2, .t (tIntss next)), (3, .t (tBools ends)), (8, .bptr 0 0), (10, .t (tInts out)), (11, .sref 1), (12, .t (tNat many)), (13, .sref 2), (14, .sref 3), (15, .t (tInt i)), (16, .t (tInt r)), (17, .t (tInt j))], [.box [.t (tInt 0), .t (tInt 0), .nil, .nil], .row 3 1 false (cls.map tNat), .row 3 1 false (R.map tInt), .row 3 1 true (frs.map tNat)]⟩ ∧ j ≤ R.length ∧ ∀ q, q < j → kap next ends n (clf cls) R[q]! ≠ kap next ends n (clf cls) r) R.length
      ⟨_, Norm.headS (own := [(11, 3, 1, false), (13, 3, 1, false), (14, 3, 1, true)]) (keep := [0, 1, 2, 3, 8, 10, 11, 12, 13, 14, 15, 16, 17]) (by refine ⟨?_, ?_⟩; (simp (discharger := omega) only [go_sem, simprocAttr]; with_reducible rfl); refine ⟨?_, ?_, ?_, ?_⟩ <;> (simp only [go_sem, simprocAttr]; with_reducible rfl)), 0, rfl, rfl, Nat.zero_le _, fun q hq => by omega⟩ ?_
    rintro k s ⟨j, rfl, rfl, hj, hA⟩
    by_cases hlt2 : j < R.length
    · obtain ⟨q, hq⟩ : ∃ q, R[j]! = q := ⟨_, rfl⟩
      have hq2 : R[j]? = some q := by rw [← hq, getElem!_pos R j hlt2]; exact List.getElem?_eq_getElem hlt2
      have hqm := hRi.2 q (List.mem_of_getElem? hq2)
      have htb := Tab.cons (likes_snd (G := G) (cls := cls) (s := r) (t := q) hG hR he hcl hs hqm hn) Tab.nil
      by_cases hlk : likesB next ends n (clf cls) r q = true
      · rw [hlk] at htb
        obtain ⟨c1, c2⟩ := clf_set (cls := frs) (r := r) hs.1 (by omega) j
        repeat' (first | (with_reducible first | apply w1 | apply w2 | apply w3 | apply w4 | apply w5 | apply w6 | apply w7 | apply w8 | apply w9 | apply wa | apply wb | apply wc) | ((with_reducible apply wd); focus decide) | ((with_reducible apply we); focus exact rfl) | ((with_reducible apply wf); focus exact rfl) | ((first | (with_reducible apply SW_run tt_ok hG htb) | ((with_reducible apply SW_draw rfl tt_ok hG htb); (focus kernel_rfl); focus simp only [List.range, List.range.loop, List.size_toArray, List.length_cons, List.length_nil, Nat.reduceAdd])); focus ((repeat' (first | (with_reducible first | exact wg | exact wh) | ((with_reducible first | apply wi | apply wj); focus (simp (discharger := omega) only [go_sem, hq, simprocAttr]; with_reducible rfl)))); done)))
        exact ⟨m - (i + 1), _, by omega, Norm.headS (own := [(11, 3, 1, false), (13, 3, 1, false), (14, 3, 1, true)]) (keep := [0, 1, 2, 3, 8, 10, 11, 12, 13, 14, 15]) (by refine ⟨?_, ?_⟩; (simp (discharger := omega) only [go_sem, simprocAttr]; with_reducible rfl); refine ⟨?_, ?_, ?_, ?_⟩ <;> (simp only [go_sem, simprocAttr]; with_reducible rfl)), i + 1, frs.set r.toNat j, R, rfl, by rw [List.map_set]; rfl, by simpa using hfl, by omega, hR8, by rw [htk]; exact hN.old hnr hq2 (likesB_iff.1 hlk).symm c2 c1⟩
      · have hlk2 : likesB next ends n (clf cls) r q = false := by simpa using hlk
        rw [hlk2] at htb
        repeat' (first | (with_reducible first | apply w1 | apply w2 | apply w3 | apply w4 | apply w5 | apply w6 | apply w7 | apply w8 | apply w9 | apply wa | apply wb | apply wc) | ((with_reducible apply wd); focus decide) | ((with_reducible apply we); focus exact rfl) | ((with_reducible apply wf); focus exact rfl) | ((first | (with_reducible apply SW_run tt_ok hG htb) | ((with_reducible apply SW_draw rfl tt_ok hG htb); (focus kernel_rfl); focus simp only [List.range, List.range.loop, List.size_toArray, List.length_cons, List.length_nil, Nat.reduceAdd])); focus ((repeat' (first | (with_reducible first | exact wg | exact wh) | ((with_reducible first | apply wi | apply wj); focus (simp (discharger := omega) only [go_sem, hq, simprocAttr]; with_reducible rfl)))); done)))
        exact ⟨R.length - (j + 1), _, by omega, Norm.headS (own := [(11, 3, 1, false), (13, 3, 1, false), (14, 3, 1, true)]) (keep := [0, 1, 2, 3, 8, 10, 11, 12, 13, 14, 15, 16, 17]) (by refine ⟨?_, ?_⟩; (simp (discharger := omega) only [go_sem, simprocAttr]; with_reducible rfl); refine ⟨?_, ?_, ?_, ?_⟩ <;> (simp only [go_sem, simprocAttr]; with_reducible rfl)), j + 1, rfl, rfl, by omega, fun p hp => by
          by_cases e : p = j
          · subst e; rw [hq]; exact fun e => hlk (likesB_iff.2 e.symm)
          · exact hA p (by omega)⟩
    · have hjR : j = R.length := by omega
      subst hjR
      have hno : ∀ q ∈ R, kap next ends n (clf cls) q ≠ kap next ends n (clf cls) r := fun q hq => by
        obtain ⟨p, hp, e⟩ := List.mem_iff_getElem.1 hq
        have := hA p hp
        rwa [getElem!_pos R p hp, e] at this
      by_cases h80 : R.length = 80
      · have hT : shrinkT base tracks n next ends = .tup [tAuto GAuto.zero, .bool false] := by
          have h1 := hinv.bound hR hm hbf hlook (Q := R ++ [r]) (fun q hq => by
            rcases List.mem_append.1 hq with h | h
            · exact List.mem_of_mem_take (hN.mem h)
            · simp at h; subst h; exact hrm) (by
            rw [List.pairwise_append]
            refine ⟨hN.distinct, by simp, fun a ha b hb => ?_⟩
            simp at hb; subst hb; exact hno a ha)
          unfold shrinkT; rw [if_neg (by simp at h1; omega)]
        rw [hT]
        repeat' (first | (with_reducible first | apply w1 | apply w2 | apply w3 | apply w4 | apply w5 | apply w6 | apply w7 | apply w8 | apply w9 | apply wa | apply wb | apply wc) | ((with_reducible apply wd); focus decide) | ((with_reducible apply we); focus exact rfl) | ((with_reducible apply wf); focus exact rfl) | ((first | (with_reducible apply SW_run tt_ok hG htb) | ((with_reducible apply SW_draw rfl tt_ok hG htb); (focus kernel_rfl); focus simp only [List.range, List.range.loop, List.size_toArray, List.length_cons, List.length_nil, Nat.reduceAdd])); focus ((repeat' (first | (with_reducible first | exact wg | exact wh) | ((with_reducible first | apply wi | apply wj); focus (simp (discharger := omega) only [go_sem, h80, simprocAttr]; with_reducible rfl)))); done)))
        exact (by simp (discharger := omega) only [go_sem, tAuto, GAuto.zero, simprocAttr])
      · obtain ⟨c1, c2⟩ := clf_set (cls := frs) (r := r) hs.1 (by omega) R.length
        repeat' (first | (with_reducible first | apply w1 | apply w2 | apply w3 | apply w4 | apply w5 | apply w6 | apply w7 | apply w8 | apply w9 | apply wa | apply wb | apply wc) | ((with_reducible apply wd); focus decide) | ((with_reducible apply we); focus exact rfl) | ((with_reducible apply wf); focus exact rfl) | ((first | (with_reducible apply SW_run tt_ok hG htb) | ((with_reducible apply SW_draw rfl tt_ok hG htb); (focus kernel_rfl); focus simp only [List.range, List.range.loop, List.size_toArray, List.length_cons, List.length_nil, Nat.reduceAdd])); focus ((repeat' (first | (with_reducible first | exact wg | exact wh) | ((with_reducible first | apply wi | apply wj); focus (simp (discharger := omega) only [go_sem, h80, simprocAttr]; with_reducible rfl)))); done)))
        exact ⟨m - (i + 1), _, by omega, Norm.headS (own := [(11, 3, 1, false), (13, 3, 1, false), (14, 3, 1, true)]) (keep := [0, 1, 2, 3, 8, 10, 11, 12, 13, 14, 15]) (by refine ⟨?_, ?_⟩; (simp (discharger := omega) only [go_sem, simprocAttr]; with_reducible rfl); refine ⟨?_, ?_, ?_, ?_⟩ <;> (simp only [go_sem, simprocAttr]; with_reducible rfl)), i + 1, frs.set r.toNat R.length, R ++ [r], rfl, by rw [List.map_set, List.map_append]; rfl, by simpa using hfl, by omega, by simp; omega, by rw [htk]; exact hN.new hnr hno c2 c1⟩
  · have hie : i = out.length := by omega
    subst hie
    rw [List.take_length] at hN
    clear hi hlt
    have hmore := hinv.more hN hlook
    have hbound : R.length ≤ m := by omega
    by_cases hRm : R.length = many
    · have hdone := hinv.done hR hm hmo hbf hN hlook hRm
      have hre := leastRE_eq hR hm hdone
      have hclR : ∀ s, s ∈ out → clf frs s < R.length := fun s hs => hN.lt hs
      subst hRm
      clear hinv hlook hmore
      have hRl : (leftRows next (clf frs) R).length = R.length := by simp [leftRows]
      have hEl : (leftEnds ends R).length = R.length := by simp [leftEnds]
      have hR80 : R.length ≤ 1000000 := by omega
      repeat' (first | (with_reducible first | apply w1 | apply w2 | apply w3 | apply w4 | apply w5 | apply w6 | apply w7 | apply w8 | apply w9 | apply wa | apply wb | apply wc) | ((with_reducible apply wd); focus decide) | ((with_reducible apply we); focus exact rfl) | ((with_reducible apply wf); focus exact rfl) | ((first | (with_reducible apply SW_run tt_ok hG htb) | ((with_reducible apply SW_draw rfl tt_ok hG htb); (focus kernel_rfl); focus simp only [List.range, List.range.loop, List.size_toArray, List.length_cons, List.length_nil, Nat.reduceAdd])); focus ((repeat' (first | (with_reducible first | exact wg | exact wh) | ((with_reducible first | apply wi | apply wj); focus (simp (discharger := omega) only [go_sem, simprocAttr]; with_reducible rfl)))); done)))
      refine SW_loop (fun j s => ∃ (k : Nat) (nt et : List T), j = R.length - k ∧ s = ⟨135, [(2, .t (tIntss next)), (3, .t (tBools ends)), (8, .bptr 0 0), (11, .sref 1), (12, .t (tNat R.length)), (13, .sref 2), (18, .bptr 3 0), (19, .t (tInt k))], [.box [.t (tInt 0), .t (tInt 0), .nil, .nil], .row 3 1 false (frs.map tNat), .row 3 1 false (R.map tInt), .box [.t (tInt base), .t (tInt tracks), .sref 4, .sref 5], .row 35 1 true nt, .row 4 1 true et]⟩ ∧
          nt = ((leftRows next (clf frs) R).take k).map tInts ∧ et = ((leftEnds ends R).take k).map T.bool ∧ k ≤ R.length) R.length
        ⟨_, (Norm.ownB (j := 4) (off := 2) (e := 35) (sz := 1) rfl rfl Nat.one_pos).trans ((Norm.ownB (j := 4) (off := 3) (e := 4) (sz := 1) rfl rfl Nat.one_pos).trans (Norm.headS (own := [(11, 3, 1, false), (13, 3, 1, false)]) (keep := [2, 3, 8, 11, 12, 13, 18, 19]) (by refine ⟨?_, ?_⟩; (simp (discharger := omega) only [go_sem, simprocAttr]; with_reducible rfl); refine ⟨?_, ?_, ?_, ?_⟩ <;> (simp only [go_sem, simprocAttr]; with_reducible rfl)))), 0, _, _, rfl, rfl, by simp, by simp, Nat.zero_le _⟩ ?_
      rintro j s ⟨k, nt, et, rfl, rfl, hnt, het, hk⟩
      have hnl : nt.length = k := by rw [hnt]; simp; omega
      have hel2 : et.length = k := by rw [het]; simp; omega
      by_cases hlt : k < R.length
      · obtain ⟨r, hor⟩ : ∃ r, R[k]! = r := ⟨_, rfl⟩
        have hRk : R[k]? = some r := by rw [← hor, getElem!_pos R k hlt]; exact List.getElem?_eq_getElem hlt
        have hRk2 : R[k] = r := by rw [List.getElem?_eq_getElem hlt] at hRk; exact Option.some.inj hRk
        have hrm : r ∈ out := hN.mem (List.mem_of_getElem? hRk)
        have hs : 0 ≤ r ∧ r < (m : Int) := hmo.ok _ hrm
        obtain ⟨row, hrow⟩ : ∃ row, next[r.toNat]! = row := ⟨_, rfl⟩
        have hrl : r.toNat < next.length := by omega
        have hrow2 : rowOf next r = row := by unfold rowOf; rw [getD_lt hrl, ← hrow, getElem!_pos next _ hrl]
        have hrmem : row ∈ next := by rw [← hrow, getElem!_pos next _ hrl]; exact List.getElem_mem hrl
        have hrn : row.length = n := hR.row _ hrmem
        have hend : ends[r.toNat]! = endOf ends r := by unfold endOf; rw [getD_lt (by omega), getElem!_pos ends _ (by omega)]
        repeat' (first | (with_reducible first | apply w1 | apply w2 | apply w3 | apply w4 | apply w5 | apply w6 | apply w7 | apply w8 | apply w9 | apply wa | apply wb | apply wc) | ((with_reducible apply wd); focus decide) | ((with_reducible apply we); focus exact rfl) | ((with_reducible apply wf); focus exact rfl) | ((first | (with_reducible apply SW_run tt_ok hG htb) | ((with_reducible apply SW_draw rfl tt_ok hG htb); (focus kernel_rfl); focus simp only [List.range, List.range.loop, List.size_toArray, List.length_cons, List.length_nil, Nat.reduceAdd])); focus ((repeat' (first | (with_reducible first | exact wg | exact wh) | ((with_reducible first | apply wi | apply wj); focus (simp (discharger := omega) only [go_sem, hor, hrow, simprocAttr]; with_reducible rfl)))); done)))
        refine SW_loop (fun j s => ∃ (l : Nat) (rt : List T), j = n - l ∧ s = ⟨135, [(2, .t (tIntss next)), (3, .t (tBools ends)), (8, .bptr 0 0), (11, .sref 1), (12, .t (tNat R.length)), (13, .sref 2), (18, .bptr 3 0), (19, .t (tInt k)), (20, .sref 4), (21, .t (tInt l))], [.box [.t (tInt 0), .t (tInt 0), .nil, .nil], .row 3 1 false (frs.map tNat), .row 3 1 false (R.map tInt), .box [.t (tInt base), .t (tInt tracks), .sref 5, .sref 6], .row 3 1 true rt, .row 35 1 true nt, .row 4 1 true et]⟩ ∧
            l ≤ n ∧ rt = (row.take l).map fun t => tNat (clf frs t)) n ⟨_, Norm.headS (own := [(11, 3, 1, false), (13, 3, 1, false), (20, 3, 1, true)]) (keep := [2, 3, 8, 11, 12, 13, 18, 19, 20, 21]) (by refine ⟨?_, ?_⟩; (simp (discharger := omega) only [go_sem, simprocAttr]; with_reducible rfl); refine ⟨?_, ?_, ?_, ?_⟩ <;> (simp only [go_sem, simprocAttr]; with_reducible rfl)), 0, _, rfl, rfl, Nat.zero_le _, rfl⟩ ?_
        rintro j s ⟨l, rt, rfl, rfl, hl, hrt⟩
        have hrtl : rt.length = l := by rw [hrt]; simp; omega
        by_cases hlt2 : l < n
        · obtain ⟨u, hul⟩ : ∃ u, row[l]! = u := ⟨_, rfl⟩
          have hll : l < row.length := by omega
          have hul2 : row[l]? = some u := by rw [← hul, getElem!_pos row l hll]; exact List.getElem?_eq_getElem hll
          have hu : 0 ≤ u ∧ u < (m : Int) := hR.ok _ hrmem _ (List.mem_of_getElem? hul2)
          obtain ⟨d, hd⟩ : ∃ d, frs[u.toNat]! = d := ⟨_, rfl⟩
          have hd2 : clf frs u = d := by rw [← clf_at hu.1 (by omega), hd]
          have htk2 : row.take (l + 1) = row.take l ++ [u] := by
            rw [List.take_succ_eq_append_getElem hll]
            rw [List.getElem?_eq_getElem hll] at hul2
            rw [Option.some.inj hul2]
          repeat' (first | (with_reducible first | apply w1 | apply w2 | apply w3 | apply w4 | apply w5 | apply w6 | apply w7 | apply w8 | apply w9 | apply wa | apply wb | apply wc) | ((with_reducible apply wd); focus decide) | ((with_reducible apply we); focus exact rfl) | ((with_reducible apply wf); focus exact rfl) | ((first | (with_reducible apply SW_run tt_ok hG htb) | ((with_reducible apply SW_draw rfl tt_ok hG htb); (focus kernel_rfl); focus simp only [List.range, List.range.loop, List.size_toArray, List.length_cons, List.length_nil, Nat.reduceAdd])); focus ((repeat' (first | (with_reducible first | exact wg | exact wh) | ((with_reducible first | apply wi | apply wj); focus (simp (discharger := omega) only [go_sem, hor, hrow, hul, hd, simprocAttr]; with_reducible rfl)))); done)))
          exact ⟨n - (l + 1), _, by omega, Norm.headS (own := [(11, 3, 1, false), (13, 3, 1, false), (20, 3, 1, true)]) (keep := [2, 3, 8, 11, 12, 13, 18, 19, 20, 21]) (by refine ⟨?_, ?_⟩; (simp (discharger := omega) only [go_sem, simprocAttr]; with_reducible rfl); refine ⟨?_, ?_, ?_, ?_⟩ <;> (simp only [go_sem, simprocAttr]; with_reducible rfl)), l + 1, _, rfl, rfl, by omega, by rw [htk2, hrt]; simp [hd2, tNat]⟩
        · obtain rfl : l = n := by omega
          rw [List.take_of_length_le (by omega)] at hrt
          repeat' (first | (with_reducible first | apply w1 | apply w2 | apply w3 | apply w4 | apply w5 | apply w6 | apply w7 | apply w8 | apply w9 | apply wa | apply wb | apply wc) | ((with_reducible apply wd); focus decide) | ((with_reducible apply we); focus exact rfl) | ((with_reducible apply wf); focus exact rfl) | ((first | (with_reducible apply SW_run tt_ok hG htb) | ((with_reducible apply SW_draw rfl tt_ok hG htb); (focus kernel_rfl); focus simp only [List.range, List.range.loop, List.size_toArray, List.length_cons, List.length_nil, Nat.reduceAdd])); focus ((repeat' (first | (with_reducible first | exact wg | exact wh) | ((with_reducible first | apply wi | apply wj); focus (simp (discharger := omega) only [go_sem, hor, hrow, hend, simprocAttr]; with_reducible rfl)))); done)))
          have hlr : (leftRows next (clf frs) R).take (k + 1) = (leftRows next (clf frs) R).take k ++ [row.map fun t => (clf frs t : Int)] := by
            rw [List.take_succ_eq_append_getElem (by omega)]
            congr 1
            simp [leftRows, hRk2, hrow2]
          have hle2 : (leftEnds ends R).take (k + 1) = (leftEnds ends R).take k ++ [endOf ends r] := by
            rw [List.take_succ_eq_append_getElem (by omega)]
            congr 1
            simp [leftEnds, hRk2]
          exact ⟨R.length - (k + 1), _, by omega, Norm.headS (own := [(11, 3, 1, false), (13, 3, 1, false)]) (keep := [2, 3, 8, 11, 12, 13, 18, 19]) (by refine ⟨?_, ?_⟩; (simp (discharger := omega) only [go_sem, simprocAttr]; with_reducible rfl); refine ⟨?_, ?_, ?_, ?_⟩ <;> (simp only [go_sem, simprocAttr]; with_reducible rfl)), k + 1, _, _, rfl, rfl, by rw [hlr, List.map_append, ← hnt, hrt]; simp [tInts, tNat, tInt], by rw [hle2, List.map_append, ← het]; rfl, by omega⟩
      · have hkR : k = R.length := by omega
        subst hkR
        rw [List.take_of_length_le (by omega)] at hnt het
        have hT : shrinkT base tracks n next ends = .tup [tAuto ⟨base, tracks, leftRows next (clf frs) R, leftEnds ends R⟩, .bool true] := by
          unfold shrinkT; rw [hre, if_pos (by simp only [hRl]; omega)]
        rw [hT]
        repeat' (first | (with_reducible first | apply w1 | apply w2 | apply w3 | apply w4 | apply w5 | apply w6 | apply w7 | apply w8 | apply w9 | apply wa | apply wb | apply wc) | ((with_reducible apply wd); focus decide) | ((with_reducible apply we); focus exact rfl) | ((with_reducible apply wf); focus exact rfl) | ((first | (with_reducible apply SW_run tt_ok hG htb) | ((with_reducible apply SW_draw rfl tt_ok hG htb); (focus kernel_rfl); focus simp only [List.range, List.range.loop, List.size_toArray, List.length_cons, List.length_nil, Nat.reduceAdd])); focus ((repeat' (first | (with_reducible first | exact wg | exact wh) | ((with_reducible first | apply wi | apply wj); focus (simp (discharger := omega) only [go_sem, simprocAttr]; with_reducible rfl)))); done)))
        subst hnt het
        exact (by simp (discharger := omega) only [go_sem, tAuto, simprocAttr])
    · repeat' (first | (with_reducible first | apply w1 | apply w2 | apply w3 | apply w4 | apply w5 | apply w6 | apply w7 | apply w8 | apply w9 | apply wa | apply wb | apply wc) | ((with_reducible apply wd); focus decide) | ((with_reducible apply we); focus exact rfl) | ((with_reducible apply wf); focus exact rfl) | ((first | (with_reducible apply SW_run tt_ok hG htb) | ((with_reducible apply SW_draw rfl tt_ok hG htb); (focus kernel_rfl); focus simp only [List.range, List.range.loop, List.size_toArray, List.length_cons, List.length_nil, Nat.reduceAdd])); focus ((repeat' (first | (with_reducible first | exact wg | exact wh) | ((with_reducible first | apply wi | apply wj); focus (simp (discharger := omega) only [go_sem, hRm, simprocAttr]; with_reducible rfl)))); done)))
      exact ⟨m + 1 - R.length, _, by omega, Norm.headS (own := [(11, 3, 1, false)]) (keep := [0, 1, 2, 3, 8, 10, 11, 12]) (by refine ⟨?_, ?_⟩; (simp (discharger := omega) only [go_sem, simprocAttr]; with_reducible rfl); refine ⟨?_, ?_, ?_, ?_⟩ <;> (simp only [go_sem, simprocAttr]; with_reducible rfl)), R.length, frs, rfl, rfl, hfl, hbound, hinv.step hbf hN hlook⟩
theorem LeastOf_snd {a : GAuto} (h0 : autoFault a = 0) : Snd Tryd.prog G 20 [tAuto a] (tAuto (leastA a)) := by
  have g := good_of h0
  have hs := Shrunk_snd (G := G) hG a.base a.tracks g.rows g.m0 (by have := g.m80; omega) g.ends (by have := g.n36; omega)
  rw [shrink_least g] at hs
  have htb := Tab.cons hs Tab.nil
  refine snd_of_body (n := 18) (tm := [(0, .t (tAuto a))]) (rs := [.cell 2 25]) tt_ok Tryd.func20 rfl rfl rfl rfl rfl ?_
  generalize leastA a = b at htb ⊢
  repeat' (first | (with_reducible first | apply w1 | apply w2 | apply w3 | apply w4 | apply w5 | apply w6 | apply w7 | apply w8 | apply w9 | apply wa | apply wb | apply wc) | ((with_reducible apply wd); focus decide) | ((with_reducible apply we); focus exact rfl) | ((with_reducible apply wf); focus exact rfl) | ((first | (with_reducible apply SW_run tt_ok hG htb) | ((with_reducible apply SW_draw rfl tt_ok hG htb); (focus kernel_rfl); focus simp only [List.range, List.range.loop, List.size_toArray, List.length_cons, List.length_nil, Nat.reduceAdd])); focus ((repeat' (first | (with_reducible first | exact wg | exact wh) | ((with_reducible first | apply wi | apply wj); focus (simp (discharger := omega) only [go_sem, tAuto, simprocAttr]; with_reducible rfl)))); done)))
  exact (by simp (discharger := omega) only [go_sem, tAuto, simprocAttr])
end
end Go.Proofs.YthcclcbliedodaaDoor
namespace Go.Proofs.YthcclcbliedodaaDoor
open Go.RowKit

section
variable {G : World → Prop} (hG : Lasting G)
include hG
theorem RRadix_snd (base : Int) : Snd Tryd.prog G 52 [tInt base] (tInt (radix base)) := by
  have htb : Tab.ok Tryd.prog G [] := Tab.nil
  refine snd_of_body (n := 12) (tm := [(0, .t (tInt base))]) (rs := [.tmp 2]) tt_ok Tryd.func52 rfl rfl rfl rfl rfl ?_
  unfold radix
  by_cases h1 : base = 1
  · repeat' (first | (with_reducible first | apply w1 | apply w2 | apply w3 | apply w4 | apply w5 | apply w6 | apply w7 | apply w8 | apply w9 | apply wa | apply wb | apply wc) | ((with_reducible apply wd); focus decide) | ((with_reducible apply we); focus exact rfl) | ((with_reducible apply wf); focus exact rfl) | ((first | (with_reducible apply SW_run tt_ok hG htb) | ((with_reducible apply SW_draw rfl tt_ok hG htb); (focus kernel_rfl); focus simp only [List.range, List.range.loop, List.size_toArray, List.length_cons, List.length_nil, Nat.reduceAdd])); focus ((repeat' (first | (with_reducible first | exact wg | exact wh) | ((with_reducible first | apply wi | apply wj); focus (simp (discharger := omega) only [go_sem, h1, simprocAttr]; with_reducible rfl)))); done)))
    exact (by simp (discharger := omega) only [go_sem, h1, simprocAttr])
  · by_cases h2 : 2 ≤ base
    · by_cases h3 : base ≤ 6
      · repeat' (first | (with_reducible first | apply w1 | apply w2 | apply w3 | apply w4 | apply w5 | apply w6 | apply w7 | apply w8 | apply w9 | apply wa | apply wb | apply wc) | ((with_reducible apply wd); focus decide) | ((with_reducible apply we); focus exact rfl) | ((with_reducible apply wf); focus exact rfl) | ((first | (with_reducible apply SW_run tt_ok hG htb) | ((with_reducible apply SW_draw rfl tt_ok hG htb); (focus kernel_rfl); focus simp only [List.range, List.range.loop, List.size_toArray, List.length_cons, List.length_nil, Nat.reduceAdd])); focus ((repeat' (first | (with_reducible first | exact wg | exact wh) | ((with_reducible first | apply wi | apply wj); focus (simp (discharger := omega) only [go_sem, simprocAttr]; with_reducible rfl)))); done)))
        exact (by simp (discharger := omega) only [go_sem, simprocAttr])
      · repeat' (first | (with_reducible first | apply w1 | apply w2 | apply w3 | apply w4 | apply w5 | apply w6 | apply w7 | apply w8 | apply w9 | apply wa | apply wb | apply wc) | ((with_reducible apply wd); focus decide) | ((with_reducible apply we); focus exact rfl) | ((with_reducible apply wf); focus exact rfl) | ((first | (with_reducible apply SW_run tt_ok hG htb) | ((with_reducible apply SW_draw rfl tt_ok hG htb); (focus kernel_rfl); focus simp only [List.range, List.range.loop, List.size_toArray, List.length_cons, List.length_nil, Nat.reduceAdd])); focus ((repeat' (first | (with_reducible first | exact wg | exact wh) | ((with_reducible first | apply wi | apply wj); focus (simp (discharger := omega) only [go_sem, simprocAttr]; with_reducible rfl)))); done)))
        exact (by simp (discharger := omega) only [go_sem, simprocAttr])
    · repeat' (first | (with_reducible first | apply w1 | apply w2 | apply w3 | apply w4 | apply w5 | apply w6 | apply w7 | apply w8 | apply w9 | apply wa | apply wb | apply wc) | ((with_reducible apply wd); focus decide) | ((with_reducible apply we); focus exact rfl) | ((with_reducible apply wf); focus exact rfl) | ((first | (with_reducible apply SW_run tt_ok hG htb) | ((with_reducible apply SW_draw rfl tt_ok hG htb); (focus kernel_rfl); focus simp only [List.range, List.range.loop, List.size_toArray, List.length_cons, List.length_nil, Nat.reduceAdd])); focus ((repeat' (first | (with_reducible first | exact wg | exact wh) | ((with_reducible first | apply wi | apply wj); focus (simp (discharger := omega) only [go_sem, simprocAttr]; with_reducible rfl)))); done)))
      exact (by simp (discharger := omega) only [go_sem, simprocAttr])
end
end Go.Proofs.YthcclcbliedodaaDoor
namespace Go.Proofs.YthcclcbliedodaaDoor
open Go.RowKit

section
variable {G : World → Prop} (hG : Lasting G)
include hG
set_option maxHeartbeats 4000000 in
theorem RLetters_snd (base t : Int) : Snd Tryd.prog G 25 [tInt base, tInt t] (.tup [tInt (manyOf base t), tInt (manyErr base t)]) := by
  have htb := Tab.cons (RRadix_snd hG base) Tab.nil
  refine snd_of_body (n := 32) (tm := [(0, .t (tInt base)), (1, .t (tInt t))]) (rs := [.tmp 4, .tmp 5]) tt_ok Tryd.func25 rfl rfl rfl rfl rfl ?_
  unfold manyOf manyErr
  generalize hk : radix base = k at htb ⊢
  by_cases h1 : k = 0
  · subst h1
    repeat' (first | (with_reducible first | apply w1 | apply w2 | apply w3 | apply w4 | apply w5 | apply w6 | apply w7 | apply w8 | apply w9 | apply wa | apply wb | apply wc) | ((with_reducible apply wd); focus decide) | ((with_reducible apply we); focus exact rfl) | ((with_reducible apply wf); focus exact rfl) | ((first | (with_reducible apply SW_run tt_ok hG htb) | ((with_reducible apply SW_draw rfl tt_ok hG htb); (focus kernel_rfl); focus simp only [List.range, List.range.loop, List.size_toArray, List.length_cons, List.length_nil, Nat.reduceAdd])); focus ((repeat' (first | (with_reducible first | exact wg | exact wh) | ((with_reducible first | apply wi | apply wj); focus (simp (discharger := omega) only [go_sem, simprocAttr]; with_reducible rfl)))); done)))
    exact (by simp (discharger := omega) only [go_sem, simprocAttr])
  · by_cases h2 : t < 0
    · repeat' (first | (with_reducible first | apply w1 | apply w2 | apply w3 | apply w4 | apply w5 | apply w6 | apply w7 | apply w8 | apply w9 | apply wa | apply wb | apply wc) | ((with_reducible apply wd); focus decide) | ((with_reducible apply we); focus exact rfl) | ((with_reducible apply wf); focus exact rfl) | ((first | (with_reducible apply SW_run tt_ok hG htb) | ((with_reducible apply SW_draw rfl tt_ok hG htb); (focus kernel_rfl); focus simp only [List.range, List.range.loop, List.size_toArray, List.length_cons, List.length_nil, Nat.reduceAdd])); focus ((repeat' (first | (with_reducible first | exact wg | exact wh) | ((with_reducible first | apply wi | apply wj); focus (simp (discharger := omega) only [go_sem, simprocAttr]; with_reducible rfl)))); done)))
      exact (by simp (discharger := omega) only [go_sem, simprocAttr])
    · by_cases h3 : 5 < t
      · repeat' (first | (with_reducible first | apply w1 | apply w2 | apply w3 | apply w4 | apply w5 | apply w6 | apply w7 | apply w8 | apply w9 | apply wa | apply wb | apply wc) | ((with_reducible apply wd); focus decide) | ((with_reducible apply we); focus exact rfl) | ((with_reducible apply wf); focus exact rfl) | ((first | (with_reducible apply SW_run tt_ok hG htb) | ((with_reducible apply SW_draw rfl tt_ok hG htb); (focus kernel_rfl); focus simp only [List.range, List.range.loop, List.size_toArray, List.length_cons, List.length_nil, Nat.reduceAdd])); focus ((repeat' (first | (with_reducible first | exact wg | exact wh) | ((with_reducible first | apply wi | apply wj); focus (simp (discharger := omega) only [go_sem, simprocAttr]; with_reducible rfl)))); done)))
        exact (by simp (discharger := omega) only [go_sem, simprocAttr])
      · obtain ⟨r2, r6⟩ := radix_two (b := base) (by omega)
        rw [hk] at r2 r6
        obtain ⟨t, rfl⟩ := Int.eq_ofNat_of_zero_le (show 0 ≤ t by omega)
        rw [show (if k = 0 ∨ (t : Int) < 0 ∨ 5 < (t : Int) then (1 : Int) else if 36 < powW k (t : Int).toNat then 3 else 0) = if 36 < powW k t then 3 else 0 by rw [if_neg (by omega)]; rfl]
        repeat' (first | (with_reducible first | apply w1 | apply w2 | apply w3 | apply w4 | apply w5 | apply w6 | apply w7 | apply w8 | apply w9 | apply wa | apply wb | apply wc) | ((with_reducible apply wd); focus decide) | ((with_reducible apply we); focus exact rfl) | ((with_reducible apply wf); focus exact rfl) | ((first | (with_reducible apply SW_run tt_ok hG htb) | ((with_reducible apply SW_draw rfl tt_ok hG htb); (focus kernel_rfl); focus simp only [List.range, List.range.loop, List.size_toArray, List.length_cons, List.length_nil, Nat.reduceAdd])); focus ((repeat' (first | (with_reducible first | exact wg | exact wh) | ((with_reducible first | apply wi | apply wj); focus (simp (discharger := omega) only [go_sem, simprocAttr]; with_reducible rfl)))); done)))
        refine SW_loop (fun m s => ∃ i : Nat, m = t - i ∧ s = ⟨32, [(1, .t (tInt t)), (6, .t (tInt k)), (7, .t (tInt (powW k i))), (8, .t (tInt i))], []⟩ ∧ i ≤ t) t ⟨_, Norm.headS (own := []) (keep := [1, 6, 7, 8]) (by refine ⟨?_, ?_⟩; (simp (discharger := omega) only [go_sem, simprocAttr]; with_reducible rfl); refine ⟨?_, ?_, ?_, ?_⟩ <;> (simp only [go_sem, simprocAttr]; with_reducible rfl)), 0, rfl, rfl, Nat.zero_le _⟩ ?_
        rintro m s ⟨i, rfl, rfl, hi⟩
        have hb := powW_bd r2 r6 (j := i) (by omega)
        by_cases hlt : i < t
        · have hb1 : 1 ≤ powW k i * k ∧ powW k i * k ≤ 7776 := powW_bd r2 r6 (j := i + 1) (by omega)
          repeat' (first | (with_reducible first | apply w1 | apply w2 | apply w3 | apply w4 | apply w5 | apply w6 | apply w7 | apply w8 | apply w9 | apply wa | apply wb | apply wc) | ((with_reducible apply wd); focus decide) | ((with_reducible apply we); focus exact rfl) | ((with_reducible apply wf); focus exact rfl) | ((first | (with_reducible apply SW_run tt_ok hG htb) | ((with_reducible apply SW_draw rfl tt_ok hG htb); (focus kernel_rfl); focus simp only [List.range, List.range.loop, List.size_toArray, List.length_cons, List.length_nil, Nat.reduceAdd])); focus ((repeat' (first | (with_reducible first | exact wg | exact wh) | ((with_reducible first | apply wi | apply wj); focus (simp (discharger := omega) only [go_sem, simprocAttr]; with_reducible rfl)))); done)))
          exact ⟨t - (i + 1), _, by omega, Norm.headS (own := []) (keep := [1, 6, 7, 8]) (by refine ⟨?_, ?_⟩; (simp (discharger := omega) only [go_sem, simprocAttr]; with_reducible rfl); refine ⟨?_, ?_, ?_, ?_⟩ <;> (simp only [go_sem, simprocAttr]; with_reducible rfl)), i + 1, rfl, rfl, by omega⟩
        · obtain rfl : i = t := by omega
          by_cases h36 : 36 < powW k i
          · repeat' (first | (with_reducible first | apply w1 | apply w2 | apply w3 | apply w4 | apply w5 | apply w6 | apply w7 | apply w8 | apply w9 | apply wa | apply wb | apply wc) | ((with_reducible apply wd); focus decide) | ((with_reducible apply we); focus exact rfl) | ((with_reducible apply wf); focus exact rfl) | ((first | (with_reducible apply SW_run tt_ok hG htb) | ((with_reducible apply SW_draw rfl tt_ok hG htb); (focus kernel_rfl); focus simp only [List.range, List.range.loop, List.size_toArray, List.length_cons, List.length_nil, Nat.reduceAdd])); focus ((repeat' (first | (with_reducible first | exact wg | exact wh) | ((with_reducible first | apply wi | apply wj); focus (simp (discharger := omega) only [go_sem, simprocAttr]; with_reducible rfl)))); done)))
            exact (by simp (discharger := omega) only [go_sem, simprocAttr])
          · repeat' (first | (with_reducible first | apply w1 | apply w2 | apply w3 | apply w4 | apply w5 | apply w6 | apply w7 | apply w8 | apply w9 | apply wa | apply wb | apply wc) | ((with_reducible apply wd); focus decide) | ((with_reducible apply we); focus exact rfl) | ((with_reducible apply wf); focus exact rfl) | ((first | (with_reducible apply SW_run tt_ok hG htb) | ((with_reducible apply SW_draw rfl tt_ok hG htb); (focus kernel_rfl); focus simp only [List.range, List.range.loop, List.size_toArray, List.length_cons, List.length_nil, Nat.reduceAdd])); focus ((repeat' (first | (with_reducible first | exact wg | exact wh) | ((with_reducible first | apply wi | apply wj); focus (simp (discharger := omega) only [go_sem, simprocAttr]; with_reducible rfl)))); done)))
            exact (by simp (discharger := omega) only [go_sem, simprocAttr])
end
end Go.Proofs.YthcclcbliedodaaDoor
namespace Go.Proofs.YthcclcbliedodaaDoor
open Go.RowKit
section
variable {G : World → Prop} (hG : Lasting G)
include hG
set_option maxHeartbeats 4000000 in
theorem Fault_snd (a : GAuto) : Snd Tryd.prog G 7 [tAuto a] (tInt (autoFault a)) := by
  have htb := Tab.cons (RLetters_snd hG a.base a.tracks) Tab.nil
  refine snd_of_body (n := 76) (tm := [(0, .t (tAuto a))]) (rs := [.tmp 2]) tt_ok Tryd.func7 rfl rfl rfl rfl rfl ?_
  unfold autoFault
  by_cases h0 : manyErr a.base a.tracks = 0
  · rw [if_neg (by omega)]
    rw [h0] at htb
    have h36 := (many_ok h0).2.2.2.1
    rw [← (many_ok h0).2.2.2.2] at h36
    generalize hmo : manyOf a.base a.tracks = mo at *
    by_cases h1 : a.next.length = 0
    · repeat' (first | (with_reducible first | apply w1 | apply w2 | apply w3 | apply w4 | apply w5 | apply w6 | apply w7 | apply w8 | apply w9 | apply wa | apply wb | apply wc) | ((with_reducible apply wd); focus decide) | ((with_reducible apply we); focus exact rfl) | ((with_reducible apply wf); focus exact rfl) | ((first | (with_reducible apply SW_run tt_ok hG htb) | ((with_reducible apply SW_draw rfl tt_ok hG htb); (focus kernel_rfl); focus simp only [List.range, List.range.loop, List.size_toArray, List.length_cons, List.length_nil, Nat.reduceAdd])); focus ((repeat' (first | (with_reducible first | exact wg | exact wh) | ((with_reducible first | apply wi | apply wj); focus (simp (discharger := omega) only [go_sem, tAuto, simprocAttr]; with_reducible rfl)))); done)))
      exact (by simp (discharger := omega) only [go_sem, simprocAttr])
    · by_cases h2 : 80 < a.next.length
      · repeat' (first | (with_reducible first | apply w1 | apply w2 | apply w3 | apply w4 | apply w5 | apply w6 | apply w7 | apply w8 | apply w9 | apply wa | apply wb | apply wc) | ((with_reducible apply wd); focus decide) | ((with_reducible apply we); focus exact rfl) | ((with_reducible apply wf); focus exact rfl) | ((first | (with_reducible apply SW_run tt_ok hG htb) | ((with_reducible apply SW_draw rfl tt_ok hG htb); (focus kernel_rfl); focus simp only [List.range, List.range.loop, List.size_toArray, List.length_cons, List.length_nil, Nat.reduceAdd])); focus ((repeat' (first | (with_reducible first | exact wg | exact wh) | ((with_reducible first | apply wi | apply wj); focus (simp (discharger := omega) only [go_sem, tAuto, simprocAttr]; with_reducible rfl)))); done)))
        exact (by simp (discharger := omega) only [go_sem, simprocAttr])
      · by_cases h3 : a.ends.length = a.next.length
        · rw [if_neg h1, if_neg h2, if_neg (by omega)]
          repeat' (first | (with_reducible first | apply w1 | apply w2 | apply w3 | apply w4 | apply w5 | apply w6 | apply w7 | apply w8 | apply w9 | apply wa | apply wb | apply wc) | ((with_reducible apply wd); focus decide) | ((with_reducible apply we); focus exact rfl) | ((with_reducible apply wf); focus exact rfl) | ((first | (with_reducible apply SW_run tt_ok hG htb) | ((with_reducible apply SW_draw rfl tt_ok hG htb); (focus kernel_rfl); focus simp only [List.range, List.range.loop, List.size_toArray, List.length_cons, List.length_nil, Nat.reduceAdd])); focus ((repeat' (first | (with_reducible first | exact wg | exact wh) | ((with_reducible first | apply wi | apply wj); focus (simp (discharger := omega) only [go_sem, tAuto, h3, simprocAttr]; with_reducible rfl)))); done)))
          refine SW_loop (fun m s => ∃ i : Nat, m = a.next.length - i ∧ s = ⟨76, [(1, .bptr 0 0), (3, .t (tInt mo)), (5, .t (tInt i))], [.box [.t (tInt a.base), .t (tInt a.tracks), .t (tIntss a.next), .t (tBools a.ends)]]⟩ ∧ i ≤ a.next.length ∧ ∀ j (hj : j < a.next.length), j < i → (a.next[j].length : Int) = mo ∧ ∀ s ∈ a.next[j], 0 ≤ s ∧ s < (a.next.length : Int)) a.next.length
            ⟨_, Norm.headS (own := []) (keep := [1, 3, 5]) (by refine ⟨?_, ?_⟩; (simp (discharger := omega) only [go_sem, simprocAttr]; with_reducible rfl); refine ⟨?_, ?_, ?_, ?_⟩ <;> (simp only [go_sem, simprocAttr]; with_reducible rfl)), 0, rfl, rfl, Nat.zero_le _, fun j hj h => by omega⟩ ?_
          rintro m s ⟨i, rfl, rfl, hi, hA⟩
          by_cases hlt : i < a.next.length
          · obtain ⟨row, hrow⟩ : ∃ row, a.next[i]! = row := ⟨_, rfl⟩
            have hat := bang_at hrow hlt
            obtain ⟨f1, f2⟩ := rowsFault_at hlt hA
            rw [hat] at f1 f2
            by_cases hrl : (row.length : Int) = mo
            · repeat' (first | (with_reducible first | apply w1 | apply w2 | apply w3 | apply w4 | apply w5 | apply w6 | apply w7 | apply w8 | apply w9 | apply wa | apply wb | apply wc) | ((with_reducible apply wd); focus decide) | ((with_reducible apply we); focus exact rfl) | ((with_reducible apply wf); focus exact rfl) | ((first | (with_reducible apply SW_run tt_ok hG htb) | ((with_reducible apply SW_draw rfl tt_ok hG htb); (focus kernel_rfl); focus simp only [List.range, List.range.loop, List.size_toArray, List.length_cons, List.length_nil, Nat.reduceAdd])); focus ((repeat' (first | (with_reducible first | exact wg | exact wh) | ((with_reducible first | apply wi | apply wj); focus (simp (discharger := omega) only [go_sem, hrow, simprocAttr]; with_reducible rfl)))); done)))
              refine SW_loop (fun m s => ∃ l : Nat, m = row.length - l ∧ s = ⟨76, [(1, .bptr 0 0), (3, .t (tInt mo)), (5, .t (tInt i)), (6, .t (tInt l))], [.box [.t (tInt a.base), .t (tInt a.tracks), .t (tIntss a.next), .t (tBools a.ends)]]⟩ ∧ l ≤ row.length ∧ ∀ x ∈ row.take l, 0 ≤ x ∧ x < (a.next.length : Int)) row.length
                ⟨_, Norm.headS (own := []) (keep := [1, 3, 5, 6]) (by refine ⟨?_, ?_⟩; (simp (discharger := omega) only [go_sem, simprocAttr]; with_reducible rfl); refine ⟨?_, ?_, ?_, ?_⟩ <;> (simp only [go_sem, simprocAttr]; with_reducible rfl)), 0, rfl, rfl, Nat.zero_le _, fun x hx => by simp at hx⟩ ?_
              rintro m s ⟨l, rfl, rfl, hl, hB⟩
              by_cases hlt2 : l < row.length
              · obtain ⟨x, hx⟩ : ∃ x, row[l]! = x := ⟨_, rfl⟩
                have htk := take_next hx hlt2
                have hxm := bang_mem hx hlt2
                by_cases hx0 : 0 ≤ x
                · by_cases hxm2 : x < (a.next.length : Int)
                  · repeat' (first | (with_reducible first | apply w1 | apply w2 | apply w3 | apply w4 | apply w5 | apply w6 | apply w7 | apply w8 | apply w9 | apply wa | apply wb | apply wc) | ((with_reducible apply wd); focus decide) | ((with_reducible apply we); focus exact rfl) | ((with_reducible apply wf); focus exact rfl) | ((first | (with_reducible apply SW_run tt_ok hG htb) | ((with_reducible apply SW_draw rfl tt_ok hG htb); (focus kernel_rfl); focus simp only [List.range, List.range.loop, List.size_toArray, List.length_cons, List.length_nil, Nat.reduceAdd])); focus ((repeat' (first | (with_reducible first | exact wg | exact wh) | ((with_reducible first | apply wi | apply wj); focus (simp (discharger := omega) only [go_sem, hrow, hx, simprocAttr]; with_reducible rfl)))); done)))
                    exact ⟨row.length - (l + 1), _, by omega, Norm.headS (own := []) (keep := [1, 3, 5, 6]) (by refine ⟨?_, ?_⟩; (simp (discharger := omega) only [go_sem, simprocAttr]; with_reducible rfl); refine ⟨?_, ?_, ?_, ?_⟩ <;> (simp only [go_sem, simprocAttr]; with_reducible rfl)), l + 1, rfl, rfl, by omega, fun y hy => by
                      rw [htk] at hy
                      rcases List.mem_append.1 hy with h | h
                      · exact hB y h
                      · simp at h; subst h; exact ⟨hx0, hxm2⟩⟩
                  · rw [f2 hrl ⟨x, hxm, by omega⟩]
                    repeat' (first | (with_reducible first | apply w1 | apply w2 | apply w3 | apply w4 | apply w5 | apply w6 | apply w7 | apply w8 | apply w9 | apply wa | apply wb | apply wc) | ((with_reducible apply wd); focus decide) | ((with_reducible apply we); focus exact rfl) | ((with_reducible apply wf); focus exact rfl) | ((first | (with_reducible apply SW_run tt_ok hG htb) | ((with_reducible apply SW_draw rfl tt_ok hG htb); (focus kernel_rfl); focus simp only [List.range, List.range.loop, List.size_toArray, List.length_cons, List.length_nil, Nat.reduceAdd])); focus ((repeat' (first | (with_reducible first | exact wg | exact wh) | ((with_reducible first | apply wi | apply wj); focus (simp (discharger := omega) only [go_sem, hrow, hx, simprocAttr]; with_reducible rfl)))); done)))
                    exact (by simp (discharger := omega) only [go_sem, simprocAttr])
                · rw [f2 hrl ⟨x, hxm, by omega⟩]
                  repeat' (first | (with_reducible first | apply w1 | apply w2 | apply w3 | apply w4 | apply w5 | apply w6 | apply w7 | apply w8 | apply w9 | apply wa | apply wb | apply wc) | ((with_reducible apply wd); focus decide) | ((with_reducible apply we); focus exact rfl) | ((with_reducible apply wf); focus exact rfl) | ((first | (with_reducible apply SW_run tt_ok hG htb) | ((with_reducible apply SW_draw rfl tt_ok hG htb); (focus kernel_rfl); focus simp only [List.range, List.range.loop, List.size_toArray, List.length_cons, List.length_nil, Nat.reduceAdd])); focus ((repeat' (first | (with_reducible first | exact wg | exact wh) | ((with_reducible first | apply wi | apply wj); focus (simp (discharger := omega) only [go_sem, hrow, hx, simprocAttr]; with_reducible rfl)))); done)))
                  exact (by simp (discharger := omega) only [go_sem, simprocAttr])
              · obtain rfl : l = row.length := by omega
                rw [List.take_length] at hB
                repeat' (first | (with_reducible first | apply w1 | apply w2 | apply w3 | apply w4 | apply w5 | apply w6 | apply w7 | apply w8 | apply w9 | apply wa | apply wb | apply wc) | ((with_reducible apply wd); focus decide) | ((with_reducible apply we); focus exact rfl) | ((with_reducible apply wf); focus exact rfl) | ((first | (with_reducible apply SW_run tt_ok hG htb) | ((with_reducible apply SW_draw rfl tt_ok hG htb); (focus kernel_rfl); focus simp only [List.range, List.range.loop, List.size_toArray, List.length_cons, List.length_nil, Nat.reduceAdd])); focus ((repeat' (first | (with_reducible first | exact wg | exact wh) | ((with_reducible first | apply wi | apply wj); focus (simp (discharger := omega) only [go_sem, simprocAttr]; with_reducible rfl)))); done)))
                exact ⟨a.next.length - (i + 1), _, by omega, Norm.headS (own := []) (keep := [1, 3, 5]) (by refine ⟨?_, ?_⟩; (simp (discharger := omega) only [go_sem, simprocAttr]; with_reducible rfl); refine ⟨?_, ?_, ?_, ?_⟩ <;> (simp only [go_sem, simprocAttr]; with_reducible rfl)), i + 1, rfl, rfl, by omega, fun j hj h => by
                  by_cases e : j = i
                  · subst e; rw [hat]; exact ⟨hrl, hB⟩
                  · exact hA j hj (by omega)⟩
            · rw [f1 hrl]
              repeat' (first | (with_reducible first | apply w1 | apply w2 | apply w3 | apply w4 | apply w5 | apply w6 | apply w7 | apply w8 | apply w9 | apply wa | apply wb | apply wc) | ((with_reducible apply wd); focus decide) | ((with_reducible apply we); focus exact rfl) | ((with_reducible apply wf); focus exact rfl) | ((first | (with_reducible apply SW_run tt_ok hG htb) | ((with_reducible apply SW_draw rfl tt_ok hG htb); (focus kernel_rfl); focus simp only [List.range, List.range.loop, List.size_toArray, List.length_cons, List.length_nil, Nat.reduceAdd])); focus ((repeat' (first | (with_reducible first | exact wg | exact wh) | ((with_reducible first | apply wi | apply wj); focus (simp (discharger := omega) only [go_sem, hrow, simprocAttr]; with_reducible rfl)))); done)))
              exact (by simp (discharger := omega) only [go_sem, simprocAttr])
          · obtain rfl : i = a.next.length := by omega
            rw [rowsFault_zero.2 fun r hr => by obtain ⟨j, hj, rfl⟩ := List.mem_iff_getElem.1 hr; exact hA j hj hj]
            repeat' (first | (with_reducible first | apply w1 | apply w2 | apply w3 | apply w4 | apply w5 | apply w6 | apply w7 | apply w8 | apply w9 | apply wa | apply wb | apply wc) | ((with_reducible apply wd); focus decide) | ((with_reducible apply we); focus exact rfl) | ((with_reducible apply wf); focus exact rfl) | ((first | (with_reducible apply SW_run tt_ok hG htb) | ((with_reducible apply SW_draw rfl tt_ok hG htb); (focus kernel_rfl); focus simp only [List.range, List.range.loop, List.size_toArray, List.length_cons, List.length_nil, Nat.reduceAdd])); focus ((repeat' (first | (with_reducible first | exact wg | exact wh) | ((with_reducible first | apply wi | apply wj); focus (simp (discharger := omega) only [go_sem, simprocAttr]; with_reducible rfl)))); done)))
            exact (by simp (discharger := omega) only [go_sem, simprocAttr])
        · repeat' (first | (with_reducible first | apply w1 | apply w2 | apply w3 | apply w4 | apply w5 | apply w6 | apply w7 | apply w8 | apply w9 | apply wa | apply wb | apply wc) | ((with_reducible apply wd); focus decide) | ((with_reducible apply we); focus exact rfl) | ((with_reducible apply wf); focus exact rfl) | ((first | (with_reducible apply SW_run tt_ok hG htb) | ((with_reducible apply SW_draw rfl tt_ok hG htb); (focus kernel_rfl); focus simp only [List.range, List.range.loop, List.size_toArray, List.length_cons, List.length_nil, Nat.reduceAdd])); focus ((repeat' (first | (with_reducible first | exact wg | exact wh) | ((with_reducible first | apply wi | apply wj); focus (simp (discharger := omega) only [go_sem, tAuto, h3, simprocAttr]; with_reducible rfl)))); done)))
          exact (by simp (discharger := omega) only [go_sem, h3, simprocAttr])
  · generalize manyErr a.base a.tracks = e at *
    repeat' (first | (with_reducible first | apply w1 | apply w2 | apply w3 | apply w4 | apply w5 | apply w6 | apply w7 | apply w8 | apply w9 | apply wa | apply wb | apply wc) | ((with_reducible apply wd); focus decide) | ((with_reducible apply we); focus exact rfl) | ((with_reducible apply wf); focus exact rfl) | ((first | (with_reducible apply SW_run tt_ok hG htb) | ((with_reducible apply SW_draw rfl tt_ok hG htb); (focus kernel_rfl); focus simp only [List.range, List.range.loop, List.size_toArray, List.length_cons, List.length_nil, Nat.reduceAdd])); focus ((repeat' (first | (with_reducible first | exact wg | exact wh) | ((with_reducible first | apply wi | apply wj); focus (simp (discharger := omega) only [go_sem, tAuto, h0, simprocAttr]; with_reducible rfl)))); done)))
    exact (by simp (discharger := omega) only [go_sem, h0, simprocAttr])
end
end Go.Proofs.YthcclcbliedodaaDoor
namespace Go.Proofs.YthcclcbliedodaaDoor
open Go.RowKit

def single (n : Nat) : List (List Int) := (List.range n).map fun (l : Nat) => [(l : Int)]
theorem single_at {n l : Nat} (h : l < n) : (single n)[l]! = [(l : Int)] := by
  rw [getElem!_pos (single n) l (by simp [single]; exact h)]
  simp [single]
theorem stepF_G {next : List (List Int)} {m n : Nat} {s : List Int} (hs : Inm m s) {l : Nat} (hl : l < n) : nextD (stpG next m (single n) false) s l = nextD (stepF next) s l := by
  unfold nextD
  refine canonL_eq fun y => ?_
  unfold stpG stepF
  rw [single_at hl, List.mem_flatMap, List.mem_map]
  constructor
  · rintro ⟨x, hx, hy⟩
    simp only [List.flatMap_cons, List.flatMap_nil, List.append_nil, conG, Bool.false_eq_true, if_false] at hy
    split at hy
    · simp at hy
      exact ⟨_, ‹_›, hy.symm⟩
    · simp at hy
  · rintro ⟨x, hx, rfl⟩
    have hb := hs x hx
    refine ⟨x.toNat, List.mem_range.2 (by omega), ?_⟩
    simp only [List.flatMap_cons, List.flatMap_nil, List.append_nil, conG, Bool.false_eq_true, if_false, show ((x.toNat : Nat) : Int) = x by omega, if_pos hx]
    simp
theorem close_at {n K : Nat} {N : List (List Int)} (h : Rows0 n K N) (hK : 0 < K) (hn : 0 < n) {k : Nat} (hk : k < K + 1) : ∃ q, N[if k = 0 then 0 else k - 1]! = q ∧ q.length = n ∧ (∀ l t, q[l]! = t → l < n → ((closeRows N)[k]!)[l]? = some (if k = 0 ∧ l = 0 then 0 else t + 1) ∧ 0 ≤ t ∧ t < (K : Int)) ∧ ((closeRows N)[k]!).length = n := by
  have hl := h.len
  have hf : (if k = 0 then 0 else k - 1) < N.length := by split <;> omega
  refine ⟨_, rfl, h.row _ (bang_mem rfl hf), fun l t ht hln => ?_, ?_⟩
  · have hq := h.row _ (bang_mem rfl hf)
    have hb := h.ok _ (bang_mem rfl hf) t (bang_mem ht (by omega))
    refine ⟨?_, hb⟩
    cases k with
    | zero =>
      simp only [if_true] at ht hq hf
      have e : (closeRows N)[0]! = (0 : Int) :: ((N[0]!).drop 1).map (fun x : Int => x + 1) := rfl
      rw [e]
      cases l with
      | zero => rfl
      | succ l =>
        have hg := bang_get ht (by omega)
        simp only [List.getElem?_cons_succ, List.getElem?_map, List.getElem?_drop]
        rw [show 1 + l = l + 1 by omega, hg]; simp
    | succ k =>
      simp only [Nat.succ_ne_zero, if_false, Nat.add_sub_cancel] at ht hq hf
      have e : (closeRows N)[k + 1]! = (N[k]!).map (· + 1) := by
        have : (closeRows N)[k + 1]? = some ((N[k]!).map (· + 1)) := by
          unfold closeRows closeRows0
          rw [List.map_cons, List.getElem?_cons_succ, List.getElem?_map, bang_get rfl hf]; rfl
        obtain ⟨q1, q2⟩ := List.getElem?_eq_some_iff.1 this
        rw [getElem!_pos (closeRows N) (k + 1) q1]; exact q2
      rw [e, List.getElem?_map, bang_get ht (by omega)]; simp
  · have := closeRows_ok h hK hn
    exact this.row _ (bang_mem rfl (by rw [this.len]; exact hk))
theorem close_end_at {ends : List Bool} {S : List (List Int)} (h : 0 < S.length) {k : Nat} (hk : k < S.length + 1) : (closeEnds ends S)[k]? = some ((S[if k = 0 then 0 else k - 1]!).any (endOf ends)) := by
  unfold closeEnds
  cases k with
  | zero => rfl
  | succ k => rw [List.map_cons, List.getElem?_cons_succ, List.getElem?_map, bang_get (l := S) (i := k) rfl (by omega)]; simp
section
variable {G : World → Prop} (hG : Lasting G)
include hG
set_option maxHeartbeats 16000000 in
set_option maxRecDepth 100000 in
theorem CloseOf_ref (a : GAuto) : Snd Tryd.prog G 18 [tAuto a] (.tup [tAuto (closeA a), tInt (closeErr a)]) := by
  have c1 := Fault_snd hG a
  have htb0 : Tab.ok Tryd.prog G [] := Tab.nil
  refine snd_of_body (n := 108) (tm := [(0, .t (tAuto a))]) (rs := [.cell 2 25, .tmp 3]) tt_ok Tryd.func18 rfl rfl rfl rfl rfl ?_
  by_cases hf : autoFault a = 0
  rotate_left
  · have he : closeErr a = autoFault a := if_pos hf
    have hz : closeA a = GAuto.zero := by unfold closeA; rw [he, if_neg hf]
    rw [he, hz]
    generalize autoFault a = e at *
    have htb := Tab.cons c1 Tab.nil
    repeat' (first | (with_reducible first | apply w1 | apply w2 | apply w3 | apply w4 | apply w5 | apply w6 | apply w7 | apply w8 | apply w9 | apply wa | apply wb | apply wc) | ((with_reducible apply wd); focus decide) | ((with_reducible apply we); focus exact rfl) | ((with_reducible apply wf); focus exact rfl) | ((first | (with_reducible apply SW_run tt_ok hG htb) | ((with_reducible apply SW_draw rfl tt_ok hG htb); (focus kernel_rfl); focus simp only [List.range, List.range.loop, List.size_toArray, List.length_cons, List.length_nil, Nat.reduceAdd])); focus ((repeat' (first | (with_reducible first | exact wg | exact wh) | ((with_reducible first | apply wi | apply wj); focus (simp (discharger := omega) only [go_sem, tAuto, hf, simprocAttr]; with_reducible rfl)))); done)))
    exact (by simp (discharger := omega) only [go_sem, tAuto, hf, GAuto.zero, simprocAttr])
  have c2 := LeastOf_snd hG hf
  have g := good_of hf
  obtain ⟨n, hn⟩ : ∃ n, (manyOf a.base a.tracks).toNat = n := ⟨_, rfl⟩
  rw [hn] at g
  obtain ⟨_, _, gM⟩ := least_again g
  obtain ⟨M, hM⟩ : ∃ M, leastA a = M := ⟨_, rfl⟩
  rw [hM] at gM c2
  rw [hf] at c1
  obtain ⟨m, hm⟩ : ∃ m, M.next.length = m := ⟨_, rfl⟩
  rw [hm] at gM
  have hm80 := gM.m80
  have hn36 := gM.n36
  have hn0 := gM.n0
  have hm0 := gM.m0
  have hIm : Inm m (closeL M [0]) := close_in gM.rows hm0 (fun l hl => by simp at hl; omega) _
  obtain ⟨F, hF⟩ : ∃ F, canonL (closeL M [0]) = F := ⟨_, rfl⟩
  have hFp : Inm m F ∧ F.Pairwise (· < ·) := ⟨hF ▸ hIm.canon, hF ▸ (canonL_spec _).1⟩
  have c3 : Snd Tryd.prog G 43 [tAuto M, .list [.int .i64 0]] (tSet F) := by
    have := Closed_ref hG gM.rows hm0 hm80 (letters := [0]) (fun l hl => by simp at hl; omega)
    rw [show tSet (closeL M [0]) = tSet F by rw [← hF]; exact tSet_cong fun x => canonL_mem.symm] at this
    exact this
  have c4 := single_snd hG n (by omega)
  have hsl : (single n).length = n := by simp [single]
  have c5 := Grown_ref hG gM.rows hm80 F hFp (single n) (fun r hr k hk => by
    obtain ⟨l, hl, rfl⟩ := List.mem_map.1 hr
    have := List.mem_range.1 hl
    simp at hk; omega) (by omega) (fun r hr => by
    obtain ⟨l, hl, rfl⟩ := List.mem_map.1 hr
    simp) false
  obtain ⟨sc1, sc2, sc3⟩ := sets_cong (δ := nextD (stpG M.next m (single n) false)) (δ' := nextD (stepF M.next)) (n := n) (s0 := F) (p := Inm m) hFp.1 (fun s l hl hs => by rw [stepF_G hs hl]; exact (stepF_in gM.rows hs hl).canon) (fun s l hs hl => stepF_G hs hl)
  unfold grownR at c5
  rw [hsl, sc1, sc2, sc3] at c5
  obtain ⟨S, hS⟩ : ∃ S, growSets (stepF M.next) n (closeL M [0]) = S := ⟨_, rfl⟩
  obtain ⟨N, hN⟩ : ∃ N, growRows (stepF M.next) n (closeL M [0]) = N := ⟨_, rfl⟩
  obtain ⟨ok, hok⟩ : ∃ ok, growOk (stepF M.next) n (closeL M [0]) = ok := ⟨_, rfl⟩
  have hSe : closeS a = S := by unfold closeS closeN; rw [hn, hM]; exact hS
  have hNe : closeR a = N := by unfold closeR closeN; rw [hn, hM]; exact hN
  have hoke : closeOk a = ok := by unfold closeOk closeN; rw [hn, hM]; exact hok
  have hok1 : setsOk (nextD (stepF M.next)) n F = ok := by rw [← hok, ← hF]; rfl
  rw [hok1] at c5
  obtain ⟨r0, hr0⟩ : ∃ r0, M.next[0]! = r0 := ⟨_, rfl⟩
  have hrl := gM.rows.row r0 (bang_mem hr0 (by omega))
  have htb := Tab.cons c1 (Tab.cons c2 Tab.nil)
  repeat' (first | (with_reducible first | refine SW_seq ?_ | refine SW_block ?_ | refine SThen_n ?_ | refine SThen_r ?_ | refine SThen_e ?_ | refine SIn_n ?_ | refine SIn_r ?_ | refine SIn_eq ?_ | refine SW_skip ?_ | refine SW_exit ?_ | refine SW_ret ?_ | refine SPost_r ?_) | ((with_reducible refine SIn_ne ?_ ?_); focus decide) | ((with_reducible refine SW_true ?_ ?_); focus exact rfl) | ((with_reducible refine SW_false ?_ ?_); focus exact rfl) | ((with_reducible apply SW_run tt_ok hG htb); focus ((repeat' (first | (with_reducible exact runX_nil) | ((with_reducible apply runX_cons); focus (simp (discharger := omega) only [go_sem, tAuto, simprocAttr]; with_reducible rfl)))); done)))
  refine SW_norm (Norm.headS (own := []) (keep := [1, 2, 5]) (by refine ⟨?_, ?_⟩; (simp (discharger := omega) only [go_sem, simprocAttr]; with_reducible rfl); refine ⟨?_, ?_, ?_, ?_⟩ <;> (simp only [go_sem, simprocAttr]; with_reducible rfl))) ?_
  refine SW_norm (Norm.fixBox 2 rfl rfl) ?_
  clear htb
  have hsing : ((List.range n).map fun (l : Nat) => [(l : Int)]) = single n := rfl
  rw [hsing] at c4
  generalize single n = sg at *
  cases ok with
  | false =>
    have he : closeErr a = 3 := by unfold closeErr; rw [if_neg (fun q => q hf), if_pos hoke]
    have hz : closeA a = GAuto.zero := by unfold closeA; rw [he, if_neg (by decide)]
    rw [he, hz]
    rw [if_neg (by decide)] at c5
    have htb := Tab.cons c3 (Tab.cons c4 (Tab.cons c5 Tab.nil))
    repeat' (first | (with_reducible first | apply w1 | apply w2 | apply w3 | apply w4 | apply w5 | apply w6 | apply w7 | apply w8 | apply w9 | apply wa | apply wb | apply wc) | ((with_reducible apply wd); focus decide) | ((with_reducible apply we); focus exact rfl) | ((with_reducible apply wf); focus exact rfl) | ((first | (with_reducible apply SW_run tt_ok hG htb) | ((with_reducible apply SW_draw rfl tt_ok hG htb); (focus kernel_rfl); focus simp only [List.range, List.range.loop, List.size_toArray, List.length_cons, List.length_nil, Nat.reduceAdd])); focus ((repeat' (first | (with_reducible first | exact wg | exact wh) | ((with_reducible first | apply wi | apply wj); focus (simp (discharger := omega) only [go_sem, tAuto, tSet, hr0, hrl, hm, simprocAttr]; with_reducible rfl)))); done)))
    exact (by simp (discharger := omega) only [go_sem, tAuto, GAuto.zero, simprocAttr])
  | true =>
    have hS1 : setsOf (nextD (stepF M.next)) n F = S := by rw [← hS, ← hF]; unfold growSets; rw [hok, if_pos rfl]
    have hN1 : rowsOf (nextD (stepF M.next)) n F = N := by rw [← hN, ← hF]; unfold growRows; rw [hok, if_pos rfl]
    rw [if_pos rfl, hS1, hN1] at c5
    obtain ⟨f1, f2, f3, f4, f5, _⟩ := grow_facts hok
    have fS := grow_inm hIm (fun s l hs hl => stepF_in gM.rows hs hl) (n := n)
    rw [hS, hN] at f1 f4
    rw [hS] at f2 f3 f5 fS
    have hRE := closeRows_ok f4 f2 hn0
    have hr0w := closeRows0_row f4 f2 hn0
    obtain ⟨Q', hQ'⟩ : ∃ Q', closeRows N = Q' := ⟨_, rfl⟩
    rw [hQ'] at hRE
    obtain ⟨E, hE⟩ : ∃ E, closeEnds M.ends S = E := ⟨_, rfl⟩
    have hEl : E.length = S.length + 1 := by rw [← hE]; simp [closeEnds]
    have hQl := hRE.len
    -- a row, and an end, by its number
    have hQat := fun k hk => close_at f4 f2 hn0 (k := k) hk
    rw [hQ'] at hQat
    have hEat : ∀ k, k < S.length + 1 → E[k]? = some ((S[if k = 0 then 0 else k - 1]!).any (endOf M.ends)) := fun k hk => by
      rw [← hE]
      exact close_end_at f2 hk
    have htb := Tab.cons c3 (Tab.cons c4 (Tab.cons c5 Tab.nil))
    repeat' (first | (with_reducible first | apply w1 | apply w2 | apply w3 | apply w4 | apply w5 | apply w6 | apply w7 | apply w8 | apply w9 | apply wa | apply wb | apply wc) | ((with_reducible apply wd); focus decide) | ((with_reducible apply we); focus exact rfl) | ((with_reducible apply wf); focus exact rfl) | ((first | (with_reducible apply SW_run tt_ok hG htb) | ((with_reducible apply SW_draw rfl tt_ok hG htb); (focus kernel_rfl); focus simp only [List.range, List.range.loop, List.size_toArray, List.length_cons, List.length_nil, Nat.reduceAdd])); focus ((repeat' (first | (with_reducible first | exact wg | exact wh) | ((with_reducible first | apply wi | apply wj); focus (simp (discharger := omega) only [go_sem, tAuto, tSet, hr0, hrl, hm, simprocAttr]; with_reducible rfl)))); done)))
    clear htb
    refine SW_loop (fun mm st => ∃ (k : Nat) (rs es : List T), mm = S.length + 1 - k ∧ st = ⟨108, [(1, .bptr 0 0), (2, .bptr 1 0), (5, .bptr 2 0), (6, .t (.list (S.map tSet))), (7, .t (tIntss N)), (9, .t (tNat S.length)), (10, .sref 3), (11, .sref 4), (12, .t (.int .i64 ((k : Int) - 1)))], [.box [.t (tInt a.base), .t (tInt a.tracks), .t (tIntss a.next), .t (tBools a.ends)], .box [.t (tInt 0), .t (tInt 0), .nil, .nil], .fbox [tInt M.base, tInt M.tracks, tIntss M.next, tBools M.ends], .row 35 1 true rs, .row 4 1 true es]⟩ ∧ k ≤ S.length + 1 ∧ rs = (Q'.take k).map tInts ∧ es = (E.take k).map T.bool) (S.length + 1)
      ⟨_, Norm.headS (own := [(10, 35, 1, true), (11, 4, 1, true)]) (keep := [1, 2, 5, 6, 7, 9, 10, 11, 12]) (by refine ⟨?_, ?_⟩; (simp (discharger := omega) only [go_sem, simprocAttr]; with_reducible rfl); refine ⟨?_, ?_, ?_, ?_⟩ <;> (simp only [go_sem, simprocAttr]; with_reducible rfl)), 0, _, _, rfl, rfl, Nat.zero_le _, rfl, rfl⟩ ?_
    rintro mm st ⟨k, rs, es, rfl, rfl, hk, hrs, hes⟩
    have hrsl : rs.length = k := by rw [hrs, List.length_map, List.length_take]; omega
    have hesl : es.length = k := by rw [hes, List.length_map, List.length_take]; omega
    obtain ⟨z, hz⟩ : ∃ z : Int, ((k : Nat) : Int) - 1 = z := ⟨_, rfl⟩
    have hz1 : ((k + 1 : Nat) : Int) - 1 = z + 1 := by omega
    rw [hz]
    by_cases hkl : k < S.length + 1
    · obtain ⟨nf, hnf, hnfl, hqq, hqkl⟩ := hQat k hkl
      have hek := hEat k hkl
      obtain ⟨f, hfd⟩ : ∃ f, (if k = 0 then 0 else k - 1) = f := ⟨_, rfl⟩
      rw [hfd] at hnf hek
      have hfl : f < S.length := by rw [← hfd]; split <;> omega
      obtain ⟨sf, hsf⟩ : ∃ sf, S[f]! = sf := ⟨_, rfl⟩
      rw [hsf] at hek
      have c6 := ended_ref hG hm gM.ends hm80 sf (fS sf (bang_mem hsf hfl)).1
      obtain ⟨b, hb⟩ : ∃ b, sf.any (endOf M.ends) = b := ⟨_, rfl⟩
      rw [hb] at c6 hek
      have htkE : E.take (k + 1) = E.take k ++ [b] := by
        obtain ⟨q1, q2⟩ := List.getElem?_eq_some_iff.1 hek
        rw [List.take_succ_eq_append_getElem q1, q2]
      obtain ⟨qk, hqk⟩ : ∃ qk, Q'[k]! = qk := ⟨_, rfl⟩
      rw [hqk] at hqq hqkl
      have htkQ : Q'.take (k + 1) = Q'.take k ++ [qk] := by
        obtain ⟨q1, q2⟩ := List.getElem?_eq_some_iff.1 (bang_get hqk (by omega))
        rw [List.take_succ_eq_append_getElem q1, q2]
      have hNf : f < N.length := by omega
      have hzl : z < ((S.length : Nat) : Int) := by omega
      have htb := Tab.cons c6 Tab.nil
      by_cases hk0 : k = 0
      · have hz0 : z < 0 := by omega
        have hf0 : f = 0 := by rw [← hfd, if_pos hk0]
        repeat' (first | (with_reducible first | apply w1 | apply w2 | apply w3 | apply w4 | apply w5 | apply w6 | apply w7 | apply w8 | apply w9 | apply wa | apply wb | apply wc) | ((with_reducible apply wd); focus decide) | ((with_reducible apply we); focus exact rfl) | ((with_reducible apply wf); focus exact rfl) | ((first | (with_reducible apply SW_run tt_ok hG htb) | ((with_reducible apply SW_draw rfl tt_ok hG htb); (focus kernel_rfl); focus simp only [List.range, List.range.loop, List.size_toArray, List.length_cons, List.length_nil, Nat.reduceAdd])); focus ((repeat' (first | (with_reducible first | exact wg | exact wh) | ((with_reducible first | apply wi | apply wj); focus (simp (discharger := omega) only [go_sem, hz0, simprocAttr]; with_reducible rfl)))); done)))
        refine SW_loop (fun mm st => ∃ (l : Nat) (rr : List T), mm = n - l ∧ st = ⟨108, [(1, .bptr 0 0), (2, .bptr 1 0), (5, .bptr 2 0), (6, .t (.list (S.map tSet))), (7, .t (tIntss N)), (9, .t (tNat S.length)), (10, .sref 3), (11, .sref 4), (12, .t (.int .i64 z)), (13, .t (tNat f)), (14, .sref 5), (15, .t (tNat l))], [.box [.t (tInt a.base), .t (tInt a.tracks), .t (tIntss a.next), .t (tBools a.ends)], .box [.t (tInt 0), .t (tInt 0), .nil, .nil], .fbox [tInt M.base, tInt M.tracks, tIntss M.next, tBools M.ends], .row 35 1 true rs, .row 4 1 true es, .row 3 1 true rr]⟩ ∧ l ≤ n ∧ rr = (qk.take l).map (T.int .i64)) n
          ⟨_, Norm.headS (own := [(14, 3, 1, true)]) (keep := [1, 2, 5, 6, 7, 9, 10, 11, 12, 13, 14, 15]) (by refine ⟨?_, ?_⟩; (simp (discharger := omega) only [go_sem, simprocAttr]; with_reducible rfl); refine ⟨?_, ?_, ?_, ?_⟩ <;> (simp only [go_sem, simprocAttr]; with_reducible rfl)), 0, _, rfl, by rw [hf0]; rfl, Nat.zero_le _, rfl⟩ ?_
        rintro mm st ⟨l, rr, rfl, rfl, hl, hrr⟩
        have hrrl : rr.length = l := by rw [hrr, List.length_map, List.length_take]; omega
        by_cases hll : l < n
        · obtain ⟨t, ht⟩ : ∃ t, nf[l]! = t := ⟨_, rfl⟩
          obtain ⟨hqt, ht0, ht1⟩ := hqq l t ht hll
          have hwr : IntKind.i64.wrap (t + 1) = t + 1 := wrap_i64 _ (by omega)
          have htk : qk.take (l + 1) = qk.take l ++ [if k = 0 ∧ l = 0 then 0 else t + 1] := by
            obtain ⟨q1, q2⟩ := List.getElem?_eq_some_iff.1 hqt
            rw [List.take_succ_eq_append_getElem q1, q2]
          by_cases hl0 : l = 0
          · subst hl0
            rw [if_pos ⟨hk0, rfl⟩] at htk
            repeat' (first | (with_reducible first | apply w1 | apply w2 | apply w3 | apply w4 | apply w5 | apply w6 | apply w7 | apply w8 | apply w9 | apply wa | apply wb | apply wc) | ((with_reducible apply wd); focus decide) | ((with_reducible apply we); focus exact rfl) | ((with_reducible apply wf); focus exact rfl) | ((first | (with_reducible apply SW_run tt_ok hG htb) | ((with_reducible apply SW_draw rfl tt_ok hG htb); (focus kernel_rfl); focus simp only [List.range, List.range.loop, List.size_toArray, List.length_cons, List.length_nil, Nat.reduceAdd])); focus ((repeat' (first | (with_reducible first | exact wg | exact wh) | ((with_reducible first | apply wi | apply wj); focus (simp (discharger := omega) only [go_sem, hz0, hnf, hnfl, ht, hwr, hrrl, simprocAttr]; with_reducible rfl)))); done)))
            exact ⟨n - (0 + 1), _, by omega, Norm.headS (own := []) (keep := [1, 2, 5, 6, 7, 9, 10, 11, 12, 13, 14, 15]) (by refine ⟨?_, ?_⟩; (simp (discharger := omega) only [go_sem, simprocAttr]; with_reducible rfl); refine ⟨?_, ?_, ?_, ?_⟩ <;> (simp only [go_sem, simprocAttr]; with_reducible rfl)), 0 + 1, _, rfl, rfl, by omega, by rw [htk, List.map_append, ← hrr]; rfl⟩
          · rw [if_neg (fun q => hl0 q.2)] at htk
            have hl1 : ¬ ((l : Nat) : Int) = 0 := by omega
            repeat' (first | (with_reducible first | apply w1 | apply w2 | apply w3 | apply w4 | apply w5 | apply w6 | apply w7 | apply w8 | apply w9 | apply wa | apply wb | apply wc) | ((with_reducible apply wd); focus decide) | ((with_reducible apply we); focus exact rfl) | ((with_reducible apply wf); focus exact rfl) | ((first | (with_reducible apply SW_run tt_ok hG htb) | ((with_reducible apply SW_draw rfl tt_ok hG htb); (focus kernel_rfl); focus simp only [List.range, List.range.loop, List.size_toArray, List.length_cons, List.length_nil, Nat.reduceAdd])); focus ((repeat' (first | (with_reducible first | exact wg | exact wh) | ((with_reducible first | apply wi | apply wj); focus (simp (discharger := omega) only [go_sem, hz0, hnf, hnfl, ht, hwr, hrrl, hl1, simprocAttr]; with_reducible rfl)))); done)))
            exact ⟨n - (l + 1), _, by omega, Norm.headS (own := []) (keep := [1, 2, 5, 6, 7, 9, 10, 11, 12, 13, 14, 15]) (by refine ⟨?_, ?_⟩; (simp (discharger := omega) only [go_sem, simprocAttr]; with_reducible rfl); refine ⟨?_, ?_, ?_, ?_⟩ <;> (simp only [go_sem, simprocAttr]; with_reducible rfl)), l + 1, _, rfl, rfl, by omega, by rw [htk, List.map_append, ← hrr]; rfl⟩
        · obtain rfl : l = n := by omega
          have hrr2 : T.list rr = tInts qk := by rw [hrr, List.take_of_length_le (by omega)]; rfl
          repeat' (first | (with_reducible first | apply w1 | apply w2 | apply w3 | apply w4 | apply w5 | apply w6 | apply w7 | apply w8 | apply w9 | apply wa | apply wb | apply wc) | ((with_reducible apply wd); focus decide) | ((with_reducible apply we); focus exact rfl) | ((with_reducible apply wf); focus exact rfl) | ((first | (with_reducible apply SW_run tt_ok hG htb) | ((with_reducible apply SW_draw rfl tt_ok hG htb); (focus kernel_rfl); focus simp only [List.range, List.range.loop, List.size_toArray, List.length_cons, List.length_nil, Nat.reduceAdd])); focus ((repeat' (first | (with_reducible first | exact wg | exact wh) | ((with_reducible first | apply wi | apply wj); focus (simp (discharger := omega) only [go_sem, hnf, hnfl, hrsl, hesl, hsf, tSet, tAuto, simprocAttr]; with_reducible rfl)))); done)))
          exact ⟨S.length + 1 - (k + 1), _, by omega, Norm.headS (own := []) (keep := [1, 2, 5, 6, 7, 9, 10, 11, 12]) (by refine ⟨?_, ?_⟩; (simp (discharger := omega) only [go_sem, simprocAttr]; with_reducible rfl); refine ⟨?_, ?_, ?_, ?_⟩ <;> (simp only [go_sem, simprocAttr]; with_reducible rfl)), k + 1, _, _, rfl, by rw [hz1]; rfl, by omega, by rw [htkQ, List.map_append, ← hrs, hrr2]; rfl, by rw [htkE, List.map_append, ← hes]; rfl⟩
      · have hz0 : ¬ z < 0 := by omega
        have hzf : z = ((f : Nat) : Int) := by rw [← hfd, if_neg hk0]; omega
        subst hzf
        repeat' (first | (with_reducible first | apply w1 | apply w2 | apply w3 | apply w4 | apply w5 | apply w6 | apply w7 | apply w8 | apply w9 | apply wa | apply wb | apply wc) | ((with_reducible apply wd); focus decide) | ((with_reducible apply we); focus exact rfl) | ((with_reducible apply wf); focus exact rfl) | ((first | (with_reducible apply SW_run tt_ok hG htb) | ((with_reducible apply SW_draw rfl tt_ok hG htb); (focus kernel_rfl); focus simp only [List.range, List.range.loop, List.size_toArray, List.length_cons, List.length_nil, Nat.reduceAdd])); focus ((repeat' (first | (with_reducible first | exact wg | exact wh) | ((with_reducible first | apply wi | apply wj); focus (simp (discharger := omega) only [go_sem, hz0, simprocAttr]; with_reducible rfl)))); done)))
        refine SW_loop (fun mm st => ∃ (l : Nat) (rr : List T), mm = n - l ∧ st = ⟨108, [(1, .bptr 0 0), (2, .bptr 1 0), (5, .bptr 2 0), (6, .t (.list (S.map tSet))), (7, .t (tIntss N)), (9, .t (tNat S.length)), (10, .sref 3), (11, .sref 4), (12, .t (.int .i64 ((f : Nat) : Int))), (13, .t (tNat f)), (14, .sref 5), (15, .t (tNat l))], [.box [.t (tInt a.base), .t (tInt a.tracks), .t (tIntss a.next), .t (tBools a.ends)], .box [.t (tInt 0), .t (tInt 0), .nil, .nil], .fbox [tInt M.base, tInt M.tracks, tIntss M.next, tBools M.ends], .row 35 1 true rs, .row 4 1 true es, .row 3 1 true rr]⟩ ∧ l ≤ n ∧ rr = (qk.take l).map (T.int .i64)) n
          ⟨_, Norm.headS (own := [(14, 3, 1, true)]) (keep := [1, 2, 5, 6, 7, 9, 10, 11, 12, 13, 14, 15]) (by refine ⟨?_, ?_⟩; (simp (discharger := omega) only [go_sem, simprocAttr]; with_reducible rfl); refine ⟨?_, ?_, ?_, ?_⟩ <;> (simp only [go_sem, simprocAttr]; with_reducible rfl)), 0, _, rfl, rfl, Nat.zero_le _, rfl⟩ ?_
        rintro mm st ⟨l, rr, rfl, rfl, hl, hrr⟩
        have hrrl : rr.length = l := by rw [hrr, List.length_map, List.length_take]; omega
        by_cases hll : l < n
        · obtain ⟨t, ht⟩ : ∃ t, nf[l]! = t := ⟨_, rfl⟩
          obtain ⟨hqt, ht0, ht1⟩ := hqq l t ht hll
          have hwr : IntKind.i64.wrap (t + 1) = t + 1 := wrap_i64 _ (by omega)
          have htk : qk.take (l + 1) = qk.take l ++ [if k = 0 ∧ l = 0 then 0 else t + 1] := by
            obtain ⟨q1, q2⟩ := List.getElem?_eq_some_iff.1 hqt
            rw [List.take_succ_eq_append_getElem q1, q2]
          rw [if_neg (fun q => hk0 q.1)] at htk
          repeat' (first | (with_reducible first | apply w1 | apply w2 | apply w3 | apply w4 | apply w5 | apply w6 | apply w7 | apply w8 | apply w9 | apply wa | apply wb | apply wc) | ((with_reducible apply wd); focus decide) | ((with_reducible apply we); focus exact rfl) | ((with_reducible apply wf); focus exact rfl) | ((first | (with_reducible apply SW_run tt_ok hG htb) | ((with_reducible apply SW_draw rfl tt_ok hG htb); (focus kernel_rfl); focus simp only [List.range, List.range.loop, List.size_toArray, List.length_cons, List.length_nil, Nat.reduceAdd])); focus ((repeat' (first | (with_reducible first | exact wg | exact wh) | ((with_reducible first | apply wi | apply wj); focus (simp (discharger := omega) only [go_sem, hz0, hnf, hnfl, ht, hwr, hrrl, simprocAttr]; with_reducible rfl)))); done)))
          exact ⟨n - (l + 1), _, by omega, Norm.headS (own := []) (keep := [1, 2, 5, 6, 7, 9, 10, 11, 12, 13, 14, 15]) (by refine ⟨?_, ?_⟩; (simp (discharger := omega) only [go_sem, simprocAttr]; with_reducible rfl); refine ⟨?_, ?_, ?_, ?_⟩ <;> (simp only [go_sem, simprocAttr]; with_reducible rfl)), l + 1, _, rfl, rfl, by omega, by rw [htk, List.map_append, ← hrr]; rfl⟩
        · obtain rfl : l = n := by omega
          have hrr2 : T.list rr = tInts qk := by rw [hrr, List.take_of_length_le (by omega)]; rfl
          repeat' (first | (with_reducible first | apply w1 | apply w2 | apply w3 | apply w4 | apply w5 | apply w6 | apply w7 | apply w8 | apply w9 | apply wa | apply wb | apply wc) | ((with_reducible apply wd); focus decide) | ((with_reducible apply we); focus exact rfl) | ((with_reducible apply wf); focus exact rfl) | ((first | (with_reducible apply SW_run tt_ok hG htb) | ((with_reducible apply SW_draw rfl tt_ok hG htb); (focus kernel_rfl); focus simp only [List.range, List.range.loop, List.size_toArray, List.length_cons, List.length_nil, Nat.reduceAdd])); focus ((repeat' (first | (with_reducible first | exact wg | exact wh) | ((with_reducible first | apply wi | apply wj); focus (simp (discharger := omega) only [go_sem, hnf, hnfl, hrsl, hesl, hsf, tSet, tAuto, simprocAttr]; with_reducible rfl)))); done)))
          exact ⟨S.length + 1 - (k + 1), _, by omega, Norm.headS (own := []) (keep := [1, 2, 5, 6, 7, 9, 10, 11, 12]) (by refine ⟨?_, ?_⟩; (simp (discharger := omega) only [go_sem, simprocAttr]; with_reducible rfl); refine ⟨?_, ?_, ?_, ?_⟩ <;> (simp only [go_sem, simprocAttr]; with_reducible rfl)), k + 1, _, _, rfl, by rw [hz1]; rfl, by omega, by rw [htkQ, List.map_append, ← hrs, hrr2]; rfl, by rw [htkE, List.map_append, ← hes]; rfl⟩
    · obtain rfl : k = S.length + 1 := by omega
      have hrs2 : rs = Q'.map tInts := by rw [hrs, List.take_of_length_le (by omega)]
      have hes2 : es = E.map T.bool := by rw [hes, List.take_of_length_le (by omega)]
      clear hrs hes
      subst hrs2 hes2
      have hzl : ¬ z < ((S.length : Nat) : Int) := by omega
      have c7 := Shrunk_snd hG a.base a.tracks hRE (Nat.succ_pos _) (by omega) (ends := E) hEl (by omega)
      have hREe : closeRE a = leastRE n Q' E := by
        unfold closeRE
        rw [hNe, hSe, hM, hQ', hE]
        unfold closeN
        rw [hn]
      have htb := htb0
      repeat' (first | (with_reducible first | refine SW_seq ?_ | refine SW_block ?_ | refine SThen_n ?_ | refine SThen_r ?_ | refine SThen_e ?_ | refine SIn_n ?_ | refine SIn_r ?_ | refine SIn_eq ?_ | refine SW_skip ?_ | refine SW_exit ?_ | refine SW_ret ?_ | refine SPost_r ?_) | ((with_reducible refine SIn_ne ?_ ?_); focus decide) | ((with_reducible refine SW_true ?_ ?_); focus exact rfl) | ((with_reducible refine SW_false ?_ ?_); focus exact rfl) | ((with_reducible apply SW_run tt_ok hG htb); focus ((repeat' (first | (with_reducible exact runX_nil) | ((with_reducible apply runX_cons); focus (simp (discharger := omega) only [go_sem, hzl, simprocAttr]; with_reducible rfl)))); done)))
      refine SW_norm (Norm.frzRow 3 rfl) ?_
      refine SW_norm (Norm.frzRow 4 rfl) ?_
      clear htb
      by_cases h80 : (leastRE n Q' E).1.length ≤ 80
      · have hsh : shrinkT a.base a.tracks n Q' E = .tup [tAuto ⟨a.base, a.tracks, (leastRE n Q' E).1, (leastRE n Q' E).2⟩, .bool true] := if_pos h80
        have he : closeErr a = 0 := by unfold closeErr; rw [if_neg (fun q => q hf), if_neg (by rw [hoke]; decide), hREe, if_pos h80]
        have hz : closeA a = ⟨a.base, a.tracks, (leastRE n Q' E).1, (leastRE n Q' E).2⟩ := by unfold closeA; rw [he, if_pos rfl, hREe]
        rw [he, hz]
        rw [hsh] at c7
        generalize leastRE n Q' E = RE at *
        have htb := Tab.cons c7 Tab.nil
        repeat' (first | (with_reducible first | apply w1 | apply w2 | apply w3 | apply w4 | apply w5 | apply w6 | apply w7 | apply w8 | apply w9 | apply wa | apply wb | apply wc) | ((with_reducible apply wd); focus decide) | ((with_reducible apply we); focus exact rfl) | ((with_reducible apply wf); focus exact rfl) | ((first | (with_reducible apply SW_run tt_ok hG htb) | ((with_reducible apply SW_draw rfl tt_ok hG htb); (focus kernel_rfl); focus simp only [List.range, List.range.loop, List.size_toArray, List.length_cons, List.length_nil, Nat.reduceAdd])); focus ((repeat' (first | (with_reducible first | exact wg | exact wh) | ((with_reducible first | apply wi | apply wj); focus (simp (discharger := omega) only [go_sem, tAuto, simprocAttr]; with_reducible rfl)))); done)))
        exact (by simp (discharger := omega) only [go_sem, tAuto, simprocAttr])
      · have hsh : shrinkT a.base a.tracks n Q' E = .tup [tAuto GAuto.zero, .bool false] := if_neg h80
        have he : closeErr a = 3 := by unfold closeErr; rw [if_neg (fun q => q hf), if_neg (by rw [hoke]; decide), hREe, if_neg h80]
        have hz : closeA a = GAuto.zero := by unfold closeA; rw [he, if_neg (by decide)]
        rw [he, hz]
        rw [hsh] at c7
        have htb := Tab.cons c7 Tab.nil
        repeat' (first | (with_reducible first | apply w1 | apply w2 | apply w3 | apply w4 | apply w5 | apply w6 | apply w7 | apply w8 | apply w9 | apply wa | apply wb | apply wc) | ((with_reducible apply wd); focus decide) | ((with_reducible apply we); focus exact rfl) | ((with_reducible apply wf); focus exact rfl) | ((first | (with_reducible apply SW_run tt_ok hG htb) | ((with_reducible apply SW_draw rfl tt_ok hG htb); (focus kernel_rfl); focus simp only [List.range, List.range.loop, List.size_toArray, List.length_cons, List.length_nil, Nat.reduceAdd])); focus ((repeat' (first | (with_reducible first | exact wg | exact wh) | ((with_reducible first | apply wi | apply wj); focus (simp (discharger := omega) only [go_sem, tAuto, simprocAttr]; with_reducible rfl)))); done)))
        exact (by simp (discharger := omega) only [go_sem, tAuto, GAuto.zero, simprocAttr])
end
end Go.Proofs.YthcclcbliedodaaDoor
namespace Go.Proofs.YthcclcbliedodaaDoor
open Go.RowKit
theorem repErr_inv {S : Nat → Prop} {w : World} {v : Value} {e : Int} (h : RepT S w (tErr e) v) : v = errV 26 e := by
  unfold tErr at h; unfold errV
  split at h
  · rename_i h0
    rw [if_pos h0]; cases h; rfl
  · rename_i h0
    rw [if_neg h0]
    cases h with
    | iface t x v h => cases h; rfl
theorem errCell_lasting : Lasting errCell := fun _ _ hb h => errCell.below h hb
theorem Error_snd (e f : Int) : Snd Tryd.prog errCell 10 [tErr e, tInt f] (.bool (e == f)) :=
  snd2 Tryd.func10 rfl rfl fun S w v u hg _ h h' => by
    obtain rfl := repErr_inv h; obtain rfl := intInv h'
    exact ⟨_, Error_calls e f w hg, fun S w => .bool _⟩
end Go.Proofs.YthcclcbliedodaaDoor
namespace Go.Proofs.YthcclcbliedodaaDoor
open Go.RowKit

theorem list_same {α : Type} [Inhabited α] {l l' : List α} (hl : l.length = l'.length) (h : ∀ j, j < l.length → l[j]! = l'[j]!) : l = l' := by
  refine List.ext_getElem hl fun i h1 h2 => ?_
  have := h i h1
  rwa [getElem!_pos l i h1, getElem!_pos l' i h2] at this
section
variable {G : World → Prop} (hG : Lasting G)
include hG
set_option maxHeartbeats 4000000 in
theorem SInts_snd (d d' : List Int) : Snd Tryd.prog G 32 [tInts d, tInts d'] (.bool (decide (d = d'))) := by
  have htb : Tab.ok Tryd.prog G [] := Tab.nil
  refine snd_of_body (n := 26) (tm := [(0, .t (tInts d)), (1, .t (tInts d'))]) (rs := [.tmp 4]) tt_ok Tryd.func32 rfl rfl rfl rfl rfl ?_
  refine SW_len (t := 0) (l := _) rfl fun hlen => ?_
  simp only [List.length_map] at hlen
  by_cases hl : d.length = d'.length
  · repeat' (first | (with_reducible first | apply w1 | apply w2 | apply w3 | apply w4 | apply w5 | apply w6 | apply w7 | apply w8 | apply w9 | apply wa | apply wb | apply wc) | ((with_reducible apply wd); focus decide) | ((with_reducible apply we); focus exact rfl) | ((with_reducible apply wf); focus exact rfl) | ((first | (with_reducible apply SW_run tt_ok hG htb) | ((with_reducible apply SW_draw rfl tt_ok hG htb); (focus kernel_rfl); focus simp only [List.range, List.range.loop, List.size_toArray, List.length_cons, List.length_nil, Nat.reduceAdd])); focus ((repeat' (first | (with_reducible first | exact wg | exact wh) | ((with_reducible first | apply wi | apply wj); focus (simp (discharger := omega) only [go_sem, hl, simprocAttr]; with_reducible rfl)))); done)))
    refine SW_loop (fun n s => ∃ k : Nat, n = d.length - k ∧ s = ⟨26, [(0, .t (tInts d)), (1, .t (tInts d')), (5, .t (tInt k))], []⟩ ∧ k ≤ d.length ∧ ∀ j, j < k → d[j]! = d'[j]!) d.length ⟨_, Norm.headS (own := []) (keep := [0, 1, 5]) (by refine ⟨?_, ?_⟩; (simp (discharger := omega) only [go_sem, simprocAttr]; with_reducible rfl); refine ⟨?_, ?_, ?_, ?_⟩ <;> (simp only [go_sem, simprocAttr]; with_reducible rfl)), 0, rfl, rfl, Nat.zero_le _, fun j hj => by omega⟩ ?_
    rintro n s ⟨k, rfl, rfl, hk, hA⟩
    by_cases hlt : k < d.length
    · by_cases h : d[k]! = d'[k]!
      · repeat' (first | (with_reducible first | apply w1 | apply w2 | apply w3 | apply w4 | apply w5 | apply w6 | apply w7 | apply w8 | apply w9 | apply wa | apply wb | apply wc) | ((with_reducible apply wd); focus decide) | ((with_reducible apply we); focus exact rfl) | ((with_reducible apply wf); focus exact rfl) | ((first | (with_reducible apply SW_run tt_ok hG htb) | ((with_reducible apply SW_draw rfl tt_ok hG htb); (focus kernel_rfl); focus simp only [List.range, List.range.loop, List.size_toArray, List.length_cons, List.length_nil, Nat.reduceAdd])); focus ((repeat' (first | (with_reducible first | exact wg | exact wh) | ((with_reducible first | apply wi | apply wj); focus (simp (discharger := omega) only [go_sem, h, simprocAttr]; with_reducible rfl)))); done)))
        exact ⟨d.length - (k + 1), _, by omega, Norm.headS (own := []) (keep := [0, 1, 5]) (by refine ⟨?_, ?_⟩; (simp (discharger := omega) only [go_sem, simprocAttr]; with_reducible rfl); refine ⟨?_, ?_, ?_, ?_⟩ <;> (simp only [go_sem, simprocAttr]; with_reducible rfl)), k + 1, rfl, rfl, by omega, fun j hj => by
          by_cases e : j = k
          · subst e; exact h
          · exact hA j (by omega)⟩
      · rw [decide_eq_false (fun e => h (by rw [e]))]
        repeat' (first | (with_reducible first | apply w1 | apply w2 | apply w3 | apply w4 | apply w5 | apply w6 | apply w7 | apply w8 | apply w9 | apply wa | apply wb | apply wc) | ((with_reducible apply wd); focus decide) | ((with_reducible apply we); focus exact rfl) | ((with_reducible apply wf); focus exact rfl) | ((first | (with_reducible apply SW_run tt_ok hG htb) | ((with_reducible apply SW_draw rfl tt_ok hG htb); (focus kernel_rfl); focus simp only [List.range, List.range.loop, List.size_toArray, List.length_cons, List.length_nil, Nat.reduceAdd])); focus ((repeat' (first | (with_reducible first | exact wg | exact wh) | ((with_reducible first | apply wi | apply wj); focus (simp (discharger := omega) only [go_sem, h, simprocAttr]; with_reducible rfl)))); done)))
        exact (by simp (discharger := omega) only [go_sem, simprocAttr])
    · rw [decide_eq_true (list_same hl fun j hj => hA j (by omega))]
      repeat' (first | (with_reducible first | apply w1 | apply w2 | apply w3 | apply w4 | apply w5 | apply w6 | apply w7 | apply w8 | apply w9 | apply wa | apply wb | apply wc) | ((with_reducible apply wd); focus decide) | ((with_reducible apply we); focus exact rfl) | ((with_reducible apply wf); focus exact rfl) | ((first | (with_reducible apply SW_run tt_ok hG htb) | ((with_reducible apply SW_draw rfl tt_ok hG htb); (focus kernel_rfl); focus simp only [List.range, List.range.loop, List.size_toArray, List.length_cons, List.length_nil, Nat.reduceAdd])); focus ((repeat' (first | (with_reducible first | exact wg | exact wh) | ((with_reducible first | apply wi | apply wj); focus (simp (discharger := omega) only [go_sem, simprocAttr]; with_reducible rfl)))); done)))
      exact (by simp (discharger := omega) only [go_sem, simprocAttr])
  · rw [decide_eq_false (fun e => hl (by rw [e]))]
    repeat' (first | (with_reducible first | apply w1 | apply w2 | apply w3 | apply w4 | apply w5 | apply w6 | apply w7 | apply w8 | apply w9 | apply wa | apply wb | apply wc) | ((with_reducible apply wd); focus decide) | ((with_reducible apply we); focus exact rfl) | ((with_reducible apply wf); focus exact rfl) | ((first | (with_reducible apply SW_run tt_ok hG htb) | ((with_reducible apply SW_draw rfl tt_ok hG htb); (focus kernel_rfl); focus simp only [List.range, List.range.loop, List.size_toArray, List.length_cons, List.length_nil, Nat.reduceAdd])); focus ((repeat' (first | (with_reducible first | exact wg | exact wh) | ((with_reducible first | apply wi | apply wj); focus (simp (discharger := omega) only [go_sem, hl, simprocAttr]; with_reducible rfl)))); done)))
    exact (by simp (discharger := omega) only [go_sem, simprocAttr])
set_option maxHeartbeats 4000000 in
theorem Lists_snd (d d' : List (List Int)) : Snd Tryd.prog G 33 [tIntss d, tIntss d'] (.bool (decide (d = d'))) := by
  have htb : Tab.ok Tryd.prog G [] := Tab.nil
  refine snd_of_body (n := 29) (tm := [(0, .t (tIntss d)), (1, .t (tIntss d'))]) (rs := [.tmp 4]) tt_ok Tryd.func33 rfl rfl rfl rfl rfl ?_
  refine SW_len (t := 0) (l := _) rfl fun hlen => ?_
  simp only [List.length_map] at hlen
  by_cases hl : d.length = d'.length
  · repeat' (first | (with_reducible first | apply w1 | apply w2 | apply w3 | apply w4 | apply w5 | apply w6 | apply w7 | apply w8 | apply w9 | apply wa | apply wb | apply wc) | ((with_reducible apply wd); focus decide) | ((with_reducible apply we); focus exact rfl) | ((with_reducible apply wf); focus exact rfl) | ((first | (with_reducible apply SW_run tt_ok hG htb) | ((with_reducible apply SW_draw rfl tt_ok hG htb); (focus kernel_rfl); focus simp only [List.range, List.range.loop, List.size_toArray, List.length_cons, List.length_nil, Nat.reduceAdd])); focus ((repeat' (first | (with_reducible first | exact wg | exact wh) | ((with_reducible first | apply wi | apply wj); focus (simp (discharger := omega) only [go_sem, hl, simprocAttr]; with_reducible rfl)))); done)))
    refine SW_loop (fun n s => ∃ k : Nat, n = d.length - k ∧ s = ⟨29, [(0, .t (tIntss d)), (1, .t (tIntss d')), (5, .t (tInt k))], []⟩ ∧ k ≤ d.length ∧ ∀ j, j < k → d[j]! = d'[j]!) d.length ⟨_, Norm.headS (own := []) (keep := [0, 1, 5]) (by refine ⟨?_, ?_⟩; (simp (discharger := omega) only [go_sem, simprocAttr]; with_reducible rfl); refine ⟨?_, ?_, ?_, ?_⟩ <;> (simp only [go_sem, simprocAttr]; with_reducible rfl)), 0, rfl, rfl, Nat.zero_le _, fun j hj => by omega⟩ ?_
    rintro n s ⟨k, rfl, rfl, hk, hA⟩
    by_cases hlt : k < d.length
    · have htb := Tab.cons (SInts_snd hG d[k]! d'[k]!) Tab.nil
      by_cases h : d[k]! = d'[k]!
      · rw [decide_eq_true h] at htb
        repeat' (first | (with_reducible first | apply w1 | apply w2 | apply w3 | apply w4 | apply w5 | apply w6 | apply w7 | apply w8 | apply w9 | apply wa | apply wb | apply wc) | ((with_reducible apply wd); focus decide) | ((with_reducible apply we); focus exact rfl) | ((with_reducible apply wf); focus exact rfl) | ((first | (with_reducible apply SW_run tt_ok hG htb) | ((with_reducible apply SW_draw rfl tt_ok hG htb); (focus kernel_rfl); focus simp only [List.range, List.range.loop, List.size_toArray, List.length_cons, List.length_nil, Nat.reduceAdd])); focus ((repeat' (first | (with_reducible first | exact wg | exact wh) | ((with_reducible first | apply wi | apply wj); focus (simp (discharger := omega) only [go_sem, simprocAttr]; with_reducible rfl)))); done)))
        exact ⟨d.length - (k + 1), _, by omega, Norm.headS (own := []) (keep := [0, 1, 5]) (by refine ⟨?_, ?_⟩; (simp (discharger := omega) only [go_sem, simprocAttr]; with_reducible rfl); refine ⟨?_, ?_, ?_, ?_⟩ <;> (simp only [go_sem, simprocAttr]; with_reducible rfl)), k + 1, rfl, rfl, by omega, fun j hj => by
          by_cases e : j = k
          · subst e; exact h
          · exact hA j (by omega)⟩
      · rw [decide_eq_false (fun e => h (by rw [e]))]
        rw [decide_eq_false h] at htb
        repeat' (first | (with_reducible first | apply w1 | apply w2 | apply w3 | apply w4 | apply w5 | apply w6 | apply w7 | apply w8 | apply w9 | apply wa | apply wb | apply wc) | ((with_reducible apply wd); focus decide) | ((with_reducible apply we); focus exact rfl) | ((with_reducible apply wf); focus exact rfl) | ((first | (with_reducible apply SW_run tt_ok hG htb) | ((with_reducible apply SW_draw rfl tt_ok hG htb); (focus kernel_rfl); focus simp only [List.range, List.range.loop, List.size_toArray, List.length_cons, List.length_nil, Nat.reduceAdd])); focus ((repeat' (first | (with_reducible first | exact wg | exact wh) | ((with_reducible first | apply wi | apply wj); focus (simp (discharger := omega) only [go_sem, simprocAttr]; with_reducible rfl)))); done)))
        exact (by simp (discharger := omega) only [go_sem, simprocAttr])
    · rw [decide_eq_true (list_same hl fun j hj => hA j (by omega))]
      repeat' (first | (with_reducible first | apply w1 | apply w2 | apply w3 | apply w4 | apply w5 | apply w6 | apply w7 | apply w8 | apply w9 | apply wa | apply wb | apply wc) | ((with_reducible apply wd); focus decide) | ((with_reducible apply we); focus exact rfl) | ((with_reducible apply wf); focus exact rfl) | ((first | (with_reducible apply SW_run tt_ok hG htb) | ((with_reducible apply SW_draw rfl tt_ok hG htb); (focus kernel_rfl); focus simp only [List.range, List.range.loop, List.size_toArray, List.length_cons, List.length_nil, Nat.reduceAdd])); focus ((repeat' (first | (with_reducible first | exact wg | exact wh) | ((with_reducible first | apply wi | apply wj); focus (simp (discharger := omega) only [go_sem, simprocAttr]; with_reducible rfl)))); done)))
      exact (by simp (discharger := omega) only [go_sem, simprocAttr])
  · rw [decide_eq_false (fun e => hl (by rw [e]))]
    repeat' (first | (with_reducible first | apply w1 | apply w2 | apply w3 | apply w4 | apply w5 | apply w6 | apply w7 | apply w8 | apply w9 | apply wa | apply wb | apply wc) | ((with_reducible apply wd); focus decide) | ((with_reducible apply we); focus exact rfl) | ((with_reducible apply wf); focus exact rfl) | ((first | (with_reducible apply SW_run tt_ok hG htb) | ((with_reducible apply SW_draw rfl tt_ok hG htb); (focus kernel_rfl); focus simp only [List.range, List.range.loop, List.size_toArray, List.length_cons, List.length_nil, Nat.reduceAdd])); focus ((repeat' (first | (with_reducible first | exact wg | exact wh) | ((with_reducible first | apply wi | apply wj); focus (simp (discharger := omega) only [go_sem, hl, simprocAttr]; with_reducible rfl)))); done)))
    exact (by simp (discharger := omega) only [go_sem, simprocAttr])
def autoSame (a b : GAuto) : Bool := decide (a.base = b.base ∧ a.tracks = b.tracks ∧ a.next = b.next ∧ a.ends = b.ends)
omit hG in
theorem autoSame_self (a : GAuto) : autoSame a a = true := by simp [autoSame]
set_option maxHeartbeats 4000000 in
theorem Autos_snd (a b : GAuto) : Snd Tryd.prog G 16 [tAuto a, tAuto b] (.bool (autoSame a b)) := by
  have htb := Tab.cons (Lists_snd hG a.next b.next) Tab.nil
  refine snd_of_body (n := 55) (tm := [(0, .t (tAuto a)), (1, .t (tAuto b))]) (rs := [.tmp 4]) tt_ok Tryd.func16 rfl rfl rfl rfl rfl ?_
  unfold autoSame
  refine SW_lenA (t := 0) (i := 3) (l := a.ends.map T.bool) rfl rfl fun hlen => ?_
  simp only [List.length_map] at hlen
  by_cases h1 : a.base = b.base
  · by_cases h2 : a.tracks = b.tracks
    · by_cases h3 : a.next = b.next
      · rw [decide_eq_true h3] at htb
        by_cases h4 : a.ends.length = b.ends.length
        · repeat' (first | (with_reducible first | apply w1 | apply w2 | apply w3 | apply w4 | apply w5 | apply w6 | apply w7 | apply w8 | apply w9 | apply wa | apply wb | apply wc) | ((with_reducible apply wd); focus decide) | ((with_reducible apply we); focus exact rfl) | ((with_reducible apply wf); focus exact rfl) | ((first | (with_reducible apply SW_run tt_ok hG htb) | ((with_reducible apply SW_draw rfl tt_ok hG htb); (focus kernel_rfl); focus simp only [List.range, List.range.loop, List.size_toArray, List.length_cons, List.length_nil, Nat.reduceAdd])); focus ((repeat' (first | (with_reducible first | exact wg | exact wh) | ((with_reducible first | apply wi | apply wj); focus (simp (discharger := omega) only [go_sem, tAuto, h1, h2, h4, simprocAttr]; with_reducible rfl)))); done)))
          refine SW_loop (fun n s => ∃ k : Nat, n = a.ends.length - k ∧ s = ⟨55, [(2, .bptr 0 0), (3, .bptr 1 0), (6, .t (tInt k))], [.box [.t (tInt a.base), .t (tInt a.tracks), .t (tIntss a.next), .t (tBools a.ends)], .box [.t (tInt b.base), .t (tInt b.tracks), .t (tIntss b.next), .t (tBools b.ends)]]⟩ ∧ k ≤ a.ends.length ∧ ∀ j, j < k → a.ends[j]! = b.ends[j]!) a.ends.length
            ⟨_, Norm.headS (own := []) (keep := [2, 3, 6]) (by refine ⟨?_, ?_⟩; (simp (discharger := omega) only [go_sem, simprocAttr]; with_reducible rfl); refine ⟨?_, ?_, ?_, ?_⟩ <;> (simp only [go_sem, simprocAttr]; with_reducible rfl)), 0, rfl, by rw [← h1, ← h2]; rfl, Nat.zero_le _, fun j hj => by omega⟩ ?_
          rintro n s ⟨k, rfl, rfl, hk, hA⟩
          by_cases hlt : k < a.ends.length
          · by_cases h : a.ends[k]! = b.ends[k]!
            · have hb : (a.ends[k]! == b.ends[k]!) = true := by rw [h]; simp
              repeat' (first | (with_reducible first | apply w1 | apply w2 | apply w3 | apply w4 | apply w5 | apply w6 | apply w7 | apply w8 | apply w9 | apply wa | apply wb | apply wc) | ((with_reducible apply wd); focus decide) | ((with_reducible apply we); focus exact rfl) | ((with_reducible apply wf); focus exact rfl) | ((first | (with_reducible apply SW_run tt_ok hG htb) | ((with_reducible apply SW_draw rfl tt_ok hG htb); (focus kernel_rfl); focus simp only [List.range, List.range.loop, List.size_toArray, List.length_cons, List.length_nil, Nat.reduceAdd])); focus ((repeat' (first | (with_reducible first | exact wg | exact wh) | ((with_reducible first | apply wi | apply wj); focus (simp (discharger := omega) only [go_sem, hb, simprocAttr]; with_reducible rfl)))); done)))
              exact ⟨a.ends.length - (k + 1), _, by omega, Norm.headS (own := []) (keep := [2, 3, 6]) (by refine ⟨?_, ?_⟩; (simp (discharger := omega) only [go_sem, simprocAttr]; with_reducible rfl); refine ⟨?_, ?_, ?_, ?_⟩ <;> (simp only [go_sem, simprocAttr]; with_reducible rfl)), k + 1, rfl, rfl, by omega, fun j hj => by
                by_cases e : j = k
                · subst e; exact h
                · exact hA j (by omega)⟩
            · have hb : (a.ends[k]! == b.ends[k]!) = false := by simpa using h
              rw [decide_eq_false (fun e => h (by rw [e.2.2.2]))]
              repeat' (first | (with_reducible first | apply w1 | apply w2 | apply w3 | apply w4 | apply w5 | apply w6 | apply w7 | apply w8 | apply w9 | apply wa | apply wb | apply wc) | ((with_reducible apply wd); focus decide) | ((with_reducible apply we); focus exact rfl) | ((with_reducible apply wf); focus exact rfl) | ((first | (with_reducible apply SW_run tt_ok hG htb) | ((with_reducible apply SW_draw rfl tt_ok hG htb); (focus kernel_rfl); focus simp only [List.range, List.range.loop, List.size_toArray, List.length_cons, List.length_nil, Nat.reduceAdd])); focus ((repeat' (first | (with_reducible first | exact wg | exact wh) | ((with_reducible first | apply wi | apply wj); focus (simp (discharger := omega) only [go_sem, hb, simprocAttr]; with_reducible rfl)))); done)))
              exact (by simp (discharger := omega) only [go_sem, simprocAttr])
          · rw [decide_eq_true ⟨h1, h2, h3, list_same h4 fun j hj => hA j (by omega)⟩]
            repeat' (first | (with_reducible first | apply w1 | apply w2 | apply w3 | apply w4 | apply w5 | apply w6 | apply w7 | apply w8 | apply w9 | apply wa | apply wb | apply wc) | ((with_reducible apply wd); focus decide) | ((with_reducible apply we); focus exact rfl) | ((with_reducible apply wf); focus exact rfl) | ((first | (with_reducible apply SW_run tt_ok hG htb) | ((with_reducible apply SW_draw rfl tt_ok hG htb); (focus kernel_rfl); focus simp only [List.range, List.range.loop, List.size_toArray, List.length_cons, List.length_nil, Nat.reduceAdd])); focus ((repeat' (first | (with_reducible first | exact wg | exact wh) | ((with_reducible first | apply wi | apply wj); focus (simp (discharger := omega) only [go_sem, simprocAttr]; with_reducible rfl)))); done)))
            exact (by simp (discharger := omega) only [go_sem, simprocAttr])
        · rw [decide_eq_false (fun e => h4 (by rw [e.2.2.2]))]
          repeat' (first | (with_reducible first | apply w1 | apply w2 | apply w3 | apply w4 | apply w5 | apply w6 | apply w7 | apply w8 | apply w9 | apply wa | apply wb | apply wc) | ((with_reducible apply wd); focus decide) | ((with_reducible apply we); focus exact rfl) | ((with_reducible apply wf); focus exact rfl) | ((first | (with_reducible apply SW_run tt_ok hG htb) | ((with_reducible apply SW_draw rfl tt_ok hG htb); (focus kernel_rfl); focus simp only [List.range, List.range.loop, List.size_toArray, List.length_cons, List.length_nil, Nat.reduceAdd])); focus ((repeat' (first | (with_reducible first | exact wg | exact wh) | ((with_reducible first | apply wi | apply wj); focus (simp (discharger := omega) only [go_sem, tAuto, h1, h2, h4, simprocAttr]; with_reducible rfl)))); done)))
          exact (by simp (discharger := omega) only [go_sem, simprocAttr])
      · rw [decide_eq_false h3] at htb
        rw [decide_eq_false (fun e => h3 e.2.2.1)]
        repeat' (first | (with_reducible first | apply w1 | apply w2 | apply w3 | apply w4 | apply w5 | apply w6 | apply w7 | apply w8 | apply w9 | apply wa | apply wb | apply wc) | ((with_reducible apply wd); focus decide) | ((with_reducible apply we); focus exact rfl) | ((with_reducible apply wf); focus exact rfl) | ((first | (with_reducible apply SW_run tt_ok hG htb) | ((with_reducible apply SW_draw rfl tt_ok hG htb); (focus kernel_rfl); focus simp only [List.range, List.range.loop, List.size_toArray, List.length_cons, List.length_nil, Nat.reduceAdd])); focus ((repeat' (first | (with_reducible first | exact wg | exact wh) | ((with_reducible first | apply wi | apply wj); focus (simp (discharger := omega) only [go_sem, tAuto, h1, h2, simprocAttr]; with_reducible rfl)))); done)))
        exact (by simp (discharger := omega) only [go_sem, simprocAttr])
    · rw [decide_eq_false (fun e => h2 e.2.1)]
      repeat' (first | (with_reducible first | apply w1 | apply w2 | apply w3 | apply w4 | apply w5 | apply w6 | apply w7 | apply w8 | apply w9 | apply wa | apply wb | apply wc) | ((with_reducible apply wd); focus decide) | ((with_reducible apply we); focus exact rfl) | ((with_reducible apply wf); focus exact rfl) | ((first | (with_reducible apply SW_run tt_ok hG htb) | ((with_reducible apply SW_draw rfl tt_ok hG htb); (focus kernel_rfl); focus simp only [List.range, List.range.loop, List.size_toArray, List.length_cons, List.length_nil, Nat.reduceAdd])); focus ((repeat' (first | (with_reducible first | exact wg | exact wh) | ((with_reducible first | apply wi | apply wj); focus (simp (discharger := omega) only [go_sem, tAuto, h1, h2, simprocAttr]; with_reducible rfl)))); done)))
      exact (by simp (discharger := omega) only [go_sem, simprocAttr])
  · rw [decide_eq_false (fun e => h1 e.1)]
    repeat' (first | (with_reducible first | apply w1 | apply w2 | apply w3 | apply w4 | apply w5 | apply w6 | apply w7 | apply w8 | apply w9 | apply wa | apply wb | apply wc) | ((with_reducible apply wd); focus decide) | ((with_reducible apply we); focus exact rfl) | ((with_reducible apply wf); focus exact rfl) | ((first | (with_reducible apply SW_run tt_ok hG htb) | ((with_reducible apply SW_draw rfl tt_ok hG htb); (focus kernel_rfl); focus simp only [List.range, List.range.loop, List.size_toArray, List.length_cons, List.length_nil, Nat.reduceAdd])); focus ((repeat' (first | (with_reducible first | exact wg | exact wh) | ((with_reducible first | apply wi | apply wj); focus (simp (discharger := omega) only [go_sem, tAuto, h1, simprocAttr]; with_reducible rfl)))); done)))
    exact (by simp (discharger := omega) only [go_sem, simprocAttr])
end
end Go.Proofs.YthcclcbliedodaaDoor
namespace Go.Proofs.YthcclcbliedodaaDoor
open Go.ChangeShapes Go.WideShapes Go.ChangeAt Go.RowKit Go.Joins Go.Deep

section
variable {H : Type} {enc : TypeId × Value → H} {w : World} {sp : Nat → Bool} {held : Bool}
/-- One cell that reads as a datum. -/
def OpensT (enc : TypeId × Value → H) (w : World) (sp : Nat → Bool) (held : Bool) (T : TypeId) (Q : Go.Proofs.YthcclcbliedodaaDoor.T → Prop) : Prop :=
  ∀ n v y, DataW.trod enc Tryd.prog w 0 sp held n T [v] = some y → v.oneCell' = true ∧ ∃ x, Q x ∧ x.cells = [x] ∧ RepT (· < w.heap.size) w x v
theorem flat_cells : ∀ {l : List Go.Proofs.YthcclcbliedodaaDoor.T}, (∀ x ∈ l, x.cells = [x]) → Go.Proofs.YthcclcbliedodaaDoor.flat l = l
  | [], _ => rfl
  | a :: t, h => by
    have := flat_cells fun x hx => h x (List.mem_cons_of_mem a hx)
    simp only [Go.Proofs.YthcclcbliedodaaDoor.flat, List.flatMap_cons] at this ⊢
    rw [this, h a List.mem_cons_self]; rfl
theorem opensT_int {T : TypeId} (ht : Tryd.prog.underlying T = some (.int .i64)) : OpensT enc w sp held T fun x => ∃ n, x = tInt n ∧ I64 n := by
  intro n v y h
  obtain ⟨a, rfl, h2⟩ := opens_int ht n v y h
  exact ⟨rfl, _, ⟨a, rfl, h2⟩, rfl, .int _ _⟩
theorem opensT_bool {T : TypeId} (ht : Tryd.prog.underlying T = some .bool) : OpensT enc w sp held T fun x => ∃ b, x = .bool b := by
  intro n v y h
  obtain ⟨a, rfl⟩ := opens_bool ht n v y h
  exact ⟨rfl, _, ⟨a, rfl⟩, rfl, .bool _⟩
theorem opensT_slice {T e : TypeId} {Q : Go.Proofs.YthcclcbliedodaaDoor.T → Prop} (ht : Tryd.prog.underlying T = some (.slice e)) (hc : Tryd.prog.cellsOf e = 1) (hE : OpensT enc w sp held e Q) :
    OpensT enc w sp held T fun x => ∃ l, x = .list l ∧ ∀ y ∈ l, Q y := by
  intro n v y h
  rcases open_slice1 ht hc h with ⟨hcs, _⟩ | ⟨a, len, cap, m, n', V, D, Pl, hcs, _, hl, hcap, hm, _, hx⟩
  · obtain rfl : v = .slice none 0 0 := by simpa using hcs
    exact ⟨rfl, _, ⟨[], rfl, fun y hy => by simp at hy⟩, rfl, .list [] none 0 1 (fun _ => undef) (Nat.zero_le _) Nat.one_pos (fun x hx => by simp at hx) (fun h => (h rfl).elim) (fun k hk => by simp at hk) (fun k y hy => by simp [Go.Proofs.YthcclcbliedodaaDoor.flat] at hy) (Nat.le_refl _)⟩
  · obtain rfl : v = .slice (some a) len cap := by simpa using hcs
    have hlm : len ≤ m := by rw [hm]; split <;> omega
    have hall : ∀ i, i < len → (V i).oneCell' = true ∧ ∃ b, Q b ∧ b.cells = [b] ∧ RepT (· < w.heap.size) w b (V i) := fun i hi => hE _ _ _ (hx i (by omega)).2
    have key : ∀ k, k ≤ len → ∃ l : List Go.Proofs.YthcclcbliedodaaDoor.T, l.length = k ∧ ∀ i (hi : i < l.length), Q l[i] ∧ l[i].cells = [l[i]] ∧ RepT (· < w.heap.size) w l[i] (V i) := by
      intro k
      induction k with
      | zero => intro _; exact ⟨[], rfl, fun i hi => absurd hi (by simp)⟩
      | succ k ih =>
        intro hk
        obtain ⟨l, hl1, hl2⟩ := ih (by omega)
        obtain ⟨_, b, hb⟩ := hall k (by omega)
        refine ⟨l ++ [b], by simp [hl1], fun i hi => ?_⟩
        rw [List.getElem_append]
        split
        · exact hl2 i ‹_›
        · obtain rfl : i = k := by simp at hi; omega
          simpa using hb
    obtain ⟨l, hl1, hl2⟩ := key len (Nat.le_refl _)
    subst hl1
    have hcells : ∀ x ∈ l, x.cells = [x] := fun x hx => by obtain ⟨i, hi, rfl⟩ := List.mem_iff_getElem.1 hx; exact (hl2 i hi).2.1
    have hfl := flat_cells hcells
    refine ⟨rfl, _, ⟨l, rfl, fun y hy => by obtain ⟨i, hi, rfl⟩ := List.mem_iff_getElem.1 hy; exact (hl2 i hi).1⟩, rfl, ?_⟩
    refine .list l (some a) cap 1 V (by simp only [maxLen] at hcap ⊢; omega) Nat.one_pos (fun x hx => by rw [hcells x hx]; rfl) (fun hne => ?_) (fun k hk => (hall k (by omega)).1) (fun k y hy => ?_) (by omega)
    · obtain ⟨b, off, spot⟩ := a
      have hpos : 0 < l.length := List.length_pos_iff.2 hne
      have hc1 := (hx 0 (by omega)).1
      have hspot : spot = none := by simpa [Addr.add] using World.cell?_spot hc1
      subst hspot
      have hadd : ∀ i, (⟨b, off, none⟩ : Addr).add i = ⟨b, off + i, none⟩ := fun i => by unfold Addr.add; split <;> simp_all
      refine ⟨b, off, rfl, ?_, fun k hk => ?_⟩
      · rw [hadd] at hc1; exact cell_lt hc1
      · have := (hx k (by omega)).1
        rw [hadd] at this; exact this
    · rw [hfl] at hy
      obtain ⟨hk, rfl⟩ := List.getElem?_eq_some_iff.1 hy
      exact (hl2 k hk).2.2
theorem allMap {α : Type} {f : α → Go.Proofs.YthcclcbliedodaaDoor.T} {Q : α → Prop} : ∀ {l : List Go.Proofs.YthcclcbliedodaaDoor.T}, (∀ y ∈ l, ∃ a, y = f a ∧ Q a) → ∃ q : List α, l = q.map f ∧ ∀ a ∈ q, Q a
  | [], _ => ⟨[], rfl, fun a ha => by simp at ha⟩
  | x :: t, h => by
    obtain ⟨a, rfl, ha⟩ := h x List.mem_cons_self
    obtain ⟨q, rfl, hq⟩ := allMap fun y hy => h y (List.mem_cons_of_mem _ hy)
    exact ⟨a :: q, rfl, fun b hb => by
      rcases List.mem_cons.1 hb with rfl | hb
      · exact ha
      · exact hq b hb⟩
theorem opensT_ints {T : TypeId} (h : OpensT enc w sp held T fun x => ∃ l, x = .list l ∧ ∀ y ∈ l, ∃ n, y = tInt n ∧ I64 n) : OpensT enc w sp held T fun x => ∃ l, x = tInts l ∧ I64s l := fun n v y hy => by
  obtain ⟨h1, x, ⟨l, rfl, hl⟩, h2, h3⟩ := h n v y hy
  obtain ⟨q, rfl, hq⟩ := allMap hl
  exact ⟨h1, _, ⟨q, rfl, hq⟩, rfl, h3⟩
theorem opensIntsT : OpensT enc w sp held 35 fun x => ∃ l, x = tInts l ∧ I64s l := opensT_ints (opensT_slice Tryd.underlying35 (by kernel_rfl) (opensT_int Tryd.underlying3))
theorem opensIntssT : OpensT enc w sp held 22 fun x => ∃ l, x = tIntss l ∧ ∀ r ∈ l, I64s r := fun n v y hy => by
  obtain ⟨h1, x, ⟨l, rfl, hl⟩, h2, h3⟩ := opensT_slice Tryd.underlying22 (by kernel_rfl) opensIntsT n v y hy
  obtain ⟨q, rfl, hq⟩ := allMap hl
  exact ⟨h1, _, ⟨q, rfl, hq⟩, rfl, h3⟩
theorem opensBoolsT : OpensT enc w sp held 23 fun x => ∃ l, x = tBools l := fun n v y hy => by
  obtain ⟨h1, x, ⟨l, rfl, hl⟩, h2, h3⟩ := opensT_slice Tryd.underlying23 (by kernel_rfl) (opensT_bool Tryd.underlying4) n v y hy
  obtain ⟨q, rfl, hq⟩ := allMap (Q := fun _ => True) fun y hy => by obtain ⟨b, hb⟩ := hl y hy; exact ⟨b, hb, trivial⟩
  exact ⟨h1, _, ⟨q, rfl⟩, rfl, h3⟩
def ReadsAuto (w : World) (v : Value) (a : GAuto) : Prop := I64A a ∧ RepT (· < w.heap.size) w (tAuto a) v
set_option maxRecDepth 100000 in
theorem openAutoT {base : Nat} {v : Value} {d : DataW H} {p : List MemPlace} (hv : Value.okWide Tryd.prog w .any base 25 v) (h : DataW.Trod enc Tryd.prog w 0 sp held 25 v d p) :
    ∃ a : GAuto, ReadsAuto w v a := by
  obtain ⟨v0, v1, v2, v3, y0, y1, y2, y3, n, rfl, _, _, h0, h1, h2, h3⟩ := open_agg4 Tryd.underlying25 (by kernel_rfl) (by kernel_rfl) hv h
  obtain ⟨a0, rfl, i0⟩ := opens_int Tryd.underlying3 _ _ _ h0
  obtain ⟨a1, rfl, i1⟩ := opens_int Tryd.underlying3 _ _ _ h1
  obtain ⟨o2, x2, ⟨a2, rfl, i2⟩, _, hn⟩ := opensIntssT _ _ _ h2
  obtain ⟨o3, x3, ⟨a3, rfl⟩, _, he⟩ := opensBoolsT _ _ _ h3
  refine ⟨⟨a0, a1, a2, a3⟩, ⟨i0, i1, i2⟩, .agg _ _ rfl (fun k v hk => ?_) fun k y v hy hk => ?_⟩
  · match k, hk with
    | 0, hk => cases hk; rfl
    | 1, hk => cases hk; rfl
    | 2, hk => cases hk; exact o2
    | 3, hk => cases hk; exact o3
  · match k, hy, hk with
    | 0, hy, hk => cases hy; cases hk; exact .int _ _
    | 1, hy, hk => cases hy; cases hk; exact .int _ _
    | 2, hy, hk => cases hy; cases hk; exact hn
    | 3, hy, hk => cases hy; cases hk; exact he
end
theorem walkN {P : Program} {G : World → Prop} {f : Nat} {xs : List T} {w : World} {vs : Array Value} (h : Snd P G f xs (.bool true)) (hG : G w) (hl : vs.size = xs.length) (hx : ∀ (k : Nat) (y : T) (v : Value), xs[k]? = some y → vs[k]? = some v → RepT (· < w.heap.size) w y v) : Calls P f vs w (Ret (.bool true) w) :=
  (h.calls (· < w.heap.size) w vs hG hl hx).mono fun e w' hq => by obtain ⟨u, h1, h2, h3⟩ := hq; cases h2; exact ⟨h1, h3⟩
end Go.Proofs.YthcclcbliedodaaDoor
namespace Go.Proofs.YthcclcbliedodaaDoor
open Go.RowKit

noncomputable def closedB (a : GAuto) : Bool := if autoFault a = 0 then decide (((leastA a).next[0]!)[0]! = 0) else false
section
variable {G : World → Prop} (hG : Lasting G)
include hG
theorem ClosedI_snd (a : GAuto) : Snd Tryd.prog G 21 [tAuto a] (.tup [.bool (closedB a), tErr (autoFault a)]) := by
  have c1 := Check_snd hG a
  have c2 := Least_snd hG a
  refine snd_of_body (n := 24) (tm := [(0, .t (tAuto a))]) (rs := [.tmp 2, .tmp 3]) tt_ok Tryd.func21 rfl rfl rfl rfl rfl ?_
  by_cases hf : autoFault a = 0
  rotate_left
  · rw [show closedB a = false from if_neg hf]
    generalize autoFault a = e at *
    have htb := Tab.cons c1 Tab.nil
    repeat' (first | (with_reducible first | apply w1 | apply w2 | apply w3 | apply w4 | apply w5 | apply w6 | apply w7 | apply w8 | apply w9 | apply wa | apply wb | apply wc) | ((with_reducible apply wd); focus decide) | ((with_reducible apply we); focus exact rfl) | ((with_reducible apply wf); focus exact rfl) | ((first | (with_reducible apply SW_run tt_ok hG htb) | ((with_reducible apply SW_draw rfl tt_ok hG htb); (focus kernel_rfl); focus simp only [List.range, List.range.loop, List.size_toArray, List.length_cons, List.length_nil, Nat.reduceAdd])); focus ((repeat' (first | (with_reducible first | exact wg | exact wh) | ((with_reducible first | apply wi | apply wj); focus (simp (discharger := omega) only [go_sem, tAuto, tErr, hf, simprocAttr]; with_reducible rfl)))); done)))
    exact (by simp (discharger := omega) only [go_sem, tErr, hf, simprocAttr])
  have g := good_of hf
  obtain ⟨n, hn⟩ : ∃ n, (manyOf a.base a.tracks).toNat = n := ⟨_, rfl⟩
  rw [hn] at g
  obtain ⟨_, _, gM⟩ := least_again g
  have hlA : leastOf a = leastA a := if_pos hf
  have hcb : closedB a = decide (((leastA a).next[0]!)[0]! = 0) := if_pos hf
  rw [hcb]
  rw [hf, hlA] at c2
  rw [hf] at c1 ⊢
  generalize leastA a = M at *
  have hm0 := gM.m0
  have hn0 := gM.n0
  obtain ⟨r0, hr0⟩ : ∃ r0, M.next[0]! = r0 := ⟨_, rfl⟩
  have hrl := gM.rows.row r0 (bang_mem hr0 (by omega))
  obtain ⟨t, ht⟩ : ∃ t, r0[0]! = t := ⟨_, rfl⟩
  rw [hr0, ht]
  have htb := Tab.cons c1 (Tab.cons c2 Tab.nil)
  by_cases h0 : t = 0
  · rw [decide_eq_true h0]
    have h02 := eq_true h0
    repeat' (first | (with_reducible first | apply w1 | apply w2 | apply w3 | apply w4 | apply w5 | apply w6 | apply w7 | apply w8 | apply w9 | apply wa | apply wb | apply wc) | ((with_reducible apply wd); focus decide) | ((with_reducible apply we); focus exact rfl) | ((with_reducible apply wf); focus exact rfl) | ((first | (with_reducible apply SW_run tt_ok hG htb) | ((with_reducible apply SW_draw rfl tt_ok hG htb); (focus kernel_rfl); focus simp only [List.range, List.range.loop, List.size_toArray, List.length_cons, List.length_nil, Nat.reduceAdd])); focus ((repeat' (first | (with_reducible first | exact wg | exact wh) | ((with_reducible first | apply wi | apply wj); focus (simp (discharger := omega) only [go_sem, tAuto, tErr0, hr0, ht, hrl, h02, simprocAttr]; with_reducible rfl)))); done)))
    exact (by simp (discharger := omega) only [go_sem, tErr0, simprocAttr])
  · rw [decide_eq_false h0]
    repeat' (first | (with_reducible first | apply w1 | apply w2 | apply w3 | apply w4 | apply w5 | apply w6 | apply w7 | apply w8 | apply w9 | apply wa | apply wb | apply wc) | ((with_reducible apply wd); focus decide) | ((with_reducible apply we); focus exact rfl) | ((with_reducible apply wf); focus exact rfl) | ((first | (with_reducible apply SW_run tt_ok hG htb) | ((with_reducible apply SW_draw rfl tt_ok hG htb); (focus kernel_rfl); focus simp only [List.range, List.range.loop, List.size_toArray, List.length_cons, List.length_nil, Nat.reduceAdd])); focus ((repeat' (first | (with_reducible first | exact wg | exact wh) | ((with_reducible first | apply wi | apply wj); focus (simp (discharger := omega) only [go_sem, tAuto, tErr0, hr0, ht, hrl, h0, simprocAttr]; with_reducible rfl)))); done)))
    exact (by simp (discharger := omega) only [go_sem, tErr0, simprocAttr])
end
set_option maxHeartbeats 8000000 in
set_option maxRecDepth 100000 in
theorem SomeCloses_snd (a : GAuto) : Snd Tryd.prog errCell 5 [tAuto a] (.bool true) := by
  have hG := errCell_lasting
  have c1 := CloseOf_ref (G := errCell) hG a
  have c2 := Close_snd (G := errCell) hG a
  have c3 := Error_snd (closeErr a) (closeErr a)
  have c4 := Autos_snd (G := errCell) hG (closeA a) (closeA a)
  rw [beq_self_eq_true] at c3
  rw [autoSame_self] at c4
  have c5 := Fault_snd (G := errCell) hG a
  have c6 := ClosedI_snd (G := errCell) hG a
  have c7 := Error_snd (autoFault a) (autoFault a)
  rw [beq_self_eq_true] at c7
  refine snd_of_body (n := 61) (tm := [(0, .t (tAuto a))]) (rs := [.tmp 2]) tt_ok Tryd.func5 rfl rfl rfl rfl rfl ?_
  generalize closeA a = b at *
  generalize closeErr a = e at *
  have htb := Tab.cons c1 (Tab.cons c2 (Tab.cons c3 (Tab.cons c4 Tab.nil)))
  repeat' (first | (with_reducible first | apply w1 | apply w2 | apply w3 | apply w4 | apply w5 | apply w6 | apply w7 | apply w8 | apply w9 | apply wa | apply wb | apply wc) | ((with_reducible apply wd); focus decide) | ((with_reducible apply we); focus exact rfl) | ((with_reducible apply wf); focus exact rfl) | ((first | (with_reducible apply SW_run tt_ok hG htb) | ((with_reducible apply SW_draw rfl tt_ok hG htb); (focus kernel_rfl); focus simp only [List.range, List.range.loop, List.size_toArray, List.length_cons, List.length_nil, Nat.reduceAdd])); focus ((repeat' (first | (with_reducible first | exact wg | exact wh) | ((with_reducible first | apply wi | apply wj); focus (simp (discharger := omega) only [go_sem, tAuto, simprocAttr]; with_reducible rfl)))); done)))
  clear htb
  by_cases hf : autoFault a = 0
  · have c8 := LeastOf_snd (G := errCell) hG hf
    have g := good_of hf
    obtain ⟨n, hn⟩ : ∃ n, (manyOf a.base a.tracks).toNat = n := ⟨_, rfl⟩
    rw [hn] at g
    obtain ⟨_, _, gM⟩ := least_again g
    have hcb : closedB a = decide (((leastA a).next[0]!)[0]! = 0) := if_pos hf
    rw [hf] at c5 c7
    rw [hf, hcb] at c6
    generalize leastA a = M at *
    have hm0 := gM.m0
    have hn0 := gM.n0
    obtain ⟨r0, hr0⟩ : ∃ r0, M.next[0]! = r0 := ⟨_, rfl⟩
    have hrl := gM.rows.row r0 (bang_mem hr0 (by omega))
    obtain ⟨t, ht⟩ : ∃ t, r0[0]! = t := ⟨_, rfl⟩
    rw [hr0, ht] at c6
    have htb := Tab.cons c5 (Tab.cons c6 (Tab.cons c7 (Tab.cons c8 Tab.nil)))
    by_cases h0 : t = 0
    · rw [decide_eq_true h0] at htb
      have h02 := eq_true h0
      repeat' (first | (with_reducible first | apply w1 | apply w2 | apply w3 | apply w4 | apply w5 | apply w6 | apply w7 | apply w8 | apply w9 | apply wa | apply wb | apply wc) | ((with_reducible apply wd); focus decide) | ((with_reducible apply we); focus exact rfl) | ((with_reducible apply wf); focus exact rfl) | ((first | (with_reducible apply SW_run tt_ok hG htb) | ((with_reducible apply SW_draw rfl tt_ok hG htb); (focus kernel_rfl); focus simp only [List.range, List.range.loop, List.size_toArray, List.length_cons, List.length_nil, Nat.reduceAdd])); focus ((repeat' (first | (with_reducible first | exact wg | exact wh) | ((with_reducible first | apply wi | apply wj); focus (simp (discharger := omega) only [go_sem, tAuto, tErr0, hr0, ht, hrl, h02, simprocAttr]; with_reducible rfl)))); done)))
      exact (by simp (discharger := omega) only [go_sem, simprocAttr])
    · rw [decide_eq_false h0] at htb
      repeat' (first | (with_reducible first | apply w1 | apply w2 | apply w3 | apply w4 | apply w5 | apply w6 | apply w7 | apply w8 | apply w9 | apply wa | apply wb | apply wc) | ((with_reducible apply wd); focus decide) | ((with_reducible apply we); focus exact rfl) | ((with_reducible apply wf); focus exact rfl) | ((first | (with_reducible apply SW_run tt_ok hG htb) | ((with_reducible apply SW_draw rfl tt_ok hG htb); (focus kernel_rfl); focus simp only [List.range, List.range.loop, List.size_toArray, List.length_cons, List.length_nil, Nat.reduceAdd])); focus ((repeat' (first | (with_reducible first | exact wg | exact wh) | ((with_reducible first | apply wi | apply wj); focus (simp (discharger := omega) only [go_sem, tAuto, tErr0, hr0, ht, hrl, h0, simprocAttr]; with_reducible rfl)))); done)))
      exact (by simp (discharger := omega) only [go_sem, simprocAttr])
  · have hcb : closedB a = false := if_neg hf
    rw [hcb] at c6
    generalize autoFault a = f at *
    have htb := Tab.cons c5 (Tab.cons c6 (Tab.cons c7 Tab.nil))
    repeat' (first | (with_reducible first | apply w1 | apply w2 | apply w3 | apply w4 | apply w5 | apply w6 | apply w7 | apply w8 | apply w9 | apply wa | apply wb | apply wc) | ((with_reducible apply wd); focus decide) | ((with_reducible apply we); focus exact rfl) | ((with_reducible apply wf); focus exact rfl) | ((first | (with_reducible apply SW_run tt_ok hG htb) | ((with_reducible apply SW_draw rfl tt_ok hG htb); (focus kernel_rfl); focus simp only [List.range, List.range.loop, List.size_toArray, List.length_cons, List.length_nil, Nat.reduceAdd])); focus ((repeat' (first | (with_reducible first | exact wg | exact wh) | ((with_reducible first | apply wi | apply wj); focus (simp (discharger := omega) only [go_sem, tAuto, tErr_flat, hf, simprocAttr]; with_reducible rfl)))); done)))
    exact (by simp (discharger := omega) only [go_sem, simprocAttr])
theorem SomeCloses_walk (v : Value) (a : GAuto) (w : World) (h : ReadsAuto w v a) (hg : errCell w) : Calls Tryd.prog 5 #[v] w (Ret (.bool true) w) :=
  walkN (SomeCloses_snd a) hg rfl fun k y z p q => by
    match k, p, q with
    | 0, p, q => cases p; cases q; exact h.2
end Go.Proofs.YthcclcbliedodaaDoor
namespace Go.Proofs.YthcclcbliedodaaDoor.someCloses
open Go.ChangeShapes Go.WideShapes Go.ChangeAt Go.RowKit

set_option maxRecDepth 100000 in
theorem lifted (os : Os) (started : os.Started) (H : Type) (enc : TypeId × Value → H) :
    ReturnsInHanded {} Tryd.checked os 5 .any (fun w args => (Rows.someClosesSpec.pre enc Tryd.prog Tryd.f5 [] false w args ∧ laidMetH Tryd.prog laidL w) ∧ sizedMet enc Tryd.prog Tryd.f5 (OpenSpec.ofChange Rows.someClosesSpec) false w args)
      (Rows.someClosesSpec.post enc Tryd.prog Tryd.f5 false true false false) := by
  refine returnsInHanded_of_change_and (C := Tryd.checked) (X := fun w _ => laidMetH Tryd.prog laidL w) (fun _ _ _ hh h => h.of_heap hh) own started (by kernel_rfl) Tryd.func5
    (ChangeSpec.witness_at (enc := enc) (C := Tryd.checked) (os := os) (X := fun w _ => laidMetH Tryd.prog laidL w) false (laidWorld os) #[.agg #[.int .i64 0, .int .i64 0, .slice none 0 0, .slice none 0 0]] 8 rfl (by kernel_rfl) (by kernel_rfl) (by kernel_rfl) (by kernel_rfl) (by kernel_rfl) (laidWorld_met os _)) ?_
  intro W base args ds gs before hval0 hW _ _ hL _
  have hval : ∀ (j : Nat) t v, Tryd.f5.params[j]? = some t → args[j]? = some v → Value.okWide Tryd.prog W .any base t v := hval0
  have hW' := hW
  obtain ⟨p, q, hA0, hV, rfl, hfz, hnd⟩ := hW
  have hA : DataW.TrodAll enc Tryd.prog W 0 (fun _ => true) true Tryd.f5.params.toList args.toList ds p := hA0
  rw [Tryd.params5] at hA hval
  obtain ⟨v0, vs0, d0, ds0, p0, q0, hargs, rfl, rfl, h0, r0⟩ := trodAll_cons hA
  obtain ⟨rfl, rfl, rfl⟩ := trodAll_nil r0
  obtain rfl : args = #[v0] := by cases args; simp_all
  obtain ⟨rfl, rfl⟩ := trodVars_none hV
  have k0 := h0
  have lt0 : ∀ x ∈ p0, x.block < W.heap.size := by obtain ⟨m, hm⟩ := k0; exact DataW.trod_lt m _ _ _ hm
  obtain ⟨a0, w0⟩ := openAutoT (hval 0 25 v0 rfl rfl) h0
  clear hA0 hval0
  refine (SomeCloses_walk _ a0 W w0 (handle_of_laid hL)).mono fun e W' ⟨he, bel⟩ => ?_
  subst he
  exact ⟨_, rfl, _, _, _, [], _, [], hW', trodAll_mk1 (shut_bool Tryd.underlying4 _), (trodAll_cons_mk (Below.trod laidOut (by kernel_rfl) (of_decide_eq_true (by kernel_rfl)) k0 bel lt0) trodAll_mk0), rfl, bel.frame _, fun h => by cases h⟩

theorem over : Rows.someClosesRow.holds Tryd.pinned (OpenSpec.ofChange Rows.someClosesSpec) :=
  OpenClaim.holds_of_wide 5 Tryd.f5 rfl rfl rfl rfl rfl rfl rfl ⟨rfl, rfl, rfl, rfl, rfl⟩ rfl rfl rfl rfl rfl (by kernel_rfl) Tryd.func5 (by kernel_rfl)
    (of_decide_eq_true (by kernel_rfl)) (by unfold Func.isWrapper; first | (rw [if_pos (by decide +kernel)]; kernel_rfl) | (rw [if_neg (by decide +kernel)]; exact ⟨rfl, rfl⟩))
    (fun os started H enc _ => lifted os started H enc)

theorem said : Rows.SomeClosesSaid := over
theorem plain (f : FuncId) (fn : Func) (hf : Tryd.pinned.checked.prog.funcNamed "filbert/filbertlaw2.SomeCloses" = some f) (hfn : Tryd.pinned.checked.prog.funcs[f]? = some fn) :
    true = Tryd.pinned.checked.prog.looks [] ∧ ∀ (j : Nat) t, fn.params[j]? = some t → Tryd.pinned.checked.prog.wantsStandIn t = false := by
  obtain rfl : f = 5 := Option.some.inj ((show Tryd.prog.funcNamed "filbert/filbertlaw2.SomeCloses" = some 5 by kernel_rfl).symm.trans hf) |>.symm
  obtain rfl : fn = Tryd.f5 := (Option.some.inj (Tryd.func5.symm.trans hfn)).symm
  refine ⟨by kernel_rfl, fun j t ht => ?_⟩
  have hall : (Tryd.f5.params.toList.all fun t => !(Tryd.prog.wantsStandIn t)) = true := by kernel_rfl
  have := List.all_eq_true.1 hall t (Array.mem_toList_iff.2 (Array.mem_of_getElem? ht))
  exact (show Tryd.prog.wantsStandIn t = false by simpa using this)

/-- THE STATEMENT: THE CARD. -/
theorem proved : Rows.SomeClosesCardSaid :=
  Claim7.holds_tied_plain_at .later [] _ _ _ _ said (fun _ h => by cases h) (by kernel_rfl) (fun _ h => by cases h) someCloses_row_tie rfl ⟨rfl, rfl⟩ (by kernel_rfl) rfl plain (by kernel_rfl)
#print axioms proved
end Go.Proofs.YthcclcbliedodaaDoor.someCloses
