/- The law AskLists returns true at every input and leaves its arguments as they read; the card ties the variable that errors.As reads. No conditions. -/
import Derived.Test.YtjidhaendndokaaDoorM5
import Derived.Test.YtjidhaendndokaaDoorChecked
import Derived.StillTailTactics
set_option linter.unusedSimpArgs false
set_option linter.unusedVariables false
set_option linter.unnecessarySimpa false
set_option linter.unusedSectionVars false
namespace Go.Proofs.YtjidhaendndokaaDoor
open Go.RowKit

/-- An empty slice among a row's cells, as a list. -/
theorem Norm.rowRaw {st : St} (j : Nat) {e : Nat} {ad : Option Addr} (h : st.heap[j]? = some (.row e 1 true [.raw ad 0 0])) : Norm st { st with heap := st.heap.set j (.row e 1 true [.list []]) } := fun C hd a w hr => by
  refine ⟨hd, hr.below, hr.df, hr.nt, by simp [hr.hl], fun i o g h1 h2 => ?_, hr.own, hr.dist, hr.sl, hr.ext⟩
  simp only [List.getElem?_set] at h1
  split at h1
  · rename_i e1
    subst e1
    split at h1
    · cases h1
      have hob := hr.ob j _ _ h h2
      cases g <;> simp only [ObR] at hob ⊢
      obtain ⟨e1, e2, e3, e4, e5⟩ := hob
      refine ⟨e1, e2, e3, fun x hx => by rw [List.mem_singleton.1 hx]; rfl, ?_⟩
      rcases e5 with ⟨xs, f1, f2, f3⟩ | ⟨q, _⟩
      · refine .inl ⟨xs, f1, f2, ⟨f3.len, f3.one, fun k y v g1 g2 => ?_⟩⟩
        match k, g1 with
        | 0, g1 =>
          cases g1
          have := f3.rep 0 _ v rfl g2
          cases this
          exact nil_list _ _
      · cases q
    · cases h1
  · exact hr.ob i o g h1 h2
theorem allW_succ (a : GAuto) (n : Nat) : allW a (n + 1) = allW a n ++ cwd a n 0 := by
  unfold allW
  rw [List.range_succ, List.flatMap_append]
  simp
theorem allW_more (a : GAuto) (n : Nat) : ∀ d, ∃ B, allW a (n + d) = allW a n ++ B
  | 0 => ⟨[], by simp⟩
  | d + 1 => by
    obtain ⟨B, hB⟩ := allW_more a n d
    exact ⟨B ++ cwd a (n + d) 0, by rw [← Nat.add_assoc, allW_succ, hB, List.append_assoc]⟩
theorem take_full (a : GAuto) {n M : Nat} (hn : n ≤ 401) (h : n = 401 ∨ ((allW a n).take M).length = M) : (allW a n).take M = (allW a 401).take M := by
  rcases h with rfl | h
  · rfl
  · obtain ⟨B, hB⟩ := allW_more a n (401 - n)
    rw [show n + (401 - n) = 401 by omega] at hB
    rw [hB, List.take_append_of_le_length (by rw [List.length_take] at h; omega)]
theorem take_grow {A C : List (List Int)} {M i : Nat} (hA : A.length < M) (hi : i ≤ C.length) (h : A.length + i ≤ M) (he : i = C.length ∨ A.length + i = M) : A ++ C.take i = (A ++ C).take M := by
  rw [List.take_append, List.take_of_length_le (l := A) (i := M) (by omega)]
  congr 1
  rcases he with e | e
  · rw [e, List.take_length, List.take_of_length_le (by omega)]
  · rw [show M - A.length = i by omega]
theorem nwT_is (o : Option (List Int)) : ∃ u b, nwT o = .tup [tInts u, .bool b] ∧ (o = some u ∧ b = true ∨ o = none ∧ b = false) := by
  cases o with
  | none => exact ⟨[], false, rfl, .inr ⟨rfl, rfl⟩⟩
  | some v => exact ⟨v, true, rfl, .inl ⟨rfl, rfl⟩⟩
section
variable {G : World → Prop} (hG : Lasting G)
include hG
set_option maxHeartbeats 32000000 in
set_option maxRecDepth 100000 in
theorem ListOf_ref {a : GAuto} {N m : Nat} (g : Good a N m) (M : Nat) (hM : M ≤ 200) : Snd Tryd.prog G 6 [tAuto a, tNat M] (tIntss (listOf a M)) := by
  have hm0 := g.m0
  have hN0 := g.n0
  have hnl := g.rows.len
  have hm80 := g.m80
  have hN36 := g.n36
  have hspec : listOf a M = (allW a 401).take M := by
    have := outL_spec g (most := ((M : Nat) : Int)) (by omega) 401
    rw [Int.toNat_natCast] at this
    exact this
  obtain ⟨L, hL⟩ : ∃ L, listOf a M = L := ⟨_, rfl⟩
  rw [hL] at hspec ⊢
  clear hL
  obtain ⟨AW, hAW⟩ : ∃ f : Nat → List (List Int), f = allW a := ⟨_, rfl⟩
  have hsucc : ∀ n, AW (n + 1) = AW n ++ cwd a n 0 := fun n => by rw [hAW]; exact allW_succ a n
  have hfull : ∀ {n : Nat}, n ≤ 401 → (n = 401 ∨ ((AW n).take M).length = M) → (AW n).take M = L := fun hn h => by rw [hspec]; rw [hAW] at h ⊢; exact take_full a hn h
  have hz0 : AW 0 = [] := by rw [hAW]; rfl
  clear hspec hAW
  refine snd_of_body (n := 99) (tm := [(0, .t (tAuto a)), (1, .t (tNat M))]) (rs := [.tmp 4]) tt_ok Tryd.func6 rfl rfl rfl rfl rfl ?_
  have htb : Tab.ok Tryd.prog G [] := Tab.nil
  repeat' (first | (with_reducible first | apply w1 | apply w2 | apply w3 | apply w4 | apply w5 | apply w6 | apply w7 | apply w8 | apply w9 | apply wa | apply wb | apply wc) | ((with_reducible apply wd); focus decide) | ((with_reducible apply we); focus exact rfl) | ((with_reducible apply wf); focus exact rfl) | ((first | (with_reducible apply SW_run tt_ok hG htb) | ((with_reducible apply SW_draw rfl tt_ok hG htb); (focus kernel_rfl); focus simp only [List.range, List.range.loop, List.size_toArray, List.length_cons, List.length_nil, Nat.reduceAdd])); focus ((repeat' (first | (with_reducible first | exact wg | exact wh) | ((with_reducible first | apply wi | apply wj); focus (simp (discharger := omega) only [go_sem, tAuto, simprocAttr]; with_reducible rfl)))); done)))
  have hstart : ∀ j, j < max 0 1 → [a.ends][j]! = canL a j := fun j hj => by
    obtain rfl : j = 0 := by omega
    rfl
  refine SW_loop (fun mm st => ∃ (n : Nat) (ro rl : List T) (lv : List (List Bool)), mm = 401 - n ∧ st = ⟨99, [(1, .t (tNat M)), (2, .bptr 0 0), (5, .sref 1), (6, .sref 2), (7, .t (tNat n))], [.box [.t (tInt a.base), .t (tInt a.tracks), .t (tIntss a.next), .t (tBools a.ends)], .row 38 1 true ro, .row 23 1 false rl]⟩ ∧ n ≤ 401 ∧ ro = ((AW n).take M).map tInts ∧ rl = lv.map tBools ∧ lv.length = max n 1 ∧ ∀ j, j < max n 1 → lv[j]! = canL a j) 401
    ⟨_, Norm.headS (own := [(5, 38, 1, true), (6, 23, 1, false)]) (keep := [1, 2, 5, 6, 7]) (by refine ⟨?_, ?_⟩; (simp (discharger := omega) only [go_sem, simprocAttr]; with_reducible rfl); refine ⟨?_, ?_, ?_, ?_⟩ <;> (simp only [go_sem, simprocAttr]; with_reducible rfl)), 0, _, _, [a.ends], rfl, rfl, by omega, by rw [hz0, List.take_nil]; rfl, rfl, rfl, hstart⟩ ?_
  rintro mm st ⟨n, ro, rl, lv, rfl, rfl, hn, hro, hrl, hlv, hlv2⟩
  have hol : ro.length = ((AW n).take M).length := by rw [hro, List.length_map]
  have hoM : ro.length ≤ M := by rw [hol, List.length_take]; omega
  by_cases h1 : n ≤ 400
  rotate_left
  · have hfin : ro = L.map tInts := by rw [hro, hfull hn (.inl (by omega))]
    clear hro
    subst hfin
    repeat' (first | (with_reducible first | apply w1 | apply w2 | apply w3 | apply w4 | apply w5 | apply w6 | apply w7 | apply w8 | apply w9 | apply wa | apply wb | apply wc) | ((with_reducible apply wd); focus decide) | ((with_reducible apply we); focus exact rfl) | ((with_reducible apply wf); focus exact rfl) | ((first | (with_reducible apply SW_run tt_ok hG htb) | ((with_reducible apply SW_draw rfl tt_ok hG htb); (focus kernel_rfl); focus simp only [List.range, List.range.loop, List.size_toArray, List.length_cons, List.length_nil, Nat.reduceAdd])); focus ((repeat' (first | (with_reducible first | exact wg | exact wh) | ((with_reducible first | apply wi | apply wj); focus (simp (discharger := omega) only [go_sem, simprocAttr]; with_reducible rfl)))); done)))
    exact (by simp (discharger := omega) only [go_sem, simprocAttr])
  by_cases h2 : ro.length < M
  rotate_left
  · have hfin : ro = L.map tInts := by rw [hro, hfull hn (.inr (by omega))]
    clear hro
    subst hfin
    have h2' : ¬ (L.map tInts).length < M := h2
    rw [List.length_map] at h2'
    repeat' (first | (with_reducible first | apply w1 | apply w2 | apply w3 | apply w4 | apply w5 | apply w6 | apply w7 | apply w8 | apply w9 | apply wa | apply wb | apply wc) | ((with_reducible apply wd); focus decide) | ((with_reducible apply we); focus exact rfl) | ((with_reducible apply wf); focus exact rfl) | ((first | (with_reducible apply SW_run tt_ok hG htb) | ((with_reducible apply SW_draw rfl tt_ok hG htb); (focus kernel_rfl); focus simp only [List.range, List.range.loop, List.size_toArray, List.length_cons, List.length_nil, Nat.reduceAdd])); focus ((repeat' (first | (with_reducible first | exact wg | exact wh) | ((with_reducible first | apply wi | apply wj); focus (simp (discharger := omega) only [go_sem, simprocAttr]; with_reducible rfl)))); done)))
    exact (by simp (discharger := omega) only [go_sem, simprocAttr])
  have hA : (AW n).length < M := by rw [hol, List.length_take] at h2; omega
  rw [List.take_of_length_le (by omega)] at hro hol
  cases n with
  | zero =>
    rw [hz0] at hro
    obtain rfl : ro = [] := hro
    subst hrl
    repeat' (first | (with_reducible first | apply w1 | apply w2 | apply w3 | apply w4 | apply w5 | apply w6 | apply w7 | apply w8 | apply w9 | apply wa | apply wb | apply wc) | ((with_reducible apply wd); focus decide) | ((with_reducible apply we); focus exact rfl) | ((with_reducible apply wf); focus exact rfl) | ((first | (with_reducible apply SW_run tt_ok hG htb) | ((with_reducible apply SW_draw rfl tt_ok hG htb); (focus kernel_rfl); focus simp only [List.range, List.range.loop, List.size_toArray, List.length_cons, List.length_nil, Nat.reduceAdd])); focus ((repeat' (first | (with_reducible first | exact wg | exact wh) | ((with_reducible first | apply wi | apply wj); focus (simp (discharger := omega) only [go_sem, simprocAttr]; with_reducible rfl)))); done)))
    have hz : cwd a 0 0 = if endOf a.ends 0 = true then [[]] else [] := rfl
    cases hend : endOf a.ends 0 with
    | false =>
      rw [hend, if_neg (by decide)] at hz
      refine SW_runV tt_ok hG htb 3 rfl (by simp only [List.take_succ_cons, List.take_zero]; rfl) (by simp only [List.drop_succ_cons, List.drop_zero, Nat.reduceAdd]; rfl) (by (repeat' (first | (with_reducible exact runX_nil) | ((with_reducible apply runX_cons); focus (simp (discharger := omega) only [go_sem, simprocAttr]; with_reducible rfl))))) rfl rfl (g := 21) (cap := []) (asl := [tAuto a, .list (lv.map tBools), .raw none 0 0, tInt 0]) (rf := fun _ : Unit => nwT none) ?q1a ?q2a ?q3a ?q4a ?q5a ?q6a
      case q1a => rfl
      case q2a => rfl
      case q3a => rfl
      case q4a => simp only [go_sem, St.rdNL, St.rdN, tAuto, simprocAttr]
      case q5a => exact NextZero_no hG a lv hend g
      case q6a =>
        intro i
        refine ⟨_, by (repeat' (first | (with_reducible exact runX_nil) | ((with_reducible apply runX_cons); focus (simp (discharger := omega) only [go_sem, nwT, simprocAttr]; with_reducible rfl)))), ?_⟩
        repeat' (first | (with_reducible first | apply w1 | apply w2 | apply w3 | apply w4 | apply w5 | apply w6 | apply w7 | apply w8 | apply w9 | apply wa | apply wb | apply wc) | ((with_reducible apply wd); focus decide) | ((with_reducible apply we); focus exact rfl) | ((with_reducible apply wf); focus exact rfl) | ((first | (with_reducible apply SW_run tt_ok hG htb) | ((with_reducible apply SW_draw rfl tt_ok hG htb); (focus kernel_rfl); focus simp only [List.range, List.range.loop, List.size_toArray, List.length_cons, List.length_nil, Nat.reduceAdd])); focus ((repeat' (first | (with_reducible first | exact wg | exact wh) | ((with_reducible first | apply wi | apply wj); focus (simp (discharger := omega) only [go_sem, simprocAttr]; with_reducible rfl)))); done)))
        refine SW_loop (fun mm st => mm = 0 ∧ st = ⟨99, [(1, .t (tNat M)), (2, .bptr 0 0), (5, .sref 1), (6, .sref 2), (7, .t (tNat 0)), (13, .t (.bool false))], [.box [.t (tInt a.base), .t (tInt a.tracks), .t (tIntss a.next), .t (tBools a.ends)], .row 38 1 true [], .row 23 1 false (lv.map tBools)]⟩) 0 ⟨_, Norm.headS (own := []) (keep := [1, 2, 5, 6, 7, 13]) (by refine ⟨?_, ?_⟩; (simp (discharger := omega) only [go_sem, simprocAttr]; with_reducible rfl); refine ⟨?_, ?_, ?_, ?_⟩ <;> (simp only [go_sem, simprocAttr]; with_reducible rfl)), rfl, rfl⟩ ?_
        rintro mm st ⟨rfl, rfl⟩
        repeat' (first | (with_reducible first | apply w1 | apply w2 | apply w3 | apply w4 | apply w5 | apply w6 | apply w7 | apply w8 | apply w9 | apply wa | apply wb | apply wc) | ((with_reducible apply wd); focus decide) | ((with_reducible apply we); focus exact rfl) | ((with_reducible apply wf); focus exact rfl) | ((first | (with_reducible apply SW_run tt_ok hG htb) | ((with_reducible apply SW_draw rfl tt_ok hG htb); (focus kernel_rfl); focus simp only [List.range, List.range.loop, List.size_toArray, List.length_cons, List.length_nil, Nat.reduceAdd])); focus ((repeat' (first | (with_reducible first | exact wg | exact wh) | ((with_reducible first | apply wi | apply wj); focus (simp (discharger := omega) only [go_sem, simprocAttr]; with_reducible rfl)))); done)))
        exact ⟨401 - 1, _, by omega, Norm.headS (own := []) (keep := [1, 2, 5, 6, 7]) (by refine ⟨?_, ?_⟩; (simp (discharger := omega) only [go_sem, simprocAttr]; with_reducible rfl); refine ⟨?_, ?_, ?_, ?_⟩ <;> (simp only [go_sem, simprocAttr]; with_reducible rfl)), 1, [], _, lv, rfl, rfl, by omega, by rw [hsucc, hz, hz0, List.nil_append, List.take_nil]; rfl, rfl, hlv, hlv2⟩
    | true =>
      rw [hend, if_pos rfl] at hz
      refine SW_runV tt_ok hG htb 3 rfl (by simp only [List.take_succ_cons, List.take_zero]; rfl) (by simp only [List.drop_succ_cons, List.drop_zero, Nat.reduceAdd]; rfl) (by (repeat' (first | (with_reducible exact runX_nil) | ((with_reducible apply runX_cons); focus (simp (discharger := omega) only [go_sem, simprocAttr]; with_reducible rfl))))) rfl rfl (g := 21) (cap := []) (asl := [tAuto a, .list (lv.map tBools), .raw none 0 0, tInt 0]) (rf := fun ad : Addr => .tup [.raw (some ad) 0 0, .bool true]) ?q1a ?q2a ?q3a ?q4a ?q5a ?q6a
      case q1a => rfl
      case q2a => rfl
      case q3a => rfl
      case q4a => simp only [go_sem, St.rdNL, St.rdN, tAuto, simprocAttr]
      case q5a => exact NextZero_first hG a lv hend g
      case q6a =>
        intro ad
        refine ⟨_, by (repeat' (first | (with_reducible exact runX_nil) | ((with_reducible apply runX_cons); focus (simp (discharger := omega) only [go_sem, simprocAttr]; with_reducible rfl)))), ?_⟩
        repeat' (first | (with_reducible first | apply w1 | apply w2 | apply w3 | apply w4 | apply w5 | apply w6 | apply w7 | apply w8 | apply w9 | apply wa | apply wb | apply wc) | ((with_reducible apply wd); focus decide) | ((with_reducible apply we); focus exact rfl) | ((with_reducible apply wf); focus exact rfl) | ((first | (with_reducible apply SW_run tt_ok hG htb) | ((with_reducible apply SW_draw rfl tt_ok hG htb); (focus kernel_rfl); focus simp only [List.range, List.range.loop, List.size_toArray, List.length_cons, List.length_nil, Nat.reduceAdd])); focus ((repeat' (first | (with_reducible first | exact wg | exact wh) | ((with_reducible first | apply wi | apply wj); focus (simp (discharger := omega) only [go_sem, simprocAttr]; with_reducible rfl)))); done)))
        refine SW_loop (fun mm st => (mm = 1 ∧ st = ⟨99, [(1, .t (tNat M)), (2, .bptr 0 0), (5, .sref 1), (6, .sref 2), (7, .t (tNat 0)), (12, .t (.raw (some ad) 0 0)), (13, .t (.bool true))], [.box [.t (tInt a.base), .t (tInt a.tracks), .t (tIntss a.next), .t (tBools a.ends)], .row 38 1 true [], .row 23 1 false (lv.map tBools)]⟩) ∨ (mm = 0 ∧ st = ⟨99, [(1, .t (tNat M)), (2, .bptr 0 0), (5, .sref 1), (6, .sref 2), (7, .t (tNat 0)), (13, .t (.bool false))], [.box [.t (tInt a.base), .t (tInt a.tracks), .t (tIntss a.next), .t (tBools a.ends)], .row 38 1 true [.list []], .row 23 1 false (lv.map tBools)]⟩)) 1 ⟨_, Norm.headS (own := []) (keep := [1, 2, 5, 6, 7, 12, 13]) (by refine ⟨?_, ?_⟩; (simp (discharger := omega) only [go_sem, simprocAttr]; with_reducible rfl); refine ⟨?_, ?_, ?_, ?_⟩ <;> (simp only [go_sem, simprocAttr]; with_reducible rfl)), .inl ⟨rfl, rfl⟩⟩ ?_
        rintro mm st (⟨rfl, rfl⟩ | ⟨rfl, rfl⟩)
        · have h2' : 0 < M := h2
          repeat' (first | (with_reducible first | apply w1 | apply w2 | apply w3 | apply w4 | apply w5 | apply w6 | apply w7 | apply w8 | apply w9 | apply wa | apply wb | apply wc) | ((with_reducible apply wd); focus decide) | ((with_reducible apply we); focus exact rfl) | ((with_reducible apply wf); focus exact rfl) | ((first | (with_reducible apply SW_run tt_ok hG htb) | ((with_reducible apply SW_draw rfl tt_ok hG htb); (focus kernel_rfl); focus simp only [List.range, List.range.loop, List.size_toArray, List.length_cons, List.length_nil, Nat.reduceAdd])); focus ((repeat' (first | (with_reducible first | exact wg | exact wh) | ((with_reducible first | apply wi | apply wj); focus (simp (discharger := omega) only [go_sem, simprocAttr]; with_reducible rfl)))); done)))
          refine SW_runV tt_ok hG htb 4 rfl (by simp only [List.take_succ_cons, List.take_zero]; rfl) (by simp only [List.drop_succ_cons, List.drop_zero, Nat.reduceAdd]; rfl) (by (repeat' (first | (with_reducible exact runX_nil) | ((with_reducible apply runX_cons); focus (simp (discharger := omega) only [go_sem, simprocAttr]; with_reducible rfl))))) rfl rfl (g := 21) (cap := []) (asl := [tAuto a, .list (lv.map tBools), .raw (some ad) 0 0, tInt 0]) (rf := fun _ : Unit => nwT none) ?q1a ?q2a ?q3a ?q4a ?q5a ?q6a
          case q1a => rfl
          case q2a => rfl
          case q3a => rfl
          case q4a => simp only [go_sem, St.rdNL, St.rdN, tAuto, simprocAttr]
          case q5a => exact NextZero_again hG a lv ad g
          case q6a =>
            intro i
            refine ⟨_, by (repeat' (first | (with_reducible exact runX_nil) | ((with_reducible apply runX_cons); focus (simp (discharger := omega) only [go_sem, nwT, simprocAttr]; with_reducible rfl)))), ?_⟩
            repeat' (first | (with_reducible first | apply w1 | apply w2 | apply w3 | apply w4 | apply w5 | apply w6 | apply w7 | apply w8 | apply w9 | apply wa | apply wb | apply wc) | ((with_reducible apply wd); focus decide) | ((with_reducible apply we); focus exact rfl) | ((with_reducible apply wf); focus exact rfl) | ((first | (with_reducible apply SW_run tt_ok hG htb) | ((with_reducible apply SW_draw rfl tt_ok hG htb); (focus kernel_rfl); focus simp only [List.range, List.range.loop, List.size_toArray, List.length_cons, List.length_nil, Nat.reduceAdd])); focus ((repeat' (first | (with_reducible first | exact wg | exact wh) | ((with_reducible first | apply wi | apply wj); focus (simp (discharger := omega) only [go_sem, simprocAttr]; with_reducible rfl)))); done)))
            exact ⟨0, _, by omega, (Norm.headS (own := []) (keep := [1, 2, 5, 6, 7, 13]) (by refine ⟨?_, ?_⟩; (simp (discharger := omega) only [go_sem, simprocAttr]; with_reducible rfl); refine ⟨?_, ?_, ?_, ?_⟩ <;> (simp only [go_sem, simprocAttr]; with_reducible rfl))).trans (Norm.rowRaw 1 rfl), .inr ⟨rfl, rfl⟩⟩
        · repeat' (first | (with_reducible first | apply w1 | apply w2 | apply w3 | apply w4 | apply w5 | apply w6 | apply w7 | apply w8 | apply w9 | apply wa | apply wb | apply wc) | ((with_reducible apply wd); focus decide) | ((with_reducible apply we); focus exact rfl) | ((with_reducible apply wf); focus exact rfl) | ((first | (with_reducible apply SW_run tt_ok hG htb) | ((with_reducible apply SW_draw rfl tt_ok hG htb); (focus kernel_rfl); focus simp only [List.range, List.range.loop, List.size_toArray, List.length_cons, List.length_nil, Nat.reduceAdd])); focus ((repeat' (first | (with_reducible first | exact wg | exact wh) | ((with_reducible first | apply wi | apply wj); focus (simp (discharger := omega) only [go_sem, simprocAttr]; with_reducible rfl)))); done)))
          exact ⟨401 - 1, _, by omega, Norm.headS (own := []) (keep := [1, 2, 5, 6, 7]) (by refine ⟨?_, ?_⟩; (simp (discharger := omega) only [go_sem, simprocAttr]; with_reducible rfl); refine ⟨?_, ?_, ?_, ?_⟩ <;> (simp only [go_sem, simprocAttr]; with_reducible rfl)), 1, [.list []], _, lv, rfl, rfl, by omega, by rw [hsucc, hz, hz0, List.nil_append]; cases M with | zero => exact absurd h2 (by decide) | succ q => rw [List.take_succ_cons, List.take_nil]; rfl, rfl, hlv, hlv2⟩
  | succ k =>
    have hmax : max (k + 1) 1 = k + 1 := by omega
    rw [hmax] at hlv hlv2
    have hlvk := hlv2 k (by omega)
    have hrll : rl.length = k + 1 := by rw [hrl, List.length_map, hlv]
    have hck := canL_len g k
    have hcanS : canL a (k + 1) = (List.range m).map fun s => (rowOf a.next ((s : Nat) : Int)).any fun t => (canL a k).getD t.toNat false := by rw [← hnl]; rfl
    repeat' (first | (with_reducible first | apply w1 | apply w2 | apply w3 | apply w4 | apply w5 | apply w6 | apply w7 | apply w8 | apply w9 | apply wa | apply wb | apply wc) | ((with_reducible apply wd); focus decide) | ((with_reducible apply we); focus exact rfl) | ((with_reducible apply wf); focus exact rfl) | ((first | (with_reducible apply SW_run tt_ok hG htb) | ((with_reducible apply SW_draw rfl tt_ok hG htb); (focus kernel_rfl); focus simp only [List.range, List.range.loop, List.size_toArray, List.length_cons, List.length_nil, Nat.reduceAdd])); focus ((repeat' (first | (with_reducible first | exact wg | exact wh) | ((with_reducible first | apply wi | apply wj); focus (simp (discharger := omega) only [go_sem, simprocAttr]; with_reducible rfl)))); done)))
    refine SW_loop (fun mm st => ∃ (s : Nat) (rb : List T), mm = m - s ∧ st = ⟨99, [(1, .t (tNat M)), (2, .bptr 0 0), (5, .sref 1), (6, .sref 2), (7, .t (tNat (k + 1))), (8, .sref 3), (9, .t (tNat s))], [.box [.t (tInt a.base), .t (tInt a.tracks), .t (tIntss a.next), .t (tBools a.ends)], .row 38 1 true ro, .row 23 1 false rl, .row 4 1 true rb]⟩ ∧ s ≤ m ∧ rb = ((canL a (k + 1)).take s).map T.bool) m
      ⟨_, Norm.headS (own := [(8, 4, 1, true)]) (keep := [1, 2, 5, 6, 7, 8, 9]) (by refine ⟨?_, ?_⟩; (simp (discharger := omega) only [go_sem, simprocAttr]; with_reducible rfl); refine ⟨?_, ?_, ?_, ?_⟩ <;> (simp only [go_sem, simprocAttr]; with_reducible rfl)), 0, _, rfl, rfl, Nat.zero_le _, rfl⟩ ?_
    rintro mm st ⟨s, rb, rfl, rfl, hs, hrb⟩
    have hrbl : rb.length ≤ 80 := by rw [hrb, List.length_map, List.length_take]; omega
    by_cases hsm : s < m
    · obtain ⟨row, hrow⟩ : ∃ row, a.next[s]! = row := ⟨_, rfl⟩
      have hrowl := g.rows.row row (bang_mem hrow (by omega))
      have hro1 : rowOf a.next ((s : Nat) : Int) = row := by unfold rowOf; exact bang_D hrow (by omega)
      obtain ⟨col, hcol⟩ : ∃ col, lv[k]! = col := ⟨_, rfl⟩
      have hcc : canL a k = col := by rw [← hlvk]; exact hcol
      rw [hcc] at hck
      have hk1 : (((k + 1 : Nat) : Nat) : Int) - 1 = ((k : Nat) : Int) := by omega
      repeat' (first | (with_reducible first | apply w1 | apply w2 | apply w3 | apply w4 | apply w5 | apply w6 | apply w7 | apply w8 | apply w9 | apply wa | apply wb | apply wc) | ((with_reducible apply wd); focus decide) | ((with_reducible apply we); focus exact rfl) | ((with_reducible apply wf); focus exact rfl) | ((first | (with_reducible apply SW_run tt_ok hG htb) | ((with_reducible apply SW_draw rfl tt_ok hG htb); (focus kernel_rfl); focus simp only [List.range, List.range.loop, List.size_toArray, List.length_cons, List.length_nil, Nat.reduceAdd])); focus ((repeat' (first | (with_reducible first | exact wg | exact wh) | ((with_reducible first | apply wi | apply wj); focus (simp (discharger := omega) only [go_sem, simprocAttr]; with_reducible rfl)))); done)))
      refine SW_loop (fun mm st => ∃ (j : Nat) (b : Bool), mm = N - j ∧ st = ⟨99, [(1, .t (tNat M)), (2, .bptr 0 0), (5, .sref 1), (6, .sref 2), (7, .t (tNat (k + 1))), (8, .sref 3), (9, .t (tNat s)), (10, .t (.bool b)), (11, .t (tNat j))], [.box [.t (tInt a.base), .t (tInt a.tracks), .t (tIntss a.next), .t (tBools a.ends)], .row 38 1 true ro, .row 23 1 false rl, .row 4 1 true rb]⟩ ∧ j ≤ N ∧ (row.take j).any (fun t => col.getD t.toNat false) = b) N
        ⟨_, Norm.headS (own := []) (keep := [1, 2, 5, 6, 7, 8, 9, 10, 11]) (by refine ⟨?_, ?_⟩; (simp (discharger := omega) only [go_sem, simprocAttr]; with_reducible rfl); refine ⟨?_, ?_, ?_, ?_⟩ <;> (simp only [go_sem, simprocAttr]; with_reducible rfl)), 0, false, rfl, rfl, Nat.zero_le _, rfl⟩ ?_
      rintro mm st ⟨j, b, rfl, rfl, hj, hb⟩
      by_cases hjN : j < N
      · obtain ⟨t, ht⟩ : ∃ t, row[j]! = t := ⟨_, rfl⟩
        have hts := g.rows.ok row (bang_mem hrow (by omega)) t (bang_mem ht (by omega))
        obtain ⟨u, hu⟩ : ∃ u, col[t.toNat]! = u := ⟨_, rfl⟩
        have hcu : col.getD t.toNat false = u := bang_D hu (by omega)
        have hnext : (row.take (j + 1)).any (fun t => col.getD t.toNat false) = (b || u) := by
          rw [take_next ht (by omega), List.any_append, hb, List.any_cons, List.any_nil, hcu, Bool.or_false]
        have hrlk : rl[k]? = some (tBools col) := by
          rw [hrl, List.getElem?_map, List.getElem?_eq_getElem (by omega), ← bang_at hcol (by omega)]; rfl
        cases b with
        | true =>
          repeat' (first | (with_reducible first | apply w1 | apply w2 | apply w3 | apply w4 | apply w5 | apply w6 | apply w7 | apply w8 | apply w9 | apply wa | apply wb | apply wc) | ((with_reducible apply wd); focus decide) | ((with_reducible apply we); focus exact rfl) | ((with_reducible apply wf); focus exact rfl) | ((first | (with_reducible apply SW_run tt_ok hG htb) | ((with_reducible apply SW_draw rfl tt_ok hG htb); (focus kernel_rfl); focus simp only [List.range, List.range.loop, List.size_toArray, List.length_cons, List.length_nil, Nat.reduceAdd])); focus ((repeat' (first | (with_reducible first | exact wg | exact wh) | ((with_reducible first | apply wi | apply wj); focus (simp (discharger := omega) only [go_sem, hrow, simprocAttr]; with_reducible rfl)))); done)))
          exact ⟨N - (j + 1), _, by omega, Norm.headS (own := []) (keep := [1, 2, 5, 6, 7, 8, 9, 10, 11]) (by refine ⟨?_, ?_⟩; (simp (discharger := omega) only [go_sem, simprocAttr]; with_reducible rfl); refine ⟨?_, ?_, ?_, ?_⟩ <;> (simp only [go_sem, simprocAttr]; with_reducible rfl)), j + 1, true, rfl, rfl, by omega, hnext⟩
        | false =>
          rw [Bool.false_or] at hnext
          repeat' (first | (with_reducible first | apply w1 | apply w2 | apply w3 | apply w4 | apply w5 | apply w6 | apply w7 | apply w8 | apply w9 | apply wa | apply wb | apply wc) | ((with_reducible apply wd); focus decide) | ((with_reducible apply we); focus exact rfl) | ((with_reducible apply wf); focus exact rfl) | ((first | (with_reducible apply SW_run tt_ok hG htb) | ((with_reducible apply SW_draw rfl tt_ok hG htb); (focus kernel_rfl); focus simp only [List.range, List.range.loop, List.size_toArray, List.length_cons, List.length_nil, Nat.reduceAdd])); focus ((repeat' (first | (with_reducible first | exact wg | exact wh) | ((with_reducible first | apply wi | apply wj); focus (simp (discharger := omega) only [go_sem, hrow, ht, hk1, hrlk, hu, simprocAttr]; with_reducible rfl)))); done)))
          exact ⟨N - (j + 1), _, by omega, Norm.headS (own := []) (keep := [1, 2, 5, 6, 7, 8, 9, 10, 11]) (by refine ⟨?_, ?_⟩; (simp (discharger := omega) only [go_sem, simprocAttr]; with_reducible rfl); refine ⟨?_, ?_, ?_, ?_⟩ <;> (simp only [go_sem, simprocAttr]; with_reducible rfl)), j + 1, u, rfl, rfl, by omega, hnext⟩
      · obtain rfl : j = N := by omega
        rw [List.take_of_length_le (by omega)] at hb
        have htk : (canL a (k + 1)).take (s + 1) = (canL a (k + 1)).take s ++ [b] := by
          have hl2 : s < (canL a (k + 1)).length := by rw [canL_len g]; exact hsm
          rw [List.take_succ_eq_append_getElem hl2]
          congr 2
          have e : (canL a (k + 1))[s]? = some b := by
            rw [hcanS, List.getElem?_map, List.getElem?_range hsm, ← hb, ← hcc]
            show some ((rowOf a.next ((s : Nat) : Int)).any _) = _
            rw [hro1]
          exact (List.getElem?_eq_some_iff.1 e).2
        repeat' (first | (with_reducible first | apply w1 | apply w2 | apply w3 | apply w4 | apply w5 | apply w6 | apply w7 | apply w8 | apply w9 | apply wa | apply wb | apply wc) | ((with_reducible apply wd); focus decide) | ((with_reducible apply we); focus exact rfl) | ((with_reducible apply wf); focus exact rfl) | ((first | (with_reducible apply SW_run tt_ok hG htb) | ((with_reducible apply SW_draw rfl tt_ok hG htb); (focus kernel_rfl); focus simp only [List.range, List.range.loop, List.size_toArray, List.length_cons, List.length_nil, Nat.reduceAdd])); focus ((repeat' (first | (with_reducible first | exact wg | exact wh) | ((with_reducible first | apply wi | apply wj); focus (simp (discharger := omega) only [go_sem, hrow, simprocAttr]; with_reducible rfl)))); done)))
        exact ⟨m - (s + 1), _, by omega, Norm.headS (own := []) (keep := [1, 2, 5, 6, 7, 8, 9]) (by refine ⟨?_, ?_⟩; (simp (discharger := omega) only [go_sem, simprocAttr]; with_reducible rfl); refine ⟨?_, ?_, ?_, ?_⟩ <;> (simp only [go_sem, simprocAttr]; with_reducible rfl)), s + 1, _, rfl, rfl, by omega, by rw [htk, List.map_append, ← hrb]; rfl⟩
    obtain rfl : s = m := by omega
    rw [List.take_of_length_le (by rw [canL_len g]; omega)] at hrb
    repeat' (first | (with_reducible first | apply w1 | apply w2 | apply w3 | apply w4 | apply w5 | apply w6 | apply w7 | apply w8 | apply w9 | apply wa | apply wb | apply wc) | ((with_reducible apply wd); focus decide) | ((with_reducible apply we); focus exact rfl) | ((with_reducible apply wf); focus exact rfl) | ((first | (with_reducible apply SW_run tt_ok hG htb) | ((with_reducible apply SW_draw rfl tt_ok hG htb); (focus kernel_rfl); focus simp only [List.range, List.range.loop, List.size_toArray, List.length_cons, List.length_nil, Nat.reduceAdd])); focus ((repeat' (first | (with_reducible first | exact wg | exact wh) | ((with_reducible first | apply wi | apply wj); focus (simp (discharger := omega) only [go_sem, simprocAttr]; with_reducible rfl)))); done)))
    refine SW_norm (Norm.headS (own := [(6, 23, 1, false)]) (keep := [1, 2, 5, 6, 7]) (by refine ⟨?_, ?_⟩; (simp (discharger := omega) only [go_sem, simprocAttr]; with_reducible rfl); refine ⟨?_, ?_, ?_, ?_⟩ <;> (simp only [go_sem, simprocAttr]; with_reducible rfl))) ?_
    clear hlvk hrll hck
    obtain ⟨lw, hlw⟩ : ∃ lw, lw = lv ++ [canL a (k + 1)] := ⟨_, rfl⟩
    have hrw : rl ++ [T.list rb] = lw.map tBools := by rw [hlw, List.map_append, hrl, hrb]; rfl
    have hlwl : lw.length = k + 1 + 1 := by rw [hlw, List.length_append, hlv]; rfl
    have hlw2 : ∀ j, j < k + 1 + 1 → lw[j]! = canL a j := fun j hj => by
      rw [hlw, getElem!_pos _ j (by rw [List.length_append, hlv]; exact hj)]
      by_cases e : j < k + 1
      · rw [List.getElem_append_left (by omega), ← hlv2 j e, getElem!_pos lv j (by omega)]
      · obtain rfl : j = k + 1 := by omega
        rw [List.getElem_append_right (by omega)]
        simp [hlv]
    rw [hrw]
    clear hrw hlw hrl hlv hlv2 hrb hrbl hcanS hs
    obtain ⟨C, hC⟩ : ∃ C, cwd a (k + 1) 0 = C := ⟨_, rfl⟩
    obtain ⟨A, hAe⟩ : ∃ A, AW (k + 1) = A := ⟨_, rfl⟩
    have hs2 := hsucc (k + 1)
    rw [hC] at hs2
    rw [hAe] at hs2 hro hol hA
    have hmem : ∀ u ∈ C, u.length = k + 1 ∧ ∀ x ∈ u, 0 ≤ x ∧ x < (N : Int) := fun u hu => by
      rw [← hC] at hu
      have := (wds_iff g (k + 1) 0 u (Int.le_refl _) (by omega)).1 (cwd_sub _ _ _ hu)
      exact ⟨this.1, this.2.1⟩
    have hfirst := cwd_first g k
    rw [hC] at hfirst
    have hnextw : ∀ {i : Nat} {w : List Int}, C[i]? = some w → C[i + 1]? = keepNext a N w w.length := fun {i w} h => by
      have := cwd_next g k (i := i) (w := w)
      rw [hC] at this
      exact this h
    have c1 := NextFirst_ref hG g (n := k + 1) (by omega) h1 hlwl hlw2
    rw [← hfirst] at c1
    obtain ⟨u0, b0, hu0, hb0⟩ := nwT_is (C[0]?)
    rw [hu0] at c1
    clear hu0
    refine SW_runV tt_ok hG htb 3 rfl (by simp only [List.take_succ_cons, List.take_zero]; rfl) (by simp only [List.drop_succ_cons, List.drop_zero, Nat.reduceAdd]; rfl) (by (repeat' (first | (with_reducible exact runX_nil) | ((with_reducible apply runX_cons); focus (simp (discharger := omega) only [go_sem, simprocAttr]; with_reducible rfl))))) rfl rfl (g := 21) (cap := []) (asl := [tAuto a, .list (lw.map tBools), .raw none 0 0, tNat (k + 1)]) (rf := fun _ : Unit => .tup [tInts u0, .bool b0]) ?q1a ?q2a ?q3a ?q4a ?q5a ?q6a
    case q1a => rfl
    case q2a => rfl
    case q3a => rfl
    case q4a => simp only [go_sem, St.rdNL, St.rdN, tAuto, simprocAttr]
    case q5a => exact c1
    case q6a =>
      intro i
      refine ⟨_, by (repeat' (first | (with_reducible exact runX_nil) | ((with_reducible apply runX_cons); focus (simp (discharger := omega) only [go_sem, simprocAttr]; with_reducible rfl)))), ?_⟩
      repeat' (first | (with_reducible first | apply w1 | apply w2 | apply w3 | apply w4 | apply w5 | apply w6 | apply w7 | apply w8 | apply w9 | apply wa | apply wb | apply wc) | ((with_reducible apply wd); focus decide) | ((with_reducible apply we); focus exact rfl) | ((with_reducible apply wf); focus exact rfl) | ((first | (with_reducible apply SW_run tt_ok hG htb) | ((with_reducible apply SW_draw rfl tt_ok hG htb); (focus kernel_rfl); focus simp only [List.range, List.range.loop, List.size_toArray, List.length_cons, List.length_nil, Nat.reduceAdd])); focus ((repeat' (first | (with_reducible first | exact wg | exact wh) | ((with_reducible first | apply wi | apply wj); focus (simp (discharger := omega) only [go_sem, simprocAttr]; with_reducible rfl)))); done)))
      refine SW_loop (fun mm st => ∃ (i : Nat) (u : List Int) (b : Bool) (rp : List T), mm = C.length - i ∧ st = ⟨99, [(1, .t (tNat M)), (2, .bptr 0 0), (5, .sref 1), (6, .sref 2), (7, .t (tNat (k + 1))), (12, .t (tInts u)), (13, .t (.bool b))], [.box [.t (tInt a.base), .t (tInt a.tracks), .t (tIntss a.next), .t (tBools a.ends)], .row 38 1 true rp, .row 23 1 false (lw.map tBools)]⟩ ∧ rp = (A ++ C.take i).map tInts ∧ i ≤ C.length ∧ A.length + i ≤ M ∧ (C[i]? = some u ∧ b = true ∨ C[i]? = none ∧ b = false)) C.length
        ⟨_, Norm.headS (own := []) (keep := [1, 2, 5, 6, 7, 12, 13]) (by refine ⟨?_, ?_⟩; (simp (discharger := omega) only [go_sem, simprocAttr]; with_reducible rfl); refine ⟨?_, ?_, ?_, ?_⟩ <;> (simp only [go_sem, simprocAttr]; with_reducible rfl)), 0, u0, b0, ro, rfl, rfl, by rw [List.take_zero, List.append_nil]; exact hro, Nat.zero_le _, by omega, hb0⟩ ?_
      clear hb0 c1 hol hoM h2 hro
      rintro mm st ⟨i, u, b, rp, rfl, rfl, hrp, hiC, hAi, hub⟩
      have hrpl : rp.length = A.length + i := by rw [hrp, List.length_map, List.length_append, List.length_take]; omega
      rcases hub with ⟨hu, rfl⟩ | ⟨hu, rfl⟩
      · have hiC2 := (List.getElem?_eq_some_iff.1 hu).1
        by_cases hlt : A.length + i < M
        · have hm := hmem u (List.mem_of_getElem? hu)
          have c2 := NextAfter_ref hG g (n := k + 1) (by omega) h1 hlwl hlw2 hm.1 hm.2
          rw [← hnextw hu] at c2
          obtain ⟨u1, b1, hu1, hb1⟩ := nwT_is (C[i + 1]?)
          rw [hu1] at c2
          clear hu1
          repeat' (first | (with_reducible first | apply w1 | apply w2 | apply w3 | apply w4 | apply w5 | apply w6 | apply w7 | apply w8 | apply w9 | apply wa | apply wb | apply wc) | ((with_reducible apply wd); focus decide) | ((with_reducible apply we); focus exact rfl) | ((with_reducible apply wf); focus exact rfl) | ((first | (with_reducible apply SW_run tt_ok hG htb) | ((with_reducible apply SW_draw rfl tt_ok hG htb); (focus kernel_rfl); focus simp only [List.range, List.range.loop, List.size_toArray, List.length_cons, List.length_nil, Nat.reduceAdd])); focus ((repeat' (first | (with_reducible first | exact wg | exact wh) | ((with_reducible first | apply wi | apply wj); focus (simp (discharger := omega) only [go_sem, simprocAttr]; with_reducible rfl)))); done)))
          refine SW_runV tt_ok hG htb 4 rfl (by simp only [List.take_succ_cons, List.take_zero]; rfl) (by simp only [List.drop_succ_cons, List.drop_zero, Nat.reduceAdd]; rfl) (by (repeat' (first | (with_reducible exact runX_nil) | ((with_reducible apply runX_cons); focus (simp (discharger := omega) only [go_sem, simprocAttr]; with_reducible rfl))))) rfl rfl (g := 21) (cap := []) (asl := [tAuto a, .list (lw.map tBools), tInts u, tNat (k + 1)]) (rf := fun _ : Unit => .tup [tInts u1, .bool b1]) ?q1a ?q2a ?q3a ?q4a ?q5a ?q6a
          case q1a => rfl
          case q2a => rfl
          case q3a => rfl
          case q4a => simp only [go_sem, St.rdNL, St.rdN, tAuto, simprocAttr]
          case q5a => exact c2
          case q6a =>
            intro z
            refine ⟨_, by (repeat' (first | (with_reducible exact runX_nil) | ((with_reducible apply runX_cons); focus (simp (discharger := omega) only [go_sem, simprocAttr]; with_reducible rfl)))), ?_⟩
            repeat' (first | (with_reducible first | apply w1 | apply w2 | apply w3 | apply w4 | apply w5 | apply w6 | apply w7 | apply w8 | apply w9 | apply wa | apply wb | apply wc) | ((with_reducible apply wd); focus decide) | ((with_reducible apply we); focus exact rfl) | ((with_reducible apply wf); focus exact rfl) | ((first | (with_reducible apply SW_run tt_ok hG htb) | ((with_reducible apply SW_draw rfl tt_ok hG htb); (focus kernel_rfl); focus simp only [List.range, List.range.loop, List.size_toArray, List.length_cons, List.length_nil, Nat.reduceAdd])); focus ((repeat' (first | (with_reducible first | exact wg | exact wh) | ((with_reducible first | apply wi | apply wj); focus (simp (discharger := omega) only [go_sem, simprocAttr]; with_reducible rfl)))); done)))
            exact ⟨C.length - (i + 1), _, by omega, Norm.headS (own := []) (keep := [1, 2, 5, 6, 7, 12, 13]) (by refine ⟨?_, ?_⟩; (simp (discharger := omega) only [go_sem, simprocAttr]; with_reducible rfl); refine ⟨?_, ?_, ?_, ?_⟩ <;> (simp only [go_sem, simprocAttr]; with_reducible rfl)), i + 1, u1, b1, _, rfl, rfl, by rw [List.take_succ_eq_append_getElem hiC2, ← List.append_assoc, List.map_append, ← hrp, (List.getElem?_eq_some_iff.1 hu).2]; rfl, by omega, by omega, hb1⟩
        · have hfin : rp = ((AW (k + 1 + 1)).take M).map tInts := by rw [hrp, hs2, take_grow hA hiC hAi (.inr (by omega))]
          repeat' (first | (with_reducible first | apply w1 | apply w2 | apply w3 | apply w4 | apply w5 | apply w6 | apply w7 | apply w8 | apply w9 | apply wa | apply wb | apply wc) | ((with_reducible apply wd); focus decide) | ((with_reducible apply we); focus exact rfl) | ((with_reducible apply wf); focus exact rfl) | ((first | (with_reducible apply SW_run tt_ok hG htb) | ((with_reducible apply SW_draw rfl tt_ok hG htb); (focus kernel_rfl); focus simp only [List.range, List.range.loop, List.size_toArray, List.length_cons, List.length_nil, Nat.reduceAdd])); focus ((repeat' (first | (with_reducible first | exact wg | exact wh) | ((with_reducible first | apply wi | apply wj); focus (simp (discharger := omega) only [go_sem, simprocAttr]; with_reducible rfl)))); done)))
          exact ⟨401 - (k + 1 + 1), _, by omega, Norm.headS (own := []) (keep := [1, 2, 5, 6, 7]) (by refine ⟨?_, ?_⟩; (simp (discharger := omega) only [go_sem, simprocAttr]; with_reducible rfl); refine ⟨?_, ?_, ?_, ?_⟩ <;> (simp only [go_sem, simprocAttr]; with_reducible rfl)), k + 1 + 1, _, _, lw, rfl, rfl, by omega, hfin, rfl, by omega, fun j hj => hlw2 j (by omega)⟩
      · have hiC2 : i = C.length := by have := List.getElem?_eq_none_iff.1 hu; omega
        have hfin : rp = ((AW (k + 1 + 1)).take M).map tInts := by rw [hrp, hs2, take_grow hA hiC hAi (.inl hiC2)]
        repeat' (first | (with_reducible first | apply w1 | apply w2 | apply w3 | apply w4 | apply w5 | apply w6 | apply w7 | apply w8 | apply w9 | apply wa | apply wb | apply wc) | ((with_reducible apply wd); focus decide) | ((with_reducible apply we); focus exact rfl) | ((with_reducible apply wf); focus exact rfl) | ((first | (with_reducible apply SW_run tt_ok hG htb) | ((with_reducible apply SW_draw rfl tt_ok hG htb); (focus kernel_rfl); focus simp only [List.range, List.range.loop, List.size_toArray, List.length_cons, List.length_nil, Nat.reduceAdd])); focus ((repeat' (first | (with_reducible first | exact wg | exact wh) | ((with_reducible first | apply wi | apply wj); focus (simp (discharger := omega) only [go_sem, simprocAttr]; with_reducible rfl)))); done)))
        exact ⟨401 - (k + 1 + 1), _, by omega, Norm.headS (own := []) (keep := [1, 2, 5, 6, 7]) (by refine ⟨?_, ?_⟩; (simp (discharger := omega) only [go_sem, simprocAttr]; with_reducible rfl); refine ⟨?_, ?_, ?_, ?_⟩ <;> (simp only [go_sem, simprocAttr]; with_reducible rfl)), k + 1 + 1, _, _, lw, rfl, rfl, by omega, hfin, rfl, by omega, fun j hj => hlw2 j (by omega)⟩
end
end Go.Proofs.YtjidhaendndokaaDoor
namespace Go.Proofs.YtjidhaendndokaaDoor
open Go.RowKit

set_option maxHeartbeats 4000000 in
theorem Radix_calls (base : Int) (w : World) :
    Calls Tryd.prog 34 #[.int .i64 base] w (RetS (.int .i64 (radix base)) w) := by
  by_cases h1 : base = 1
  · subst h1
    go_enter Tryd.func34, Tryd.ntmps34
    go_wp2
    go_ret
    exact RetS.mk rfl
  · have hr := Lib.hid (show radix base = if 2 ≤ base ∧ base ≤ 6 then base else 0 by simp [radix, h1])
    have h1' : (base == 1) = false := by simp [h1]
    clear h1
    by_cases h2 : 2 ≤ base
    · by_cases h3 : base ≤ 6
      · have hr' := Lib.hid (show radix base = base by rw [hr.out, if_pos ⟨h2, h3⟩])
        go_enter Tryd.func34, Tryd.ntmps34
        go_wp2
        go_ret
        exact RetS.mk (by rw [hr'.out]; rfl)
      · have hr' := Lib.hid (show radix base = 0 by rw [hr.out, if_neg (by omega)])
        go_enter Tryd.func34, Tryd.ntmps34
        go_wp2
        go_ret
        exact RetS.mk (by rw [hr'.out]; rfl)
    · have hr' := Lib.hid (show radix base = 0 by rw [hr.out, if_neg (by omega)])
      go_enter Tryd.func34, Tryd.ntmps34
      go_wp2
      go_ret
      exact RetS.mk (by rw [hr'.out]; rfl)

end Go.Proofs.YtjidhaendndokaaDoor
namespace Go.Proofs.YtjidhaendndokaaDoor
open Go.RowKit

set_option maxHeartbeats 4000000 in
theorem check_calls (S : Nat → Prop) (base : Int) (v : Value) (d : List Int) (w : World) (hd : Ints S w v d) :
    Calls Tryd.prog 49 #[.int .i64 base, v] w (RetS (errV 26 (digitsFault base d)) w) := by
  obtain ⟨a, cap, rfl, hlen, hcell⟩ := hd
  by_cases h0 : radix base = 0
  · have e0 : (radix base == 0) = true := by simp [h0]
    have hfin := Lib.hid (show digitsFault base d = 1 by simp [digitsFault, h0])
    clear h0
    go_enter Tryd.func49, Tryd.ntmps49
    go_wp2_with (go_at_call 34; refine (Radix_calls _ _).mono ?_; rintro e w' ⟨rfl, rfl⟩)
    go_ret
    exact RetS.mk (by rw [hfin.out]; rfl)
  · have e0 : (radix base == 0) = false := by simp [h0]
    by_cases h1 : 60 < d.length
    · have hfin := Lib.hid (show digitsFault base d = 3 by simp [digitsFault, h0, h1])
      clear h0
      have h1' : (60:Int) < d.length := by omega
      clear h1
      go_enter Tryd.func49, Tryd.ntmps49
      go_wp2_with (go_at_call 34; refine (Radix_calls _ _).mono ?_; rintro e w' ⟨rfl, rfl⟩)
      go_ret
      exact RetS.mk (by rw [hfin.out]; rfl)
    · have hfin := Lib.hid (show digitsFault base d = if d.all (fun x => decide (0 ≤ x ∧ x < radix base)) then 0 else 1 by simp [digitsFault, h0, h1])
      clear h0
      have h1' : ¬ (60:Int) < d.length := by omega
      clear h1
      go_enter Tryd.func49, Tryd.ntmps49
      go_wp2_with (go_at_call 34; refine (Radix_calls _ _).mono ?_; rintro e w' ⟨rfl, rfl⟩)
      go_loop [19] (fun i => ∃ k : Nat, k ≤ d.length ∧ i = .int .i64 k ∧ ∀ j (h : j < k) (h' : j < d.length), 0 ≤ d[j] ∧ d[j] < radix base) (fun i => d.length - (intOf i).toNat)
      case atStart => exact ⟨0, by omega, rfl, fun j h => by omega⟩
      case round =>
        obtain ⟨k, hk, rfl, hall⟩ := hrel
        have Hall := Lib.hid hall; clear hall
        by_cases hlt : k < d.length
        · obtain ⟨b, off, x, ha, hS, hc, hx, hi⟩ := hcell k hlt
          subst ha hx
          by_cases c1 : 0 ≤ d[k]
          · by_cases c2 : d[k] < radix base
            · go_wp2
              go_round
              case rel => exact ⟨k + 1, by omega, by go_num, fun j h h' => by
                by_cases e : j < k
                · exact Hall.out j e h'
                · obtain rfl : j = k := by omega
                  exact ⟨c1, c2⟩⟩
              case measure => (simp [intOf] <;> omega)
            · have hne := Lib.hid (show (if d.all (fun x => decide (0 ≤ x ∧ x < radix base)) then 0 else 1 : Int) = 1 by
                rw [if_neg]; intro h; rw [List.all_eq_true] at h; have := h d[k] (List.getElem_mem _); simp at this; omega)
              go_wp2
              go_ret
              exact RetS.mk (by rw [hfin.out, hne.out]; rfl)
          · have hne := Lib.hid (show (if d.all (fun x => decide (0 ≤ x ∧ x < radix base)) then 0 else 1 : Int) = 1 by
              rw [if_neg]; intro h; rw [List.all_eq_true] at h; have := h d[k] (List.getElem_mem _); simp at this; omega)
            go_wp2
            go_ret
            exact RetS.mk (by rw [hfin.out, hne.out]; rfl)
        · have hne := Lib.hid (show (if d.all (fun x => decide (0 ≤ x ∧ x < radix base)) then 0 else 1 : Int) = 0 by
            rw [if_pos]; rw [List.all_eq_true]; intro x hx; obtain ⟨j, hj, rfl⟩ := List.mem_iff_getElem.1 hx; have := Hall.out j (by omega) hj; simp; omega)
          go_wp2
          go_ret
          exact RetS.mk (by rw [hfin.out, hne.out]; rfl)

end Go.Proofs.YtjidhaendndokaaDoor
namespace Go.Proofs.YtjidhaendndokaaDoor
open Go.RowKit

theorem valErr_fault {base : Int} {d : List Int} (h : digitsFault base d ≠ 0) : valErr base d = digitsFault base d ∧ valOf base d = 0 := by
  have : valErr base d = digitsFault base d := by simp [valErr, h]
  exact ⟨this, by simp [valOf, this, h]⟩
theorem valErr_full {base : Int} {d : List Int} (h : digitsFault base d = 0) (hv : 1099511627776 < wv base d) : valErr base d = 3 ∧ valOf base d = 0 := by
  have : valErr base d = 3 := by simp [valErr, h, hv]
  exact ⟨this, by simp [valOf, this]⟩
theorem valErr_ok {base : Int} {d : List Int} (h : digitsFault base d = 0) (hv : wv base d ≤ 1099511627776) : valErr base d = 0 ∧ valOf base d = wv base d := by
  have : valErr base d = 0 := by simp [valErr, h]; omega
  exact ⟨this, by simp [valOf, this]⟩

set_option maxHeartbeats 4000000 in
theorem Value_calls (S : Nat → Prop) (base : Int) (v : Value) (d : List Int) (w : World) (hd : Ints S w v d) :
    Calls Tryd.prog 43 #[.int .i64 base, v] w (RetS (.tuple #[.int .i64 (valOf base d), errV 26 (valErr base d)]) w) := by
  have hd' := Lib.hid hd
  obtain ⟨a, cap, rfl, hlen, hcell⟩ := hd
  by_cases h0 : digitsFault base d = 0
  · have E0 := Lib.hid (show errV 26 (digitsFault base d) = .nilIface by simp [errV, h0])
    obtain ⟨hr, hl60, hok⟩ := fault_zero.1 h0
    have H0 := Lib.hid h0; clear h0
    have Hok := Lib.hid hok; clear hok
    have Hr := Lib.hid (radix_pos hr)
    have Hr' := Lib.hid hr; clear hr
    by_cases hb : base = 1
    · have e1 : (base == 1) = true := by simp [hb]
      have Hb := Lib.hid hb; clear hb
      go_enter Tryd.func43, Tryd.ntmps43
      go_wp2_with (go_at_call 49; refine (check_calls S _ _ _ _ hd'.out).mono ?_; rintro e w' ⟨rfl, rfl⟩; rw [E0.out])
      go_loopw [7, 8, 19] (fun v low i wr => ∃ (k : Nat) (x y : Int), i = .int .i64 k ∧ v = .int .i64 x ∧ low = .int .i64 y ∧ k ≤ d.length ∧ wr = w ∧ 0 ≤ y ∧ y ≤ x ∧ x ≤ 1099511627776 ∧ valFold base (d.take k) = (x, y)) (fun _ _ i _ => d.length - (intOf i).toNat)
      case atStart => exact ⟨0, 0, 0, rfl, rfl, rfl, by omega, rfl, by omega, by omega, by omega, rfl⟩
      case round =>
        obtain ⟨k, x, y, rfl, rfl, rfl, hk, rfl, h1, h2, h3, hf⟩ := hrel
        have Hf := Lib.hid hf; clear hf
        by_cases hlt : k < d.length
        · obtain ⟨b, off, z, ha, hS, hc, hx, hi⟩ := hcell k hlt
          subst ha hx
          have hz := Hok.out d[k] (List.getElem_mem _)
          have hz1 := hz.1
          have hz2 : d[k] ≤ 6 := by have := Hr.out; have := hz.2; omega
          clear hz
          have hst : valFold base (d.take (k + 1)) = (x + y + d[k], x + d[k]) := by
            rw [List.take_succ_eq_append_getElem hlt, valFold_snoc, Hf.out]; simp [valStep, Hb.out]
          have Hst := Lib.hid hst; clear hst
          by_cases hbig : 1099511627776 < x + y + d[k]
          · have hv := valErr_full H0.out (show 1099511627776 < wv base d by
              have := wv_take_le Hr'.out (d.take (k + 1)) (d.drop (k + 1)) (by rw [List.take_append_drop]; exact Hok.out)
              rw [List.take_append_drop, ← valFold_eq, Hst.out] at this
              exact Int.lt_of_lt_of_le hbig this)
            have Hv := Lib.hid hv; clear hv
            go_wp2
            go_ret2
            exact RetS.mk (by rw [Hv.out.1, Hv.out.2]; rfl)
          · go_wp2
            go_roundw
            case rel => exact ⟨k + 1, _, _, by go_num, rfl, rfl, by omega, trivial, by omega, by omega, by omega, Hst.out⟩
            case measure => (simp [intOf] <;> omega)
        · have hw : wv base d = x := by
            have := Hf.out
            rw [List.take_of_length_le (by omega)] at this
            rw [← valFold_eq, this]
          have hv := valErr_ok H0.out (show wv base d ≤ 1099511627776 by omega)
          rw [hw] at hv
          have Hv := Lib.hid hv; clear hv hw
          go_wp2
          go_ret2
          exact RetS.mk (by rw [Hv.out.1, Hv.out.2]; rfl)
    · have e1 : (base == 1) = false := by simp [hb]
      have Hb := Lib.hid hb
      have hb2 : 2 ≤ base := by have := Hr.out; omega
      have hb6 : base ≤ 6 := by have := Hr.out; omega
      clear hb
      go_enter Tryd.func43, Tryd.ntmps43
      go_wp2_with (go_at_call 49; refine (check_calls S _ _ _ _ hd'.out).mono ?_; rintro e w' ⟨rfl, rfl⟩; rw [E0.out])
      go_loopw [7, 19] (fun v i wr => ∃ (k : Nat) (x : Int), i = .int .i64 k ∧ v = .int .i64 x ∧ k ≤ d.length ∧ wr = w ∧ 0 ≤ x ∧ x ≤ 1099511627776 ∧ valFold base (d.take k) = (x, 0)) (fun _ i _ => d.length - (intOf i).toNat)
      case atStart => exact ⟨0, 0, rfl, rfl, by omega, rfl, by omega, by omega, rfl⟩
      case round =>
        obtain ⟨k, x, rfl, rfl, hk, rfl, h1, h3, hf⟩ := hrel
        have Hf := Lib.hid hf; clear hf
        by_cases hlt : k < d.length
        · obtain ⟨b, off, z, ha, hS, hc, hx, hi⟩ := hcell k hlt
          subst ha hx
          have hz := Hok.out d[k] (List.getElem_mem _)
          have hz1 := hz.1
          have hz2 : d[k] ≤ 6 := by have := Hr.out; have := hz.2; omega
          clear hz
          have hm1 : 0 ≤ x * base := Int.mul_nonneg h1 (by omega)
          have hm2 : x * base ≤ 6597069766656 := by
            have := Int.mul_le_mul h3 hb6 (by omega) (by omega)
            omega
          have hst : valFold base (d.take (k + 1)) = (x * base + d[k], 0) := by
            rw [List.take_succ_eq_append_getElem hlt, valFold_snoc, Hf.out]; simp [valStep, Hb.out]
          have Hst := Lib.hid hst; clear hst
          by_cases hbig : 1099511627776 < x * base + d[k]
          · have hv := valErr_full H0.out (show 1099511627776 < wv base d by
              have := wv_take_le Hr'.out (d.take (k + 1)) (d.drop (k + 1)) (by rw [List.take_append_drop]; exact Hok.out)
              rw [List.take_append_drop, ← valFold_eq, Hst.out] at this
              exact Int.lt_of_lt_of_le hbig this)
            have Hv := Lib.hid hv; clear hv
            go_wp2
            go_ret2
            exact RetS.mk (by rw [Hv.out.1, Hv.out.2]; rfl)
          · go_wp2
            go_roundw
            case rel => exact ⟨k + 1, _, by go_num, rfl, by omega, trivial, by omega, by omega, Hst.out⟩
            case measure => (simp [intOf] <;> omega)
        · have hw : wv base d = x := by
            have := Hf.out
            rw [List.take_of_length_le (by omega)] at this
            rw [← valFold_eq, this]
          have hv := valErr_ok H0.out (show wv base d ≤ 1099511627776 by omega)
          rw [hw] at hv
          have Hv := Lib.hid hv; clear hv hw
          go_wp2
          go_ret2
          exact RetS.mk (by rw [Hv.out.1, Hv.out.2]; rfl)
  · have hv := valErr_fault h0
    have Hv := Lib.hid hv; clear hv
    obtain ⟨e, he⟩ : ∃ e, digitsFault base d = e := ⟨_, rfl⟩
    rw [he] at h0
    have E0 := Lib.hid (show errV 26 (digitsFault base d) = .iface 26 (.int .i64 e) by simp [errV, he, h0])
    clear h0 he
    go_enter Tryd.func43, Tryd.ntmps43
    go_wp2_with (go_at_call 49; refine (check_calls S _ _ _ _ hd'.out).mono ?_; rintro e w' ⟨rfl, rfl⟩; rw [E0.out])
    go_ret2
    exact RetS.mk (by rw [Hv.out.1, Hv.out.2, E0.out]; rfl)

end Go.Proofs.YtjidhaendndokaaDoor
namespace Go.Proofs.YtjidhaendndokaaDoor
open Go.RowKit

end Go.Proofs.YtjidhaendndokaaDoor
namespace Go.Proofs.YtjidhaendndokaaDoor
open Go.RowKit

end Go.Proofs.YtjidhaendndokaaDoor
namespace Go.Proofs.YtjidhaendndokaaDoor
open Go.RowKit

set_option maxHeartbeats 4000000 in
set_option maxRecDepth 100000 in
theorem RValue_calls (S : Nat → Prop) (base : Int) (v : Value) (d : List Int) (w : World) (_hS : ∀ b, S b → b < w.heap.size) (hd : Ints S w v d) :
    Calls Tryd.prog 28 #[.int .i64 base, v] w (Ret (.tuple #[.int .i64 (valOf base d), .int .i64 (valErr base d)]) w) := by
  have Hd := Lib.hid hd
  obtain ⟨pa, ca, rfl⟩ := hd.form
  clear hd
  by_cases h0 : digitsFault base d = 0
  · obtain ⟨hr, hl60, hok⟩ := fault_zero.1 h0
    have H0 := Lib.hid h0; clear h0
    have Hok := Lib.hid hok; clear hok
    have Hr := Lib.hid hr; clear hr
    go_enter Tryd.func28, Tryd.ntmps28
    go_wp2_with fail
    refine (RFault_calls _ _ _ _ _ Hd.out).mono ?_; rintro e w' ⟨rfl, rfl⟩; rw [H0.out]
    go_wp2_with fail
    refine (Weights_calls _ _ Hr.out).mono ?_
    rintro e w1 ⟨x1, rfl, ⟨ws, hws, hW⟩, hb1⟩
    have HB := Lib.hid hb1
    have Hd1 := Lib.hid (Hd.out.keep (S' := fun _ => True) fun b hb hlt => ⟨hb1.block b hlt, trivial⟩)
    have HW := Lib.hid hW
    have Hws := Lib.hid hws
    obtain ⟨pw, cw, rfl⟩ := hws.form
    have hwl := hW.le
    have hwp := hW.pos
    clear hws hW hb1
    go_wp2_with fail
    go_loop [8, 9] (fun sum i => ∃ (k : Nat), k ≤ d.length ∧ i = .int .i64 k ∧ sum = .int .i64 (wv base (d.drop (d.length - k))) ∧ wv base (d.drop (d.length - k)) ≤ 1099511627776) (fun _ i => d.length - (intOf i).toNat)
    case atStart => exact ⟨0, by omega, rfl, by simp [wv], by simp [wv]⟩
    case round =>
      obtain ⟨k, hk, rfl, rfl, hsm⟩ := hrel
      have hs0 : 0 ≤ wv base (d.drop (d.length - k)) := wv_nonneg Hr.out fun x hx => Hok.out x (List.mem_of_mem_drop hx)
      by_cases hlt : k < d.length
      · have hst := wv_drop base k d hlt
        have hle := wv_drop_le Hr.out Hok.out (d.length - 1 - k)
        have e1 : d.length - (k + 1) = d.length - 1 - k := by omega
        obtain ⟨b, off, x, hp, hS1, hc, hx, hi⟩ := Hd1.out.at (d.length - 1 - k) (by omega)
        subst hp hx
        rw [getD_lt (show d.length - 1 - k < d.length by omega)] at hst
        have hxd := Hok.out _ (List.getElem_mem (show d.length - 1 - k < d.length by omega))
        have hr2 := radix_two Hr.out
        have hidx : (d.length : Int) - 1 - (k : Int) = ((d.length - 1 - k : Nat) : Int) := by omega
        have hil : ((d.length - 1 - k : Nat) : Int) < (d.length : Int) := by omega
        generalize hs : wv base (d.drop (d.length - k)) = s at *
        generalize hx : d[d.length - 1 - k]'(by omega) = x at *
        have x0 := hxd.1
        have x6 : x ≤ 6 := by omega
        have Hst := Lib.hid hst
        have Hle := Lib.hid hle
        have He1 := Lib.hid e1
        clear hxd hst hle e1 hs hx
        generalize d.length - 1 - k = q at *
        by_cases hz : x = 0
        · have hz' : (x == 0) = true := by simp [hz]
          have Hz := Lib.hid hz
          clear hz
          go_wp2
          go_round
          case rel =>
            refine ⟨k + 1, by omega, by go_num, ?_, ?_⟩
            · rw [He1.out, Hst.out, Hz.out]; simp
            · rw [He1.out, Hst.out, Hz.out]; omega
          case measure => (simp [intOf] <;> omega)
        · have hz' : (x == 0) = false := by simp [hz]
          have x1 : 1 ≤ x := by omega
          clear hz
          by_cases hkw : k < ws.length
          · obtain ⟨b2, off2, y, hp2, hS2, hc2, hy, hi2⟩ := Hws.out.at k hkw
            have hwj : ws[k] = W base k := by
              have := HW.out.eq
              rw [List.getElem_of_eq this]; simp
            rw [hwj] at hy hi2
            subst hp2 hy
            have hwk := W_pos Hr.out k
            have hw6 : W base k ≤ 6597069766656 := by
              rcases Nat.eq_zero_or_pos k with h | h
              · have : W base k = 1 := by rw [h]; unfold W; split <;> rfl
                omega
              · have h1 := HW.out.small (k - 1) (by omega)
                have h2 := W_six Hr.out (k - 1)
                rw [show k - 1 + 1 = k by omega] at h2
                omega
            have p0 : 0 ≤ x * W base k := Int.mul_nonneg x0 (by omega)
            have p1 : x * W base k ≤ 39582418599936 := by
              have := Int.mul_le_mul x6 hw6 (by omega) (by omega)
              omega
            clear hwj
            by_cases hbig : 1099511627776 - s < x * W base k
            · have hv := Lib.hid (valErr_full H0.out (show 1099511627776 < wv base d by have := Hle.out; have := Hst.out; omega))
              go_wp2
              go_ret2
              exact Ret.mk (by rw [hv.out.1, hv.out.2]; rfl) HB.out
            · go_wp2
              go_round
              case rel =>
                refine ⟨k + 1, by omega, by go_num, ?_, ?_⟩
                · rw [He1.out, Hst.out, Int.add_comm]
                · rw [He1.out, Hst.out]; omega
              case measure => (simp [intOf] <;> omega)
          · have hv := Lib.hid (valErr_full H0.out (show 1099511627776 < wv base d by
              have h1 := Hle.out
              have h2 := Hst.out
              have h3 := HW.out.big
              have h4 := W_le Hr.out (show ws.length - 1 ≤ k by omega)
              have h5 : 1 * W base k ≤ x * W base k := Int.mul_le_mul_of_nonneg_right x1 (by omega)
              omega))
            have hkw' : (ws.length : Int) ≤ (k : Int) := by omega
            go_wp2
            go_ret2
            exact Ret.mk (by rw [hv.out.1, hv.out.2]; rfl) HB.out
      · obtain rfl : k = d.length := by omega
        have e : d.drop (d.length - d.length) = d := by simp
        rw [e] at hsm hs0 ⊢
        have hv := Lib.hid (valErr_ok H0.out hsm)
        clear e
        go_wp2
        go_ret2
        exact Ret.mk (by rw [hv.out.1, hv.out.2]; rfl) HB.out
  · have hv := valErr_fault h0
    have Hv := Lib.hid hv; clear hv
    obtain ⟨e, he⟩ : ∃ e, digitsFault base d = e := ⟨_, rfl⟩
    rw [he] at Hv h0
    have h0' : (e != 0) = true := by simpa using h0
    have He := Lib.hid he
    clear h0 he
    go_enter Tryd.func28, Tryd.ntmps28
    go_wp2_with fail
    refine (RFault_calls _ _ _ _ _ Hd.out).mono ?_; rintro e w' ⟨rfl, rfl⟩; rw [He.out]
    go_wp2_with fail
    go_ret2
    exact Ret.mk (by rw [Hv.out.1, Hv.out.2]; rfl) (Below.refl _ _)
end Go.Proofs.YtjidhaendndokaaDoor
namespace Go.Proofs.YtjidhaendndokaaDoor
open Go.RowKit


set_option maxHeartbeats 4000000 in
theorem Many_calls (base t : Int) (w : World) :
    Calls Tryd.prog 33 #[.int .i64 base, .int .i64 t] w (RetS (.tuple #[.int .i64 (manyOf base t), errV 26 (manyErr base t)]) w) := by
  by_cases hbad : radix base = 0 ∨ t < 0 ∨ 5 < t
  · have H := Lib.hid (show manyErr base t = 1 ∧ manyOf base t = 0 by simp [manyErr, manyOf, hbad])
    by_cases h1 : radix base = 0
    · have e0 : (radix base == 0) = true := by simp [h1]
      clear hbad h1
      go_enter Tryd.func33, Tryd.ntmps33
      go_wp2_with (go_at_call 34; refine (Radix_calls _ _).mono ?_; rintro e w' ⟨rfl, rfl⟩)
      go_ret2
      exact RetS.mk (by rw [H.out.1, H.out.2]; rfl)
    · have e0 : (radix base == 0) = false := by simp [h1]
      by_cases h2 : t < 0
      · clear hbad h1
        go_enter Tryd.func33, Tryd.ntmps33
        go_wp2_with (go_at_call 34; refine (Radix_calls _ _).mono ?_; rintro e w' ⟨rfl, rfl⟩)
        go_ret2
        exact RetS.mk (by rw [H.out.1, H.out.2]; rfl)
      · have h3 : 5 < t := by omega
        clear hbad h1
        go_enter Tryd.func33, Tryd.ntmps33
        go_wp2_with (go_at_call 34; refine (Radix_calls _ _).mono ?_; rintro e w' ⟨rfl, rfl⟩)
        go_ret2
        exact RetS.mk (by rw [H.out.1, H.out.2]; rfl)
  · have H := Lib.hid (show manyErr base t = if 36 < powW (radix base) t.toNat then 3 else 0 by simp only [manyErr, if_neg hbad])
    obtain ⟨t, rfl⟩ := Int.eq_ofNat_of_zero_le (show 0 ≤ t by omega)
    simp only [Int.toNat_natCast] at H
    have h1 : radix base ≠ 0 := by omega
    have e0 : (radix base == 0) = false := by simp [h1]
    have h2 : ¬ ((t : Int) < 0) := by omega
    have h3 : ¬ (5 < (t : Int)) := by omega
    have ht5 : t ≤ 5 := by omega
    obtain ⟨r2, r6⟩ := radix_two h1
    have HP := Lib.hid (show ∀ j, j ≤ 5 → 1 ≤ powW (radix base) j ∧ powW (radix base) j ≤ 7776 from fun j hj => powW_bd r2 r6 hj)
    have HM := Lib.hid (show manyErr base t = 0 → manyOf base t = powW (radix base) t by intro h; simp [manyOf, h])
    have HM0 := Lib.hid (show manyErr base t ≠ 0 → manyOf base t = 0 by intro h; simp [manyOf, h])
    clear hbad h1
    generalize hk : radix base = k at *
    have Hk := Lib.hid hk; clear hk
    go_enter Tryd.func33, Tryd.ntmps33
    go_wp2_with (go_at_call 34; refine (Radix_calls _ _).mono ?_; rintro e w' ⟨rfl, rfl⟩; rw [Hk.out])
    go_loopw [7, 22] (fun n i wr => ∃ j : Nat, j ≤ t ∧ i = .int .i64 j ∧ n = .int .i64 (powW k j) ∧ wr = w) (fun _ i _ => t - (intOf i).toNat)
    case atStart => exact ⟨0, by omega, rfl, rfl, rfl⟩
    case round =>
      obtain ⟨j, hj, rfl, rfl, rfl⟩ := hrel
      by_cases hlt : j < t
      · have p1 := (HP.out j (by omega)).1
        have p2 := (HP.out j (by omega)).2
        have p3 : 0 ≤ powW k j * k := Int.mul_nonneg (by omega) (by omega)
        have p4 : powW k j * k ≤ 46656 := by
          have := Int.mul_le_mul p2 r6 (by omega) (by omega)
          omega
        go_wp2
        go_roundw
        case rel => exact ⟨j + 1, by omega, by go_num, rfl, trivial⟩
        case measure => (simp [intOf] <;> omega)
      · obtain rfl : j = t := by omega
        by_cases hbig : 36 < powW k j
        · have R := Lib.hid (show manyErr base j = 3 ∧ manyOf base j = 0 by
            have : manyErr base j = 3 := by rw [H.out, if_pos hbig]
            exact ⟨this, HM0.out (by omega)⟩)
          go_wp2
          go_ret2
          exact RetS.mk (by rw [R.out.1, R.out.2]; rfl)
        · have R := Lib.hid (show manyErr base j = 0 ∧ manyOf base j = powW k j by
            have : manyErr base j = 0 := by rw [H.out, if_neg hbig]
            exact ⟨this, HM.out this⟩)
          go_wp2
          go_ret2
          exact RetS.mk (by rw [R.out.1, R.out.2]; rfl)


end Go.Proofs.YtjidhaendndokaaDoor
namespace Go.Proofs.YtjidhaendndokaaDoor
open Go.RowKit


set_option maxHeartbeats 4000000 in
set_option maxRecDepth 100000 in
theorem Unpack_calls (base t l : Int) (w : World) :
    Calls Tryd.prog 48 #[.int .i64 base, .int .i64 t, .int .i64 l] w
      (RetQ (fun v w' => ∃ x, v = .tuple #[x, errV 26 (unpackErr base t l)] ∧ Ints (w.heap.size ≤ ·) w' x (unpackOf base t l)) w) := by
  by_cases h0 : manyErr base t = 0
  · have E0 := Lib.hid (show errV 26 (manyErr base t) = .nilIface by rw [h0]; rfl)
    by_cases hl : l < 0 ∨ manyOf base t ≤ l
    · have R := Lib.hid (unpackErr_letter h0 hl)
      by_cases hl0 : l < 0
      · clear hl h0
        go_enter Tryd.func48, Tryd.ntmps48
        go_wp2_with (go_at_call 33; refine (Many_calls _ _ _).mono ?_; rintro e w' ⟨rfl, rfl⟩; rw [E0.out])
        go_ret2
        exact RetQ.mk ⟨_, by rw [R.out.1]; rfl, by rw [R.out.2]; exact Sl.nil _ _ _⟩ (Below.refl _ _)
      · have hl1 : manyOf base t ≤ l := by omega
        clear hl h0
        go_enter Tryd.func48, Tryd.ntmps48
        go_wp2_with (go_at_call 33; refine (Many_calls _ _ _).mono ?_; rintro e w' ⟨rfl, rfl⟩; rw [E0.out])
        go_ret2
        exact RetQ.mk ⟨_, by rw [R.out.1]; rfl, by rw [R.out.2]; exact Sl.nil _ _ _⟩ (Below.refl _ _)
    · have R := Lib.hid (unpackErr_ok h0 hl)
      have hl0 : ¬ l < 0 := by omega
      have hl1 : ¬ manyOf base t ≤ l := by omega
      obtain ⟨h1, ht0, h5, hp36, hmo⟩ := many_ok h0
      obtain ⟨r2, r6⟩ := radix_two h1
      obtain ⟨t, rfl⟩ := Int.eq_ofNat_of_zero_le ht0
      simp only [Int.toNat_natCast] at R hp36 hmo
      have hl36 : l ≤ 36 := by omega
      have ht5 : t ≤ 5 := by omega
      clear hl h0 h1 hp36 hmo
      generalize hk : radix base = k at *
      have Hk := Lib.hid hk; clear hk
      obtain ⟨i0, hi, hz0, hz1, hz2⟩ := info_parts infoInt
      go_enter Tryd.func48, Tryd.ntmps48
      go_wp2_with fail
      refine (Many_calls _ _ _).mono ?_; rintro e w' ⟨rfl, rfl⟩; rw [E0.out]
      go_wp2_with fail
      refine (Radix_calls _ _).mono ?_; rintro e w' ⟨rfl, rfl⟩; rw [Hk.out]
      go_wp2_with (at_make; go_loud (refine wpList_make_full w rfl _ _ 38 rfl w.heap.size 3 i0 (.int .i64 0) 1 Tryd.underlying38 hi hz0 hz1 .i64 .i64 _ _ t rfl rfl rfl rfl ?c1 ?c2 (Nat.le_refl _) ?_))
      case c1 => rw [hz2]; omega
      case c2 => simp only [maxLen]; omega
      intro w1 hown hgrow
      have HB := Lib.hid ((Below.refl w.heap.size w).grown hgrow (Nat.le_refl _) (by simp)); clear hgrow
      have hown' : w1.ownsRow w.heap.size 3 1 (.slice (some ⟨w.heap.size, 0, none⟩) t t) t ((List.replicate t 0 ++ ([] : List Int)).map (Value.int .i64)) := by
        have e : (madeCells (Value.int .i64 0).cells (t * 1)).toList = (List.replicate t 0 ++ ([] : List Int)).map (Value.int .i64) := by
          show (madeCells #[Value.int .i64 0] (t * 1)).toList = _
          rw [toList_madeCells_one]; simp
        rw [← e, Nat.mul_one]; exact hown
      clear hown
      have Hown := Lib.hid hown'; clear hown'
      go_wp2_with fail
      go_loopw [2, 35] (fun m i wr => ∃ (j : Nat) (q : Int) (u : List Int), j ≤ t ∧ i = .int .i64 j ∧ m = .int .i64 q ∧ 0 ≤ q ∧ q ≤ 36 ∧ u.length = j ∧ Hid (unpack k t l = unpack k (t - j) q ++ u) ∧
        Hid (wr.ownsRow w.heap.size 3 1 (.slice (some ⟨w.heap.size, 0, none⟩) t t) t ((List.replicate (t - j) 0 ++ u).map (Value.int .i64))) ∧ Hid (Below w.heap.size w wr)) (fun _ i _ => t - (intOf i).toNat)
      case atStart => exact ⟨0, l, [], by omega, rfl, rfl, by omega, hl36, rfl, by simp [Hid], Hown.out, HB.out⟩
      case round =>
        obtain ⟨j, q, u, hj, rfl, rfl, q0, q36, hu, HU, HO, HB'⟩ := hrel
        have Hu := Lib.hid hu; clear hu
        by_cases hlt : j < t
        · have q1 : 0 ≤ q % k := Int.emod_nonneg _ (by omega)
          have q2 : q % k < k := Int.emod_lt_of_pos _ (by omega)
          have q3 : 0 ≤ q / k := Int.ediv_nonneg q0 (by omega)
          have q4 : q / k ≤ q := Int.ediv_le_self _ q0
          obtain ⟨r, hr⟩ : ∃ r : Nat, (t : Int) - 1 - j = r := ⟨t - 1 - j, by omega⟩
          have hr' : t - j = r + 1 := by omega
          have HO' := Lib.hid (show wr.ownsRow w.heap.size 3 1 (.slice (some ⟨w.heap.size, 0, none⟩) t t) t ((List.replicate (r + 1) 0 ++ u).map (Value.int .i64)) by rw [← hr']; exact HO.out)
          have hcell : wr.cell? ⟨w.heap.size, r, none⟩ = some (.int .i64 0) := by
            rw [HO'.out.cellAt r (by omega)]
            simp [List.replicate_succ']
          have hfr : wr.frozen? ⟨w.heap.size, r, none⟩ = false := HO'.out.frozenAt r
          have r0 : (r : Int) < t := by omega
          have Hr := Lib.hid hr'; clear hr' HO
          go_wp2
          go_roundw
          case rel =>
            refine ⟨j + 1, q / k, (q % k) :: u, by omega, by go_num, rfl, by omega, by omega, by have := Hu.out; simp; omega, ?_, ?_, ?_⟩
            · have e : t - (j + 1) = r := by have := Hr.out; omega
              show unpack k t l = unpack k (t - (j + 1)) (q / k) ++ q % k :: u
              rw [HU.out, e, Hr.out, unpack, List.append_assoc]; rfl
            · have e : t - (j + 1) = r := by have := Hr.out; omega
              have := (HO'.out.stored r (.int .i64 (q % k))).1
              have e2 : ((List.replicate (r + 1) 0 ++ u).map (Value.int .i64)).set r (.int .i64 (q % k)) = (List.replicate (t - (j + 1)) 0 ++ (q % k) :: u).map (Value.int .i64) := by
                rw [e, List.replicate_succ', List.append_assoc, List.map_append, List.map_append, List.set_append_right (h := by simp)]
                simp
              rw [e2] at this
              exact this
            · exact HB'.out.setCell (Nat.le_refl _) _
          case measure => (simp [intOf] <;> omega)
        · obtain rfl : j = t := by omega
          have Hfin := Lib.hid (show unpackOf base j l = u by rw [R.out.2, HU.out]; simp [unpack])
          have HO' := Lib.hid (show wr.ownsRow w.heap.size 3 1 (.slice (some ⟨w.heap.size, 0, none⟩) j j) j (u.map (Value.int .i64)) by simpa using HO.out)
          clear HO
          go_wp2
          go_ret2
          refine RetQ.mk ⟨_, by rw [R.out.1]; rfl, ?_⟩ HB'.out
          rw [Hfin.out]
          refine Ints.of_own HO'.out Hu.out fun x hx => ?_
          have hx' : x ∈ unpack k j l := by rw [HU.out]; simp [hx]
          have := unpack_ok r2 _ _ x hx'
          exact ⟨by omega, by omega⟩
  · have R := Lib.hid (unpackErr_many (l := l) h0)
    have E := Lib.hid (errV_ne 26 h0)
    clear h0
    go_enter Tryd.func48, Tryd.ntmps48
    go_wp2_with (go_at_call 33; refine (Many_calls _ _ _).mono ?_; rintro e w' ⟨rfl, rfl⟩; rw [E.out])
    go_ret2
    exact RetQ.mk ⟨_, by rw [R.out.1, E.out]; rfl, by rw [R.out.2]; exact Sl.nil _ _ _⟩ (Below.refl _ _)
end Go.Proofs.YtjidhaendndokaaDoor
namespace Go.Proofs.YtjidhaendndokaaDoor
open Go.RowKit

theorem splitErr_many {base t : Int} {l : List Int} (h : manyErr base t ≠ 0) : splitErr base t l = manyErr base t ∧ splitOf base t l = [] := by
  have : splitErr base t l = manyErr base t := by simp [splitErr, h]
  exact ⟨this, by simp [splitOf, this, h]⟩
theorem splitErr_long {base t : Int} {l : List Int} (h : manyErr base t = 0) (hl : 60 < l.length) : splitErr base t l = 3 ∧ splitOf base t l = [] := by
  have : splitErr base t l = 3 := by simp [splitErr, h, hl]
  exact ⟨this, by simp [splitOf, this]⟩
theorem splitErr_letter {base t : Int} {l : List Int} (h : manyErr base t = 0) (hl : ¬ 60 < l.length) {i : Nat} (hi : i < l.length) (hx : l[i] < 0 ∨ manyOf base t ≤ l[i]) : splitErr base t l = 1 ∧ splitOf base t l = [] := by
  have : splitErr base t l = 1 := by
    unfold splitErr
    rw [if_neg (by omega), if_neg hl, if_neg]
    intro hall
    have := List.all_eq_true.1 hall l[i] (List.getElem_mem _)
    simp at this
    omega
  exact ⟨this, by simp [splitOf, this]⟩
theorem splitErr_ok {base t : Int} {l : List Int} (h : manyErr base t = 0) (hl : ¬ 60 < l.length) (hx : ∀ i (hi : i < l.length), ¬ (l[i] < 0 ∨ manyOf base t ≤ l[i])) :
    splitErr base t l = 0 ∧ splitOf base t l = (List.range t.toNat).map (trackOf (radix base) t.toNat l) := by
  have : splitErr base t l = 0 := by
    unfold splitErr
    rw [if_neg (by omega), if_neg hl, if_pos]
    rw [List.all_eq_true]
    intro x hx'
    obtain ⟨i, hi, rfl⟩ := List.mem_iff_getElem.1 hx'
    have := hx i hi
    simp; omega
  exact ⟨this, by simp [splitOf, this]⟩
theorem trackOf_snoc (k : Int) (t : Nat) (l : List Int) (x : Int) (i : Nat) : trackOf k t (l ++ [x]) i = trackOf k t l i ++ [(unpack k t x).getD i 0] := by simp [trackOf]

/-- Rows under way: each is owned, no two share. -/
structure RowsOwn (w : World) (B : Nat) (xs : List Value) (L : Nat → List Int) : Prop where
  own : ∀ i (h : i < xs.length), w.ownsRow (B + 1) 3 1 xs[i] (L i).length ((L i).map (Value.int .i64))
  apart : ∀ i j (h1 : i < xs.length) (h2 : j < xs.length), i ≠ j → ∀ b, xs[i].ownBlock = some b → xs[j].ownBlock ≠ some b
theorem RowsOwn.congr {w : World} {B : Nat} {xs : List Value} {L L' : Nat → List Int} (h : RowsOwn w B xs L) (hL : ∀ i, i < xs.length → L i = L' i) : RowsOwn w B xs L' :=
  ⟨fun i hi => by rw [← hL i hi]; exact h.own i hi, h.apart⟩
theorem RowsOwn.keep {w w' : World} {B : Nat} {xs : List Value} {L : Nat → List Int} (h : RowsOwn w B xs L) (hb : ∀ k, B < k → k < w.heap.size → w'.heap[k]? = w.heap[k]?) : RowsOwn w' B xs L := by
  refine ⟨fun i hi => ?_, h.apart⟩
  have ho := h.own i hi
  refine ⟨ho.1, ?_⟩
  rcases ho.2 with hn | ⟨g, cap, cur, hv, hB, hg, rest⟩
  · exact .inl hn
  · exact .inr ⟨g, cap, cur, hv, hB, by rw [hb g (by omega) (block_lt hg)]; exact hg, rest⟩
theorem RowsOwn.append {w w' : World} {B : Nat} {xs : List Value} {L : Nat → List Int} (h : RowsOwn w B xs L) (q : Nat) (hq : q < xs.length) (v' : Value) (x : Int)
    (hown : w'.ownsRow (B + 1) 3 1 v' ((L q).length + 1) ((L q).map (Value.int .i64) ++ [.int .i64 x])) (hgrow : w.grownBy w' xs[q].ownBlock)
    (hwhere : v'.ownBlock = xs[q].ownBlock ∨ v'.ownBlock = some (w.heap.size + 1)) :
    RowsOwn w' B (xs.set q v') (fun i => if i = q then L q ++ [x] else L i) := by
  have hlt : ∀ i (hi : i < xs.length) b, xs[i].ownBlock = some b → b < w.heap.size := fun i hi b hb => ((h.own i hi).lt b hb).2
  refine ⟨fun i hi => ?_, fun i j h1 h2 hij b => ?_⟩
  · by_cases e : i = q
    · subst e
      rw [List.getElem_set_self, if_pos rfl]
      simpa using hown
    · rw [List.getElem_set_ne (Ne.symm e), if_neg e]
      have hi' : i < xs.length := by simpa using hi
      refine (h.own i hi').kept hgrow ?_
      cases hb : xs[i].ownBlock with
      | none => exact .inl rfl
      | some b => exact .inr fun e' => h.apart i q hi' hq e b hb e'.symm
  · have h1' : i < xs.length := by simpa using h1
    have h2' : j < xs.length := by simpa using h2
    by_cases ei : i = q
    · subst ei
      rw [List.getElem_set_self, List.getElem_set_ne hij]
      intro hb hb'
      rcases hwhere with hw | hw
      · exact h.apart i j h1' h2' hij b (hw ▸ hb) hb'
      · rw [hw] at hb
        have := hlt j h2' b hb'
        simp at hb; omega
    · rw [List.getElem_set_ne (Ne.symm ei)]
      by_cases ej : j = q
      · subst ej
        rw [List.getElem_set_self]
        intro hb hb'
        rcases hwhere with hw | hw
        · exact h.apart i j h1' h2' hij b hb (hw ▸ hb')
        · rw [hw] at hb'
          have := hlt i h1' b hb
          simp at hb'; omega
      · rw [List.getElem_set_ne (Ne.symm ej)]
        exact h.apart i j h1' h2' hij b
theorem RowsOwn.start (w : World) (B n : Nat) : RowsOwn w B (List.replicate n (.slice none 0 0)) (fun _ => []) :=
  ⟨fun i hi => by rw [List.getElem_replicate]; exact World.ownsRow_nil _ _ _ _, fun i j h1 h2 _ b hb => by rw [List.getElem_replicate] at hb; cases hb⟩
/-- No row under way lies in a block. -/
def Clear (xs : List Value) (B b : Nat) : Prop := b ≠ B ∧ ∀ i (h : i < xs.length), xs[i].ownBlock ≠ some b
end Go.Proofs.YtjidhaendndokaaDoor
namespace Go.Proofs.YtjidhaendndokaaDoor
open Go.RowKit

theorem repNilInts (S : Nat → Prop) (w : World) : RepT S w (tInts []) (.slice none 0 0) :=
  .list [] none 0 1 (fun _ => undef) (Nat.zero_le _) Nat.one_pos (fun x hx => by simp at hx) (fun h => (h rfl).elim) (fun k hk => by simp at hk) (fun k y hy => by simp [flat] at hy) (Nat.le_refl _)
theorem repOwnInts {w : World} {B e n : Nat} {v : Value} {l : List Int} (h : w.ownsRow B e 1 v n (l.map (Value.int .i64))) (hl : l.length = n) (_ : ∀ x ∈ l, I64 x) : RepT (B ≤ ·) w (tInts l) v := by
  subst hl
  rcases h.2 with ⟨rfl, h0⟩ | ⟨g, cap, cur, rfl, h1, h2, h3, h4, h5, h6⟩
  · obtain rfl : l = [] := List.length_eq_zero_iff.1 h0
    exact repNilInts _ _
  · have hfl : ∀ l : List Int, flat (l.map tInt) = l.map tInt := fun l => by
      induction l with
      | nil => rfl
      | cons x t ih =>
        simp only [flat, List.map_cons, List.flatMap_cons] at ih ⊢
        rw [ih]; rfl
    have hlen : (l.map tInt).length = l.length := by simp
    have hcell : ∀ k (hk : k < l.length), cur[k]? = some (Value.int .i64 l[k]) := fun k hk => by
      have h7 : (cur.toList.take (l.length * 1))[k]? = some (Value.int .i64 l[k]) := by rw [h6]; simp [hk]
      rw [List.getElem?_take_of_lt (by omega)] at h7
      simpa using h7
    have := RepT.list (S := (B ≤ ·)) (w := w) (l.map tInt) (some ⟨g, 0, none⟩) cap 1 (fun k => if h : k < l.length then Value.int .i64 l[k] else undef) (by simp; omega) Nat.one_pos (fun x hx => by obtain ⟨n, _, rfl⟩ := List.mem_map.1 hx; rfl)
      (fun _ => ⟨g, 0, rfl, h1, fun k hk => by
        have hk2 : k < l.length := by simpa using hk
        rw [Nat.zero_add, World.cell?, h2]
        simp only [hk2, dif_pos]
        exact hcell k hk2⟩)
      (fun k hk => by
        have hk2 : k < l.length := by simpa using hk
        simp only [hk2, dif_pos]; rfl)
      (fun k y hy => by
        rw [hfl, List.getElem?_map, Option.map_eq_some_iff] at hy
        obtain ⟨n, hn, rfl⟩ := hy
        obtain ⟨hk2, rfl⟩ := List.getElem?_eq_some_iff.1 hn
        simp only [hk2, dif_pos]
        exact .int _ _) (by simp; omega)
    rw [hlen] at this
    exact this

def ofErr (base n : Int) : Int := if radix base = 0 ∨ n < 0 ∨ 1099511627776 < n then 1 else 0

open Classical in
/-- The digits of a number, nothing of what is none. -/
noncomputable def ofL (base n : Int) : List Int := if h : ofErr base n = 0 ∧ ∃ l, IsOf base n l then Classical.choose h.2 else []
section
variable {G : World → Prop}
end
end Go.Proofs.YtjidhaendndokaaDoor
namespace Go.Proofs.YtjidhaendndokaaDoor
open Go.RowKit

theorem repNil (S : Nat → Prop) (w : World) : RepT S w (.list []) (.slice none 0 0) :=
  .list [] none 0 1 (fun _ => undef) (Nat.zero_le _) Nat.one_pos (fun x hx => by simp at hx) (fun h => (h rfl).elim) (fun k hk => by simp at hk) (fun k y hy => by simp [flat] at hy) (Nat.le_refl _)
theorem flat_one : ∀ {l : List T}, (∀ x ∈ l, x.cells = [x]) → flat l = l
  | [], _ => rfl
  | x :: t, h => by
    have := flat_one fun y hy => h y (List.mem_cons_of_mem x hy)
    simp only [flat, List.flatMap_cons] at this ⊢
    rw [this, h x List.mem_cons_self]; rfl
/-- What the call made and owns, as data. -/
theorem repOwn {w : World} {B e n : Nat} {v : Value} {xs : List Value} {l : List T} (h : w.ownsRow B e 1 v n xs) (hl : l.length = n) (hc : ∀ x ∈ l, x.cells = [x]) (h1 : ∀ v ∈ xs, v.oneCell' = true)
    (hx : ∀ (i : Nat) (x : Value) (y : T), l[i]? = some y → xs[i]? = some x → RepT (B ≤ ·) w y x) : RepT (B ≤ ·) w (.list l) v := by
  subst hl
  have hxl : xs.length = l.length := by have := h.1; omega
  rcases h.2 with ⟨rfl, h0⟩ | ⟨g, cap, cur, rfl, h2, h3, h4, h5, h6, h7⟩
  · obtain rfl : l = [] := List.length_eq_zero_iff.1 h0
    exact repNil _ _
  · have hcell : ∀ k (hk : k < l.length), cur[k]? = some (xs[k]'(by omega)) := fun k hk => by
      have h8 : (cur.toList.take (l.length * 1))[k]? = some (xs[k]'(by omega)) := by rw [h7]; exact List.getElem?_eq_getElem _
      rw [List.getElem?_take_of_lt (by omega)] at h8
      simpa using h8
    exact .list l (some ⟨g, 0, none⟩) cap 1 (fun k => xs.getD k undef) (by omega) Nat.one_pos (fun x hx => by rw [hc x hx]; rfl)
      (fun _ => ⟨g, 0, rfl, h2, fun k hk => by
        have hk2 : k < l.length := by omega
        rw [Nat.zero_add, World.cell?, h3]
        have := hcell k hk2
        simp only [List.getD_eq_getElem?_getD, List.getElem?_eq_getElem (show k < xs.length by omega), Option.getD_some]
        exact this⟩)
      (fun k hk => by
        simp only [List.getD_eq_getElem?_getD, List.getElem?_eq_getElem (show k < xs.length by omega), Option.getD_some]
        exact h1 _ (List.getElem_mem _))
      (fun k y hy => by
        rw [flat_one hc] at hy
        have hk := (List.getElem?_eq_some_iff.1 hy).1
        simp only [List.getD_eq_getElem?_getD, List.getElem?_eq_getElem (show k < xs.length by omega), Option.getD_some]
        exact hx k _ y hy (List.getElem?_eq_getElem _)) (by omega)

set_option maxHeartbeats 4000000 in
set_option maxRecDepth 100000 in
theorem split_callsB (S : Nat → Prop) (base t : Int) (v : Value) (l : List Int) (w : World) (hS : ∀ b, S b → b < w.heap.size) (hd : Ints S w v l) :
    Calls Tryd.prog 42 #[.int .i64 base, .int .i64 t, v] w
      (RetQ (fun v w' => ∃ x, v = .tuple #[x, errV 26 (splitErr base t l)] ∧ Intss (w.heap.size ≤ ·) w' x (splitOf base t l) ∧ RepT (w.heap.size ≤ ·) w' (tIntss (splitOf base t l)) x) w) := by
  obtain ⟨a, cap, rfl, hlen, hcell⟩ := hd
  by_cases h0 : manyErr base t = 0
  · have E0 := Lib.hid (show errV 26 (manyErr base t) = .nilIface by rw [h0]; rfl)
    by_cases h60 : 60 < l.length
    · have R := Lib.hid (splitErr_long h0 h60)
      have h60' : (60 : Int) < l.length := by omega
      clear h0 h60
      go_enter Tryd.func42, Tryd.ntmps42
      go_wp2_with (go_at_call 33; refine (Many_calls _ _ _).mono ?_; rintro e w' ⟨rfl, rfl⟩; rw [E0.out])
      go_ret2
      exact RetQ.mk ⟨_, by rw [R.out.1]; rfl, by rw [R.out.2]; exact Sl.nil _ _ _, by rw [R.out.2]; exact repNil _ _⟩ (Below.refl _ _)
    · have HL := Lib.hid (show ∀ i (hi : i < l.length), (l[i] < 0 ∨ manyOf base t ≤ l[i]) → splitErr base t l = 1 ∧ splitOf base t l = [] from fun i hi hx => splitErr_letter h0 h60 hi hx)
      have HO := Lib.hid (show (∀ i (hi : i < l.length), ¬ (l[i] < 0 ∨ manyOf base t ≤ l[i])) → splitErr base t l = 0 ∧ splitOf base t l = (List.range t.toNat).map (trackOf (radix base) t.toNat l) from splitErr_ok h0 h60)
      have h60' : ¬ (60 : Int) < l.length := by omega
      have HM := Lib.hid h0
      obtain ⟨h1, ht0, h5, _, _⟩ := many_ok h0
      obtain ⟨r2, r6⟩ := radix_two h1
      obtain ⟨t, rfl⟩ := Int.eq_ofNat_of_zero_le ht0
      simp only [Int.toNat_natCast] at HO
      have ht5 : t ≤ 5 := by omega
      clear h0 h1 h60
      go_enter Tryd.func42, Tryd.ntmps42
      go_wp2_with fail
      refine (Many_calls _ _ _).mono ?_; rintro e w' ⟨rfl, rfl⟩; rw [E0.out]
      go_wp2_with (at_make; go_loud (refine makeInts rfl _ rfl t rfl ?c1 ?_))
      case c1 => omega
      intro w1 hown hgrow
      have HB := Lib.hid (below_of_grown hgrow (by simp)); clear hgrow
      have Hown := Lib.hid hown; clear hown
      go_wp2_with fail
      go_loopw [34] (fun i wr => ∃ (k : Nat) (xs : List Value), k ≤ l.length ∧ i = .int .i64 k ∧ Hid (∀ i (hi : i < l.length), i < k → ¬ (l[i] < 0 ∨ manyOf base t ≤ l[i])) ∧
        Hid (wr.ownsRow w.heap.size 38 1 (.slice (some ⟨w.heap.size, 0, none⟩) t t) t xs) ∧ Hid (RowsOwn wr w.heap.size xs (trackOf (radix base) t (l.take k))) ∧ Hid (Below w.heap.size w wr)) (fun i _ => l.length - (intOf i).toNat)
      case atStart => exact ⟨0, _, by omega, rfl, fun i hi h => by omega, Hown.out, (RowsOwn.start _ _ _).congr (fun i hi => by simp [trackOf]), HB.out⟩
      case round =>
        obtain ⟨k, xs, hk, rfl, HA, HO1, HR, HB1⟩ := hrel
        have hsz : w.heap.size < wr.heap.size := (HO1.out.lt w.heap.size rfl).2
        have hxl : xs.length = t := by have := HO1.out.1; simpa using this
        have Hxl := Lib.hid hxl; clear hxl
        by_cases hlt : k < l.length
        · obtain ⟨b, off, z, ha, hSb, hc, hx, hi⟩ := hcell k hlt
          subst ha hx
          have hc' := (HB1.out.cell (p := ⟨b, off + k, none⟩) (hS b hSb)).trans hc
          by_cases hbad : l[k] < 0 ∨ manyOf base t ≤ l[k]
          · have R := Lib.hid (HL.out k hlt hbad)
            have R2 := Lib.hid (unpackErr_letter HM.out hbad)
            clear hbad
            go_wp2_with fail
            refine (Unpack_calls _ _ _ _).mono ?_
            rintro e w2 ⟨_, rfl, ⟨x2, rfl, _⟩, hb2⟩
            rw [R2.out.1, errV_ne _ (show (1 : Int) ≠ 0 by decide)]
            have HB2 := Lib.hid (HB1.out.trans (hb2.mono HB1.out.size)); clear hb2
            go_wp2
            go_ret2
            exact RetQ.mk ⟨_, by rw [R.out.1]; rfl, by rw [R.out.2]; exact Sl.nil _ _ _, by rw [R.out.2]; exact repNil _ _⟩ HB2.out
          · have R2 := Lib.hid (unpackErr_ok HM.out hbad)
            simp only [Int.toNat_natCast] at R2
            have Hbad := Lib.hid hbad; clear hbad
            go_wp2_with fail
            refine (Unpack_calls _ _ _ _).mono ?_
            rintro e w2 ⟨_, rfl, ⟨x2, rfl, hd2⟩, hb2⟩
            rw [R2.out.1, errV_zero]
            rw [R2.out.2] at hd2
            have hdl : (unpack (radix base) t l[k]).length = t := unpack_length _ _ _
            have HS2 := Lib.hid (show ∀ j, trackOf (radix base) t (l.take (k + 1)) j = trackOf (radix base) t (l.take k) j ++ [(unpack (radix base) t l[k]).getD j 0] from fun j => by
              rw [List.take_succ_eq_append_getElem hlt, trackOf_snoc])
            generalize hD : unpack (radix base) t l[k] = D at *
            have HDe := Lib.hid hD; clear hD
            have Hdl := Lib.hid hdl; clear hdl
            obtain ⟨pd, cd, rfl⟩ := Sl.form hd2
            rw [Hdl.out] at hd2 ⊢
            have HO2 := Lib.hid (HO1.out.kept (w' := w2) (row := none) ⟨hb2.os, hb2.tape, hb2.output, hb2.size, fun k hk _ => hb2.block k hk⟩ (by simp [Value.ownBlock]))
            have HR2 := Lib.hid (HR.out.keep (w' := w2) fun k _ hk => hb2.block k hk)
            have HB2 := Lib.hid (HB1.out.trans (hb2.mono HB1.out.size))
            have Hd2 := Lib.hid (show Ints (Clear xs w.heap.size) w2 (.slice pd t cd) D from hd2.keep fun b hb hlt => ⟨rfl, by omega, fun i hi hbi => by have := ((HR.out.own i hi).lt b hbi).2; omega⟩)
            clear hd2 hb2 HO1 HR HB1 hc' hc hSb hi
            go_wp2_with fail
            go_loopw [50] (fun i wr2 => ∃ (q : Nat) (ys : List Value), q ≤ t ∧ i = .int .i64 q ∧ Hid (ys.length = t) ∧ 
              Hid (wr2.ownsRow w.heap.size 38 1 (.slice (some ⟨w.heap.size, 0, none⟩) t t) t ys) ∧ Hid (RowsOwn wr2 w.heap.size ys (fun i => if i < q then trackOf (radix base) t (l.take (k + 1)) i else trackOf (radix base) t (l.take k) i)) ∧
              Hid (Ints (Clear ys w.heap.size) wr2 (.slice pd t cd) D) ∧ Hid (Below w.heap.size w wr2)) (fun i _ => t - (intOf i).toNat)
            case atStart => exact ⟨0, xs, by omega, rfl, Hxl.out, HO2.out, HR2.out.congr (fun i _ => by simp), Hd2.out, HB2.out⟩
            case round =>
              obtain ⟨q, ys, hq, rfl, Hyl, HO3, HR3, Hd3, HB3⟩ := hrel
              have hsz3 : w.heap.size < wr.heap.size := (HO3.out.lt w.heap.size rfl).2
              by_cases hqt : q < t
              · have hqy : q < ys.length := by have := Hyl.out; omega
                obtain ⟨b3, off3, z3, hpd, hcl3, hc3, hz3, hi3⟩ := Hd3.out.at q (by have := Hdl.out; omega)
                subst hpd hz3
                have hown := HR3.out.own q hqy
                simp only [Nat.lt_irrefl, if_false] at hown
                have hlenq : (trackOf (radix base) t (l.take k) q).length = k := by simp [trackOf]; omega
                rw [hlenq] at hown
                obtain ⟨pa, ca, hyq⟩ := own_form hown
                rw [hyq] at hown
                have hcellq : wr.cell? ⟨w.heap.size, q, none⟩ = some (.slice pa k ca) := by
                  rw [HO3.out.cellAt q (by omega), List.getElem?_eq_getElem hqy, hyq]
                have Hyq := Lib.hid hyq
                have Hlenq := Lib.hid hlenq
                have hk60 : k ≤ 60 := by omega
                generalize hx3 : D[q]'(by have := Hdl.out; omega) = x3 at *
                have Hx3 := Lib.hid hx3
                clear hyq hlenq hx3
                go_wp2_with (at_builtin; go_loud (refine appInt rfl _ _ rfl (w.heap.size + 1) _ _ _ rfl hown _ rfl rfl ?c1 ?c2 ?_))
                case c1 => omega
                case c2 => omega
                intro v' w' hown' hgrow hwh
                have hO4 := HO3.out.kept hgrow (by right; intro e; have := hown.lt _ e.symm; dsimp only at this; omega)
                have hR4 := HR3.out.append q hqy v' x3 (by simp only [Nat.lt_irrefl, if_false]; rw [Hlenq.out]; exact hown') (by rw [Hyq.out]; exact hgrow) (by rw [Hyq.out]; exact hwh)
                have hcell4 : w'.cell? ⟨w.heap.size, q, none⟩ = some (.slice pa k ca) := by
                  rw [hO4.cellAt q (by omega), List.getElem?_eq_getElem hqy, Hyq.out]
                have hfr4 := hO4.frozenAt q
                have hB4 := HB3.out.grown hgrow HB3.out.size (fun j hj => by have := (hown.lt j hj).1; omega)
                have hd4 : Ints (Clear (ys.set q v') w.heap.size) w' (.slice (some ⟨b3, off3, none⟩) t cd) D := Hd3.out.keep fun b hb hlt => by
                  refine ⟨hgrow.block b hlt fun e => hb.2 q hqy (by rw [Hyq.out]; exact e.symm), hb.1, fun i hi hbi => ?_⟩
                  by_cases e : i = q
                  · subst e
                    rw [List.getElem_set_self] at hbi
                    rcases hwh with h | h
                    · exact hb.2 i hqy (by rw [Hyq.out, ← h]; exact hbi)
                    · rw [h] at hbi; simp at hbi; omega
                  · rw [List.getElem_set_ne (Ne.symm e)] at hbi
                    exact hb.2 i (by simpa using hi) hbi
                obtain ⟨pv, cv, rfl⟩ := own_form hown'
                have HO4 := Lib.hid hO4
                have HR4 := Lib.hid hR4
                have HB4 := Lib.hid hB4
                have Hd4 := Lib.hid hd4
                clear hO4 hR4 hB4 hd4 hown' hgrow hwh hown
                go_wp2_with fail
                go_roundw
                case rel =>
                  refine ⟨q + 1, ys.set q (.slice pv (k + 1) cv), by omega, by go_num, by have := Hyl.out; simp [Hid]; omega, (HO4.out.stored q _).1, ?_, ?_, HB4.out.setCell (Nat.le_refl _) _⟩
                  · refine (HR4.out.keep (w' := w'.setCell ⟨w.heap.size, q, none⟩ (.slice pv (k + 1) cv)) fun j hj _ => Below.heap_setCell _ _ _ _ (by show j ≠ w.heap.size; omega)).congr fun i hi => ?_
                    by_cases e : i = q
                    · subst e
                      rw [if_pos rfl, if_neg (by omega), if_pos (by omega), HS2.out, getD_lt (by have := Hdl.out; omega), Hx3.out]
                    · rw [if_neg e]
                      by_cases e2 : i < q
                      · rw [if_pos e2, if_pos (by omega)]
                      · rw [if_neg e2, if_neg (by omega)]
                  · exact Hd4.out.keep fun b hb _ => ⟨Below.heap_setCell _ _ _ _ hb.1, hb⟩
                case measure => (simp [intOf] <;> omega)
              · obtain rfl : q = t := by omega
                go_wp2_with fail
                go_roundw
                case rel =>
                  refine ⟨k + 1, ys, by omega, by go_num, fun i hi h => ?_, HO3.out, HR3.out.congr (fun i hi => by rw [if_pos (by have := Hyl.out; omega)]), HB3.out⟩
                  by_cases e : i < k
                  · exact HA.out i hi e
                  · obtain rfl : i = k := by omega
                    exact Hbad.out
                case measure => (simp [intOf] <;> omega)
        · obtain rfl : k = l.length := by omega
          have R := Lib.hid (HO.out fun i hi => HA.out i hi hi)
          go_wp2_with fail
          go_ret2
          have HI : ∀ i, ∀ x ∈ trackOf (radix base) t l i, I64 x := fun i x hx => by
            obtain ⟨y, _, rfl⟩ := List.mem_map.1 hx
            rw [List.getD_eq_getElem?_getD]
            rcases hy : (unpack (radix base) t y)[i]? with _ | z
            · exact ⟨by decide, by decide⟩
            · have := unpack_ok r2 _ _ z (List.mem_of_getElem? hy)
              exact ⟨by simp; omega, by simp; omega⟩
          refine RetQ.mk ⟨_, by rw [R.out.1]; rfl, ?_, ?_⟩ HB1.out
          · rw [R.out.2]
            refine Sl.of_own HO1.out _ (by simp) fun i h1 h2 => ?_
            have := HR.out.own i h1
            rw [List.take_length] at this
            simp only [List.getElem_map, List.getElem_range]
            exact (Ints.of_own this rfl (HI i)).keep fun b hb _ => ⟨rfl, by omega⟩
          · rw [R.out.2]
            refine repOwn HO1.out (l := ((List.range t).map (trackOf (radix base) t l)).map tInts) (by simp) (fun x hx => by obtain ⟨y, _, rfl⟩ := List.mem_map.1 hx; rfl) (fun v hv => ?_) fun i x y hy hx => ?_
            · obtain ⟨i, hi, rfl⟩ := List.mem_iff_getElem.1 hv
              obtain ⟨a, c, e⟩ := own_form (HR.out.own i hi)
              rw [e]; rfl
            · obtain ⟨hi, rfl⟩ := List.getElem?_eq_some_iff.1 hx
              have := HR.out.own i hi
              rw [List.take_length] at this
              simp only [List.getElem?_map, Option.map_eq_some_iff, List.getElem?_range] at hy
              obtain ⟨q, ⟨j, hj, rfl⟩, rfl⟩ := hy
              obtain ⟨_, rfl⟩ := List.getElem?_eq_some_iff.1 hj
              simp only [List.getElem_range]
              exact (repOwnInts this rfl (HI _)).mono fun b hb => by omega
  · have R := Lib.hid (splitErr_many (l := l) h0)
    have E := Lib.hid (errV_ne 26 h0)
    clear h0
    go_enter Tryd.func42, Tryd.ntmps42
    go_wp2_with (go_at_call 33; refine (Many_calls _ _ _).mono ?_; rintro e w' ⟨rfl, rfl⟩; rw [E.out])
    go_ret2
    exact RetQ.mk ⟨_, by rw [R.out.1, E.out]; rfl, by rw [R.out.2]; exact Sl.nil _ _ _, by rw [R.out.2]; exact repNil _ _⟩ (Below.refl _ _)
end Go.Proofs.YtjidhaendndokaaDoor
namespace Go.Proofs.YtjidhaendndokaaDoor
open Go.RowKit

end Go.Proofs.YtjidhaendndokaaDoor
namespace Go.Proofs.YtjidhaendndokaaDoor
open Go.RowKit

section
variable {G : World → Prop} (hG : Lasting G)
include hG
end
end Go.Proofs.YtjidhaendndokaaDoor
namespace Go.Proofs.YtjidhaendndokaaDoor
open Go.RowKit

section
variable {G : World → Prop} (hG : Lasting G)
include hG
end
end Go.Proofs.YtjidhaendndokaaDoor
namespace Go.Proofs.YtjidhaendndokaaDoor
open Go.RowKit

/-- What a map from looks to classes holds. -/
def entries (κ : Int → ByteArray) (R : List Int) : List (T × T) := R.zipIdx.map fun p => (.str (κ p.1), tNat p.2)
section
variable {G : World → Prop} (hG : Lasting G)
include hG
end
end Go.Proofs.YtjidhaendndokaaDoor
namespace Go.Proofs.YtjidhaendndokaaDoor
open Go.RowKit

section
variable {G : World → Prop} (hG : Lasting G)
include hG
end
end Go.Proofs.YtjidhaendndokaaDoor
namespace Go.Proofs.YtjidhaendndokaaDoor
open Go.RowKit

section
variable {G : World → Prop} (hG : Lasting G)
include hG
end
end Go.Proofs.YtjidhaendndokaaDoor
namespace Go.Proofs.YtjidhaendndokaaDoor
open Go.RowKit

section
variable {G : World → Prop} (hG : Lasting G)
include hG
end
end Go.Proofs.YtjidhaendndokaaDoor
namespace Go.Proofs.YtjidhaendndokaaDoor

/-- It is the least automaton of a language. -/
structure IsLeast (a : GAuto) (n : Nat) (base tracks : Int) (L : List Nat → Bool) : Prop where
  base : a.base = base
  tracks : a.tracks = tracks
  least : Least n a.next a.ends L
theorem Least.not {n : Nat} {N : List (List Int)} {E : List Bool} {L : List Nat → Bool} (h : Least n N E L) : Least n N (E.map (!·)) fun w => !L w := by
  have key : ∀ k, k < N.length → (E.map (!·)).getD k false = !E.getD k false := fun k hk => by
    have := h.len
    rw [getD_lt (by simp; omega), getD_lt (by omega)]; simp
  have hrun : ∀ (w : List Nat) (s : Nat), s < N.length → Ltr n w → runN (fun k l => ((N.getD k []).getD l 0).toNat) s w < N.length := by
    intro w
    induction w with
    | nil => intro s hs _; exact hs
    | cons l w ih => intro s hs hw; exact ih _ (h.canon.lt s l hs (hw l List.mem_cons_self)) fun x hx => hw x (List.mem_cons_of_mem _ hx)
  refine ⟨by simp [h.len], h.row, h.pos, h.canon.m0, h.canon.lt, fun w hw => ?_, h.canon.rg, h.canon.reach, fun s t hs ht hh => h.canon.red s t hs ht fun w hw => ?_⟩
  · rw [key _ (hrun w 0 h.canon.m0 hw)]; exact congrArg _ (h.canon.lang w hw)
  · have := hh w hw
    rw [key _ (hrun w s hs hw), key _ (hrun w t ht hw)] at this
    simpa using this
end Go.Proofs.YtjidhaendndokaaDoor
namespace Go.Proofs.YtjidhaendndokaaDoor

section
variable {n n' m : Nat} {next : List (List Int)} {to : List Int}
end
theorem digitAt_ok {k : Int} (hk : 2 ≤ k) (t : Nat) (l : Int) (i : Nat) : 0 ≤ digitAt k t l i ∧ digitAt k t l i < k := by
  unfold digitAt
  by_cases h : i < (unpack k t l).length
  · rw [getD_lt h]; exact unpack_ok hk t l _ (List.getElem_mem h)
  · rw [List.getD_eq_getElem?_getD, List.getElem?_eq_none (by omega)]
    simp only [Option.getD_none]; omega
end Go.Proofs.YtjidhaendndokaaDoor
namespace Go.Proofs.YtjidhaendndokaaDoor
open Go.RowKit

theorem ints_of_rep {S : Nat → Prop} {w : World} {l : List Int} {v : Value} (h : RepT S w (tInts l) v) (hI : I64s l) : Ints S w v l := by
  obtain ⟨a, cap, sz, xs, rfl, hm, h0, hf, ha, h1, hx⟩ := h.listInv
  have hlen : (l.map tInt).length = l.length := by simp
  have hfl : flat (l.map tInt) = l.map tInt := flat_one fun x hx => by obtain ⟨n, _, rfl⟩ := List.mem_map.1 hx; rfl
  rw [hlen] at hm ha h1 ⊢
  refine ⟨a, cap, rfl, by simp only [maxLen] at hm; omega, fun i hi => ?_⟩
  have hne : l.map tInt ≠ [] := by
    intro e
    have : (l.map tInt).length = 0 := by rw [e]; rfl
    omega
  have hsz : sz = 1 := by
    have := hf (tInt l[i]) (List.mem_map.2 ⟨_, List.getElem_mem hi, rfl⟩)
    simpa [tInt, T.cells] using this.symm
  subst hsz
  obtain ⟨b, off, rfl, hS, hc⟩ := ha hne
  have hxi := hx i (tInt l[i]) (by rw [hfl, List.getElem?_map, List.getElem?_eq_getElem hi]; rfl)
  exact ⟨b, off, xs i, rfl, hS, hc i (by omega), intInv hxi, hI _ (List.getElem_mem hi)⟩
theorem rep_err (S : Nat → Prop) (w : World) (e : Int) : RepT S w (tErr e) (errV 26 e) := by
  unfold tErr errV
  split
  · exact .nilI
  · exact .iface _ _ _ (.int _ _)
section
variable {G : World → Prop}
theorem split_snd (base t : Int) (l : List Int) (hl : I64s l) : Snd Tryd.prog G 42 [tInt base, tInt t, tInts l] (.tup [tIntss (splitOf base t l), tErr (splitErr base t l)]) := by
  refine ⟨enter_of Tryd.func42 rfl rfl, fun S w vs hG hs hr => ?_⟩
  obtain ⟨q⟩ := vs
  match q, hs with
  | [v0, v1, v2], _ =>
    obtain rfl := intInv (hr 0 _ v0 rfl rfl)
    obtain rfl := intInv (hr 1 _ v1 rfl rfl)
    have h2 := ints_of_rep ((hr 2 _ v2 rfl rfl).keep (S' := fun b => S b ∧ b < w.heap.size) ⟨Nat.le_refl _, fun b hb hlt => ⟨rfl, hb, hlt⟩⟩) hl
    refine (split_callsB _ base t v2 l w (fun b hb => hb.2) h2).mono ?_
    rintro e w' ⟨v, rfl, ⟨x, rfl, _, hx⟩, hb⟩
    refine ⟨_, rfl, ?_, hb⟩
    refine .tup _ _ rfl fun k z q a b => ?_
    match k, a, b with
    | 0, a, b => cases a; cases b; exact hx.mono fun b hb => .inr hb
    | 1, a, b => cases a; cases b; exact rep_err _ _ _
theorem Value_snd (base : Int) (l : List Int) (hl : I64s l) : Snd Tryd.prog G 43 [tInt base, tInts l] (.tup [tInt (valOf base l), tErr (valErr base l)]) := by
  refine ⟨enter_of Tryd.func43 rfl rfl, fun S w vs hG hs hr => ?_⟩
  obtain ⟨q⟩ := vs
  match q, hs with
  | [v0, v1], _ =>
    obtain rfl := intInv (hr 0 _ v0 rfl rfl)
    have h2 := ints_of_rep (hr 1 _ v1 rfl rfl) hl
    refine (Value_calls _ base v1 l w h2).mono ?_
    rintro e w' ⟨rfl, rfl⟩
    refine ⟨_, rfl, ?_, Below.refl _ _⟩
    refine .tup _ _ rfl fun k z q a b => ?_
    match k, a, b with
    | 0, a, b => cases a; cases b; exact .int _ _
    | 1, a, b => cases a; cases b; exact rep_err _ _ _
theorem trackOf_i64 {base : Int} (t : Nat) (w : List Int) (hr : radix base ≠ 0) : ∀ r ∈ (List.range t).map (trackOf (radix base) t w), I64s r := fun r hr' x hx => by
  obtain ⟨i, _, rfl⟩ := List.mem_map.1 hr'
  obtain ⟨y, _, rfl⟩ := List.mem_map.1 hx
  have r2 := radix_two hr
  have := digitAt_ok r2.1 t y i
  unfold digitAt at this
  unfold I64; omega
theorem splitOf_i64 {base t : Int} {w : List Int} : ∀ r ∈ splitOf base t w, I64s r := fun r hr => by
  unfold splitOf at hr
  split at hr
  · rename_i h
    have hm : manyErr base t = 0 := by
      unfold splitErr at h
      split at h <;> omega
    exact trackOf_i64 _ _ (many_ok hm).1 r hr
  · simp at hr
variable (hG : Lasting G)
include hG
set_option maxHeartbeats 4000000 in
theorem Nums_snd (base t : Int) (w : List Int) (hw : I64s w) : Snd Tryd.prog G 30 [tInt base, tInt t, tInts w] (.tup [tInts (numsOf base t w), tErr (numsErr base t w)]) := by
  have c1 := split_snd (G := G) base t w hw
  refine snd_of_body (n := 46) (tm := [(0, .t (tInt base)), (1, .t (tInt t)), (2, .t (tInts w))]) (rs := [.tmp 6, .tmp 7]) tt_ok Tryd.func30 rfl rfl rfl rfl rfl ?_
  by_cases h0 : splitErr base t w = 0
  · rw [h0] at c1
    have hI := @splitOf_i64 base t w
    have e1 : numsErr base t w = firstErr (valErr base) (splitOf base t w) := by unfold numsErr; rw [if_neg (by omega)]
    have e2 : numsOf base t w = if firstErr (valErr base) (splitOf base t w) = 0 then (splitOf base t w).map (valOf base) else [] := by unfold numsOf; rw [e1]
    have hl5 : (splitOf base t w).length ≤ 5 := by
      have hm : manyErr base t = 0 := by
        have h := h0
        unfold splitErr at h
        split at h <;> omega
      have := many_ok hm
      unfold splitOf
      rw [if_pos h0]
      simp
      omega
    rw [e1, e2]
    generalize splitOf base t w = rows at *
    have htb := Tab.cons c1 Tab.nil
    repeat' (first | (with_reducible first | apply w1 | apply w2 | apply w3 | apply w4 | apply w5 | apply w6 | apply w7 | apply w8 | apply w9 | apply wa | apply wb | apply wc) | ((with_reducible apply wd); focus decide) | ((with_reducible apply we); focus exact rfl) | ((with_reducible apply wf); focus exact rfl) | ((first | (with_reducible apply SW_run tt_ok hG htb) | ((with_reducible apply SW_draw rfl tt_ok hG htb); (focus kernel_rfl); focus simp only [List.range, List.range.loop, List.size_toArray, List.length_cons, List.length_nil, Nat.reduceAdd])); focus ((repeat' (first | (with_reducible first | exact wg | exact wh) | ((with_reducible first | apply wi | apply wj); focus (simp (discharger := omega) only [go_sem, tErr, simprocAttr]; with_reducible rfl)))); done)))
    clear htb
    refine SW_loop (fun mm s => ∃ (j : Nat) (ot : List T), mm = rows.length - j ∧ s = ⟨46, [(0, .t (tInt base)), (10, .sref 0), (25, .t (tIntss rows)), (26, .t (tInt rows.length)), (27, .t (tNat j))], [.row 3 1 false ot]⟩ ∧
        ot = ((rows.take j).map (valOf base)).map tInt ∧ j ≤ rows.length ∧ ∀ i (hi : i < rows.length), i < j → valErr base rows[i] = 0) rows.length
      ⟨_, Norm.headS (own := [(10, 3, 1, false)]) (keep := [0, 10, 25, 26, 27]) (by refine ⟨?_, ?_⟩; (simp (discharger := omega) only [go_sem, simprocAttr]; with_reducible rfl); refine ⟨?_, ?_, ?_, ?_⟩ <;> (simp only [go_sem, simprocAttr]; with_reducible rfl)), 0, _, rfl, rfl, by simp, Nat.zero_le _, fun i hi h => by omega⟩ ?_
    rintro mm s ⟨j, ot, rfl, rfl, hot, hj, hA⟩
    have hol : ot.length = j := by rw [hot]; simp; omega
    by_cases hlt : j < rows.length
    · obtain ⟨d, hd⟩ : ∃ d, rows[j]! = d := ⟨_, rfl⟩
      have hat := bang_at hd hlt
      have cV := Value_snd (G := G) base d (hI d (bang_mem hd hlt))
      have htb := Tab.cons cV Tab.nil
      by_cases hv : valErr base d = 0
      · rw [hv] at cV htb
        have htk := take_next hd hlt
        generalize hvE : valOf base d = v at *
        repeat' (first | (with_reducible first | apply w1 | apply w2 | apply w3 | apply w4 | apply w5 | apply w6 | apply w7 | apply w8 | apply w9 | apply wa | apply wb | apply wc) | ((with_reducible apply wd); focus decide) | ((with_reducible apply we); focus exact rfl) | ((with_reducible apply wf); focus exact rfl) | ((first | (with_reducible apply SW_run tt_ok hG htb) | ((with_reducible apply SW_draw rfl tt_ok hG htb); (focus kernel_rfl); focus simp only [List.range, List.range.loop, List.size_toArray, List.length_cons, List.length_nil, Nat.reduceAdd])); focus ((repeat' (first | (with_reducible first | exact wg | exact wh) | ((with_reducible first | apply wi | apply wj); focus (simp (discharger := omega) only [go_sem, tErr, hd, simprocAttr]; with_reducible rfl)))); done)))
        exact ⟨rows.length - (j + 1), _, by omega, Norm.headS (own := [(10, 3, 1, false)]) (keep := [0, 10, 25, 26, 27]) (by refine ⟨?_, ?_⟩; (simp (discharger := omega) only [go_sem, simprocAttr]; with_reducible rfl); refine ⟨?_, ?_, ?_, ?_⟩ <;> (simp only [go_sem, simprocAttr]; with_reducible rfl)), j + 1, _, rfl, rfl, by rw [htk, List.map_append, List.map_append, hot, ← hvE]; rfl, by omega, fun i hi h => by
          by_cases e : i = j
          · subst e; rw [hat]; exact hv
          · exact hA i hi (by omega)⟩
      · have hf := firstErr_at (f := valErr base) hlt (fun i hi h => hA i hi h) (by rw [hat]; exact hv)
        rw [hat] at hf
        rw [hf, if_neg hv]
        generalize valErr base d = f at *
        generalize valOf base d = v at *
        repeat' (first | (with_reducible first | apply w1 | apply w2 | apply w3 | apply w4 | apply w5 | apply w6 | apply w7 | apply w8 | apply w9 | apply wa | apply wb | apply wc) | ((with_reducible apply wd); focus decide) | ((with_reducible apply we); focus exact rfl) | ((with_reducible apply wf); focus exact rfl) | ((first | (with_reducible apply SW_run tt_ok hG htb) | ((with_reducible apply SW_draw rfl tt_ok hG htb); (focus kernel_rfl); focus simp only [List.range, List.range.loop, List.size_toArray, List.length_cons, List.length_nil, Nat.reduceAdd])); focus ((repeat' (first | (with_reducible first | exact wg | exact wh) | ((with_reducible first | apply wi | apply wj); focus (simp (discharger := omega) only [go_sem, tErr, hd, hv, simprocAttr]; with_reducible rfl)))); done)))
        exact (by simp (discharger := omega) only [go_sem, tErr, hv, simprocAttr])
    · obtain rfl : j = rows.length := by omega
      rw [List.take_length] at hot
      have hz : firstErr (valErr base) rows = 0 := firstErr_zero.2 fun r hr => by
        obtain ⟨i, hi, rfl⟩ := List.mem_iff_getElem.1 hr
        exact hA i hi hi
      rw [hz, if_pos rfl]
      generalize rows.map (valOf base) = out at *
      subst hot
      have htb : Tab.ok Tryd.prog G [] := Tab.nil
      repeat' (first | (with_reducible first | apply w1 | apply w2 | apply w3 | apply w4 | apply w5 | apply w6 | apply w7 | apply w8 | apply w9 | apply wa | apply wb | apply wc) | ((with_reducible apply wd); focus decide) | ((with_reducible apply we); focus exact rfl) | ((with_reducible apply wf); focus exact rfl) | ((first | (with_reducible apply SW_run tt_ok hG htb) | ((with_reducible apply SW_draw rfl tt_ok hG htb); (focus kernel_rfl); focus simp only [List.range, List.range.loop, List.size_toArray, List.length_cons, List.length_nil, Nat.reduceAdd])); focus ((repeat' (first | (with_reducible first | exact wg | exact wh) | ((with_reducible first | apply wi | apply wj); focus (simp (discharger := omega) only [go_sem, simprocAttr]; with_reducible rfl)))); done)))
      exact (by simp (discharger := omega) only [go_sem, tErr, simprocAttr])
  · have e1 : numsErr base t w = splitErr base t w := by unfold numsErr; rw [if_pos h0]
    have e2 : numsOf base t w = [] := by unfold numsOf; rw [e1, if_neg h0]
    rw [e1, e2]
    generalize splitErr base t w = f at *
    generalize splitOf base t w = rows at *
    have htb := Tab.cons c1 Tab.nil
    repeat' (first | (with_reducible first | apply w1 | apply w2 | apply w3 | apply w4 | apply w5 | apply w6 | apply w7 | apply w8 | apply w9 | apply wa | apply wb | apply wc) | ((with_reducible apply wd); focus decide) | ((with_reducible apply we); focus exact rfl) | ((with_reducible apply wf); focus exact rfl) | ((first | (with_reducible apply SW_run tt_ok hG htb) | ((with_reducible apply SW_draw rfl tt_ok hG htb); (focus kernel_rfl); focus simp only [List.range, List.range.loop, List.size_toArray, List.length_cons, List.length_nil, Nat.reduceAdd])); focus ((repeat' (first | (with_reducible first | exact wg | exact wh) | ((with_reducible first | apply wi | apply wj); focus (simp (discharger := omega) only [go_sem, tErr, h0, simprocAttr]; with_reducible rfl)))); done)))
    exact (by simp (discharger := omega) only [go_sem, tErr, h0, simprocAttr])
end
end Go.Proofs.YtjidhaendndokaaDoor
namespace Go.Proofs.YtjidhaendndokaaDoor

def walkOk (c : Nat → Nat → Bool) : Nat → List Nat → Bool
  | _, [] => true
  | s, l :: w => !c s l && walkOk c l w
def chain (c : Nat → Nat → Bool) : List Nat → Bool
  | [] => true
  | x :: w => walkOk c x w
/-- Two letters that have a digit 1 on the same track, in base Fib. -/
def clash (base : Int) (t s l : Nat) : Bool := base == 1 && (List.range t).any fun k => digitAt (radix base) t (s : Int) k == 1 && digitAt (radix base) t (l : Int) k == 1
end Go.Proofs.YtjidhaendndokaaDoor
namespace Go.Proofs.YtjidhaendndokaaDoor

end Go.Proofs.YtjidhaendndokaaDoor
namespace Go.Proofs.YtjidhaendndokaaDoor
open Go.RowKit

section
variable {G : World → Prop} (hG : Lasting G)
include hG
theorem TrackOf_snd (base : Int) (t : Nat) (w : List Int) (k : Nat) (hr : radix base ≠ 0) (ht : t ≤ 5) (hw : ∀ l ∈ w, 0 ≤ l ∧ l ≤ 7776) (hk : k < t) (hwl : w.length ≤ 1000000) :
    Snd Tryd.prog G 29 [tInt base, tInt t, tInts w, tInt k] (tInts (w.map fun l => digitAt (radix base) t l k)) := by
  have htb : Tab.ok Tryd.prog G [] := Tab.nil
  refine snd_of_body (n := 29) (tm := [(0, .t (tInt base)), (1, .t (tInt t)), (2, .t (tInts w)), (3, .t (tInt k))]) (rs := [.tmp 8]) tt_ok Tryd.func29 rfl rfl rfl rfl rfl ?_
  repeat' (first | (with_reducible first | apply w1 | apply w2 | apply w3 | apply w4 | apply w5 | apply w6 | apply w7 | apply w8 | apply w9 | apply wa | apply wb | apply wc) | ((with_reducible apply wd); focus decide) | ((with_reducible apply we); focus exact rfl) | ((with_reducible apply wf); focus exact rfl) | ((first | (with_reducible apply SW_run tt_ok hG htb) | ((with_reducible apply SW_draw rfl tt_ok hG htb); (focus kernel_rfl); focus simp only [List.range, List.range.loop, List.size_toArray, List.length_cons, List.length_nil, Nat.reduceAdd])); focus ((repeat' (first | (with_reducible first | exact wg | exact wh) | ((with_reducible first | apply wi | apply wj); focus (simp (discharger := omega) only [go_sem, simprocAttr]; with_reducible rfl)))); done)))
  refine SW_loop (fun m s => ∃ (i : Nat) (ot : List T), m = w.length - i ∧ s = ⟨29, [(0, .t (tInt base)), (1, .t (tInt t)), (2, .t (tInts w)), (3, .t (tInt k)), (9, .sref 0), (10, .t (tInt i))], [.row 3 1 false ot]⟩ ∧ i ≤ w.length ∧ ot = ((w.map fun l => digitAt (radix base) t l k).take i).map tInt) w.length
    ⟨_, Norm.headS (own := [(9, 3, 1, false)]) (keep := [0, 1, 2, 3, 9, 10]) (by refine ⟨?_, ?_⟩; (simp (discharger := omega) only [go_sem, simprocAttr]; with_reducible rfl); refine ⟨?_, ?_, ?_, ?_⟩ <;> (simp only [go_sem, simprocAttr]; with_reducible rfl)), 0, _, rfl, rfl, Nat.zero_le _, by simp⟩ ?_
  rintro m s ⟨i, ot, rfl, rfl, hi, hot⟩
  have hol : ot.length = i := by rw [hot]; simp; omega
  by_cases hlt : i < w.length
  · obtain ⟨x, hx⟩ : ∃ x, w[i]! = x := ⟨_, rfl⟩
    have hxw := hw x (bang_mem hx hlt)
    clear htb
    have htb := Tab.cons (RDigitOf_snd hG base t x k hr ht hxw.1 hxw.2 hk) Tab.nil
    have htk : (w.map fun l => digitAt (radix base) t l k).take (i + 1) = (w.map fun l => digitAt (radix base) t l k).take i ++ [digitAt (radix base) t x k] := by
      rw [List.take_succ_eq_append_getElem (by simpa using hlt)]
      simp [bang_at hx hlt]
    generalize digitAt (radix base) t x k = y at *
    repeat' (first | (with_reducible first | apply w1 | apply w2 | apply w3 | apply w4 | apply w5 | apply w6 | apply w7 | apply w8 | apply w9 | apply wa | apply wb | apply wc) | ((with_reducible apply wd); focus decide) | ((with_reducible apply we); focus exact rfl) | ((with_reducible apply wf); focus exact rfl) | ((first | (with_reducible apply SW_run tt_ok hG htb) | ((with_reducible apply SW_draw rfl tt_ok hG htb); (focus kernel_rfl); focus simp only [List.range, List.range.loop, List.size_toArray, List.length_cons, List.length_nil, Nat.reduceAdd])); focus ((repeat' (first | (with_reducible first | exact wg | exact wh) | ((with_reducible first | apply wi | apply wj); focus (simp (discharger := omega) only [go_sem, hx, simprocAttr]; with_reducible rfl)))); done)))
    exact ⟨w.length - (i + 1), _, by omega, Norm.headS (own := [(9, 3, 1, false)]) (keep := [0, 1, 2, 3, 9, 10]) (by refine ⟨?_, ?_⟩; (simp (discharger := omega) only [go_sem, simprocAttr]; with_reducible rfl); refine ⟨?_, ?_, ?_, ?_⟩ <;> (simp only [go_sem, simprocAttr]; with_reducible rfl)), i + 1, _, rfl, rfl, by omega, by rw [htk, List.map_append, ← hot]; rfl⟩
  · obtain rfl : i = w.length := by omega
    rw [List.take_of_length_le (by simp)] at hot
    subst hot
    repeat' (first | (with_reducible first | apply w1 | apply w2 | apply w3 | apply w4 | apply w5 | apply w6 | apply w7 | apply w8 | apply w9 | apply wa | apply wb | apply wc) | ((with_reducible apply wd); focus decide) | ((with_reducible apply we); focus exact rfl) | ((with_reducible apply wf); focus exact rfl) | ((first | (with_reducible apply SW_run tt_ok hG htb) | ((with_reducible apply SW_draw rfl tt_ok hG htb); (focus kernel_rfl); focus simp only [List.range, List.range.loop, List.size_toArray, List.length_cons, List.length_nil, Nat.reduceAdd])); focus ((repeat' (first | (with_reducible first | exact wg | exact wh) | ((with_reducible first | apply wi | apply wj); focus (simp (discharger := omega) only [go_sem, simprocAttr]; with_reducible rfl)))); done)))
    exact (by simp (discharger := omega) only [go_sem, simprocAttr])
end
end Go.Proofs.YtjidhaendndokaaDoor
namespace Go.Proofs.YtjidhaendndokaaDoor
open Go.RowKit

section
variable {G : World → Prop}
theorem RValue_snd (base : Int) (l : List Int) (hl : I64s l) : Snd Tryd.prog G 28 [tInt base, tInts l] (.tup [tInt (valOf base l), tInt (valErr base l)]) := by
  refine ⟨enter_of Tryd.func28 rfl rfl, fun S w vs hG hs hr => ?_⟩
  obtain ⟨q⟩ := vs
  match q, hs with
  | [v0, v1], _ =>
    obtain rfl := intInv (hr 0 _ v0 rfl rfl)
    have h2 := ints_of_rep ((hr 1 _ v1 rfl rfl).keep (S' := fun b => S b ∧ b < w.heap.size) ⟨Nat.le_refl _, fun b hb hlt => ⟨rfl, hb, hlt⟩⟩) hl
    refine (RValue_calls _ base v1 l w (fun b hb => hb.2) h2).mono ?_
    rintro e w' ⟨rfl, hb⟩
    refine ⟨_, rfl, ?_, hb⟩
    refine .tup _ _ rfl fun k z q a b => ?_
    match k, a, b with
    | 0, a, b => cases a; cases b; exact .int _ _
    | 1, a, b => cases a; cases b; exact .int _ _
variable (hG : Lasting G)
include hG
set_option maxHeartbeats 4000000 in
theorem WordFault_snd (base t : Int) (w : List Int) : Snd Tryd.prog G 27 [tInt base, tInt t, tInts w] (tInt (splitErr base t w)) := by
  have cL := RLetters_snd hG base t
  refine snd_of_body (n := 41) (tm := [(0, .t (tInt base)), (1, .t (tInt t)), (2, .t (tInts w))]) (rs := [.tmp 6]) tt_ok Tryd.func27 rfl rfl rfl rfl rfl ?_
  by_cases hm : manyErr base t = 0
  rotate_left
  · have he : splitErr base t w = manyErr base t := if_pos hm
    rw [he]
    generalize manyErr base t = e at *
    generalize manyOf base t = n at *
    have htb := Tab.cons cL Tab.nil
    repeat' (first | (with_reducible first | apply w1 | apply w2 | apply w3 | apply w4 | apply w5 | apply w6 | apply w7 | apply w8 | apply w9 | apply wa | apply wb | apply wc) | ((with_reducible apply wd); focus decide) | ((with_reducible apply we); focus exact rfl) | ((with_reducible apply wf); focus exact rfl) | ((first | (with_reducible apply SW_run tt_ok hG htb) | ((with_reducible apply SW_draw rfl tt_ok hG htb); (focus kernel_rfl); focus simp only [List.range, List.range.loop, List.size_toArray, List.length_cons, List.length_nil, Nat.reduceAdd])); focus ((repeat' (first | (with_reducible first | exact wg | exact wh) | ((with_reducible first | apply wi | apply wj); focus (simp (discharger := omega) only [go_sem, hm, simprocAttr]; with_reducible rfl)))); done)))
    exact (by simp (discharger := omega) only [go_sem, simprocAttr])
  rw [hm] at cL
  obtain ⟨n, hn⟩ : ∃ n, manyOf base t = n := ⟨_, rfl⟩
  rw [hn] at cL
  have htb := Tab.cons cL Tab.nil
  by_cases hl : (w.length : Int) > 60
  · have he : splitErr base t w = 3 := by unfold splitErr; rw [if_neg (fun q => q hm), if_pos (by omega)]
    rw [he]
    have hl' := eq_true hl
    repeat' (first | (with_reducible first | apply w1 | apply w2 | apply w3 | apply w4 | apply w5 | apply w6 | apply w7 | apply w8 | apply w9 | apply wa | apply wb | apply wc) | ((with_reducible apply wd); focus decide) | ((with_reducible apply we); focus exact rfl) | ((with_reducible apply wf); focus exact rfl) | ((first | (with_reducible apply SW_run tt_ok hG htb) | ((with_reducible apply SW_draw rfl tt_ok hG htb); (focus kernel_rfl); focus simp only [List.range, List.range.loop, List.size_toArray, List.length_cons, List.length_nil, Nat.reduceAdd])); focus ((repeat' (first | (with_reducible first | exact wg | exact wh) | ((with_reducible first | apply wi | apply wj); focus (simp (discharger := omega) only [go_sem, hl', simprocAttr]; with_reducible rfl)))); done)))
    exact (by simp (discharger := omega) only [go_sem, simprocAttr])
  have he : splitErr base t w = if w.all (fun l => decide (0 ≤ l ∧ l < n)) then 0 else 1 := by unfold splitErr; rw [if_neg (fun q => q hm), if_neg (by omega), hn]
  obtain ⟨r, hr⟩ : ∃ r, splitErr base t w = r := ⟨_, rfl⟩
  rw [hr] at he ⊢
  repeat' (first | (with_reducible first | apply w1 | apply w2 | apply w3 | apply w4 | apply w5 | apply w6 | apply w7 | apply w8 | apply w9 | apply wa | apply wb | apply wc) | ((with_reducible apply wd); focus decide) | ((with_reducible apply we); focus exact rfl) | ((with_reducible apply wf); focus exact rfl) | ((first | (with_reducible apply SW_run tt_ok hG htb) | ((with_reducible apply SW_draw rfl tt_ok hG htb); (focus kernel_rfl); focus simp only [List.range, List.range.loop, List.size_toArray, List.length_cons, List.length_nil, Nat.reduceAdd])); focus ((repeat' (first | (with_reducible first | exact wg | exact wh) | ((with_reducible first | apply wi | apply wj); focus (simp (discharger := omega) only [go_sem, hl, simprocAttr]; with_reducible rfl)))); done)))
  refine SW_loop (fun mm st => ∃ i : Nat, mm = w.length - i ∧ st = ⟨41, [(2, .t (tInts w)), (7, .t (tInt n)), (9, .t (tNat i))], []⟩ ∧ i ≤ w.length ∧ ∀ j (hj : j < w.length), j < i → 0 ≤ w[j] ∧ w[j] < n) w.length
    ⟨_, Norm.headS (own := []) (keep := [2, 7, 9]) (by refine ⟨?_, ?_⟩; (simp (discharger := omega) only [go_sem, simprocAttr]; with_reducible rfl); refine ⟨?_, ?_, ?_, ?_⟩ <;> (simp only [go_sem, simprocAttr]; with_reducible rfl)), 0, rfl, rfl, Nat.zero_le _, fun j _ h => by omega⟩ ?_
  rintro mm st ⟨i, rfl, rfl, hi, hA⟩
  by_cases hlt : i < w.length
  · obtain ⟨x, hx⟩ : ∃ x, w[i]! = x := ⟨_, rfl⟩
    have hat := bang_at hx hlt
    have bad : ¬ (0 ≤ x ∧ x < n) → r = 1 := fun h => by
      rw [he, if_neg]
      intro q
      have := List.all_eq_true.1 q x (bang_mem hx hlt)
      exact h (of_decide_eq_true this)
    by_cases h0 : x < 0
    · rw [bad (by omega)]
      have h0' := eq_true h0
      repeat' (first | (with_reducible first | apply w1 | apply w2 | apply w3 | apply w4 | apply w5 | apply w6 | apply w7 | apply w8 | apply w9 | apply wa | apply wb | apply wc) | ((with_reducible apply wd); focus decide) | ((with_reducible apply we); focus exact rfl) | ((with_reducible apply wf); focus exact rfl) | ((first | (with_reducible apply SW_run tt_ok hG htb) | ((with_reducible apply SW_draw rfl tt_ok hG htb); (focus kernel_rfl); focus simp only [List.range, List.range.loop, List.size_toArray, List.length_cons, List.length_nil, Nat.reduceAdd])); focus ((repeat' (first | (with_reducible first | exact wg | exact wh) | ((with_reducible first | apply wi | apply wj); focus (simp (discharger := omega) only [go_sem, hx, h0', simprocAttr]; with_reducible rfl)))); done)))
      exact (by simp (discharger := omega) only [go_sem, simprocAttr])
    by_cases h1 : x ≥ n
    · rw [bad (by omega)]
      have h1' := eq_true h1
      repeat' (first | (with_reducible first | apply w1 | apply w2 | apply w3 | apply w4 | apply w5 | apply w6 | apply w7 | apply w8 | apply w9 | apply wa | apply wb | apply wc) | ((with_reducible apply wd); focus decide) | ((with_reducible apply we); focus exact rfl) | ((with_reducible apply wf); focus exact rfl) | ((first | (with_reducible apply SW_run tt_ok hG htb) | ((with_reducible apply SW_draw rfl tt_ok hG htb); (focus kernel_rfl); focus simp only [List.range, List.range.loop, List.size_toArray, List.length_cons, List.length_nil, Nat.reduceAdd])); focus ((repeat' (first | (with_reducible first | exact wg | exact wh) | ((with_reducible first | apply wi | apply wj); focus (simp (discharger := omega) only [go_sem, hx, h0, h1', simprocAttr]; with_reducible rfl)))); done)))
      exact (by simp (discharger := omega) only [go_sem, simprocAttr])
    repeat' (first | (with_reducible first | apply w1 | apply w2 | apply w3 | apply w4 | apply w5 | apply w6 | apply w7 | apply w8 | apply w9 | apply wa | apply wb | apply wc) | ((with_reducible apply wd); focus decide) | ((with_reducible apply we); focus exact rfl) | ((with_reducible apply wf); focus exact rfl) | ((first | (with_reducible apply SW_run tt_ok hG htb) | ((with_reducible apply SW_draw rfl tt_ok hG htb); (focus kernel_rfl); focus simp only [List.range, List.range.loop, List.size_toArray, List.length_cons, List.length_nil, Nat.reduceAdd])); focus ((repeat' (first | (with_reducible first | exact wg | exact wh) | ((with_reducible first | apply wi | apply wj); focus (simp (discharger := omega) only [go_sem, hx, h0, h1, simprocAttr]; with_reducible rfl)))); done)))
    exact ⟨w.length - (i + 1), _, by omega, Norm.headS (own := []) (keep := [2, 7, 9]) (by refine ⟨?_, ?_⟩; (simp (discharger := omega) only [go_sem, simprocAttr]; with_reducible rfl); refine ⟨?_, ?_, ?_, ?_⟩ <;> (simp only [go_sem, simprocAttr]; with_reducible rfl)), i + 1, rfl, rfl, by omega, fun j hj h => by
      by_cases e : j = i
      · subst e; rw [hat]; omega
      · exact hA j hj (by omega)⟩
  · have hz : r = 0 := by
      rw [he, if_pos]
      exact List.all_eq_true.2 fun x hx => by
        obtain ⟨j, hj, rfl⟩ := List.mem_iff_getElem.1 hx
        exact decide_eq_true (hA j hj (by omega))
    rw [hz]
    repeat' (first | (with_reducible first | apply w1 | apply w2 | apply w3 | apply w4 | apply w5 | apply w6 | apply w7 | apply w8 | apply w9 | apply wa | apply wb | apply wc) | ((with_reducible apply wd); focus decide) | ((with_reducible apply we); focus exact rfl) | ((with_reducible apply wf); focus exact rfl) | ((first | (with_reducible apply SW_run tt_ok hG htb) | ((with_reducible apply SW_draw rfl tt_ok hG htb); (focus kernel_rfl); focus simp only [List.range, List.range.loop, List.size_toArray, List.length_cons, List.length_nil, Nat.reduceAdd])); focus ((repeat' (first | (with_reducible first | exact wg | exact wh) | ((with_reducible first | apply wi | apply wj); focus (simp (discharger := omega) only [go_sem, simprocAttr]; with_reducible rfl)))); done)))
    exact (by simp (discharger := omega) only [go_sem, simprocAttr])
set_option maxHeartbeats 4000000 in
theorem NumsOf_snd (base : Int) (t : Nat) (w : List Int) : Snd Tryd.prog G 14 [tInt base, tInt t, tInts w] (.tup [tInts (numsOf base t w), tInt (numsErr base t w)]) := by
  have c1 := WordFault_snd hG base t w
  refine snd_of_body (n := 43) (tm := [(0, .t (tInt base)), (1, .t (tInt t)), (2, .t (tInts w))]) (rs := [.tmp 6, .tmp 7]) tt_ok Tryd.func14 rfl rfl rfl rfl rfl ?_
  by_cases h0 : splitErr base t w = 0
  rotate_left
  · have e1 : numsErr base t w = splitErr base t w := if_pos h0
    have e2 : numsOf base t w = [] := if_neg (by rw [e1]; exact h0)
    rw [e1, e2]
    generalize splitErr base t w = e at *
    have htb := Tab.cons c1 Tab.nil
    repeat' (first | (with_reducible first | apply w1 | apply w2 | apply w3 | apply w4 | apply w5 | apply w6 | apply w7 | apply w8 | apply w9 | apply wa | apply wb | apply wc) | ((with_reducible apply wd); focus decide) | ((with_reducible apply we); focus exact rfl) | ((with_reducible apply wf); focus exact rfl) | ((first | (with_reducible apply SW_run tt_ok hG htb) | ((with_reducible apply SW_draw rfl tt_ok hG htb); (focus kernel_rfl); focus simp only [List.range, List.range.loop, List.size_toArray, List.length_cons, List.length_nil, Nat.reduceAdd])); focus ((repeat' (first | (with_reducible first | exact wg | exact wh) | ((with_reducible first | apply wi | apply wj); focus (simp (discharger := omega) only [go_sem, h0, simprocAttr]; with_reducible rfl)))); done)))
    exact (by simp (discharger := omega) only [go_sem, simprocAttr])
  rw [h0] at c1
  have e1 : numsErr base t w = firstErr (valErr base) (splitOf base t w) := by unfold numsErr; rw [if_neg (by omega)]
  have e2 : numsOf base t w = if firstErr (valErr base) (splitOf base t w) = 0 then (splitOf base t w).map (valOf base) else [] := by unfold numsOf; rw [e1]
  have hm : manyErr base t = 0 := by
    have h := h0
    unfold splitErr at h
    split at h <;> omega
  obtain ⟨r0, _, t5, _, q5⟩ := many_ok hm
  have hI := @splitOf_i64 base t w
  have hwl : w.length ≤ 60 := by
    have h := h0
    unfold splitErr at h
    rw [if_neg (fun q => q hm)] at h
    split at h <;> omega
  have hwo : ∀ l ∈ w, 0 ≤ l ∧ l ≤ 7776 := fun l hl => by
    have h := h0
    unfold splitErr at h
    rw [if_neg (fun q => q hm), if_neg (by omega)] at h
    have p := many_ok hm
    by_cases hq : w.all (fun l => decide (0 ≤ l ∧ l < manyOf base t)) = true
    · have := of_decide_eq_true (List.all_eq_true.1 hq l hl)
      omega
    · rw [if_neg hq] at h; exact absurd h (by decide)
  have hrows : splitOf base t w = (List.range t).map (trackOf (radix base) t w) := by unfold splitOf; rw [if_pos h0, Int.toNat_natCast]
  have hrl : (splitOf base t w).length = t := by rw [hrows, List.length_map, List.length_range]
  have cT : ∀ k, k < t → Snd Tryd.prog G 29 [tInt base, tInt t, tInts w, tInt k] (tInts ((splitOf base t w)[k]!)) := fun k hk => by
    have c := TrackOf_snd hG base t w k r0 (by omega) hwo hk (by omega)
    have e : (splitOf base t w)[k]! = w.map fun l => digitAt (radix base) t l k := by
      rw [getElem!_pos _ k (by omega)]
      have : (splitOf base t w)[k]? = some (trackOf (radix base) t w k) := by rw [hrows, List.getElem?_map, List.getElem?_range hk]; rfl
      exact (List.getElem?_eq_some_iff.1 this).2
    rw [e]; exact c
  rw [e1, e2]
  clear e1 e2 hrows
  generalize splitOf base t w = rows at *
  have htb := Tab.cons c1 Tab.nil
  repeat' (first | (with_reducible first | apply w1 | apply w2 | apply w3 | apply w4 | apply w5 | apply w6 | apply w7 | apply w8 | apply w9 | apply wa | apply wb | apply wc) | ((with_reducible apply wd); focus decide) | ((with_reducible apply we); focus exact rfl) | ((with_reducible apply wf); focus exact rfl) | ((first | (with_reducible apply SW_run tt_ok hG htb) | ((with_reducible apply SW_draw rfl tt_ok hG htb); (focus kernel_rfl); focus simp only [List.range, List.range.loop, List.size_toArray, List.length_cons, List.length_nil, Nat.reduceAdd])); focus ((repeat' (first | (with_reducible first | exact wg | exact wh) | ((with_reducible first | apply wi | apply wj); focus (simp (discharger := omega) only [go_sem, simprocAttr]; with_reducible rfl)))); done)))
  clear htb
  refine SW_loop (fun mm s => ∃ (j : Nat) (ot : List T), mm = t - j ∧ s = ⟨43, [(0, .t (tInt base)), (1, .t (tNat t)), (2, .t (tInts w)), (9, .sref 0), (10, .t (tNat j))], [.row 3 1 false ot]⟩ ∧
      ot = ((rows.take j).map (valOf base)).map tInt ∧ j ≤ t ∧ ∀ i (hi : i < rows.length), i < j → valErr base rows[i] = 0) t
    ⟨_, Norm.headS (own := [(9, 3, 1, false)]) (keep := [0, 1, 2, 9, 10]) (by refine ⟨?_, ?_⟩; (simp (discharger := omega) only [go_sem, simprocAttr]; with_reducible rfl); refine ⟨?_, ?_, ?_, ?_⟩ <;> (simp only [go_sem, simprocAttr]; with_reducible rfl)), 0, _, rfl, rfl, by simp, Nat.zero_le _, fun i hi h => by omega⟩ ?_
  rintro mm s ⟨j, ot, rfl, rfl, hot, hj, hA⟩
  have hol : ot.length = j := by rw [hot]; simp; omega
  by_cases hlt : j < t
  · have cK := cT j hlt
    obtain ⟨d, hd⟩ : ∃ d, rows[j]! = d := ⟨_, rfl⟩
    have hat := bang_at hd (by omega)
    rw [hd] at cK
    have cV := RValue_snd (G := G) base d (hI d (bang_mem hd (by omega)))
    by_cases hv : valErr base d = 0
    · rw [hv] at cV
      have htk := take_next hd (by omega)
      generalize hvE : valOf base d = v at *
      have htb := Tab.cons cK (Tab.cons cV Tab.nil)
      repeat' (first | (with_reducible first | apply w1 | apply w2 | apply w3 | apply w4 | apply w5 | apply w6 | apply w7 | apply w8 | apply w9 | apply wa | apply wb | apply wc) | ((with_reducible apply wd); focus decide) | ((with_reducible apply we); focus exact rfl) | ((with_reducible apply wf); focus exact rfl) | ((first | (with_reducible apply SW_run tt_ok hG htb) | ((with_reducible apply SW_draw rfl tt_ok hG htb); (focus kernel_rfl); focus simp only [List.range, List.range.loop, List.size_toArray, List.length_cons, List.length_nil, Nat.reduceAdd])); focus ((repeat' (first | (with_reducible first | exact wg | exact wh) | ((with_reducible first | apply wi | apply wj); focus (simp (discharger := omega) only [go_sem, simprocAttr]; with_reducible rfl)))); done)))
      exact ⟨t - (j + 1), _, by omega, Norm.headS (own := [(9, 3, 1, false)]) (keep := [0, 1, 2, 9, 10]) (by refine ⟨?_, ?_⟩; (simp (discharger := omega) only [go_sem, simprocAttr]; with_reducible rfl); refine ⟨?_, ?_, ?_, ?_⟩ <;> (simp only [go_sem, simprocAttr]; with_reducible rfl)), j + 1, _, rfl, rfl, by rw [htk, List.map_append, List.map_append, hot, ← hvE]; rfl, by omega, fun i hi h => by
        by_cases e : i = j
        · subst e; rw [hat]; exact hv
        · exact hA i hi (by omega)⟩
    · have hf := firstErr_at (f := valErr base) (k := j) (by omega) (fun i hi h => hA i hi h) (by rw [hat]; exact hv)
      rw [hat] at hf
      rw [hf, if_neg hv]
      generalize valErr base d = f at *
      generalize valOf base d = v at *
      have htb := Tab.cons cK (Tab.cons cV Tab.nil)
      repeat' (first | (with_reducible first | apply w1 | apply w2 | apply w3 | apply w4 | apply w5 | apply w6 | apply w7 | apply w8 | apply w9 | apply wa | apply wb | apply wc) | ((with_reducible apply wd); focus decide) | ((with_reducible apply we); focus exact rfl) | ((with_reducible apply wf); focus exact rfl) | ((first | (with_reducible apply SW_run tt_ok hG htb) | ((with_reducible apply SW_draw rfl tt_ok hG htb); (focus kernel_rfl); focus simp only [List.range, List.range.loop, List.size_toArray, List.length_cons, List.length_nil, Nat.reduceAdd])); focus ((repeat' (first | (with_reducible first | exact wg | exact wh) | ((with_reducible first | apply wi | apply wj); focus (simp (discharger := omega) only [go_sem, hv, simprocAttr]; with_reducible rfl)))); done)))
      exact (by simp (discharger := omega) only [go_sem, simprocAttr])
  · have hjt : j = rows.length := by omega
    rw [hjt, List.take_length] at hot
    have hz : firstErr (valErr base) rows = 0 := firstErr_zero.2 fun r hr => by
      obtain ⟨i, hi, rfl⟩ := List.mem_iff_getElem.1 hr
      exact hA i hi (by omega)
    rw [hz, if_pos rfl]
    subst hot
    have htb : Tab.ok Tryd.prog G [] := Tab.nil
    repeat' (first | (with_reducible first | apply w1 | apply w2 | apply w3 | apply w4 | apply w5 | apply w6 | apply w7 | apply w8 | apply w9 | apply wa | apply wb | apply wc) | ((with_reducible apply wd); focus decide) | ((with_reducible apply we); focus exact rfl) | ((with_reducible apply wf); focus exact rfl) | ((first | (with_reducible apply SW_run tt_ok hG htb) | ((with_reducible apply SW_draw rfl tt_ok hG htb); (focus kernel_rfl); focus simp only [List.range, List.range.loop, List.size_toArray, List.length_cons, List.length_nil, Nat.reduceAdd])); focus ((repeat' (first | (with_reducible first | exact wg | exact wh) | ((with_reducible first | apply wi | apply wj); focus (simp (discharger := omega) only [go_sem, simprocAttr]; with_reducible rfl)))); done)))
    exact (by simp (discharger := omega) only [go_sem, simprocAttr])
end
end Go.Proofs.YtjidhaendndokaaDoor
namespace Go.Proofs.YtjidhaendndokaaDoor
open Go.RowKit

def aqCap : List SV := [.bptr 0 0, .bptr 1 0, .bptr 2 0, .bptr 3 0, .bptr 4 0, .bptr 5 0]
def aqObs (a : GAuto) (most : Int) (L : Nat) (wr : Bool) (w : List Int) (out : List (List Int)) : List Ob := [.box [.sref 6], .box [.t (tInt most)], .box [.sref 7], .box [.sref 8], .box [.t (tInt a.base), .t (tInt a.tracks), .t (tIntss a.next), .t (tBools a.ends)], .box [.fn 23 aqCap], .row 38 1 true (out.map tInts), .row 23 1 wr ((List.range (L + 1)).map fun k => tBools (canL a k)), .row 3 1 true (w.map tInt)]
/-- What the closure does. -/
def AqC (G : World → Prop) (a : GAuto) (most : Int) (L : Nat) (wr : Bool) (k : Nat) (s : Int) (w : List Int) (out : List (List Int)) : Prop :=
  SndC Tryd.prog G 23 (.t (tInt s) :: .t (tNat k) :: aqCap) (aqObs a most L wr w out) (.tup []) (aqObs a most L wr w (walkL a most k s w out))
theorem aq_pins {a : GAuto} {most : Int} {L : Nat} {wr : Bool} {w w' : List Int} {out out' : List (List Int)} (i : Nat) (l : List SV) (h : (aqObs a most L wr w out)[i]? = some (.box l)) : i ∈ [0, 1, 2, 3, 4, 5] ∧ ∃ l', (aqObs a most L wr w' out')[i]? = some (.box l') := by
  have := (List.getElem?_eq_some_iff.1 h).1
  have hi : i < 9 := this
  have hc : i = 0 ∨ i = 1 ∨ i = 2 ∨ i = 3 ∨ i = 4 ∨ i = 5 ∨ i = 6 ∨ i = 7 ∨ i = 8 := by omega
  rcases hc with rfl | rfl | rfl | rfl | rfl | rfl | rfl | rfl | rfl
  · exact ⟨by simp, _, rfl⟩
  · exact ⟨by simp, _, rfl⟩
  · exact ⟨by simp, _, rfl⟩
  · exact ⟨by simp, _, rfl⟩
  · exact ⟨by simp, _, rfl⟩
  · exact ⟨by simp, _, rfl⟩
  · simp [aqObs] at h
  · simp [aqObs] at h
  · simp [aqObs] at h
theorem aq_pins2 {a : GAuto} {most : Int} {L : Nat} {wr : Bool} {w : List Int} {out : List (List Int)} : ∀ i ∈ [0, 1, 2, 3, 4, 5], ∃ l, (aqObs a most L wr w out)[i]? = some (.box l) := fun i hi => by
  simp only [List.mem_cons, List.not_mem_nil, or_false] at hi
  rcases hi with rfl | rfl | rfl | rfl | rfl | rfl <;> exact ⟨_, rfl⟩
theorem aq_xren (k k2 : T) : ((SV.t k) :: (SV.t k2) :: aqCap).map (SV.ren (upto 9)) = (SV.t k) :: (SV.t k2) :: aqCap := rfl
theorem aq_pins4 {s' : St} {bs : Nat → Nat} (h0 : look s'.tmps 66 = some (.pin 0 (bs 0))) (h1 : look s'.tmps 67 = some (.pin 1 (bs 1))) (h2 : look s'.tmps 68 = some (.pin 2 (bs 2))) (h3 : look s'.tmps 69 = some (.pin 3 (bs 3))) (h4 : look s'.tmps 70 = some (.pin 4 (bs 4))) (h5 : look s'.tmps 71 = some (.pin 5 (bs 5))) : ∀ i ∈ [0, 1, 2, 3, 4, 5], look s'.tmps (66 + i) = some (.pin i (bs i)) := fun i hi => by
  simp only [List.mem_cons, List.not_mem_nil, or_false] at hi
  rcases hi with rfl | rfl | rfl | rfl | rfl | rfl
  · exact h0
  · exact h1
  · exact h2
  · exact h3
  · exact h4
  · exact h5
section
variable {G : World → Prop} (hG : Lasting G)
include hG
set_option maxHeartbeats 16000000 in
set_option maxRecDepth 100000 in
theorem aq_zero {a : GAuto} {n m : Nat} (g : Good a n m) {most : Int} (h0 : 0 ≤ most) (h200 : most ≤ 200) {L : Nat} {wr : Bool} {s : Int} {w : List Int} {out : List (List Int)} (s0 : 0 ≤ s) (sm : s < (m : Int)) (hw : w.length ≤ 400) (ho : ((out.length : Nat) : Int) ≤ most) : AqC G a most L wr 0 s w out := by
  have hm80 := g.m80
  unfold AqC
  rw [walkL]
  refine sndC_of_body tt_ok Tryd.func23 rfl rfl (n := 66) rfl (tm := []) (rs := []) rfl rfl rfl [0, 1, 2, 3, 4, 5] aq_pins aq_pins2 fun bs => ?_
  obtain ⟨cans, hcans⟩ : ∃ cans, ((List.range (L + 1)).map fun k => tBools (canL a k)) = cans := ⟨_, rfl⟩
  have hcat : ∀ j, j ≤ L → cans[j]! = tBools (canL a j) := fun j hj => by
    rw [← hcans, getElem!_pos _ _ (by simp; omega)]; simp
  have hclen : cans.length = L + 1 := by rw [← hcans]; simp
  obtain ⟨outs, hout⟩ : ∃ outs, out.map tInts = outs := ⟨_, rfl⟩
  have houtl : outs.length = out.length := by rw [← hout]; simp
  unfold aqObs
  rw [hcans, hout]
  show SW Tryd.prog G _ _ ⟨66, [(0, .t (tInt s)), (1, .t (tNat 0)), (2, .bptr 0 0), (3, .bptr 1 0), (4, .bptr 2 0), (5, .bptr 3 0), (6, .bptr 4 0), (7, .bptr 5 0), (66, .pin 0 (bs 0)), (67, .pin 1 (bs 1)), (68, .pin 2 (bs 2)), (69, .pin 3 (bs 3)), (70, .pin 4 (bs 4)), (71, .pin 5 (bs 5))], [.box [.sref 6], .box [.t (tInt most)], .box [.sref 7], .box [.sref 8], .box [.t (tInt a.base), .t (tInt a.tracks), .t (tIntss a.next), .t (tBools a.ends)], .box [.fn 23 [.bptr 0 0, .bptr 1 0, .bptr 2 0, .bptr 3 0, .bptr 4 0, .bptr 5 0]], .row 38 1 true outs, .row 23 1 wr cans, .row 3 1 true (w.map tInt)]⟩
  have htb : Tab.ok Tryd.prog G [] := Tab.nil
  have hcl := canL_len g
  have hc0 := hcat 0 (Nat.zero_le _)
  have hcl0 := hcl 0
  obtain ⟨u, hu⟩ : ∃ u, (canL a 0)[s.toNat]! = u := ⟨_, rfl⟩
  have hat : canAt a 0 s = u := by unfold canAt; exact bang_D hu (by omega)
  rw [hat]
  by_cases hfull : ((out.length : Nat) : Int) = most
  · rw [if_pos hfull]
    have hfull2 : ((outs.length : Nat) : Int) = most := by omega
    have hs := eq_true hfull2
    repeat' (first | (with_reducible first | apply w1 | apply w2 | apply w3 | apply w4 | apply w5 | apply w6 | apply w7 | apply w8 | apply w9 | apply wa | apply wb | apply wc) | ((with_reducible apply wd); focus decide) | ((with_reducible apply we); focus exact rfl) | ((with_reducible apply wf); focus exact rfl) | ((first | (with_reducible apply SW_run tt_ok hG htb) | ((with_reducible apply SW_draw rfl tt_ok hG htb); (focus kernel_rfl); focus simp only [List.range, List.range.loop, List.size_toArray, List.length_cons, List.length_nil, Nat.reduceAdd])); focus ((repeat' (first | (with_reducible first | exact wg | exact wh) | ((with_reducible first | apply wi | apply wj); focus (simp (discharger := omega) only [go_sem, hs, simprocAttr]; with_reducible rfl)))); done)))
    refine SPostC_r ?_ (Norm.headS (own := []) (keep := [66, 67, 68, 69, 70, 71]) (by refine ⟨?_, ?_⟩; (simp (discharger := omega) only [go_sem, simprocAttr]; with_reducible rfl); refine ⟨?_, ?_, ?_, ?_⟩ <;> (simp only [go_sem, simprocAttr]; with_reducible rfl))) ?_ ?_
    · exact (by simp (discharger := omega) only [go_sem, simprocAttr])
    · rw [hout]; rfl
    · exact aq_pins4 rfl rfl rfl rfl rfl rfl
  rw [if_neg hfull]
  have hfull2 : ¬ ((outs.length : Nat) : Int) = most := by omega
  cases u with
  | false =>
    rw [if_neg (by decide)]
    repeat' (first | (with_reducible first | apply w1 | apply w2 | apply w3 | apply w4 | apply w5 | apply w6 | apply w7 | apply w8 | apply w9 | apply wa | apply wb | apply wc) | ((with_reducible apply wd); focus decide) | ((with_reducible apply we); focus exact rfl) | ((with_reducible apply wf); focus exact rfl) | ((first | (with_reducible apply SW_run tt_ok hG htb) | ((with_reducible apply SW_draw rfl tt_ok hG htb); (focus kernel_rfl); focus simp only [List.range, List.range.loop, List.size_toArray, List.length_cons, List.length_nil, Nat.reduceAdd])); focus ((repeat' (first | (with_reducible first | exact wg | exact wh) | ((with_reducible first | apply wi | apply wj); focus (simp (discharger := omega) only [go_sem, hfull2, hc0, hu, simprocAttr]; with_reducible rfl)))); done)))
    refine SPostC_r ?_ (Norm.headS (own := []) (keep := [66, 67, 68, 69, 70, 71]) (by refine ⟨?_, ?_⟩; (simp (discharger := omega) only [go_sem, simprocAttr]; with_reducible rfl); refine ⟨?_, ?_, ?_, ?_⟩ <;> (simp only [go_sem, simprocAttr]; with_reducible rfl))) ?_ ?_
    · exact (by simp (discharger := omega) only [go_sem, simprocAttr])
    · rw [hout]; rfl
    · exact aq_pins4 rfl rfl rfl rfl rfl rfl
  | true =>
    rw [if_pos rfl]
    have hall : ∀ l : List Int, (l.all fun _ => true) = true := fun l => by simp
    repeat' (first | (with_reducible first | refine SW_seq ?_ | refine SW_block ?_ | refine SThen_n ?_ | refine SThen_r ?_ | refine SThen_e ?_ | refine SIn_n ?_ | refine SIn_r ?_ | refine SIn_eq ?_ | refine SW_skip ?_ | refine SW_exit ?_ | refine SW_ret ?_ | refine SPost_r ?_) | ((with_reducible refine SIn_ne ?_ ?_); focus decide) | ((with_reducible refine SW_true ?_ ?_); focus exact rfl) | ((with_reducible refine SW_false ?_ ?_); focus exact rfl) | ((with_reducible apply SW_run tt_ok hG htb); focus ((repeat' (first | (with_reducible exact runX_nil) | ((with_reducible apply runX_cons); focus (simp (discharger := omega) only [go_sem, hfull2, hc0, hu, simprocAttr]; with_reducible rfl)))); done)))
    (with_reducible apply SW_drawC [2] rfl tt_ok hG htb)
    · kernel_rfl
    · simp only [List.range, List.range.loop, List.size_toArray, List.length_cons, List.length_nil, Nat.reduceAdd]
      repeat' (first | (with_reducible exact runG_nil) | ((with_reducible apply runG_cons); focus (simp (discharger := omega) only [go_sem, stepC, copyOf, nilApp, Function.comp_def, hall, simprocAttr]; with_reducible rfl)))
    repeat' (first | (with_reducible first | apply w1 | apply w2 | apply w3 | apply w4 | apply w5 | apply w6 | apply w7 | apply w8 | apply w9 | apply wa | apply wb | apply wc) | ((with_reducible apply wd); focus decide) | ((with_reducible apply we); focus exact rfl) | ((with_reducible apply wf); focus exact rfl) | ((first | (with_reducible apply SW_run tt_ok hG htb) | ((with_reducible apply SW_draw rfl tt_ok hG htb); (focus kernel_rfl); focus simp only [List.range, List.range.loop, List.size_toArray, List.length_cons, List.length_nil, Nat.reduceAdd])); focus ((repeat' (first | (with_reducible first | exact wg | exact wh) | ((with_reducible first | apply wi | apply wj); focus (simp (discharger := omega) only [go_sem, simprocAttr]; with_reducible rfl)))); done)))
    refine SPostC_r ?_ (Norm.headS (own := []) (keep := [66, 67, 68, 69, 70, 71]) (by refine ⟨?_, ?_⟩; (simp (discharger := omega) only [go_sem, simprocAttr]; with_reducible rfl); refine ⟨?_, ?_, ?_, ?_⟩ <;> (simp only [go_sem, simprocAttr]; with_reducible rfl))) ?_ ?_
    · exact (by simp (discharger := omega) only [go_sem, simprocAttr])
    · rw [List.map_append, hout]; rfl
    · exact aq_pins4 rfl rfl rfl rfl rfl rfl
set_option maxHeartbeats 16000000 in
set_option maxRecDepth 100000 in
theorem aq_step {a : GAuto} {n m : Nat} (g : Good a n m) {most : Int} (h0 : 0 ≤ most) (h200 : most ≤ 200) {L : Nat} {wr : Bool} {k : Nat} (ih : ∀ (s : Int) (w : List Int) (out : List (List Int)), 0 ≤ s → s < (m : Int) → w.length + k ≤ 400 → ((out.length : Nat) : Int) ≤ most → AqC G a most L wr k s w out) {s : Int} {w : List Int} {out : List (List Int)} (s0 : 0 ≤ s) (sm : s < (m : Int)) (hk : k + 1 ≤ L) (hw : w.length + (k + 1) ≤ 400) (ho : ((out.length : Nat) : Int) ≤ most) : AqC G a most L wr (k + 1) s w out := by
  have hlen := g.rows.len
  have hm80 := g.m80
  have hn36 := g.n36
  obtain ⟨row, hrow⟩ : ∃ row, a.next[s.toNat]! = row := ⟨_, rfl⟩
  have hrl := g.rows.row row (bang_mem hrow (by omega))
  have hrok := g.rows.ok row (bang_mem hrow (by omega))
  have hro : rowOf a.next s = row := by unfold rowOf; exact bang_D hrow (by omega)
  unfold AqC
  rw [walkL_succ, hro, hrl]
  refine sndC_of_body tt_ok Tryd.func23 rfl rfl (n := 66) rfl (tm := []) (rs := []) rfl rfl rfl [0, 1, 2, 3, 4, 5] aq_pins aq_pins2 fun bs => ?_
  obtain ⟨cans, hcans⟩ : ∃ cans, ((List.range (L + 1)).map fun k => tBools (canL a k)) = cans := ⟨_, rfl⟩
  have hcat : ∀ j, j ≤ L → cans[j]! = tBools (canL a j) := fun j hj => by
    rw [← hcans, getElem!_pos _ _ (by simp; omega)]; simp
  have hclen : cans.length = L + 1 := by rw [← hcans]; simp
  obtain ⟨outs, hout⟩ : ∃ outs, out.map tInts = outs := ⟨_, rfl⟩
  have houtl : outs.length = out.length := by rw [← hout]; simp
  unfold aqObs
  rw [hcans, hout]
  show SW Tryd.prog G _ _ ⟨66, [(0, .t (tInt s)), (1, .t (tNat (k + 1))), (2, .bptr 0 0), (3, .bptr 1 0), (4, .bptr 2 0), (5, .bptr 3 0), (6, .bptr 4 0), (7, .bptr 5 0), (66, .pin 0 (bs 0)), (67, .pin 1 (bs 1)), (68, .pin 2 (bs 2)), (69, .pin 3 (bs 3)), (70, .pin 4 (bs 4)), (71, .pin 5 (bs 5))], [.box [.sref 6], .box [.t (tInt most)], .box [.sref 7], .box [.sref 8], .box [.t (tInt a.base), .t (tInt a.tracks), .t (tIntss a.next), .t (tBools a.ends)], .box [.fn 23 [.bptr 0 0, .bptr 1 0, .bptr 2 0, .bptr 3 0, .bptr 4 0, .bptr 5 0]], .row 38 1 true outs, .row 23 1 wr cans, .row 3 1 true (w.map tInt)]⟩
  have htb : Tab.ok Tryd.prog G [] := Tab.nil
  have hcl := canL_len g
  have hc0 := hcat (k + 1) hk
  have hcl0 := hcl (k + 1)
  obtain ⟨u, hu⟩ : ∃ u, (canL a (k + 1))[s.toNat]! = u := ⟨_, rfl⟩
  have hat : canAt a (k + 1) s = u := by unfold canAt; exact bang_D hu (by omega)
  rw [hat]
  by_cases hfull : ((out.length : Nat) : Int) = most
  · rw [if_pos hfull]
    have hfull2 : ((outs.length : Nat) : Int) = most := by omega
    have hs := eq_true hfull2
    repeat' (first | (with_reducible first | apply w1 | apply w2 | apply w3 | apply w4 | apply w5 | apply w6 | apply w7 | apply w8 | apply w9 | apply wa | apply wb | apply wc) | ((with_reducible apply wd); focus decide) | ((with_reducible apply we); focus exact rfl) | ((with_reducible apply wf); focus exact rfl) | ((first | (with_reducible apply SW_run tt_ok hG htb) | ((with_reducible apply SW_draw rfl tt_ok hG htb); (focus kernel_rfl); focus simp only [List.range, List.range.loop, List.size_toArray, List.length_cons, List.length_nil, Nat.reduceAdd])); focus ((repeat' (first | (with_reducible first | exact wg | exact wh) | ((with_reducible first | apply wi | apply wj); focus (simp (discharger := omega) only [go_sem, hs, simprocAttr]; with_reducible rfl)))); done)))
    refine SPostC_r ?_ (Norm.headS (own := []) (keep := [66, 67, 68, 69, 70, 71]) (by refine ⟨?_, ?_⟩; (simp (discharger := omega) only [go_sem, simprocAttr]; with_reducible rfl); refine ⟨?_, ?_, ?_, ?_⟩ <;> (simp only [go_sem, simprocAttr]; with_reducible rfl))) ?_ ?_
    · exact (by simp (discharger := omega) only [go_sem, simprocAttr])
    · rw [hout]; rfl
    · exact aq_pins4 rfl rfl rfl rfl rfl rfl
  rw [if_neg hfull]
  have hfull2 : ¬ ((outs.length : Nat) : Int) = most := by omega
  cases u with
  | false =>
    rw [if_neg (by decide)]
    repeat' (first | (with_reducible first | apply w1 | apply w2 | apply w3 | apply w4 | apply w5 | apply w6 | apply w7 | apply w8 | apply w9 | apply wa | apply wb | apply wc) | ((with_reducible apply wd); focus decide) | ((with_reducible apply we); focus exact rfl) | ((with_reducible apply wf); focus exact rfl) | ((first | (with_reducible apply SW_run tt_ok hG htb) | ((with_reducible apply SW_draw rfl tt_ok hG htb); (focus kernel_rfl); focus simp only [List.range, List.range.loop, List.size_toArray, List.length_cons, List.length_nil, Nat.reduceAdd])); focus ((repeat' (first | (with_reducible first | exact wg | exact wh) | ((with_reducible first | apply wi | apply wj); focus (simp (discharger := omega) only [go_sem, hfull2, hc0, hu, simprocAttr]; with_reducible rfl)))); done)))
    refine SPostC_r ?_ (Norm.headS (own := []) (keep := [66, 67, 68, 69, 70, 71]) (by refine ⟨?_, ?_⟩; (simp (discharger := omega) only [go_sem, simprocAttr]; with_reducible rfl); refine ⟨?_, ?_, ?_, ?_⟩ <;> (simp only [go_sem, simprocAttr]; with_reducible rfl))) ?_ ?_
    · exact (by simp (discharger := omega) only [go_sem, simprocAttr])
    · rw [hout]; rfl
    · exact aq_pins4 rfl rfl rfl rfl rfl rfl
  | true =>
  rw [if_pos rfl]
  repeat' (first | (with_reducible first | apply w1 | apply w2 | apply w3 | apply w4 | apply w5 | apply w6 | apply w7 | apply w8 | apply w9 | apply wa | apply wb | apply wc) | ((with_reducible apply wd); focus decide) | ((with_reducible apply we); focus exact rfl) | ((with_reducible apply wf); focus exact rfl) | ((first | (with_reducible apply SW_run tt_ok hG htb) | ((with_reducible apply SW_draw rfl tt_ok hG htb); (focus kernel_rfl); focus simp only [List.range, List.range.loop, List.size_toArray, List.length_cons, List.length_nil, Nat.reduceAdd])); focus ((repeat' (first | (with_reducible first | exact wg | exact wh) | ((with_reducible first | apply wi | apply wj); focus (simp (discharger := omega) only [go_sem, hfull2, hc0, hu, hrow, hrl, simprocAttr]; with_reducible rfl)))); done)))
  refine SW_loop (fun mm st => ∃ (i : Nat) (outi : List (List Int)) (oi : List T), mm = n - i ∧ st = ⟨66, [(66, .pin 0 (bs 0)), (67, .pin 1 (bs 1)), (68, .pin 2 (bs 2)), (69, .pin 3 (bs 3)), (70, .pin 4 (bs 4)), (71, .pin 5 (bs 5)), (0, .t (tInt s)), (1, .t (tNat (k + 1))), (2, .bptr 0 0), (3, .bptr 1 0), (4, .bptr 2 0), (5, .bptr 3 0), (6, .bptr 4 0), (7, .bptr 5 0), (37, .t (tInts row)), (38, .t (tInt n)), (39, .t (tNat i))], [.box [.sref 6], .box [.t (tInt most)], .box [.sref 7], .box [.sref 8], .box [.t (tInt a.base), .t (tInt a.tracks), .t (tIntss a.next), .t (tBools a.ends)], .box [.fn 23 [.bptr 0 0, .bptr 1 0, .bptr 2 0, .bptr 3 0, .bptr 4 0, .bptr 5 0]], .row 38 1 true oi, .row 23 1 wr cans, .row 3 1 true (w.map tInt)]⟩ ∧ i ≤ n ∧ oi = outi.map tInts ∧ ((outi.length : Nat) : Int) ≤ most ∧ (List.range i).foldl (stepL a most k s w) out = outi) n
    ⟨_, Norm.headS (own := []) (keep := [66, 67, 68, 69, 70, 71, 0, 1, 2, 3, 4, 5, 6, 7, 37, 38, 39]) (by refine ⟨?_, ?_⟩; (simp (discharger := omega) only [go_sem, simprocAttr]; with_reducible rfl); refine ⟨?_, ?_, ?_, ?_⟩ <;> (simp only [go_sem, simprocAttr]; with_reducible rfl)), 0, out, _, rfl, rfl, Nat.zero_le _, hout.symm, ho, rfl⟩ ?_
  rintro mm st ⟨i, outi, oi, rfl, rfl, hi, hoi, hoil, hfo⟩
  by_cases hlt : i < n
  · obtain ⟨t, ht⟩ : ∃ t, row[i]! = t := ⟨_, rfl⟩
    have htb2 := hrok t (bang_mem ht (by omega))
    have htd : row.getD i 0 = t := bang_D ht (by omega)
    have hnext : ∀ q, stepL a most k s w outi i = q → (List.range (i + 1)).foldl (stepL a most k s w) out = q := fun q hq => by rw [List.range_succ, List.foldl_append, hfo]; exact hq
    have hst : stepL a most k s w outi i = if i = 0 ∧ w = [] then outi else walkL a most k t (w ++ [((i : Nat) : Int)]) outi := by unfold stepL; rw [hro, htd]
    by_cases hsk : i = 0 ∧ w = []
    · obtain ⟨rfl, rfl⟩ := hsk
      have hgo := hnext _ (hst.trans (if_pos ⟨rfl, rfl⟩))
      clear hnext hfo hst
      repeat' (first | (with_reducible first | apply w1 | apply w2 | apply w3 | apply w4 | apply w5 | apply w6 | apply w7 | apply w8 | apply w9 | apply wa | apply wb | apply wc) | ((with_reducible apply wd); focus decide) | ((with_reducible apply we); focus exact rfl) | ((with_reducible apply wf); focus exact rfl) | ((first | (with_reducible apply SW_run tt_ok hG htb) | ((with_reducible apply SW_draw rfl tt_ok hG htb); (focus kernel_rfl); focus simp only [List.range, List.range.loop, List.size_toArray, List.length_cons, List.length_nil, Nat.reduceAdd])); focus ((repeat' (first | (with_reducible first | exact wg | exact wh) | ((with_reducible first | apply wi | apply wj); focus (simp (discharger := omega) only [go_sem, ht, simprocAttr]; with_reducible rfl)))); done)))
      exact ⟨n - (0 + 1), _, by omega, Norm.headS (own := []) (keep := [66, 67, 68, 69, 70, 71, 0, 1, 2, 3, 4, 5, 6, 7, 37, 38, 39]) (by refine ⟨?_, ?_⟩; (simp (discharger := omega) only [go_sem, simprocAttr]; with_reducible rfl); refine ⟨?_, ?_, ?_, ?_⟩ <;> (simp only [go_sem, simprocAttr]; with_reducible rfl)), 0 + 1, outi, _, rfl, rfl, by omega, hoi, hoil, hgo⟩
    have hgo := hnext _ (hst.trans (if_neg hsk))
    have hr := ih t (w ++ [((i : Nat) : Int)]) outi htb2.1 htb2.2 (by rw [List.length_append, List.length_singleton]; omega) hoil
    have hle := walkL_le a most k t (w ++ [((i : Nat) : Int)]) outi hoil
    unfold AqC at hr
    generalize walkL a most k t (w ++ [((i : Nat) : Int)]) outi = outj at hr hle hgo
    clear hnext hfo hst
    have hskw : ¬ (((i : Nat) : Int) = 0 ∧ ((w.length : Nat) : Int) = 0) := fun q => hsk ⟨by omega, List.eq_nil_of_length_eq_zero (by omega)⟩
    have hle2 : (w ++ [((i : Nat) : Int)]).length ≤ 400 := by rw [List.length_append, List.length_singleton]; omega
    have hmap : (w ++ [((i : Nat) : Int)]).map tInt = w.map tInt ++ [T.int IntKind.i64 ((i : Nat) : Int)] := by rw [List.map_append]; rfl
    obtain ⟨oj, hoj⟩ : ∃ oj, outj.map tInts = oj := ⟨_, rfl⟩
    obtain ⟨wi, hwi⟩ : ∃ wi, w.map tInt ++ [T.int IntKind.i64 ((i : Nat) : Int)] = wi := ⟨_, rfl⟩
    have hwl : wi.length = w.length + 1 := by rw [← hwi]; simp
    have hwt : wi.take w.length = w.map tInt := by rw [← hwi]; exact List.take_left' (by simp)
    have hk1 : (((k + 1 : Nat)) : Int) - 1 = ((k : Nat) : Int) := by omega
    have hl1 : ((wi.length : Nat) : Int) - 1 = ((w.length : Nat) : Int) := by omega
    unfold aqObs at hr
    rw [hmap, hwi, hcans, hoj, ← hoi] at hr
    clear hmap
    have hi0 : ¬ ((i : Nat) : Int) = 0 ∨ ¬ ((w.length : Nat) : Int) = 0 := by omega
    rcases hi0 with hi0 | hi0
    · repeat' (first | (with_reducible first | refine SW_seq ?_ | refine SW_block ?_ | refine SThen_n ?_ | refine SThen_r ?_ | refine SThen_e ?_ | refine SIn_n ?_ | refine SIn_r ?_ | refine SIn_eq ?_ | refine SW_skip ?_ | refine SW_exit ?_ | refine SW_ret ?_ | refine SPost_r ?_) | ((with_reducible refine SIn_ne ?_ ?_); focus decide) | ((with_reducible refine SW_true ?_ ?_); focus exact rfl) | ((with_reducible refine SW_false ?_ ?_); focus exact rfl) | ((with_reducible apply SW_run tt_ok hG htb); focus ((repeat' (first | (with_reducible exact runX_nil) | ((with_reducible apply runX_cons); focus (simp (discharger := omega) only [go_sem, ht, hi0, simprocAttr]; with_reducible rfl)))); done)))
      refine SW_norm (Norm.headS (own := []) (keep := [66, 67, 68, 69, 70, 71, 0, 1, 2, 3, 4, 5, 6, 7, 11, 37, 38, 39]) (by refine ⟨?_, ?_⟩; (simp (discharger := omega) only [go_sem, simprocAttr]; with_reducible rfl); refine ⟨?_, ?_, ?_, ?_⟩ <;> (simp only [go_sem, simprocAttr]; with_reducible rfl))) ?_
      rw [hwi]
      refine SW_runCk tt_ok hG htb 4 rfl (by simp only [List.take_succ_cons, List.take_zero]; rfl) (by simp only [List.drop_succ_cons, List.drop_zero, Nat.reduceAdd]; rfl) (by (repeat' (first | (with_reducible exact runX_nil) | ((with_reducible apply runX_cons); focus (simp (discharger := omega) only [go_sem, hk1, simprocAttr]; with_reducible rfl))))) rfl rfl (g := 23) (cap := aqCap) (obs := [.box [.sref 6], .box [.t (tInt most)], .box [.sref 7], .box [.sref 8], .box [.t (tInt a.base), .t (tInt a.tracks), .t (tIntss a.next), .t (tBools a.ends)], .box [.fn 23 [.bptr 0 0, .bptr 1 0, .bptr 2 0, .bptr 3 0, .bptr 4 0, .bptr 5 0]], .row 38 1 true oi, .row 23 1 wr cans, .row 3 1 true wi]) (obs' := [.box [.sref 6], .box [.t (tInt most)], .box [.sref 7], .box [.sref 8], .box [.t (tInt a.base), .t (tInt a.tracks), .t (tIntss a.next), .t (tBools a.ends)], .box [.fn 23 [.bptr 0 0, .bptr 1 0, .bptr 2 0, .bptr 3 0, .bptr 4 0, .bptr 5 0]], .row 38 1 true oj, .row 23 1 wr cans, .row 3 1 true wi]) (rst := ?zra) (r := ?zta) (s2 := ?zsa) (s3 := ?zua) ?q1a ?q2a ?q3a ?q4a ?q5a ?q6a ?q7a ?q8a ?q9a ?q10a
      case q5a => exact hr
      case q1a => rfl
      case q2a => rfl
      case q3a => rfl
      case q4a => rfl
      case q6a => rfl
      case q7a => exact aq_xren _ _
      case q8a =>
        simp only [List.map_cons, List.map_nil, List.append_nil, SV.ren, renL, past, aqCap, List.getElem?_cons_zero, List.getElem?_cons_succ, List.getElem?_nil]
        rfl
      case q9a => (repeat' (first | (with_reducible exact runX_nil) | ((with_reducible apply runX_cons); focus (simp (discharger := omega) only [go_sem, simprocAttr]; with_reducible rfl))))
      repeat' (first | (with_reducible first | refine SW_seq ?_ | refine SW_block ?_ | refine SThen_n ?_ | refine SThen_r ?_ | refine SThen_e ?_ | refine SIn_n ?_ | refine SIn_r ?_ | refine SIn_eq ?_ | refine SW_skip ?_ | refine SW_exit ?_ | refine SW_ret ?_ | refine SPost_r ?_) | ((with_reducible refine SIn_ne ?_ ?_); focus decide) | ((with_reducible refine SW_true ?_ ?_); focus exact rfl) | ((with_reducible refine SW_false ?_ ?_); focus exact rfl) | ((with_reducible apply SW_run tt_ok hG htb); focus ((repeat' (first | (with_reducible exact runX_nil) | ((with_reducible apply runX_cons); focus (simp (discharger := omega) only [go_sem, hl1, simprocAttr]; with_reducible rfl)))); done)))
      exact ⟨n - (i + 1), _, by omega, (Norm.headS (own := []) (keep := [66, 67, 68, 69, 70, 71, 0, 1, 2, 3, 4, 5, 6, 7, 37, 38, 39]) (by refine ⟨?_, ?_⟩; (simp (discharger := omega) only [go_sem, simprocAttr]; with_reducible rfl); refine ⟨?_, ?_, ?_, ?_⟩ <;> (simp only [go_sem, simprocAttr]; with_reducible rfl))).trans (Norm.cutB 3 0 rfl rfl rfl), i + 1, outj, oj, rfl, by simp only [hwt]; rfl, by omega, hoj.symm, hle, hgo⟩
    by_cases hi1 : ((i : Nat) : Int) = 0
    · have hi2 := eq_true hi1
      repeat' (first | (with_reducible first | refine SW_seq ?_ | refine SW_block ?_ | refine SThen_n ?_ | refine SThen_r ?_ | refine SThen_e ?_ | refine SIn_n ?_ | refine SIn_r ?_ | refine SIn_eq ?_ | refine SW_skip ?_ | refine SW_exit ?_ | refine SW_ret ?_ | refine SPost_r ?_) | ((with_reducible refine SIn_ne ?_ ?_); focus decide) | ((with_reducible refine SW_true ?_ ?_); focus exact rfl) | ((with_reducible refine SW_false ?_ ?_); focus exact rfl) | ((with_reducible apply SW_run tt_ok hG htb); focus ((repeat' (first | (with_reducible exact runX_nil) | ((with_reducible apply runX_cons); focus (simp (discharger := omega) only [go_sem, ht, hi0, hi2, simprocAttr]; with_reducible rfl)))); done)))
      refine SW_norm (Norm.headS (own := []) (keep := [66, 67, 68, 69, 70, 71, 0, 1, 2, 3, 4, 5, 6, 7, 11, 37, 38, 39]) (by refine ⟨?_, ?_⟩; (simp (discharger := omega) only [go_sem, simprocAttr]; with_reducible rfl); refine ⟨?_, ?_, ?_, ?_⟩ <;> (simp only [go_sem, simprocAttr]; with_reducible rfl))) ?_
      rw [hwi]
      refine SW_runCk tt_ok hG htb 4 rfl (by simp only [List.take_succ_cons, List.take_zero]; rfl) (by simp only [List.drop_succ_cons, List.drop_zero, Nat.reduceAdd]; rfl) (by (repeat' (first | (with_reducible exact runX_nil) | ((with_reducible apply runX_cons); focus (simp (discharger := omega) only [go_sem, hk1, simprocAttr]; with_reducible rfl))))) rfl rfl (g := 23) (cap := aqCap) (obs := [.box [.sref 6], .box [.t (tInt most)], .box [.sref 7], .box [.sref 8], .box [.t (tInt a.base), .t (tInt a.tracks), .t (tIntss a.next), .t (tBools a.ends)], .box [.fn 23 [.bptr 0 0, .bptr 1 0, .bptr 2 0, .bptr 3 0, .bptr 4 0, .bptr 5 0]], .row 38 1 true oi, .row 23 1 wr cans, .row 3 1 true wi]) (obs' := [.box [.sref 6], .box [.t (tInt most)], .box [.sref 7], .box [.sref 8], .box [.t (tInt a.base), .t (tInt a.tracks), .t (tIntss a.next), .t (tBools a.ends)], .box [.fn 23 [.bptr 0 0, .bptr 1 0, .bptr 2 0, .bptr 3 0, .bptr 4 0, .bptr 5 0]], .row 38 1 true oj, .row 23 1 wr cans, .row 3 1 true wi]) (rst := ?zrb) (r := ?ztb) (s2 := ?zsb) (s3 := ?zub) ?q1b ?q2b ?q3b ?q4b ?q5b ?q6b ?q7b ?q8b ?q9b ?q10b
      case q5b => exact hr
      case q1b => rfl
      case q2b => rfl
      case q3b => rfl
      case q4b => rfl
      case q6b => rfl
      case q7b => exact aq_xren _ _
      case q8b =>
        simp only [List.map_cons, List.map_nil, List.append_nil, SV.ren, renL, past, aqCap, List.getElem?_cons_zero, List.getElem?_cons_succ, List.getElem?_nil]
        rfl
      case q9b => (repeat' (first | (with_reducible exact runX_nil) | ((with_reducible apply runX_cons); focus (simp (discharger := omega) only [go_sem, simprocAttr]; with_reducible rfl))))
      repeat' (first | (with_reducible first | refine SW_seq ?_ | refine SW_block ?_ | refine SThen_n ?_ | refine SThen_r ?_ | refine SThen_e ?_ | refine SIn_n ?_ | refine SIn_r ?_ | refine SIn_eq ?_ | refine SW_skip ?_ | refine SW_exit ?_ | refine SW_ret ?_ | refine SPost_r ?_) | ((with_reducible refine SIn_ne ?_ ?_); focus decide) | ((with_reducible refine SW_true ?_ ?_); focus exact rfl) | ((with_reducible refine SW_false ?_ ?_); focus exact rfl) | ((with_reducible apply SW_run tt_ok hG htb); focus ((repeat' (first | (with_reducible exact runX_nil) | ((with_reducible apply runX_cons); focus (simp (discharger := omega) only [go_sem, hl1, simprocAttr]; with_reducible rfl)))); done)))
      exact ⟨n - (i + 1), _, by omega, (Norm.headS (own := []) (keep := [66, 67, 68, 69, 70, 71, 0, 1, 2, 3, 4, 5, 6, 7, 37, 38, 39]) (by refine ⟨?_, ?_⟩; (simp (discharger := omega) only [go_sem, simprocAttr]; with_reducible rfl); refine ⟨?_, ?_, ?_, ?_⟩ <;> (simp only [go_sem, simprocAttr]; with_reducible rfl))).trans (Norm.cutB 3 0 rfl rfl rfl), i + 1, outj, oj, rfl, by simp only [hwt]; rfl, by omega, hoj.symm, hle, hgo⟩
    · repeat' (first | (with_reducible first | refine SW_seq ?_ | refine SW_block ?_ | refine SThen_n ?_ | refine SThen_r ?_ | refine SThen_e ?_ | refine SIn_n ?_ | refine SIn_r ?_ | refine SIn_eq ?_ | refine SW_skip ?_ | refine SW_exit ?_ | refine SW_ret ?_ | refine SPost_r ?_) | ((with_reducible refine SIn_ne ?_ ?_); focus decide) | ((with_reducible refine SW_true ?_ ?_); focus exact rfl) | ((with_reducible refine SW_false ?_ ?_); focus exact rfl) | ((with_reducible apply SW_run tt_ok hG htb); focus ((repeat' (first | (with_reducible exact runX_nil) | ((with_reducible apply runX_cons); focus (simp (discharger := omega) only [go_sem, ht, hi0, hi1, simprocAttr]; with_reducible rfl)))); done)))
      refine SW_norm (Norm.headS (own := []) (keep := [66, 67, 68, 69, 70, 71, 0, 1, 2, 3, 4, 5, 6, 7, 11, 37, 38, 39]) (by refine ⟨?_, ?_⟩; (simp (discharger := omega) only [go_sem, simprocAttr]; with_reducible rfl); refine ⟨?_, ?_, ?_, ?_⟩ <;> (simp only [go_sem, simprocAttr]; with_reducible rfl))) ?_
      rw [hwi]
      refine SW_runCk tt_ok hG htb 4 rfl (by simp only [List.take_succ_cons, List.take_zero]; rfl) (by simp only [List.drop_succ_cons, List.drop_zero, Nat.reduceAdd]; rfl) (by (repeat' (first | (with_reducible exact runX_nil) | ((with_reducible apply runX_cons); focus (simp (discharger := omega) only [go_sem, hk1, simprocAttr]; with_reducible rfl))))) rfl rfl (g := 23) (cap := aqCap) (obs := [.box [.sref 6], .box [.t (tInt most)], .box [.sref 7], .box [.sref 8], .box [.t (tInt a.base), .t (tInt a.tracks), .t (tIntss a.next), .t (tBools a.ends)], .box [.fn 23 [.bptr 0 0, .bptr 1 0, .bptr 2 0, .bptr 3 0, .bptr 4 0, .bptr 5 0]], .row 38 1 true oi, .row 23 1 wr cans, .row 3 1 true wi]) (obs' := [.box [.sref 6], .box [.t (tInt most)], .box [.sref 7], .box [.sref 8], .box [.t (tInt a.base), .t (tInt a.tracks), .t (tIntss a.next), .t (tBools a.ends)], .box [.fn 23 [.bptr 0 0, .bptr 1 0, .bptr 2 0, .bptr 3 0, .bptr 4 0, .bptr 5 0]], .row 38 1 true oj, .row 23 1 wr cans, .row 3 1 true wi]) (rst := ?zrc) (r := ?ztc) (s2 := ?zsc) (s3 := ?zuc) ?q1c ?q2c ?q3c ?q4c ?q5c ?q6c ?q7c ?q8c ?q9c ?q10c
      case q5c => exact hr
      case q1c => rfl
      case q2c => rfl
      case q3c => rfl
      case q4c => rfl
      case q6c => rfl
      case q7c => exact aq_xren _ _
      case q8c =>
        simp only [List.map_cons, List.map_nil, List.append_nil, SV.ren, renL, past, aqCap, List.getElem?_cons_zero, List.getElem?_cons_succ, List.getElem?_nil]
        rfl
      case q9c => (repeat' (first | (with_reducible exact runX_nil) | ((with_reducible apply runX_cons); focus (simp (discharger := omega) only [go_sem, simprocAttr]; with_reducible rfl))))
      repeat' (first | (with_reducible first | refine SW_seq ?_ | refine SW_block ?_ | refine SThen_n ?_ | refine SThen_r ?_ | refine SThen_e ?_ | refine SIn_n ?_ | refine SIn_r ?_ | refine SIn_eq ?_ | refine SW_skip ?_ | refine SW_exit ?_ | refine SW_ret ?_ | refine SPost_r ?_) | ((with_reducible refine SIn_ne ?_ ?_); focus decide) | ((with_reducible refine SW_true ?_ ?_); focus exact rfl) | ((with_reducible refine SW_false ?_ ?_); focus exact rfl) | ((with_reducible apply SW_run tt_ok hG htb); focus ((repeat' (first | (with_reducible exact runX_nil) | ((with_reducible apply runX_cons); focus (simp (discharger := omega) only [go_sem, hl1, simprocAttr]; with_reducible rfl)))); done)))
      exact ⟨n - (i + 1), _, by omega, (Norm.headS (own := []) (keep := [66, 67, 68, 69, 70, 71, 0, 1, 2, 3, 4, 5, 6, 7, 37, 38, 39]) (by refine ⟨?_, ?_⟩; (simp (discharger := omega) only [go_sem, simprocAttr]; with_reducible rfl); refine ⟨?_, ?_, ?_, ?_⟩ <;> (simp only [go_sem, simprocAttr]; with_reducible rfl))).trans (Norm.cutB 3 0 rfl rfl rfl), i + 1, outj, oj, rfl, by simp only [hwt]; rfl, by omega, hoj.symm, hle, hgo⟩
  · obtain rfl : i = n := by omega
    rw [hfo]
    repeat' (first | (with_reducible first | apply w1 | apply w2 | apply w3 | apply w4 | apply w5 | apply w6 | apply w7 | apply w8 | apply w9 | apply wa | apply wb | apply wc) | ((with_reducible apply wd); focus decide) | ((with_reducible apply we); focus exact rfl) | ((with_reducible apply wf); focus exact rfl) | ((first | (with_reducible apply SW_run tt_ok hG htb) | ((with_reducible apply SW_draw rfl tt_ok hG htb); (focus kernel_rfl); focus simp only [List.range, List.range.loop, List.size_toArray, List.length_cons, List.length_nil, Nat.reduceAdd])); focus ((repeat' (first | (with_reducible first | exact wg | exact wh) | ((with_reducible first | apply wi | apply wj); focus (simp (discharger := omega) only [go_sem, simprocAttr]; with_reducible rfl)))); done)))
    refine SPostC_r ?_ (Norm.headS (own := []) (keep := [66, 67, 68, 69, 70, 71]) (by refine ⟨?_, ?_⟩; (simp (discharger := omega) only [go_sem, simprocAttr]; with_reducible rfl); refine ⟨?_, ?_, ?_, ?_⟩ <;> (simp only [go_sem, simprocAttr]; with_reducible rfl))) ?_ ?_
    · exact (by simp (discharger := omega) only [go_sem, simprocAttr])
    · rw [hoi]; rfl
    · exact aq_pins4 rfl rfl rfl rfl rfl rfl
/-- At every length that is left. -/
theorem aq_all {a : GAuto} {n m : Nat} (g : Good a n m) {most : Int} (h0 : 0 ≤ most) (h200 : most ≤ 200) {L : Nat} {wr : Bool} : ∀ (k : Nat) (s : Int) (w : List Int) (out : List (List Int)), k ≤ L → 0 ≤ s → s < (m : Int) → w.length + k ≤ 400 → ((out.length : Nat) : Int) ≤ most → AqC G a most L wr k s w out
  | 0, s, w, out, _, s0, sm, hw, ho => aq_zero hG g h0 h200 s0 sm hw ho
  | k + 1, s, w, out, hk, s0, sm, hw, ho => aq_step hG g h0 h200 (fun s w out s0 sm hw ho => aq_all g h0 h200 k s w out (by omega) s0 sm hw ho) s0 sm hk hw ho
end
end Go.Proofs.YtjidhaendndokaaDoor
namespace Go.Proofs.YtjidhaendndokaaDoor
open Go.RowKit

def listErr (a : GAuto) (most : Int) : Int := if autoFault a ≠ 0 then autoFault a else if most < 0 ∨ 200 < most then 1 else 0
noncomputable def listR (a : GAuto) (most : Int) : List (List Int) := if listErr a most = 0 then listOf a most else []
/-- A row of the states from which there is a word one letter longer, up to a letter of a state. -/
def anyT (C : List Bool) (r : List Int) : Bool := r.any fun t => C.getD t.toNat false
def rowB (next : List (List Int)) (C : List Bool) (m s l : Nat) : List Bool := (List.range m).map fun x => if x < s then anyT C (rowOf next ((x : Nat) : Int)) else if x = s then anyT C ((rowOf next ((x : Nat) : Int)).take l) else false
theorem rowB_zero (next : List (List Int)) (C : List Bool) (m : Nat) : rowB next C m 0 0 = List.replicate m false := by
  unfold rowB
  rw [List.eq_replicate_iff]
  refine ⟨by simp, fun b hb => ?_⟩
  obtain ⟨x, _, rfl⟩ := List.mem_map.1 hb
  rw [if_neg (by omega)]
  split
  · simp [anyT]
  · rfl
theorem rowB_len {next : List (List Int)} {C : List Bool} {m s l : Nat} : (rowB next C m s l).length = m := by simp [rowB]
theorem rowB_at {next : List (List Int)} {C : List Bool} {m s l : Nat} (hs : s < m) : (rowB next C m s l)[s]! = anyT C ((rowOf next ((s : Nat) : Int)).take l) := by
  rw [getElem!_pos _ _ (by rw [rowB_len]; exact hs)]
  simp [rowB]
theorem rowB_set {next : List (List Int)} {C : List Bool} {m s l : Nat} {t : Int} (hs : s < m) (ht : (rowOf next ((s : Nat) : Int))[l]? = some t) {v : Bool} (hv : v = ((rowB next C m s l)[s]! || C.getD t.toNat false)) : (rowB next C m s l).set s v = rowB next C m s (l + 1) := by
  rw [rowB_at hs] at hv
  apply List.ext_getElem?
  intro i
  rw [List.getElem?_set]
  by_cases hi : s = i
  · subst hi
    rw [if_pos rfl, if_pos (by rw [rowB_len]; exact hs)]
    simp only [rowB, List.getElem?_map, List.getElem?_range hs, Option.map_some]
    rw [if_neg (by omega), hv, List.take_add_one, ht]
    simp [anyT, List.any_append]
  · rw [if_neg hi]
    simp only [rowB, List.getElem?_map]
    by_cases hm : i < m
    · simp only [List.getElem?_range hm, Option.map_some]
      by_cases h2 : i < s
      · rw [if_pos h2, if_pos h2]
      · rw [if_neg h2, if_neg h2, if_neg (by omega), if_neg (by omega)]
    · rw [List.getElem?_eq_none (by simpa using hm)]; rfl
theorem rowB_next {next : List (List Int)} {C : List Bool} {m s n : Nat} (h : (rowOf next ((s : Nat) : Int)).length = n) : rowB next C m s n = rowB next C m (s + 1) 0 := by
  unfold rowB
  refine List.map_congr_left fun x hx => ?_
  by_cases h1 : x < s
  · rw [if_pos h1, if_pos (by omega)]
  · rw [if_neg h1]
    by_cases h2 : x = s
    · subst h2
      rw [if_pos rfl, if_pos (by omega), List.take_of_length_le (by omega)]
    · rw [if_neg h2, if_neg (by omega)]
      split
      · simp [anyT]
      · rfl
theorem rowB_all (a : GAuto) (k : Nat) : rowB a.next (canL a k) a.next.length a.next.length 0 = canL a (k + 1) := by
  unfold rowB
  show _ = (List.range a.next.length).map _
  refine List.map_congr_left fun x hx => ?_
  rw [if_pos (List.mem_range.1 hx)]; rfl
section
variable {G : World → Prop} (hG : Lasting G)
include hG
set_option maxHeartbeats 16000000 in
set_option maxRecDepth 100000 in
theorem List_snd (a : GAuto) (most : Int) : Snd Tryd.prog G 7 [tAuto a, tInt most] (.tup [tIntss (listR a most), tErr (listErr a most)]) := by
  have c1 := Check_snd hG a
  refine snd_of_body (n := 91) (tm := [(0, .t (tAuto a)), (1, .t (tInt most))]) (rs := [.tmp 4, .tmp 5]) tt_ok Tryd.func7 rfl rfl rfl rfl rfl ?_
  by_cases h : autoFault a = 0
  rotate_left
  · have he : listErr a most = autoFault a := if_pos h
    have hr0 : listR a most = [] := by unfold listR; rw [he, if_neg h]
    rw [hr0, he]
    generalize autoFault a = e at *
    have htb := Tab.cons c1 Tab.nil
    repeat' (first | (with_reducible first | apply w1 | apply w2 | apply w3 | apply w4 | apply w5 | apply w6 | apply w7 | apply w8 | apply w9 | apply wa | apply wb | apply wc) | ((with_reducible apply wd); focus decide) | ((with_reducible apply we); focus exact rfl) | ((with_reducible apply wf); focus exact rfl) | ((first | (with_reducible apply SW_run tt_ok hG htb) | ((with_reducible apply SW_draw rfl tt_ok hG htb); (focus kernel_rfl); focus simp only [List.range, List.range.loop, List.size_toArray, List.length_cons, List.length_nil, Nat.reduceAdd])); focus ((repeat' (first | (with_reducible first | exact wg | exact wh) | ((with_reducible first | apply wi | apply wj); focus (simp (discharger := omega) only [go_sem, tAuto, tErr, h, simprocAttr]; with_reducible rfl)))); done)))
    exact (by simp (discharger := omega) only [go_sem, tErr, h, tIntss, simprocAttr])
  rw [h] at c1
  by_cases hmost : most < 0 ∨ 200 < most
  · have he : listErr a most = 1 := by unfold listErr; rw [if_neg (fun q => q h), if_pos hmost]
    have hr0 : listR a most = [] := by unfold listR; rw [he, if_neg (by decide)]
    rw [hr0, he]
    have htb := Tab.cons c1 Tab.nil
    by_cases hneg : most < 0
    · repeat' (first | (with_reducible first | apply w1 | apply w2 | apply w3 | apply w4 | apply w5 | apply w6 | apply w7 | apply w8 | apply w9 | apply wa | apply wb | apply wc) | ((with_reducible apply wd); focus decide) | ((with_reducible apply we); focus exact rfl) | ((with_reducible apply wf); focus exact rfl) | ((first | (with_reducible apply SW_run tt_ok hG htb) | ((with_reducible apply SW_draw rfl tt_ok hG htb); (focus kernel_rfl); focus simp only [List.range, List.range.loop, List.size_toArray, List.length_cons, List.length_nil, Nat.reduceAdd])); focus ((repeat' (first | (with_reducible first | exact wg | exact wh) | ((with_reducible first | apply wi | apply wj); focus (simp (discharger := omega) only [go_sem, tAuto, tErr0, hneg, simprocAttr]; with_reducible rfl)))); done)))
      exact (by simp (discharger := omega) only [go_sem, tErr, tIntss, simprocAttr])
    · have hgt : most > 200 := by omega
      repeat' (first | (with_reducible first | apply w1 | apply w2 | apply w3 | apply w4 | apply w5 | apply w6 | apply w7 | apply w8 | apply w9 | apply wa | apply wb | apply wc) | ((with_reducible apply wd); focus decide) | ((with_reducible apply we); focus exact rfl) | ((with_reducible apply wf); focus exact rfl) | ((first | (with_reducible apply SW_run tt_ok hG htb) | ((with_reducible apply SW_draw rfl tt_ok hG htb); (focus kernel_rfl); focus simp only [List.range, List.range.loop, List.size_toArray, List.length_cons, List.length_nil, Nat.reduceAdd])); focus ((repeat' (first | (with_reducible first | exact wg | exact wh) | ((with_reducible first | apply wi | apply wj); focus (simp (discharger := omega) only [go_sem, tAuto, tErr0, hneg, hgt, simprocAttr]; with_reducible rfl)))); done)))
      exact (by simp (discharger := omega) only [go_sem, tErr, tIntss, simprocAttr])
  have he : listErr a most = 0 := by unfold listErr; rw [if_neg (fun q => q h), if_neg hmost]
  have hr0 : listR a most = listOf a most := by unfold listR; rw [he, if_pos rfl]
  rw [hr0, he]
  have h0 : 0 ≤ most := by omega
  have h200 : most ≤ 200 := by omega
  have g := good_of h
  generalize (manyOf a.base a.tracks).toNat = n at *
  obtain ⟨m, hm⟩ : ∃ m, a.next.length = m := ⟨_, rfl⟩
  rw [hm] at g
  have hm80 := g.m80
  have hm0 := g.m0
  have hn36 := g.n36
  have hcl := canL_len g
  have htb := Tab.cons c1 Tab.nil
  have h01 : ¬ most < 0 := by omega
  have h201 : ¬ most > 200 := by omega
  repeat' (first | (with_reducible first | apply w1 | apply w2 | apply w3 | apply w4 | apply w5 | apply w6 | apply w7 | apply w8 | apply w9 | apply wa | apply wb | apply wc) | ((with_reducible apply wd); focus decide) | ((with_reducible apply we); focus exact rfl) | ((with_reducible apply wf); focus exact rfl) | ((first | (with_reducible apply SW_run tt_ok hG htb) | ((with_reducible apply SW_draw rfl tt_ok hG htb); (focus kernel_rfl); focus simp only [List.range, List.range.loop, List.size_toArray, List.length_cons, List.length_nil, Nat.reduceAdd])); focus ((repeat' (first | (with_reducible first | exact wg | exact wh) | ((with_reducible first | apply wi | apply wj); focus (simp (discharger := omega) only [go_sem, tAuto, tErr0, h01, h201, simprocAttr]; with_reducible rfl)))); done)))
  clear htb
  have htb : Tab.ok Tryd.prog G [] := Tab.nil
  refine SW_loop (fun mm st => ∃ (L : Nat) (outs cans : List T) (wr : Bool), mm = 401 - L ∧ st = ⟨91, [(8, .bptr 0 0), (3, .bptr 1 0), (7, .bptr 2 0), (9, .bptr 3 0), (2, .bptr 4 0), (10, .bptr 5 0), (11, .t (tNat L))], [.box [.sref 6], .box [.t (tInt most)], .box [.sref 7], .box [.sref 8], .box [.t (tInt a.base), .t (tInt a.tracks), .t (tIntss a.next), .t (tBools a.ends)], .box [.fn 23 [.bptr 0 0, .bptr 1 0, .bptr 2 0, .bptr 3 0, .bptr 4 0, .bptr 5 0]], .row 38 1 true outs, .row 23 1 wr cans, .row 3 1 true []]⟩ ∧ L ≤ 401 ∧ outs = (outL a most L).map tInts ∧ cans = (List.range (L - 1 + 1)).map fun k => tBools (canL a k)) 401
    ⟨_, (Norm.headS (own := []) (keep := [8, 3, 7, 9, 2, 10, 11]) (by refine ⟨?_, ?_⟩; (simp (discharger := omega) only [go_sem, simprocAttr]; with_reducible rfl); refine ⟨?_, ?_, ?_, ?_⟩ <;> (simp only [go_sem, simprocAttr]; with_reducible rfl))).trans ((Norm.ownB (j := 0) (off := 0) (e := 38) (sz := 1) rfl rfl (by decide)).trans ((Norm.litB (e := 23) (sz := 1) 2 0 rfl rfl (by decide) (by simp [tBools, T.cells])).trans (Norm.ownB (j := 3) (off := 0) (e := 3) (sz := 1) rfl rfl (by decide)))), 0, [], [tBools a.ends], false, rfl, rfl, by omega, rfl, rfl⟩ ?_
  rintro mm st ⟨L, outs, cans, wr, rfl, rfl, hL, hout, hcans⟩
  have hle := outL_le a h0 L
  have houtl : outs.length = (outL a most L).length := by rw [hout]; simp
  have hcl2 : cans.length = L - 1 + 1 := by rw [hcans]; simp
  have hcat : ∀ j, j ≤ L - 1 → cans[j]! = tBools (canL a j) := fun j hj => by
    rw [hcans, getElem!_pos _ _ (by simp; omega)]; simp
  by_cases hlt : L < 401 ∧ ((outs.length : Nat) : Int) < most
  rotate_left
  · have hres : listOf a most = outL a most L := by
      unfold listOf
      by_cases h401 : L = 401
      · rw [h401]
      · have := outL_full (a := a) (most := most) (k := L) (by omega) (401 - L)
        rw [← this, show L + (401 - L) = 401 by omega]
    rw [hres]
    by_cases h401 : L = 401
    · subst h401
      repeat' (first | (with_reducible first | apply w1 | apply w2 | apply w3 | apply w4 | apply w5 | apply w6 | apply w7 | apply w8 | apply w9 | apply wa | apply wb | apply wc) | ((with_reducible apply wd); focus decide) | ((with_reducible apply we); focus exact rfl) | ((with_reducible apply wf); focus exact rfl) | ((first | (with_reducible apply SW_run tt_ok hG htb) | ((with_reducible apply SW_draw rfl tt_ok hG htb); (focus kernel_rfl); focus simp only [List.range, List.range.loop, List.size_toArray, List.length_cons, List.length_nil, Nat.reduceAdd])); focus ((repeat' (first | (with_reducible first | exact wg | exact wh) | ((with_reducible first | apply wi | apply wj); focus (simp (discharger := omega) only [go_sem, simprocAttr]; with_reducible rfl)))); done)))
      exact (by simp (discharger := omega) only [go_sem, tErr0, hout, simprocAttr])
    · have hf2 : ¬ ((outs.length : Nat) : Int) < most := by omega
      repeat' (first | (with_reducible first | apply w1 | apply w2 | apply w3 | apply w4 | apply w5 | apply w6 | apply w7 | apply w8 | apply w9 | apply wa | apply wb | apply wc) | ((with_reducible apply wd); focus decide) | ((with_reducible apply we); focus exact rfl) | ((with_reducible apply wf); focus exact rfl) | ((first | (with_reducible apply SW_run tt_ok hG htb) | ((with_reducible apply SW_draw rfl tt_ok hG htb); (focus kernel_rfl); focus simp only [List.range, List.range.loop, List.size_toArray, List.length_cons, List.length_nil, Nat.reduceAdd])); focus ((repeat' (first | (with_reducible first | exact wg | exact wh) | ((with_reducible first | apply wi | apply wj); focus (simp (discharger := omega) only [go_sem, hf2, simprocAttr]; with_reducible rfl)))); done)))
      exact (by simp (discharger := omega) only [go_sem, tErr0, hout, simprocAttr])
  obtain ⟨hlt1, hlt2⟩ := hlt
  by_cases hL0 : L = 0
  · subst hL0
    obtain ⟨wr2, rfl⟩ : ∃ wr2, wr2 = wr := ⟨_, rfl⟩
    have hr := aq_all hG g h0 h200 (L := 0) (wr := wr2) 0 0 [] (outL a most 0) (Nat.le_refl _) (by omega) (by omega) (by simp only [List.length_nil]; omega) hle
    unfold AqC aqObs at hr
    obtain ⟨outj, hoj⟩ : ∃ outj, (outL a most (0 + 1)).map tInts = outj := ⟨_, rfl⟩
    rw [show walkL a most 0 0 [] (outL a most 0) = outL a most (0 + 1) from rfl, hoj, ← hout, ← show cans = _ from hcans] at hr
    have hz : ¬ ((0 : Nat) : Int) > 0 := by decide
    repeat' (first | (with_reducible first | refine SW_seq ?_ | refine SW_block ?_ | refine SThen_n ?_ | refine SThen_r ?_ | refine SThen_e ?_ | refine SIn_n ?_ | refine SIn_r ?_ | refine SIn_eq ?_ | refine SW_skip ?_ | refine SW_exit ?_ | refine SW_ret ?_ | refine SPost_r ?_) | ((with_reducible refine SIn_ne ?_ ?_); focus decide) | ((with_reducible refine SW_true ?_ ?_); focus exact rfl) | ((with_reducible refine SW_false ?_ ?_); focus exact rfl) | ((with_reducible apply SW_run tt_ok hG htb); focus ((repeat' (first | (with_reducible exact runX_nil) | ((with_reducible apply runX_cons); focus (simp (discharger := omega) only [go_sem, hlt2, simprocAttr]; with_reducible rfl)))); done)))
    refine SW_norm (Norm.headS (own := []) (keep := [8, 3, 7, 9, 2, 10, 11]) (by refine ⟨?_, ?_⟩; (simp (discharger := omega) only [go_sem, simprocAttr]; with_reducible rfl); refine ⟨?_, ?_, ?_, ?_⟩ <;> (simp only [go_sem, simprocAttr]; with_reducible rfl))) ?_
    refine SW_runCk tt_ok hG htb 2 rfl (by simp only [List.take_succ_cons, List.take_zero]; rfl) (by simp only [List.drop_succ_cons, List.drop_zero, Nat.reduceAdd]; rfl) (by (repeat' (first | (with_reducible exact runX_nil) | ((with_reducible apply runX_cons); focus (simp (discharger := omega) only [go_sem, simprocAttr]; with_reducible rfl))))) rfl rfl (g := 23) (cap := aqCap) (obs := [.box [.sref 6], .box [.t (tInt most)], .box [.sref 7], .box [.sref 8], .box [.t (tInt a.base), .t (tInt a.tracks), .t (tIntss a.next), .t (tBools a.ends)], .box [.fn 23 [.bptr 0 0, .bptr 1 0, .bptr 2 0, .bptr 3 0, .bptr 4 0, .bptr 5 0]], .row 38 1 true outs, .row 23 1 wr2 cans, .row 3 1 true []]) (obs' := [.box [.sref 6], .box [.t (tInt most)], .box [.sref 7], .box [.sref 8], .box [.t (tInt a.base), .t (tInt a.tracks), .t (tIntss a.next), .t (tBools a.ends)], .box [.fn 23 [.bptr 0 0, .bptr 1 0, .bptr 2 0, .bptr 3 0, .bptr 4 0, .bptr 5 0]], .row 38 1 true outj, .row 23 1 wr2 cans, .row 3 1 true []]) (rst := ?zra) (r := ?zta) (s2 := ?zsa) (s3 := ?zua) ?q1a ?q2a ?q3a ?q4a ?q5a ?q6a ?q7a ?q8a ?q9a ?q10a
    case q5a => exact hr
    case q1a => rfl
    case q2a => rfl
    case q3a => rfl
    case q4a => rfl
    case q6a => rfl
    case q7a => exact aq_xren _ _
    case q8a =>
      simp only [List.map_cons, List.map_nil, List.append_nil, SV.ren, renL, past, aqCap, List.getElem?_cons_zero, List.getElem?_cons_succ, List.getElem?_nil]
      rfl
    case q9a => (repeat' (first | (with_reducible exact runX_nil) | ((with_reducible apply runX_cons); focus (simp (discharger := omega) only [go_sem, simprocAttr]; with_reducible rfl))))
    repeat' (first | (with_reducible first | refine SW_seq ?_ | refine SW_block ?_ | refine SThen_n ?_ | refine SThen_r ?_ | refine SThen_e ?_ | refine SIn_n ?_ | refine SIn_r ?_ | refine SIn_eq ?_ | refine SW_skip ?_ | refine SW_exit ?_ | refine SW_ret ?_ | refine SPost_r ?_) | ((with_reducible refine SIn_ne ?_ ?_); focus decide) | ((with_reducible refine SW_true ?_ ?_); focus exact rfl) | ((with_reducible refine SW_false ?_ ?_); focus exact rfl) | ((with_reducible apply SW_run tt_ok hG htb); focus ((repeat' (first | (with_reducible exact runX_nil) | ((with_reducible apply runX_cons); focus (simp (discharger := omega) only [go_sem, simprocAttr]; with_reducible rfl)))); done)))
    exact ⟨401 - (0 + 1), _, by omega, Norm.headS (own := []) (keep := [8, 3, 7, 9, 2, 10, 11]) (by refine ⟨?_, ?_⟩; (simp (discharger := omega) only [go_sem, simprocAttr]; with_reducible rfl); refine ⟨?_, ?_, ?_, ?_⟩ <;> (simp only [go_sem, simprocAttr]; with_reducible rfl)), 0 + 1, _, _, _, rfl, rfl, by omega, hoj.symm, hcans⟩
  obtain ⟨K, rfl⟩ : ∃ K, L = K + 1 := ⟨L - 1, by omega⟩
  have hk1 : (((K + 1 : Nat)) : Int) - 1 = ((K : Nat) : Int) := by omega
  have hcK := hcat K (by omega)
  have hclK := hcl K
  have hkp : ((K + 1 : Nat) : Int) > 0 := by omega
  repeat' (first | (with_reducible first | apply w1 | apply w2 | apply w3 | apply w4 | apply w5 | apply w6 | apply w7 | apply w8 | apply w9 | apply wa | apply wb | apply wc) | ((with_reducible apply wd); focus decide) | ((with_reducible apply we); focus exact rfl) | ((with_reducible apply wf); focus exact rfl) | ((first | (with_reducible apply SW_run tt_ok hG htb) | ((with_reducible apply SW_draw rfl tt_ok hG htb); (focus kernel_rfl); focus simp only [List.range, List.range.loop, List.size_toArray, List.length_cons, List.length_nil, Nat.reduceAdd])); focus ((repeat' (first | (with_reducible first | exact wg | exact wh) | ((with_reducible first | apply wi | apply wj); focus (simp (discharger := omega) only [go_sem, hlt2, hm, simprocAttr]; with_reducible rfl)))); done)))
  refine SW_loop (fun mm st => ∃ (s : Nat) (bt : List T), mm = m - s ∧ st = ⟨91, [(8, .bptr 0 0), (3, .bptr 1 0), (7, .bptr 2 0), (9, .bptr 3 0), (2, .bptr 4 0), (10, .bptr 5 0), (11, .t (tNat (K + 1))), (12, .sref 6), (50, .t (tNat m)), (51, .t (tNat s))], [.box [.sref 7], .box [.t (tInt most)], .box [.sref 8], .box [.sref 9], .box [.t (tInt a.base), .t (tInt a.tracks), .t (tIntss a.next), .t (tBools a.ends)], .box [.fn 23 [.bptr 0 0, .bptr 1 0, .bptr 2 0, .bptr 3 0, .bptr 4 0, .bptr 5 0]], .row 4 1 true bt, .row 38 1 true outs, .row 23 1 wr cans, .row 3 1 true []]⟩ ∧ s ≤ m ∧ bt = (rowB a.next (canL a K) m s 0).map T.bool) m
    ⟨_, Norm.headS (own := []) (keep := [8, 3, 7, 9, 2, 10, 11, 12, 50, 51]) (by refine ⟨?_, ?_⟩; (simp (discharger := omega) only [go_sem, simprocAttr]; with_reducible rfl); refine ⟨?_, ?_, ?_, ?_⟩ <;> (simp only [go_sem, simprocAttr]; with_reducible rfl)), 0, _, rfl, rfl, Nat.zero_le _, by rw [rowB_zero, List.map_replicate]; try rfl⟩ ?_
  rintro mm st ⟨s, bt, rfl, rfl, hs, hbt⟩
  by_cases hslt : s < m
  · obtain ⟨row, hrow⟩ : ∃ row, a.next[s]! = row := ⟨_, rfl⟩
    have hrl := g.rows.row row (bang_mem hrow (by omega))
    have hrok := g.rows.ok row (bang_mem hrow (by omega))
    have hro : rowOf a.next ((s : Nat) : Int) = row := by unfold rowOf; exact bang_D hrow (by simpa [hm] using hslt)
    repeat' (first | (with_reducible first | apply w1 | apply w2 | apply w3 | apply w4 | apply w5 | apply w6 | apply w7 | apply w8 | apply w9 | apply wa | apply wb | apply wc) | ((with_reducible apply wd); focus decide) | ((with_reducible apply we); focus exact rfl) | ((with_reducible apply wf); focus exact rfl) | ((first | (with_reducible apply SW_run tt_ok hG htb) | ((with_reducible apply SW_draw rfl tt_ok hG htb); (focus kernel_rfl); focus simp only [List.range, List.range.loop, List.size_toArray, List.length_cons, List.length_nil, Nat.reduceAdd])); focus ((repeat' (first | (with_reducible first | exact wg | exact wh) | ((with_reducible first | apply wi | apply wj); focus (simp (discharger := omega) only [go_sem, hm, hrow, hrl, simprocAttr]; with_reducible rfl)))); done)))
    refine SW_loop (fun mm st => ∃ (l : Nat) (bt : List T), mm = n - l ∧ st = ⟨91, [(8, .bptr 0 0), (3, .bptr 1 0), (7, .bptr 2 0), (9, .bptr 3 0), (2, .bptr 4 0), (10, .bptr 5 0), (11, .t (tNat (K + 1))), (12, .sref 6), (50, .t (tNat m)), (51, .t (tNat s)), (13, .t (tNat s)), (58, .t (tInts row)), (59, .t (tNat n)), (60, .t (tNat l))], [.box [.sref 7], .box [.t (tInt most)], .box [.sref 8], .box [.sref 9], .box [.t (tInt a.base), .t (tInt a.tracks), .t (tIntss a.next), .t (tBools a.ends)], .box [.fn 23 [.bptr 0 0, .bptr 1 0, .bptr 2 0, .bptr 3 0, .bptr 4 0, .bptr 5 0]], .row 4 1 true bt, .row 38 1 true outs, .row 23 1 wr cans, .row 3 1 true []]⟩ ∧ l ≤ n ∧ bt = (rowB a.next (canL a K) m s l).map T.bool) n
      ⟨_, Norm.headS (own := []) (keep := [8, 3, 7, 9, 2, 10, 11, 12, 50, 51, 13, 58, 59, 60]) (by refine ⟨?_, ?_⟩; (simp (discharger := omega) only [go_sem, simprocAttr]; with_reducible rfl); refine ⟨?_, ?_, ?_, ?_⟩ <;> (simp only [go_sem, simprocAttr]; with_reducible rfl)), 0, _, rfl, rfl, Nat.zero_le _, hbt⟩ ?_
    clear hbt bt
    rintro mm st ⟨l, bt, rfl, rfl, hl, hbt⟩
    have hR := rowB_at (next := a.next) (C := canL a K) (l := l) hslt
    have hRl := rowB_len (next := a.next) (C := canL a K) (m := m) (s := s) (l := l)
    by_cases hllt : l < n
    · obtain ⟨t, ht⟩ : ∃ t, row[l]! = t := ⟨_, rfl⟩
      have htb2 := hrok t (bang_mem ht (by omega))
      have hset : ∀ v, v = ((rowB a.next (canL a K) m s l)[s]! || (canL a K).getD t.toNat false) → (rowB a.next (canL a K) m s l).set s v = rowB a.next (canL a K) m s (l + 1) := fun v hv => rowB_set hslt (by rw [hro]; exact bang_get ht (by omega)) hv
      obtain ⟨u, hu⟩ : ∃ u, (canL a K)[t.toNat]! = u := ⟨_, rfl⟩
      have hud : (canL a K).getD t.toNat false = u := bang_D hu (by omega)
      rw [hud] at hset
      generalize rowB a.next (canL a K) m s l = R at *
      obtain ⟨v, hv⟩ : ∃ v, R[s]! = v := ⟨_, rfl⟩
      rw [hv] at hset
      clear hR
      subst hbt
      cases v with
      | true =>
        have h2 := hset _ rfl
        clear hset
        repeat' (first | (with_reducible first | apply w1 | apply w2 | apply w3 | apply w4 | apply w5 | apply w6 | apply w7 | apply w8 | apply w9 | apply wa | apply wb | apply wc) | ((with_reducible apply wd); focus decide) | ((with_reducible apply we); focus exact rfl) | ((with_reducible apply wf); focus exact rfl) | ((first | (with_reducible apply SW_run tt_ok hG htb) | ((with_reducible apply SW_draw rfl tt_ok hG htb); (focus kernel_rfl); focus simp only [List.range, List.range.loop, List.size_toArray, List.length_cons, List.length_nil, Nat.reduceAdd])); focus ((repeat' (first | (with_reducible first | exact wg | exact wh) | ((with_reducible first | apply wi | apply wj); focus (simp (discharger := omega) only [go_sem, ht, hv, simprocAttr]; with_reducible rfl)))); done)))
        exact ⟨n - (l + 1), _, by omega, Norm.headS (own := []) (keep := [8, 3, 7, 9, 2, 10, 11, 12, 50, 51, 13, 58, 59, 60]) (by refine ⟨?_, ?_⟩; (simp (discharger := omega) only [go_sem, simprocAttr]; with_reducible rfl); refine ⟨?_, ?_, ?_, ?_⟩ <;> (simp only [go_sem, simprocAttr]; with_reducible rfl)), l + 1, _, rfl, rfl, by omega, by rw [← h2, List.map_set]; rfl⟩
      | false =>
        have h2 := hset _ rfl
        clear hset
        repeat' (first | (with_reducible first | apply w1 | apply w2 | apply w3 | apply w4 | apply w5 | apply w6 | apply w7 | apply w8 | apply w9 | apply wa | apply wb | apply wc) | ((with_reducible apply wd); focus decide) | ((with_reducible apply we); focus exact rfl) | ((with_reducible apply wf); focus exact rfl) | ((first | (with_reducible apply SW_run tt_ok hG htb) | ((with_reducible apply SW_draw rfl tt_ok hG htb); (focus kernel_rfl); focus simp only [List.range, List.range.loop, List.size_toArray, List.length_cons, List.length_nil, Nat.reduceAdd])); focus ((repeat' (first | (with_reducible first | exact wg | exact wh) | ((with_reducible first | apply wi | apply wj); focus (simp (discharger := omega) only [go_sem, ht, hv, hk1, hcK, hu, simprocAttr]; with_reducible rfl)))); done)))
        exact ⟨n - (l + 1), _, by omega, Norm.headS (own := []) (keep := [8, 3, 7, 9, 2, 10, 11, 12, 50, 51, 13, 58, 59, 60]) (by refine ⟨?_, ?_⟩; (simp (discharger := omega) only [go_sem, simprocAttr]; with_reducible rfl); refine ⟨?_, ?_, ?_, ?_⟩ <;> (simp only [go_sem, simprocAttr]; with_reducible rfl)), l + 1, _, rfl, rfl, by omega, by rw [← h2, List.map_set]; rfl⟩
    · obtain rfl : l = n := by omega
      rw [rowB_next (by rw [hro]; exact hrl)] at hbt
      clear hR hRl
      repeat' (first | (with_reducible first | apply w1 | apply w2 | apply w3 | apply w4 | apply w5 | apply w6 | apply w7 | apply w8 | apply w9 | apply wa | apply wb | apply wc) | ((with_reducible apply wd); focus decide) | ((with_reducible apply we); focus exact rfl) | ((with_reducible apply wf); focus exact rfl) | ((first | (with_reducible apply SW_run tt_ok hG htb) | ((with_reducible apply SW_draw rfl tt_ok hG htb); (focus kernel_rfl); focus simp only [List.range, List.range.loop, List.size_toArray, List.length_cons, List.length_nil, Nat.reduceAdd])); focus ((repeat' (first | (with_reducible first | exact wg | exact wh) | ((with_reducible first | apply wi | apply wj); focus (simp (discharger := omega) only [go_sem, simprocAttr]; with_reducible rfl)))); done)))
      exact ⟨m - (s + 1), _, by omega, Norm.headS (own := []) (keep := [8, 3, 7, 9, 2, 10, 11, 12, 50, 51]) (by refine ⟨?_, ?_⟩; (simp (discharger := omega) only [go_sem, simprocAttr]; with_reducible rfl); refine ⟨?_, ?_, ?_, ?_⟩ <;> (simp only [go_sem, simprocAttr]; with_reducible rfl)), s + 1, bt, rfl, rfl, by omega, hbt⟩
  · obtain rfl : s = m := by omega
    have hbt2 : bt = (canL a (K + 1)).map T.bool := by rw [hbt, ← hm, rowB_all]
    clear hbt
    have hbl : T.list bt = tBools (canL a (K + 1)) := by rw [hbt2]; rfl
    obtain ⟨cans2, hc2⟩ : ∃ cans2, cans ++ [T.list bt] = cans2 := ⟨_, rfl⟩
    have hcans2 : cans2 = (List.range (K + 1 + 1)).map fun k => tBools (canL a k) := by
      rw [← hc2, hcans, hbl, List.range_succ (n := K + 1), List.map_append]; rfl
    have hr := aq_all hG g h0 h200 (L := (K + 1)) (wr := true) (K + 1) 0 [] (outL a most (K + 1)) (Nat.le_refl _) (by omega) (by omega) (by simp only [List.length_nil]; omega) hle
    unfold AqC aqObs at hr
    obtain ⟨outj, hoj⟩ : ∃ outj, (outL a most ((K + 1) + 1)).map tInts = outj := ⟨_, rfl⟩
    rw [show walkL a most (K + 1) 0 [] (outL a most (K + 1)) = outL a most ((K + 1) + 1) from rfl, hoj, ← hout, ← show cans2 = _ from hcans2] at hr
    repeat' (first | (with_reducible first | refine SW_seq ?_ | refine SW_block ?_ | refine SThen_n ?_ | refine SThen_r ?_ | refine SThen_e ?_ | refine SIn_n ?_ | refine SIn_r ?_ | refine SIn_eq ?_ | refine SW_skip ?_ | refine SW_exit ?_ | refine SW_ret ?_ | refine SPost_r ?_) | ((with_reducible refine SIn_ne ?_ ?_); focus decide) | ((with_reducible refine SW_true ?_ ?_); focus exact rfl) | ((with_reducible refine SW_false ?_ ?_); focus exact rfl) | ((with_reducible apply SW_run tt_ok hG htb); focus ((repeat' (first | (with_reducible exact runX_nil) | ((with_reducible apply runX_cons); focus (simp (discharger := omega) only [go_sem, simprocAttr]; with_reducible rfl)))); done)))
    refine SW_norm (Norm.headS (own := []) (keep := [8, 3, 7, 9, 2, 10, 11]) (by refine ⟨?_, ?_⟩; (simp (discharger := omega) only [go_sem, simprocAttr]; with_reducible rfl); refine ⟨?_, ?_, ?_, ?_⟩ <;> (simp only [go_sem, simprocAttr]; with_reducible rfl))) ?_
    rw [hc2]
    refine SW_runCk tt_ok hG htb 2 rfl (by simp only [List.take_succ_cons, List.take_zero]; rfl) (by simp only [List.drop_succ_cons, List.drop_zero, Nat.reduceAdd]; rfl) (by (repeat' (first | (with_reducible exact runX_nil) | ((with_reducible apply runX_cons); focus (simp (discharger := omega) only [go_sem, simprocAttr]; with_reducible rfl))))) rfl rfl (g := 23) (cap := aqCap) (obs := [.box [.sref 6], .box [.t (tInt most)], .box [.sref 7], .box [.sref 8], .box [.t (tInt a.base), .t (tInt a.tracks), .t (tIntss a.next), .t (tBools a.ends)], .box [.fn 23 [.bptr 0 0, .bptr 1 0, .bptr 2 0, .bptr 3 0, .bptr 4 0, .bptr 5 0]], .row 38 1 true outs, .row 23 1 true cans2, .row 3 1 true []]) (obs' := [.box [.sref 6], .box [.t (tInt most)], .box [.sref 7], .box [.sref 8], .box [.t (tInt a.base), .t (tInt a.tracks), .t (tIntss a.next), .t (tBools a.ends)], .box [.fn 23 [.bptr 0 0, .bptr 1 0, .bptr 2 0, .bptr 3 0, .bptr 4 0, .bptr 5 0]], .row 38 1 true outj, .row 23 1 true cans2, .row 3 1 true []]) (rst := ?zrb) (r := ?ztb) (s2 := ?zsb) (s3 := ?zub) ?q1b ?q2b ?q3b ?q4b ?q5b ?q6b ?q7b ?q8b ?q9b ?q10b
    case q5b => exact hr
    case q1b => rfl
    case q2b => rfl
    case q3b => rfl
    case q4b => rfl
    case q6b => rfl
    case q7b => exact aq_xren _ _
    case q8b =>
      simp only [List.map_cons, List.map_nil, List.append_nil, SV.ren, renL, past, aqCap, List.getElem?_cons_zero, List.getElem?_cons_succ, List.getElem?_nil]
      rfl
    case q9b => (repeat' (first | (with_reducible exact runX_nil) | ((with_reducible apply runX_cons); focus (simp (discharger := omega) only [go_sem, simprocAttr]; with_reducible rfl))))
    repeat' (first | (with_reducible first | refine SW_seq ?_ | refine SW_block ?_ | refine SThen_n ?_ | refine SThen_r ?_ | refine SThen_e ?_ | refine SIn_n ?_ | refine SIn_r ?_ | refine SIn_eq ?_ | refine SW_skip ?_ | refine SW_exit ?_ | refine SW_ret ?_ | refine SPost_r ?_) | ((with_reducible refine SIn_ne ?_ ?_); focus decide) | ((with_reducible refine SW_true ?_ ?_); focus exact rfl) | ((with_reducible refine SW_false ?_ ?_); focus exact rfl) | ((with_reducible apply SW_run tt_ok hG htb); focus ((repeat' (first | (with_reducible exact runX_nil) | ((with_reducible apply runX_cons); focus (simp (discharger := omega) only [go_sem, simprocAttr]; with_reducible rfl)))); done)))
    exact ⟨401 - ((K + 1) + 1), _, by omega, Norm.headS (own := []) (keep := [8, 3, 7, 9, 2, 10, 11]) (by refine ⟨?_, ?_⟩; (simp (discharger := omega) only [go_sem, simprocAttr]; with_reducible rfl); refine ⟨?_, ?_, ?_, ?_⟩ <;> (simp only [go_sem, simprocAttr]; with_reducible rfl)), (K + 1) + 1, _, _, _, rfl, rfl, by omega, hoj.symm, hcans2⟩
end
end Go.Proofs.YtjidhaendndokaaDoor
namespace Go.Proofs.YtjidhaendndokaaDoor
open Go.RowKit

noncomputable def oneL (a : GAuto) : List (List Int) := listOf a 1
noncomputable def firstE (a : GAuto) : Int := if autoFault a ≠ 0 then autoFault a else if (oneL a).length = 0 then 4 else 0
noncomputable def firstW (a : GAuto) : List Int := if firstE a = 0 then (oneL a).headD [] else []
noncomputable def tupleE (a : GAuto) : Int := if firstE a ≠ 0 then firstE a else numsErr a.base a.tracks (firstW a)
noncomputable def tupleN (a : GAuto) : List Int := if firstE a ≠ 0 then [] else numsOf a.base a.tracks (firstW a)
theorem firstW_i64 (a : GAuto) : I64s (firstW a) := fun x hx => by
  unfold firstW at hx
  split at hx
  · rename_i h
    have hf : autoFault a = 0 := by
      unfold firstE at h
      by_cases q : autoFault a = 0
      · exact q
      · rw [if_pos q] at h; exact h
    have g := good_of hf
    cases hL : oneL a with
    | nil => rw [hL] at hx; cases hx
    | cons u t =>
      rw [hL] at hx
      have hm : u ∈ listOf a 1 := by
        have : u ∈ oneL a := by rw [hL]; exact List.mem_cons_self
        exact this
      have := (finds_mem g (by decide) hm).2.1 x hx
      have h36 := g.n36
      unfold I64; omega
  · cases hx
section
variable {G : World → Prop} (hG : Lasting G)
include hG
set_option maxHeartbeats 4000000 in
theorem First_snd (a : GAuto) : Snd Tryd.prog G 12 [tAuto a] (.tup [tInts (firstW a), tErr (firstE a)]) := by
  have cL := List_snd hG a 1
  refine snd_of_body (n := 21) (tm := [(0, .t (tAuto a))]) (rs := [.tmp 2, .tmp 3]) tt_ok Tryd.func12 rfl rfl rfl rfl rfl ?_
  by_cases hf : autoFault a = 0
  rotate_left
  · have e1 : listErr a 1 = autoFault a := if_pos hf
    have e2 : firstE a = autoFault a := if_pos hf
    have e3 : firstW a = [] := if_neg (by rw [e2]; exact hf)
    have e4 : listR a 1 = [] := if_neg (by rw [e1]; exact hf)
    rw [e1, e4] at cL
    rw [e2, e3]
    generalize autoFault a = e at *
    have htb := Tab.cons cL Tab.nil
    repeat' (first | (with_reducible first | apply w1 | apply w2 | apply w3 | apply w4 | apply w5 | apply w6 | apply w7 | apply w8 | apply w9 | apply wa | apply wb | apply wc) | ((with_reducible apply wd); focus decide) | ((with_reducible apply we); focus exact rfl) | ((with_reducible apply wf); focus exact rfl) | ((first | (with_reducible apply SW_run tt_ok hG htb) | ((with_reducible apply SW_draw rfl tt_ok hG htb); (focus kernel_rfl); focus simp only [List.range, List.range.loop, List.size_toArray, List.length_cons, List.length_nil, Nat.reduceAdd])); focus ((repeat' (first | (with_reducible first | exact wg | exact wh) | ((with_reducible first | apply wi | apply wj); focus (simp (discharger := omega) only [go_sem, tAuto, tErr, hf, simprocAttr]; with_reducible rfl)))); done)))
    exact (by simp (discharger := omega) only [go_sem, tErr, hf, simprocAttr])
  have e1 : listErr a 1 = 0 := by unfold listErr; rw [if_neg (fun q => q hf), if_neg (by decide)]
  have e4 : listR a 1 = oneL a := if_pos e1
  have e2 : firstE a = if (oneL a).length = 0 then 4 else 0 := if_neg (fun q => q hf)
  rw [e1, e4] at cL
  have e3 : firstW a = if firstE a = 0 then (oneL a).headD [] else [] := rfl
  rw [e3, e2]
  clear e1 e2 e3 e4
  generalize oneL a = L at *
  have htb := Tab.cons cL Tab.nil
  cases L with
  | nil =>
    rw [if_pos (show ([] : List (List Int)).length = 0 from rfl), if_neg (by decide)]
    repeat' (first | (with_reducible first | apply w1 | apply w2 | apply w3 | apply w4 | apply w5 | apply w6 | apply w7 | apply w8 | apply w9 | apply wa | apply wb | apply wc) | ((with_reducible apply wd); focus decide) | ((with_reducible apply we); focus exact rfl) | ((with_reducible apply wf); focus exact rfl) | ((first | (with_reducible apply SW_run tt_ok hG htb) | ((with_reducible apply SW_draw rfl tt_ok hG htb); (focus kernel_rfl); focus simp only [List.range, List.range.loop, List.size_toArray, List.length_cons, List.length_nil, Nat.reduceAdd])); focus ((repeat' (first | (with_reducible first | exact wg | exact wh) | ((with_reducible first | apply wi | apply wj); focus (simp (discharger := omega) only [go_sem, tAuto, tErr0, simprocAttr]; with_reducible rfl)))); done)))
    exact (by simp (discharger := omega) only [go_sem, tErr, simprocAttr])
  | cons u t =>
    rw [if_neg (show ¬ (u :: t).length = 0 by simp), if_pos rfl]
    show SW _ _ _ (SPost tt [.tmp 2, .tmp 3] (.tup [tInts u, tErr 0])) _
    repeat' (first | (with_reducible first | apply w1 | apply w2 | apply w3 | apply w4 | apply w5 | apply w6 | apply w7 | apply w8 | apply w9 | apply wa | apply wb | apply wc) | ((with_reducible apply wd); focus decide) | ((with_reducible apply we); focus exact rfl) | ((with_reducible apply wf); focus exact rfl) | ((first | (with_reducible apply SW_run tt_ok hG htb) | ((with_reducible apply SW_draw rfl tt_ok hG htb); (focus kernel_rfl); focus simp only [List.range, List.range.loop, List.size_toArray, List.length_cons, List.length_nil, Nat.reduceAdd])); focus ((repeat' (first | (with_reducible first | exact wg | exact wh) | ((with_reducible first | apply wi | apply wj); focus (simp (discharger := omega) only [go_sem, tAuto, tErr0, simprocAttr]; with_reducible rfl)))); done)))
    exact (by simp (discharger := omega) only [go_sem, tErr0, simprocAttr])
set_option maxHeartbeats 4000000 in
theorem Tuple_snd (a : GAuto) : Snd Tryd.prog G 15 [tAuto a] (.tup [tInts (tupleN a), tErr (tupleE a)]) := by
  have c1 := First_snd hG a
  have c2 := Nums_snd hG a.base a.tracks (firstW a) (firstW_i64 a)
  have e1 : tupleE a = if firstE a ≠ 0 then firstE a else numsErr a.base a.tracks (firstW a) := rfl
  have e2 : tupleN a = if firstE a ≠ 0 then [] else numsOf a.base a.tracks (firstW a) := rfl
  rw [e1, e2]
  clear e1 e2
  refine snd_of_body (n := 22) (tm := [(0, .t (tAuto a))]) (rs := [.tmp 2, .tmp 3]) tt_ok Tryd.func15 rfl rfl rfl rfl rfl ?_
  by_cases h : firstE a = 0
  rotate_left
  · rw [if_pos h, if_pos h]
    have e3 : firstW a = [] := if_neg h
    rw [e3] at c1
    generalize firstE a = e at *
    have htb := Tab.cons c1 Tab.nil
    repeat' (first | (with_reducible first | apply w1 | apply w2 | apply w3 | apply w4 | apply w5 | apply w6 | apply w7 | apply w8 | apply w9 | apply wa | apply wb | apply wc) | ((with_reducible apply wd); focus decide) | ((with_reducible apply we); focus exact rfl) | ((with_reducible apply wf); focus exact rfl) | ((first | (with_reducible apply SW_run tt_ok hG htb) | ((with_reducible apply SW_draw rfl tt_ok hG htb); (focus kernel_rfl); focus simp only [List.range, List.range.loop, List.size_toArray, List.length_cons, List.length_nil, Nat.reduceAdd])); focus ((repeat' (first | (with_reducible first | exact wg | exact wh) | ((with_reducible first | apply wi | apply wj); focus (simp (discharger := omega) only [go_sem, tAuto, tErr, h, simprocAttr]; with_reducible rfl)))); done)))
    exact (by simp (discharger := omega) only [go_sem, tErr, h, simprocAttr])
  rw [if_neg (fun q => q h), if_neg (fun q => q h)]
  rw [h] at c1
  generalize firstW a = w at *
  generalize numsOf a.base a.tracks w = ns at *
  generalize numsErr a.base a.tracks w = e at *
  have htb := Tab.cons c1 (Tab.cons c2 Tab.nil)
  by_cases he : e = 0
  · subst he
    repeat' (first | (with_reducible first | apply w1 | apply w2 | apply w3 | apply w4 | apply w5 | apply w6 | apply w7 | apply w8 | apply w9 | apply wa | apply wb | apply wc) | ((with_reducible apply wd); focus decide) | ((with_reducible apply we); focus exact rfl) | ((with_reducible apply wf); focus exact rfl) | ((first | (with_reducible apply SW_run tt_ok hG htb) | ((with_reducible apply SW_draw rfl tt_ok hG htb); (focus kernel_rfl); focus simp only [List.range, List.range.loop, List.size_toArray, List.length_cons, List.length_nil, Nat.reduceAdd])); focus ((repeat' (first | (with_reducible first | exact wg | exact wh) | ((with_reducible first | apply wi | apply wj); focus (simp (discharger := omega) only [go_sem, tAuto, tErr0, simprocAttr]; with_reducible rfl)))); done)))
    exact (by simp (discharger := omega) only [go_sem, tErr0, simprocAttr])
  · repeat' (first | (with_reducible first | apply w1 | apply w2 | apply w3 | apply w4 | apply w5 | apply w6 | apply w7 | apply w8 | apply w9 | apply wa | apply wb | apply wc) | ((with_reducible apply wd); focus decide) | ((with_reducible apply we); focus exact rfl) | ((with_reducible apply wf); focus exact rfl) | ((first | (with_reducible apply SW_run tt_ok hG htb) | ((with_reducible apply SW_draw rfl tt_ok hG htb); (focus kernel_rfl); focus simp only [List.range, List.range.loop, List.size_toArray, List.length_cons, List.length_nil, Nat.reduceAdd])); focus ((repeat' (first | (with_reducible first | exact wg | exact wh) | ((with_reducible first | apply wi | apply wj); focus (simp (discharger := omega) only [go_sem, tAuto, tErr, he, simprocAttr]; with_reducible rfl)))); done)))
    exact (by simp (discharger := omega) only [go_sem, tErr, he, simprocAttr])
end
end Go.Proofs.YtjidhaendndokaaDoor
namespace Go.Proofs.YtjidhaendndokaaDoor
open Go.RowKit
theorem repErr_inv {S : Nat → Prop} {w : World} {v : Value} {e : Int} (h : RepT S w (tErr e) v) : v = errV 26 e := by
  unfold tErr at h; unfold errV
  split at h
  · rename_i h0
    rw [if_pos h0]; cases h; rfl
  · rename_i h0
    rw [if_neg h0]
    cases h with
    | iface t x v h => cases h; rfl
theorem errCell_lasting : Lasting errCell := fun _ _ hb h => errCell.below h hb
theorem Error_snd (e f : Int) : Snd Tryd.prog errCell 8 [tErr e, tInt f] (.bool (e == f)) :=
  snd2 Tryd.func8 rfl rfl fun S w v u hg _ h h' => by
    obtain rfl := repErr_inv h; obtain rfl := intInv h'
    exact ⟨_, Error_calls e f w hg, fun S w => .bool _⟩
end Go.Proofs.YtjidhaendndokaaDoor
namespace Go.Proofs.YtjidhaendndokaaDoor
open Go.RowKit

theorem list_same {α : Type} [Inhabited α] {l l' : List α} (hl : l.length = l'.length) (h : ∀ j, j < l.length → l[j]! = l'[j]!) : l = l' := by
  refine List.ext_getElem hl fun i h1 h2 => ?_
  have := h i h1
  rwa [getElem!_pos l i h1, getElem!_pos l' i h2] at this
section
variable {G : World → Prop} (hG : Lasting G)
include hG
set_option maxHeartbeats 4000000 in
theorem SInts_snd (d d' : List Int) : Snd Tryd.prog G 13 [tInts d, tInts d'] (.bool (decide (d = d'))) := by
  have htb : Tab.ok Tryd.prog G [] := Tab.nil
  refine snd_of_body (n := 26) (tm := [(0, .t (tInts d)), (1, .t (tInts d'))]) (rs := [.tmp 4]) tt_ok Tryd.func13 rfl rfl rfl rfl rfl ?_
  refine SW_len (t := 0) (l := _) rfl fun hlen => ?_
  simp only [List.length_map] at hlen
  by_cases hl : d.length = d'.length
  · repeat' (first | (with_reducible first | apply w1 | apply w2 | apply w3 | apply w4 | apply w5 | apply w6 | apply w7 | apply w8 | apply w9 | apply wa | apply wb | apply wc) | ((with_reducible apply wd); focus decide) | ((with_reducible apply we); focus exact rfl) | ((with_reducible apply wf); focus exact rfl) | ((first | (with_reducible apply SW_run tt_ok hG htb) | ((with_reducible apply SW_draw rfl tt_ok hG htb); (focus kernel_rfl); focus simp only [List.range, List.range.loop, List.size_toArray, List.length_cons, List.length_nil, Nat.reduceAdd])); focus ((repeat' (first | (with_reducible first | exact wg | exact wh) | ((with_reducible first | apply wi | apply wj); focus (simp (discharger := omega) only [go_sem, hl, simprocAttr]; with_reducible rfl)))); done)))
    refine SW_loop (fun n s => ∃ k : Nat, n = d.length - k ∧ s = ⟨26, [(0, .t (tInts d)), (1, .t (tInts d')), (5, .t (tInt k))], []⟩ ∧ k ≤ d.length ∧ ∀ j, j < k → d[j]! = d'[j]!) d.length ⟨_, Norm.headS (own := []) (keep := [0, 1, 5]) (by refine ⟨?_, ?_⟩; (simp (discharger := omega) only [go_sem, simprocAttr]; with_reducible rfl); refine ⟨?_, ?_, ?_, ?_⟩ <;> (simp only [go_sem, simprocAttr]; with_reducible rfl)), 0, rfl, rfl, Nat.zero_le _, fun j hj => by omega⟩ ?_
    rintro n s ⟨k, rfl, rfl, hk, hA⟩
    by_cases hlt : k < d.length
    · by_cases h : d[k]! = d'[k]!
      · repeat' (first | (with_reducible first | apply w1 | apply w2 | apply w3 | apply w4 | apply w5 | apply w6 | apply w7 | apply w8 | apply w9 | apply wa | apply wb | apply wc) | ((with_reducible apply wd); focus decide) | ((with_reducible apply we); focus exact rfl) | ((with_reducible apply wf); focus exact rfl) | ((first | (with_reducible apply SW_run tt_ok hG htb) | ((with_reducible apply SW_draw rfl tt_ok hG htb); (focus kernel_rfl); focus simp only [List.range, List.range.loop, List.size_toArray, List.length_cons, List.length_nil, Nat.reduceAdd])); focus ((repeat' (first | (with_reducible first | exact wg | exact wh) | ((with_reducible first | apply wi | apply wj); focus (simp (discharger := omega) only [go_sem, h, simprocAttr]; with_reducible rfl)))); done)))
        exact ⟨d.length - (k + 1), _, by omega, Norm.headS (own := []) (keep := [0, 1, 5]) (by refine ⟨?_, ?_⟩; (simp (discharger := omega) only [go_sem, simprocAttr]; with_reducible rfl); refine ⟨?_, ?_, ?_, ?_⟩ <;> (simp only [go_sem, simprocAttr]; with_reducible rfl)), k + 1, rfl, rfl, by omega, fun j hj => by
          by_cases e : j = k
          · subst e; exact h
          · exact hA j (by omega)⟩
      · rw [decide_eq_false (fun e => h (by rw [e]))]
        repeat' (first | (with_reducible first | apply w1 | apply w2 | apply w3 | apply w4 | apply w5 | apply w6 | apply w7 | apply w8 | apply w9 | apply wa | apply wb | apply wc) | ((with_reducible apply wd); focus decide) | ((with_reducible apply we); focus exact rfl) | ((with_reducible apply wf); focus exact rfl) | ((first | (with_reducible apply SW_run tt_ok hG htb) | ((with_reducible apply SW_draw rfl tt_ok hG htb); (focus kernel_rfl); focus simp only [List.range, List.range.loop, List.size_toArray, List.length_cons, List.length_nil, Nat.reduceAdd])); focus ((repeat' (first | (with_reducible first | exact wg | exact wh) | ((with_reducible first | apply wi | apply wj); focus (simp (discharger := omega) only [go_sem, h, simprocAttr]; with_reducible rfl)))); done)))
        exact (by simp (discharger := omega) only [go_sem, simprocAttr])
    · rw [decide_eq_true (list_same hl fun j hj => hA j (by omega))]
      repeat' (first | (with_reducible first | apply w1 | apply w2 | apply w3 | apply w4 | apply w5 | apply w6 | apply w7 | apply w8 | apply w9 | apply wa | apply wb | apply wc) | ((with_reducible apply wd); focus decide) | ((with_reducible apply we); focus exact rfl) | ((with_reducible apply wf); focus exact rfl) | ((first | (with_reducible apply SW_run tt_ok hG htb) | ((with_reducible apply SW_draw rfl tt_ok hG htb); (focus kernel_rfl); focus simp only [List.range, List.range.loop, List.size_toArray, List.length_cons, List.length_nil, Nat.reduceAdd])); focus ((repeat' (first | (with_reducible first | exact wg | exact wh) | ((with_reducible first | apply wi | apply wj); focus (simp (discharger := omega) only [go_sem, simprocAttr]; with_reducible rfl)))); done)))
      exact (by simp (discharger := omega) only [go_sem, simprocAttr])
  · rw [decide_eq_false (fun e => hl (by rw [e]))]
    repeat' (first | (with_reducible first | apply w1 | apply w2 | apply w3 | apply w4 | apply w5 | apply w6 | apply w7 | apply w8 | apply w9 | apply wa | apply wb | apply wc) | ((with_reducible apply wd); focus decide) | ((with_reducible apply we); focus exact rfl) | ((with_reducible apply wf); focus exact rfl) | ((first | (with_reducible apply SW_run tt_ok hG htb) | ((with_reducible apply SW_draw rfl tt_ok hG htb); (focus kernel_rfl); focus simp only [List.range, List.range.loop, List.size_toArray, List.length_cons, List.length_nil, Nat.reduceAdd])); focus ((repeat' (first | (with_reducible first | exact wg | exact wh) | ((with_reducible first | apply wi | apply wj); focus (simp (discharger := omega) only [go_sem, hl, simprocAttr]; with_reducible rfl)))); done)))
    exact (by simp (discharger := omega) only [go_sem, simprocAttr])
set_option maxHeartbeats 4000000 in
theorem Lists_snd (d d' : List (List Int)) : Snd Tryd.prog G 9 [tIntss d, tIntss d'] (.bool (decide (d = d'))) := by
  have htb : Tab.ok Tryd.prog G [] := Tab.nil
  refine snd_of_body (n := 29) (tm := [(0, .t (tIntss d)), (1, .t (tIntss d'))]) (rs := [.tmp 4]) tt_ok Tryd.func9 rfl rfl rfl rfl rfl ?_
  refine SW_len (t := 0) (l := _) rfl fun hlen => ?_
  simp only [List.length_map] at hlen
  by_cases hl : d.length = d'.length
  · repeat' (first | (with_reducible first | apply w1 | apply w2 | apply w3 | apply w4 | apply w5 | apply w6 | apply w7 | apply w8 | apply w9 | apply wa | apply wb | apply wc) | ((with_reducible apply wd); focus decide) | ((with_reducible apply we); focus exact rfl) | ((with_reducible apply wf); focus exact rfl) | ((first | (with_reducible apply SW_run tt_ok hG htb) | ((with_reducible apply SW_draw rfl tt_ok hG htb); (focus kernel_rfl); focus simp only [List.range, List.range.loop, List.size_toArray, List.length_cons, List.length_nil, Nat.reduceAdd])); focus ((repeat' (first | (with_reducible first | exact wg | exact wh) | ((with_reducible first | apply wi | apply wj); focus (simp (discharger := omega) only [go_sem, hl, simprocAttr]; with_reducible rfl)))); done)))
    refine SW_loop (fun n s => ∃ k : Nat, n = d.length - k ∧ s = ⟨29, [(0, .t (tIntss d)), (1, .t (tIntss d')), (5, .t (tInt k))], []⟩ ∧ k ≤ d.length ∧ ∀ j, j < k → d[j]! = d'[j]!) d.length ⟨_, Norm.headS (own := []) (keep := [0, 1, 5]) (by refine ⟨?_, ?_⟩; (simp (discharger := omega) only [go_sem, simprocAttr]; with_reducible rfl); refine ⟨?_, ?_, ?_, ?_⟩ <;> (simp only [go_sem, simprocAttr]; with_reducible rfl)), 0, rfl, rfl, Nat.zero_le _, fun j hj => by omega⟩ ?_
    rintro n s ⟨k, rfl, rfl, hk, hA⟩
    by_cases hlt : k < d.length
    · have htb := Tab.cons (SInts_snd hG d[k]! d'[k]!) Tab.nil
      by_cases h : d[k]! = d'[k]!
      · rw [decide_eq_true h] at htb
        repeat' (first | (with_reducible first | apply w1 | apply w2 | apply w3 | apply w4 | apply w5 | apply w6 | apply w7 | apply w8 | apply w9 | apply wa | apply wb | apply wc) | ((with_reducible apply wd); focus decide) | ((with_reducible apply we); focus exact rfl) | ((with_reducible apply wf); focus exact rfl) | ((first | (with_reducible apply SW_run tt_ok hG htb) | ((with_reducible apply SW_draw rfl tt_ok hG htb); (focus kernel_rfl); focus simp only [List.range, List.range.loop, List.size_toArray, List.length_cons, List.length_nil, Nat.reduceAdd])); focus ((repeat' (first | (with_reducible first | exact wg | exact wh) | ((with_reducible first | apply wi | apply wj); focus (simp (discharger := omega) only [go_sem, simprocAttr]; with_reducible rfl)))); done)))
        exact ⟨d.length - (k + 1), _, by omega, Norm.headS (own := []) (keep := [0, 1, 5]) (by refine ⟨?_, ?_⟩; (simp (discharger := omega) only [go_sem, simprocAttr]; with_reducible rfl); refine ⟨?_, ?_, ?_, ?_⟩ <;> (simp only [go_sem, simprocAttr]; with_reducible rfl)), k + 1, rfl, rfl, by omega, fun j hj => by
          by_cases e : j = k
          · subst e; exact h
          · exact hA j (by omega)⟩
      · rw [decide_eq_false (fun e => h (by rw [e]))]
        rw [decide_eq_false h] at htb
        repeat' (first | (with_reducible first | apply w1 | apply w2 | apply w3 | apply w4 | apply w5 | apply w6 | apply w7 | apply w8 | apply w9 | apply wa | apply wb | apply wc) | ((with_reducible apply wd); focus decide) | ((with_reducible apply we); focus exact rfl) | ((with_reducible apply wf); focus exact rfl) | ((first | (with_reducible apply SW_run tt_ok hG htb) | ((with_reducible apply SW_draw rfl tt_ok hG htb); (focus kernel_rfl); focus simp only [List.range, List.range.loop, List.size_toArray, List.length_cons, List.length_nil, Nat.reduceAdd])); focus ((repeat' (first | (with_reducible first | exact wg | exact wh) | ((with_reducible first | apply wi | apply wj); focus (simp (discharger := omega) only [go_sem, simprocAttr]; with_reducible rfl)))); done)))
        exact (by simp (discharger := omega) only [go_sem, simprocAttr])
    · rw [decide_eq_true (list_same hl fun j hj => hA j (by omega))]
      repeat' (first | (with_reducible first | apply w1 | apply w2 | apply w3 | apply w4 | apply w5 | apply w6 | apply w7 | apply w8 | apply w9 | apply wa | apply wb | apply wc) | ((with_reducible apply wd); focus decide) | ((with_reducible apply we); focus exact rfl) | ((with_reducible apply wf); focus exact rfl) | ((first | (with_reducible apply SW_run tt_ok hG htb) | ((with_reducible apply SW_draw rfl tt_ok hG htb); (focus kernel_rfl); focus simp only [List.range, List.range.loop, List.size_toArray, List.length_cons, List.length_nil, Nat.reduceAdd])); focus ((repeat' (first | (with_reducible first | exact wg | exact wh) | ((with_reducible first | apply wi | apply wj); focus (simp (discharger := omega) only [go_sem, simprocAttr]; with_reducible rfl)))); done)))
      exact (by simp (discharger := omega) only [go_sem, simprocAttr])
  · rw [decide_eq_false (fun e => hl (by rw [e]))]
    repeat' (first | (with_reducible first | apply w1 | apply w2 | apply w3 | apply w4 | apply w5 | apply w6 | apply w7 | apply w8 | apply w9 | apply wa | apply wb | apply wc) | ((with_reducible apply wd); focus decide) | ((with_reducible apply we); focus exact rfl) | ((with_reducible apply wf); focus exact rfl) | ((first | (with_reducible apply SW_run tt_ok hG htb) | ((with_reducible apply SW_draw rfl tt_ok hG htb); (focus kernel_rfl); focus simp only [List.range, List.range.loop, List.size_toArray, List.length_cons, List.length_nil, Nat.reduceAdd])); focus ((repeat' (first | (with_reducible first | exact wg | exact wh) | ((with_reducible first | apply wi | apply wj); focus (simp (discharger := omega) only [go_sem, hl, simprocAttr]; with_reducible rfl)))); done)))
    exact (by simp (discharger := omega) only [go_sem, simprocAttr])
end
end Go.Proofs.YtjidhaendndokaaDoor
namespace Go.Proofs.YtjidhaendndokaaDoor
open Go.ChangeShapes Go.WideShapes Go.ChangeAt Go.RowKit Go.Joins Go.Deep

section
variable {H : Type} {enc : TypeId × Value → H} {w : World} {sp : Nat → Bool} {held : Bool}
/-- One cell that reads as a datum. -/
def OpensT (enc : TypeId × Value → H) (w : World) (sp : Nat → Bool) (held : Bool) (T : TypeId) (Q : Go.Proofs.YtjidhaendndokaaDoor.T → Prop) : Prop :=
  ∀ n v y, DataW.trod enc Tryd.prog w 0 sp held n T [v] = some y → v.oneCell' = true ∧ ∃ x, Q x ∧ x.cells = [x] ∧ RepT (· < w.heap.size) w x v
theorem flat_cells : ∀ {l : List Go.Proofs.YtjidhaendndokaaDoor.T}, (∀ x ∈ l, x.cells = [x]) → Go.Proofs.YtjidhaendndokaaDoor.flat l = l
  | [], _ => rfl
  | a :: t, h => by
    have := flat_cells fun x hx => h x (List.mem_cons_of_mem a hx)
    simp only [Go.Proofs.YtjidhaendndokaaDoor.flat, List.flatMap_cons] at this ⊢
    rw [this, h a List.mem_cons_self]; rfl
theorem opensT_int {T : TypeId} (ht : Tryd.prog.underlying T = some (.int .i64)) : OpensT enc w sp held T fun x => ∃ n, x = tInt n ∧ I64 n := by
  intro n v y h
  obtain ⟨a, rfl, h2⟩ := opens_int ht n v y h
  exact ⟨rfl, _, ⟨a, rfl, h2⟩, rfl, .int _ _⟩
theorem opensT_bool {T : TypeId} (ht : Tryd.prog.underlying T = some .bool) : OpensT enc w sp held T fun x => ∃ b, x = .bool b := by
  intro n v y h
  obtain ⟨a, rfl⟩ := opens_bool ht n v y h
  exact ⟨rfl, _, ⟨a, rfl⟩, rfl, .bool _⟩
theorem opensT_slice {T e : TypeId} {Q : Go.Proofs.YtjidhaendndokaaDoor.T → Prop} (ht : Tryd.prog.underlying T = some (.slice e)) (hc : Tryd.prog.cellsOf e = 1) (hE : OpensT enc w sp held e Q) :
    OpensT enc w sp held T fun x => ∃ l, x = .list l ∧ ∀ y ∈ l, Q y := by
  intro n v y h
  rcases open_slice1 ht hc h with ⟨hcs, _⟩ | ⟨a, len, cap, m, n', V, D, Pl, hcs, _, hl, hcap, hm, _, hx⟩
  · obtain rfl : v = .slice none 0 0 := by simpa using hcs
    exact ⟨rfl, _, ⟨[], rfl, fun y hy => by simp at hy⟩, rfl, .list [] none 0 1 (fun _ => undef) (Nat.zero_le _) Nat.one_pos (fun x hx => by simp at hx) (fun h => (h rfl).elim) (fun k hk => by simp at hk) (fun k y hy => by simp [Go.Proofs.YtjidhaendndokaaDoor.flat] at hy) (Nat.le_refl _)⟩
  · obtain rfl : v = .slice (some a) len cap := by simpa using hcs
    have hlm : len ≤ m := by rw [hm]; split <;> omega
    have hall : ∀ i, i < len → (V i).oneCell' = true ∧ ∃ b, Q b ∧ b.cells = [b] ∧ RepT (· < w.heap.size) w b (V i) := fun i hi => hE _ _ _ (hx i (by omega)).2
    have key : ∀ k, k ≤ len → ∃ l : List Go.Proofs.YtjidhaendndokaaDoor.T, l.length = k ∧ ∀ i (hi : i < l.length), Q l[i] ∧ l[i].cells = [l[i]] ∧ RepT (· < w.heap.size) w l[i] (V i) := by
      intro k
      induction k with
      | zero => intro _; exact ⟨[], rfl, fun i hi => absurd hi (by simp)⟩
      | succ k ih =>
        intro hk
        obtain ⟨l, hl1, hl2⟩ := ih (by omega)
        obtain ⟨_, b, hb⟩ := hall k (by omega)
        refine ⟨l ++ [b], by simp [hl1], fun i hi => ?_⟩
        rw [List.getElem_append]
        split
        · exact hl2 i ‹_›
        · obtain rfl : i = k := by simp at hi; omega
          simpa using hb
    obtain ⟨l, hl1, hl2⟩ := key len (Nat.le_refl _)
    subst hl1
    have hcells : ∀ x ∈ l, x.cells = [x] := fun x hx => by obtain ⟨i, hi, rfl⟩ := List.mem_iff_getElem.1 hx; exact (hl2 i hi).2.1
    have hfl := flat_cells hcells
    refine ⟨rfl, _, ⟨l, rfl, fun y hy => by obtain ⟨i, hi, rfl⟩ := List.mem_iff_getElem.1 hy; exact (hl2 i hi).1⟩, rfl, ?_⟩
    refine .list l (some a) cap 1 V (by simp only [maxLen] at hcap ⊢; omega) Nat.one_pos (fun x hx => by rw [hcells x hx]; rfl) (fun hne => ?_) (fun k hk => (hall k (by omega)).1) (fun k y hy => ?_) (by omega)
    · obtain ⟨b, off, spot⟩ := a
      have hpos : 0 < l.length := List.length_pos_iff.2 hne
      have hc1 := (hx 0 (by omega)).1
      have hspot : spot = none := by simpa [Addr.add] using World.cell?_spot hc1
      subst hspot
      have hadd : ∀ i, (⟨b, off, none⟩ : Addr).add i = ⟨b, off + i, none⟩ := fun i => by unfold Addr.add; split <;> simp_all
      refine ⟨b, off, rfl, ?_, fun k hk => ?_⟩
      · rw [hadd] at hc1; exact cell_lt hc1
      · have := (hx k (by omega)).1
        rw [hadd] at this; exact this
    · rw [hfl] at hy
      obtain ⟨hk, rfl⟩ := List.getElem?_eq_some_iff.1 hy
      exact (hl2 k hk).2.2
theorem allMap {α : Type} {f : α → Go.Proofs.YtjidhaendndokaaDoor.T} {Q : α → Prop} : ∀ {l : List Go.Proofs.YtjidhaendndokaaDoor.T}, (∀ y ∈ l, ∃ a, y = f a ∧ Q a) → ∃ q : List α, l = q.map f ∧ ∀ a ∈ q, Q a
  | [], _ => ⟨[], rfl, fun a ha => by simp at ha⟩
  | x :: t, h => by
    obtain ⟨a, rfl, ha⟩ := h x List.mem_cons_self
    obtain ⟨q, rfl, hq⟩ := allMap fun y hy => h y (List.mem_cons_of_mem _ hy)
    exact ⟨a :: q, rfl, fun b hb => by
      rcases List.mem_cons.1 hb with rfl | hb
      · exact ha
      · exact hq b hb⟩
theorem opensT_ints {T : TypeId} (h : OpensT enc w sp held T fun x => ∃ l, x = .list l ∧ ∀ y ∈ l, ∃ n, y = tInt n ∧ I64 n) : OpensT enc w sp held T fun x => ∃ l, x = tInts l ∧ I64s l := fun n v y hy => by
  obtain ⟨h1, x, ⟨l, rfl, hl⟩, h2, h3⟩ := h n v y hy
  obtain ⟨q, rfl, hq⟩ := allMap hl
  exact ⟨h1, _, ⟨q, rfl, hq⟩, rfl, h3⟩
theorem opensIntsT : OpensT enc w sp held 38 fun x => ∃ l, x = tInts l ∧ I64s l := opensT_ints (opensT_slice Tryd.underlying38 (by kernel_rfl) (opensT_int Tryd.underlying3))
theorem opensIntssT : OpensT enc w sp held 22 fun x => ∃ l, x = tIntss l ∧ ∀ r ∈ l, I64s r := fun n v y hy => by
  obtain ⟨h1, x, ⟨l, rfl, hl⟩, h2, h3⟩ := opensT_slice Tryd.underlying22 (by kernel_rfl) opensIntsT n v y hy
  obtain ⟨q, rfl, hq⟩ := allMap hl
  exact ⟨h1, _, ⟨q, rfl, hq⟩, rfl, h3⟩
theorem opensBoolsT : OpensT enc w sp held 23 fun x => ∃ l, x = tBools l := fun n v y hy => by
  obtain ⟨h1, x, ⟨l, rfl, hl⟩, h2, h3⟩ := opensT_slice Tryd.underlying23 (by kernel_rfl) (opensT_bool Tryd.underlying4) n v y hy
  obtain ⟨q, rfl, hq⟩ := allMap (Q := fun _ => True) fun y hy => by obtain ⟨b, hb⟩ := hl y hy; exact ⟨b, hb, trivial⟩
  exact ⟨h1, _, ⟨q, rfl⟩, rfl, h3⟩
def ReadsAuto (w : World) (v : Value) (a : GAuto) : Prop := I64A a ∧ RepT (· < w.heap.size) w (tAuto a) v
set_option maxRecDepth 100000 in
theorem openAutoT {base : Nat} {v : Value} {d : DataW H} {p : List MemPlace} (hv : Value.okWide Tryd.prog w .any base 25 v) (h : DataW.Trod enc Tryd.prog w 0 sp held 25 v d p) :
    ∃ a : GAuto, ReadsAuto w v a := by
  obtain ⟨v0, v1, v2, v3, y0, y1, y2, y3, n, rfl, _, _, h0, h1, h2, h3⟩ := open_agg4 Tryd.underlying25 (by kernel_rfl) (by kernel_rfl) hv h
  obtain ⟨a0, rfl, i0⟩ := opens_int Tryd.underlying3 _ _ _ h0
  obtain ⟨a1, rfl, i1⟩ := opens_int Tryd.underlying3 _ _ _ h1
  obtain ⟨o2, x2, ⟨a2, rfl, i2⟩, _, hn⟩ := opensIntssT _ _ _ h2
  obtain ⟨o3, x3, ⟨a3, rfl⟩, _, he⟩ := opensBoolsT _ _ _ h3
  refine ⟨⟨a0, a1, a2, a3⟩, ⟨i0, i1, i2⟩, .agg _ _ rfl (fun k v hk => ?_) fun k y v hy hk => ?_⟩
  · match k, hk with
    | 0, hk => cases hk; rfl
    | 1, hk => cases hk; rfl
    | 2, hk => cases hk; exact o2
    | 3, hk => cases hk; exact o3
  · match k, hy, hk with
    | 0, hy, hk => cases hy; cases hk; exact .int _ _
    | 1, hy, hk => cases hy; cases hk; exact .int _ _
    | 2, hy, hk => cases hy; cases hk; exact hn
    | 3, hy, hk => cases hy; cases hk; exact he
end
theorem walkN {P : Program} {G : World → Prop} {f : Nat} {xs : List T} {w : World} {vs : Array Value} (h : Snd P G f xs (.bool true)) (hG : G w) (hl : vs.size = xs.length) (hx : ∀ (k : Nat) (y : T) (v : Value), xs[k]? = some y → vs[k]? = some v → RepT (· < w.heap.size) w y v) : Calls P f vs w (Ret (.bool true) w) :=
  (h.calls (· < w.heap.size) w vs hG hl hx).mono fun e w' hq => by obtain ⟨u, h1, h2, h3⟩ := hq; cases h2; exact ⟨h1, h3⟩
end Go.Proofs.YtjidhaendndokaaDoor
namespace Go.Proofs.YtjidhaendndokaaDoor
open Go.RowKit

set_option maxHeartbeats 16000000 in
set_option maxRecDepth 100000 in
theorem AskLists_snd (a : GAuto) (most : Int) : Snd Tryd.prog errCell 3 [tAuto a, tInt most] (.bool true) := by
  have hG := errCell_lasting
  have cA := Fault_snd (G := errCell) hG a
  have cQ := List_snd (G := errCell) hG a most
  have cF := Finite_snd (G := errCell) hG a
  have cW := First_snd (G := errCell) hG a
  have cT := Tuple_snd (G := errCell) hG a
  have e0 := Error_snd 0 0
  have e1 := Error_snd 1 1
  have e4 := Error_snd 4 4
  have eF := Error_snd (autoFault a) (autoFault a)
  rw [beq_self_eq_true] at e0 e1 e4 eF
  have iN := SInts_snd (G := errCell) hG [] []
  rw [decide_eq_true rfl] at iN
  have lN := Lists_snd (G := errCell) hG [] []
  rw [decide_eq_true rfl] at lN
  refine snd_of_body (n := 127) (tm := [(0, .t (tAuto a)), (1, .t (tInt most))]) (rs := [.tmp 4]) tt_ok Tryd.func3 rfl rfl rfl rfl rfl ?_
  by_cases hf : autoFault a = 0
  rotate_left
  · have l1 : listErr a most = autoFault a := if_pos hf
    have l2 : listR a most = [] := if_neg (by rw [l1]; exact hf)
    have f1 : firstE a = autoFault a := if_pos hf
    have f2 : firstW a = [] := if_neg (by rw [f1]; exact hf)
    have t1 : tupleE a = autoFault a := by unfold tupleE; rw [f1, if_pos hf]
    have t2 : tupleN a = [] := by unfold tupleN; rw [f1, if_pos hf]
    have g1 : finOf a = false := if_neg hf
    rw [l1, l2] at cQ
    rw [f1, f2] at cW
    rw [t1, t2] at cT
    rw [g1] at cF
    clear l1 l2 f1 f2 t1 t2 g1
    generalize autoFault a = e at *
    have htb := Tab.cons cA (Tab.cons cQ (Tab.cons lN (Tab.cons eF (Tab.cons cF (Tab.cons cW (Tab.cons iN (Tab.cons cT Tab.nil)))))))
    repeat' (first | (with_reducible first | apply w1 | apply w2 | apply w3 | apply w4 | apply w5 | apply w6 | apply w7 | apply w8 | apply w9 | apply wa | apply wb | apply wc) | ((with_reducible apply wd); focus decide) | ((with_reducible apply we); focus exact rfl) | ((with_reducible apply wf); focus exact rfl) | ((first | (with_reducible apply SW_run tt_ok hG htb) | ((with_reducible apply SW_draw rfl tt_ok hG htb); (focus kernel_rfl); focus simp only [List.range, List.range.loop, List.size_toArray, List.length_cons, List.length_nil, Nat.reduceAdd])); focus ((repeat' (first | (with_reducible first | exact wg | exact wh) | ((with_reducible first | apply wi | apply wj); focus (simp (discharger := omega) only [go_sem, tAuto, tErr, hf, simprocAttr]; with_reducible rfl)))); done)))
    exact (by simp (discharger := omega) only [go_sem, simprocAttr])
  have g := good_of hf
  obtain ⟨n, hn⟩ : ∃ n, (manyOf a.base a.tracks).toNat = n := ⟨_, rfl⟩
  rw [hn] at g
  have cR := FiniteOf_ref (G := errCell) hG hf
  have cL1 := ListOf_ref (G := errCell) hG g 1 (by omega)
  have hE : firstE a = if (oneL a).length = 0 then 4 else 0 := if_neg (fun q => q hf)
  have hW : firstW a = if firstE a = 0 then (oneL a).headD [] else [] := rfl
  have hTE : tupleE a = if firstE a ≠ 0 then firstE a else numsErr a.base a.tracks (firstW a) := rfl
  have hTN : tupleN a = if firstE a ≠ 0 then [] else numsOf a.base a.tracks (firstW a) := rfl
  have hL1 : listOf a ((1 : Nat) : Int) = oneL a := rfl
  rw [hL1] at cL1
  clear hL1
  rw [hf] at cA cF eF
  have hlo : ∀ x, listErr a x = if x < 0 ∨ 200 < x then 1 else 0 := fun x => if_neg (fun q => q hf)
  obtain ⟨fb, hfb⟩ : ∃ fb, finOf a = fb := ⟨_, rfl⟩
  obtain ⟨L1, hL1⟩ : ∃ L1, oneL a = L1 := ⟨_, rfl⟩
  obtain ⟨E1, hE1⟩ : ∃ E1, firstE a = E1 := ⟨_, rfl⟩
  obtain ⟨W1, hW1⟩ : ∃ W1, firstW a = W1 := ⟨_, rfl⟩
  obtain ⟨TE, hTE1⟩ : ∃ TE, tupleE a = TE := ⟨_, rfl⟩
  obtain ⟨TN, hTN1⟩ : ∃ TN, tupleN a = TN := ⟨_, rfl⟩
  rw [hfb] at cR cF
  rw [hL1] at cL1 hE hW
  rw [hE1] at cW hE hW hTE hTN
  rw [hW1] at cW hW hTE hTN
  rw [hTE1] at cT hTE
  rw [hTN1] at cT hTN
  clear hfb hL1 hE1 hW1 hTE1 hTN1
  obtain ⟨T, hT⟩ : ∃ T : Nat, a.tracks = ((T : Nat) : Int) := Int.eq_ofNat_of_zero_le (many_ok g.many).2.1
  have hTt : ((T : Nat) : Int) = a.tracks := hT.symm
  by_cases h0 : most < 0
  · have l1 : listErr a most = 1 := by rw [hlo, if_pos (.inl h0)]
    have l2 : listR a most = [] := if_neg (by rw [l1]; decide)
    rw [l1, l2] at cQ
    have h0' := eq_true h0
    have htb := Tab.cons cA (Tab.cons cQ (Tab.cons lN (Tab.cons e1 Tab.nil)))
    repeat' (first | (with_reducible first | apply w1 | apply w2 | apply w3 | apply w4 | apply w5 | apply w6 | apply w7 | apply w8 | apply w9 | apply wa | apply wb | apply wc) | ((with_reducible apply wd); focus decide) | ((with_reducible apply we); focus exact rfl) | ((with_reducible apply wf); focus exact rfl) | ((first | (with_reducible apply SW_run tt_ok hG htb) | ((with_reducible apply SW_draw rfl tt_ok hG htb); (focus kernel_rfl); focus simp only [List.range, List.range.loop, List.size_toArray, List.length_cons, List.length_nil, Nat.reduceAdd])); focus ((repeat' (first | (with_reducible first | exact wg | exact wh) | ((with_reducible first | apply wi | apply wj); focus (simp (discharger := omega) only [go_sem, tAuto, tErr, h0', simprocAttr]; with_reducible rfl)))); done)))
    clear htb
    have htb := Tab.cons cR (Tab.cons cF (Tab.cons e0 Tab.nil))
    repeat' (first | (with_reducible first | apply w1 | apply w2 | apply w3 | apply w4 | apply w5 | apply w6 | apply w7 | apply w8 | apply w9 | apply wa | apply wb | apply wc) | ((with_reducible apply wd); focus decide) | ((with_reducible apply we); focus exact rfl) | ((with_reducible apply wf); focus exact rfl) | ((first | (with_reducible apply SW_run tt_ok hG htb) | ((with_reducible apply SW_draw rfl tt_ok hG htb); (focus kernel_rfl); focus simp only [List.range, List.range.loop, List.size_toArray, List.length_cons, List.length_nil, Nat.reduceAdd])); focus ((repeat' (first | (with_reducible first | exact wg | exact wh) | ((with_reducible first | apply wi | apply wj); focus (simp (discharger := omega) only [go_sem, tAuto, tErr0, simprocAttr]; with_reducible rfl)))); done)))
    refine SW_norm (Norm.headS (own := []) (keep := [2, 6, 14]) (by refine ⟨?_, ?_⟩; (simp (discharger := omega) only [go_sem, simprocAttr]; with_reducible rfl); refine ⟨?_, ?_, ?_, ?_⟩ <;> (simp only [go_sem, simprocAttr]; with_reducible rfl))) ?_
    clear htb
    cases L1 with
    | nil =>
      rw [if_pos (show ([] : List (List Int)).length = 0 from rfl)] at hE
      obtain ⟨rfl, rfl, rfl, rfl⟩ : E1 = 4 ∧ W1 = [] ∧ TE = 4 ∧ TN = [] := by
        have h1 := hW
        have h2 := hTE
        have h3 := hTN
        rw [hE] at h1 h2 h3
        exact ⟨hE, h1.trans (if_neg (by decide)), h2.trans (if_pos (by decide)), h3.trans (if_pos (by decide))⟩
      have htb := Tab.cons cL1 (Tab.cons cW (Tab.cons e4 (Tab.cons iN (Tab.cons cT Tab.nil))))
      repeat' (first | (with_reducible first | apply w1 | apply w2 | apply w3 | apply w4 | apply w5 | apply w6 | apply w7 | apply w8 | apply w9 | apply wa | apply wb | apply wc) | ((with_reducible apply wd); focus decide) | ((with_reducible apply we); focus exact rfl) | ((with_reducible apply wf); focus exact rfl) | ((first | (with_reducible apply SW_run tt_ok hG htb) | ((with_reducible apply SW_draw rfl tt_ok hG htb); (focus kernel_rfl); focus simp only [List.range, List.range.loop, List.size_toArray, List.length_cons, List.length_nil, Nat.reduceAdd])); focus ((repeat' (first | (with_reducible first | exact wg | exact wh) | ((with_reducible first | apply wi | apply wj); focus (simp (discharger := omega) only [go_sem, tAuto, tErr, simprocAttr]; with_reducible rfl)))); done)))
      exact (by simp (discharger := omega) only [go_sem, simprocAttr])
    | cons u t =>
      rw [if_neg (show ¬ (u :: t).length = 0 by simp)] at hE
      have hWu : W1 = u := by
        have h1 := hW
        rw [hE] at h1
        exact h1.trans (if_pos rfl)
      clear hW
      subst hE
      rw [hWu] at cW hTE hTN
      clear hWu
      rw [if_neg (fun q => q rfl)] at hTE hTN
      subst hTE hTN
      have iU := SInts_snd (G := errCell) hG u u
      rw [decide_eq_true rfl] at iU
      have htb := Tab.cons cL1 (Tab.cons cW (Tab.cons e0 (Tab.cons iU Tab.nil)))
      repeat' (first | (with_reducible first | apply w1 | apply w2 | apply w3 | apply w4 | apply w5 | apply w6 | apply w7 | apply w8 | apply w9 | apply wa | apply wb | apply wc) | ((with_reducible apply wd); focus decide) | ((with_reducible apply we); focus exact rfl) | ((with_reducible apply wf); focus exact rfl) | ((first | (with_reducible apply SW_run tt_ok hG htb) | ((with_reducible apply SW_draw rfl tt_ok hG htb); (focus kernel_rfl); focus simp only [List.range, List.range.loop, List.size_toArray, List.length_cons, List.length_nil, Nat.reduceAdd])); focus ((repeat' (first | (with_reducible first | exact wg | exact wh) | ((with_reducible first | apply wi | apply wj); focus (simp (discharger := omega) only [go_sem, tAuto, tErr0, simprocAttr]; with_reducible rfl)))); done)))
      clear htb
      have cN := NumsOf_snd (G := errCell) hG a.base T u
      rw [hTt] at cN
      obtain ⟨ns, hns⟩ : ∃ ns, numsOf a.base a.tracks u = ns := ⟨_, rfl⟩
      obtain ⟨ne, hne⟩ : ∃ ne, numsErr a.base a.tracks u = ne := ⟨_, rfl⟩
      rw [hns, hne] at cN cT
      have iS := SInts_snd (G := errCell) hG ns ns
      rw [decide_eq_true rfl] at iS
      have eN := Error_snd ne ne
      rw [beq_self_eq_true] at eN
      have htb := Tab.cons cN (Tab.cons cT (Tab.cons eN (Tab.cons iS Tab.nil)))
      by_cases hz : ne = 0
      · subst hz
        repeat' (first | (with_reducible first | apply w1 | apply w2 | apply w3 | apply w4 | apply w5 | apply w6 | apply w7 | apply w8 | apply w9 | apply wa | apply wb | apply wc) | ((with_reducible apply wd); focus decide) | ((with_reducible apply we); focus exact rfl) | ((with_reducible apply wf); focus exact rfl) | ((first | (with_reducible apply SW_run tt_ok hG htb) | ((with_reducible apply SW_draw rfl tt_ok hG htb); (focus kernel_rfl); focus simp only [List.range, List.range.loop, List.size_toArray, List.length_cons, List.length_nil, Nat.reduceAdd])); focus ((repeat' (first | (with_reducible first | exact wg | exact wh) | ((with_reducible first | apply wi | apply wj); focus (simp (discharger := omega) only [go_sem, tAuto, tErr0, simprocAttr]; with_reducible rfl)))); done)))
        exact (by simp (discharger := omega) only [go_sem, simprocAttr])
      · repeat' (first | (with_reducible first | apply w1 | apply w2 | apply w3 | apply w4 | apply w5 | apply w6 | apply w7 | apply w8 | apply w9 | apply wa | apply wb | apply wc) | ((with_reducible apply wd); focus decide) | ((with_reducible apply we); focus exact rfl) | ((with_reducible apply wf); focus exact rfl) | ((first | (with_reducible apply SW_run tt_ok hG htb) | ((with_reducible apply SW_draw rfl tt_ok hG htb); (focus kernel_rfl); focus simp only [List.range, List.range.loop, List.size_toArray, List.length_cons, List.length_nil, Nat.reduceAdd])); focus ((repeat' (first | (with_reducible first | exact wg | exact wh) | ((with_reducible first | apply wi | apply wj); focus (simp (discharger := omega) only [go_sem, tAuto, tErr, hz, simprocAttr]; with_reducible rfl)))); done)))
        exact (by simp (discharger := omega) only [go_sem, simprocAttr])
  by_cases h1 : most > 200
  · have l1 : listErr a most = 1 := by rw [hlo, if_pos (.inr h1)]
    have l2 : listR a most = [] := if_neg (by rw [l1]; decide)
    rw [l1, l2] at cQ
    have h1' := eq_true h1
    have htb := Tab.cons cA (Tab.cons cQ (Tab.cons lN (Tab.cons e1 Tab.nil)))
    repeat' (first | (with_reducible first | apply w1 | apply w2 | apply w3 | apply w4 | apply w5 | apply w6 | apply w7 | apply w8 | apply w9 | apply wa | apply wb | apply wc) | ((with_reducible apply wd); focus decide) | ((with_reducible apply we); focus exact rfl) | ((with_reducible apply wf); focus exact rfl) | ((first | (with_reducible apply SW_run tt_ok hG htb) | ((with_reducible apply SW_draw rfl tt_ok hG htb); (focus kernel_rfl); focus simp only [List.range, List.range.loop, List.size_toArray, List.length_cons, List.length_nil, Nat.reduceAdd])); focus ((repeat' (first | (with_reducible first | exact wg | exact wh) | ((with_reducible first | apply wi | apply wj); focus (simp (discharger := omega) only [go_sem, tAuto, tErr, h0, h1', simprocAttr]; with_reducible rfl)))); done)))
    clear htb
    have htb := Tab.cons cR (Tab.cons cF (Tab.cons e0 Tab.nil))
    repeat' (first | (with_reducible first | apply w1 | apply w2 | apply w3 | apply w4 | apply w5 | apply w6 | apply w7 | apply w8 | apply w9 | apply wa | apply wb | apply wc) | ((with_reducible apply wd); focus decide) | ((with_reducible apply we); focus exact rfl) | ((with_reducible apply wf); focus exact rfl) | ((first | (with_reducible apply SW_run tt_ok hG htb) | ((with_reducible apply SW_draw rfl tt_ok hG htb); (focus kernel_rfl); focus simp only [List.range, List.range.loop, List.size_toArray, List.length_cons, List.length_nil, Nat.reduceAdd])); focus ((repeat' (first | (with_reducible first | exact wg | exact wh) | ((with_reducible first | apply wi | apply wj); focus (simp (discharger := omega) only [go_sem, tAuto, tErr0, simprocAttr]; with_reducible rfl)))); done)))
    refine SW_norm (Norm.headS (own := []) (keep := [2, 6, 14]) (by refine ⟨?_, ?_⟩; (simp (discharger := omega) only [go_sem, simprocAttr]; with_reducible rfl); refine ⟨?_, ?_, ?_, ?_⟩ <;> (simp only [go_sem, simprocAttr]; with_reducible rfl))) ?_
    clear htb
    cases L1 with
    | nil =>
      rw [if_pos (show ([] : List (List Int)).length = 0 from rfl)] at hE
      obtain ⟨rfl, rfl, rfl, rfl⟩ : E1 = 4 ∧ W1 = [] ∧ TE = 4 ∧ TN = [] := by
        have h1 := hW
        have h2 := hTE
        have h3 := hTN
        rw [hE] at h1 h2 h3
        exact ⟨hE, h1.trans (if_neg (by decide)), h2.trans (if_pos (by decide)), h3.trans (if_pos (by decide))⟩
      have htb := Tab.cons cL1 (Tab.cons cW (Tab.cons e4 (Tab.cons iN (Tab.cons cT Tab.nil))))
      repeat' (first | (with_reducible first | apply w1 | apply w2 | apply w3 | apply w4 | apply w5 | apply w6 | apply w7 | apply w8 | apply w9 | apply wa | apply wb | apply wc) | ((with_reducible apply wd); focus decide) | ((with_reducible apply we); focus exact rfl) | ((with_reducible apply wf); focus exact rfl) | ((first | (with_reducible apply SW_run tt_ok hG htb) | ((with_reducible apply SW_draw rfl tt_ok hG htb); (focus kernel_rfl); focus simp only [List.range, List.range.loop, List.size_toArray, List.length_cons, List.length_nil, Nat.reduceAdd])); focus ((repeat' (first | (with_reducible first | exact wg | exact wh) | ((with_reducible first | apply wi | apply wj); focus (simp (discharger := omega) only [go_sem, tAuto, tErr, simprocAttr]; with_reducible rfl)))); done)))
      exact (by simp (discharger := omega) only [go_sem, simprocAttr])
    | cons u t =>
      rw [if_neg (show ¬ (u :: t).length = 0 by simp)] at hE
      have hWu : W1 = u := by
        have h1 := hW
        rw [hE] at h1
        exact h1.trans (if_pos rfl)
      clear hW
      subst hE
      rw [hWu] at cW hTE hTN
      clear hWu
      rw [if_neg (fun q => q rfl)] at hTE hTN
      subst hTE hTN
      have iU := SInts_snd (G := errCell) hG u u
      rw [decide_eq_true rfl] at iU
      have htb := Tab.cons cL1 (Tab.cons cW (Tab.cons e0 (Tab.cons iU Tab.nil)))
      repeat' (first | (with_reducible first | apply w1 | apply w2 | apply w3 | apply w4 | apply w5 | apply w6 | apply w7 | apply w8 | apply w9 | apply wa | apply wb | apply wc) | ((with_reducible apply wd); focus decide) | ((with_reducible apply we); focus exact rfl) | ((with_reducible apply wf); focus exact rfl) | ((first | (with_reducible apply SW_run tt_ok hG htb) | ((with_reducible apply SW_draw rfl tt_ok hG htb); (focus kernel_rfl); focus simp only [List.range, List.range.loop, List.size_toArray, List.length_cons, List.length_nil, Nat.reduceAdd])); focus ((repeat' (first | (with_reducible first | exact wg | exact wh) | ((with_reducible first | apply wi | apply wj); focus (simp (discharger := omega) only [go_sem, tAuto, tErr0, simprocAttr]; with_reducible rfl)))); done)))
      clear htb
      have cN := NumsOf_snd (G := errCell) hG a.base T u
      rw [hTt] at cN
      obtain ⟨ns, hns⟩ : ∃ ns, numsOf a.base a.tracks u = ns := ⟨_, rfl⟩
      obtain ⟨ne, hne⟩ : ∃ ne, numsErr a.base a.tracks u = ne := ⟨_, rfl⟩
      rw [hns, hne] at cN cT
      have iS := SInts_snd (G := errCell) hG ns ns
      rw [decide_eq_true rfl] at iS
      have eN := Error_snd ne ne
      rw [beq_self_eq_true] at eN
      have htb := Tab.cons cN (Tab.cons cT (Tab.cons eN (Tab.cons iS Tab.nil)))
      by_cases hz : ne = 0
      · subst hz
        repeat' (first | (with_reducible first | apply w1 | apply w2 | apply w3 | apply w4 | apply w5 | apply w6 | apply w7 | apply w8 | apply w9 | apply wa | apply wb | apply wc) | ((with_reducible apply wd); focus decide) | ((with_reducible apply we); focus exact rfl) | ((with_reducible apply wf); focus exact rfl) | ((first | (with_reducible apply SW_run tt_ok hG htb) | ((with_reducible apply SW_draw rfl tt_ok hG htb); (focus kernel_rfl); focus simp only [List.range, List.range.loop, List.size_toArray, List.length_cons, List.length_nil, Nat.reduceAdd])); focus ((repeat' (first | (with_reducible first | exact wg | exact wh) | ((with_reducible first | apply wi | apply wj); focus (simp (discharger := omega) only [go_sem, tAuto, tErr0, simprocAttr]; with_reducible rfl)))); done)))
        exact (by simp (discharger := omega) only [go_sem, simprocAttr])
      · repeat' (first | (with_reducible first | apply w1 | apply w2 | apply w3 | apply w4 | apply w5 | apply w6 | apply w7 | apply w8 | apply w9 | apply wa | apply wb | apply wc) | ((with_reducible apply wd); focus decide) | ((with_reducible apply we); focus exact rfl) | ((with_reducible apply wf); focus exact rfl) | ((first | (with_reducible apply SW_run tt_ok hG htb) | ((with_reducible apply SW_draw rfl tt_ok hG htb); (focus kernel_rfl); focus simp only [List.range, List.range.loop, List.size_toArray, List.length_cons, List.length_nil, Nat.reduceAdd])); focus ((repeat' (first | (with_reducible first | exact wg | exact wh) | ((with_reducible first | apply wi | apply wj); focus (simp (discharger := omega) only [go_sem, tAuto, tErr, hz, simprocAttr]; with_reducible rfl)))); done)))
        exact (by simp (discharger := omega) only [go_sem, simprocAttr])
  obtain ⟨M, rfl⟩ := Int.eq_ofNat_of_zero_le (show 0 ≤ most by omega)
  have cM := ListOf_ref (G := errCell) hG g M (by omega)
  have l1 : listErr a ((M : Nat) : Int) = 0 := by rw [hlo, if_neg (by omega)]
  have l2 : listR a ((M : Nat) : Int) = listOf a ((M : Nat) : Int) := if_pos l1
  rw [l1, l2] at cQ
  clear l1 l2
  obtain ⟨LM, hLM⟩ : ∃ LM, listOf a ((M : Nat) : Int) = LM := ⟨_, rfl⟩
  rw [hLM] at cM cQ
  clear hLM
  have lM := Lists_snd (G := errCell) hG LM LM
  rw [decide_eq_true rfl] at lM
  have htb := Tab.cons cA (Tab.cons cM (Tab.cons cQ (Tab.cons lM (Tab.cons e0 Tab.nil))))
  repeat' (first | (with_reducible first | apply w1 | apply w2 | apply w3 | apply w4 | apply w5 | apply w6 | apply w7 | apply w8 | apply w9 | apply wa | apply wb | apply wc) | ((with_reducible apply wd); focus decide) | ((with_reducible apply we); focus exact rfl) | ((with_reducible apply wf); focus exact rfl) | ((first | (with_reducible apply SW_run tt_ok hG htb) | ((with_reducible apply SW_draw rfl tt_ok hG htb); (focus kernel_rfl); focus simp only [List.range, List.range.loop, List.size_toArray, List.length_cons, List.length_nil, Nat.reduceAdd])); focus ((repeat' (first | (with_reducible first | exact wg | exact wh) | ((with_reducible first | apply wi | apply wj); focus (simp (discharger := omega) only [go_sem, tAuto, tErr0, h0, h1, simprocAttr]; with_reducible rfl)))); done)))
  clear htb
  have htb := Tab.cons cR (Tab.cons cF (Tab.cons e0 Tab.nil))
  repeat' (first | (with_reducible first | apply w1 | apply w2 | apply w3 | apply w4 | apply w5 | apply w6 | apply w7 | apply w8 | apply w9 | apply wa | apply wb | apply wc) | ((with_reducible apply wd); focus decide) | ((with_reducible apply we); focus exact rfl) | ((with_reducible apply wf); focus exact rfl) | ((first | (with_reducible apply SW_run tt_ok hG htb) | ((with_reducible apply SW_draw rfl tt_ok hG htb); (focus kernel_rfl); focus simp only [List.range, List.range.loop, List.size_toArray, List.length_cons, List.length_nil, Nat.reduceAdd])); focus ((repeat' (first | (with_reducible first | exact wg | exact wh) | ((with_reducible first | apply wi | apply wj); focus (simp (discharger := omega) only [go_sem, tAuto, tErr0, simprocAttr]; with_reducible rfl)))); done)))
  refine SW_norm (Norm.headS (own := []) (keep := [2, 6, 14]) (by refine ⟨?_, ?_⟩; (simp (discharger := omega) only [go_sem, simprocAttr]; with_reducible rfl); refine ⟨?_, ?_, ?_, ?_⟩ <;> (simp only [go_sem, simprocAttr]; with_reducible rfl))) ?_
  clear htb
  cases L1 with
  | nil =>
    rw [if_pos (show ([] : List (List Int)).length = 0 from rfl)] at hE
    obtain ⟨rfl, rfl, rfl, rfl⟩ : E1 = 4 ∧ W1 = [] ∧ TE = 4 ∧ TN = [] := by
      have h1 := hW
      have h2 := hTE
      have h3 := hTN
      rw [hE] at h1 h2 h3
      exact ⟨hE, h1.trans (if_neg (by decide)), h2.trans (if_pos (by decide)), h3.trans (if_pos (by decide))⟩
    have htb := Tab.cons cL1 (Tab.cons cW (Tab.cons e4 (Tab.cons iN (Tab.cons cT Tab.nil))))
    repeat' (first | (with_reducible first | apply w1 | apply w2 | apply w3 | apply w4 | apply w5 | apply w6 | apply w7 | apply w8 | apply w9 | apply wa | apply wb | apply wc) | ((with_reducible apply wd); focus decide) | ((with_reducible apply we); focus exact rfl) | ((with_reducible apply wf); focus exact rfl) | ((first | (with_reducible apply SW_run tt_ok hG htb) | ((with_reducible apply SW_draw rfl tt_ok hG htb); (focus kernel_rfl); focus simp only [List.range, List.range.loop, List.size_toArray, List.length_cons, List.length_nil, Nat.reduceAdd])); focus ((repeat' (first | (with_reducible first | exact wg | exact wh) | ((with_reducible first | apply wi | apply wj); focus (simp (discharger := omega) only [go_sem, tAuto, tErr, simprocAttr]; with_reducible rfl)))); done)))
    exact (by simp (discharger := omega) only [go_sem, simprocAttr])
  | cons u t =>
    rw [if_neg (show ¬ (u :: t).length = 0 by simp)] at hE
    have hWu : W1 = u := by
      have h1 := hW
      rw [hE] at h1
      exact h1.trans (if_pos rfl)
    clear hW
    subst hE
    rw [hWu] at cW hTE hTN
    clear hWu
    rw [if_neg (fun q => q rfl)] at hTE hTN
    subst hTE hTN
    have iU := SInts_snd (G := errCell) hG u u
    rw [decide_eq_true rfl] at iU
    have htb := Tab.cons cL1 (Tab.cons cW (Tab.cons e0 (Tab.cons iU Tab.nil)))
    repeat' (first | (with_reducible first | apply w1 | apply w2 | apply w3 | apply w4 | apply w5 | apply w6 | apply w7 | apply w8 | apply w9 | apply wa | apply wb | apply wc) | ((with_reducible apply wd); focus decide) | ((with_reducible apply we); focus exact rfl) | ((with_reducible apply wf); focus exact rfl) | ((first | (with_reducible apply SW_run tt_ok hG htb) | ((with_reducible apply SW_draw rfl tt_ok hG htb); (focus kernel_rfl); focus simp only [List.range, List.range.loop, List.size_toArray, List.length_cons, List.length_nil, Nat.reduceAdd])); focus ((repeat' (first | (with_reducible first | exact wg | exact wh) | ((with_reducible first | apply wi | apply wj); focus (simp (discharger := omega) only [go_sem, tAuto, tErr0, simprocAttr]; with_reducible rfl)))); done)))
    clear htb
    have cN := NumsOf_snd (G := errCell) hG a.base T u
    rw [hTt] at cN
    obtain ⟨ns, hns⟩ : ∃ ns, numsOf a.base a.tracks u = ns := ⟨_, rfl⟩
    obtain ⟨ne, hne⟩ : ∃ ne, numsErr a.base a.tracks u = ne := ⟨_, rfl⟩
    rw [hns, hne] at cN cT
    have iS := SInts_snd (G := errCell) hG ns ns
    rw [decide_eq_true rfl] at iS
    have eN := Error_snd ne ne
    rw [beq_self_eq_true] at eN
    have htb := Tab.cons cN (Tab.cons cT (Tab.cons eN (Tab.cons iS Tab.nil)))
    by_cases hz : ne = 0
    · subst hz
      repeat' (first | (with_reducible first | apply w1 | apply w2 | apply w3 | apply w4 | apply w5 | apply w6 | apply w7 | apply w8 | apply w9 | apply wa | apply wb | apply wc) | ((with_reducible apply wd); focus decide) | ((with_reducible apply we); focus exact rfl) | ((with_reducible apply wf); focus exact rfl) | ((first | (with_reducible apply SW_run tt_ok hG htb) | ((with_reducible apply SW_draw rfl tt_ok hG htb); (focus kernel_rfl); focus simp only [List.range, List.range.loop, List.size_toArray, List.length_cons, List.length_nil, Nat.reduceAdd])); focus ((repeat' (first | (with_reducible first | exact wg | exact wh) | ((with_reducible first | apply wi | apply wj); focus (simp (discharger := omega) only [go_sem, tAuto, tErr0, simprocAttr]; with_reducible rfl)))); done)))
      exact (by simp (discharger := omega) only [go_sem, simprocAttr])
    · repeat' (first | (with_reducible first | apply w1 | apply w2 | apply w3 | apply w4 | apply w5 | apply w6 | apply w7 | apply w8 | apply w9 | apply wa | apply wb | apply wc) | ((with_reducible apply wd); focus decide) | ((with_reducible apply we); focus exact rfl) | ((with_reducible apply wf); focus exact rfl) | ((first | (with_reducible apply SW_run tt_ok hG htb) | ((with_reducible apply SW_draw rfl tt_ok hG htb); (focus kernel_rfl); focus simp only [List.range, List.range.loop, List.size_toArray, List.length_cons, List.length_nil, Nat.reduceAdd])); focus ((repeat' (first | (with_reducible first | exact wg | exact wh) | ((with_reducible first | apply wi | apply wj); focus (simp (discharger := omega) only [go_sem, tAuto, tErr, hz, simprocAttr]; with_reducible rfl)))); done)))
      exact (by simp (discharger := omega) only [go_sem, simprocAttr])
theorem AskLists_walk (v : Value) (a : GAuto) (most : Int) (w : World) (h : ReadsAuto w v a) (_ : I64 most) (hg : errCell w) : Calls Tryd.prog 3 #[v, .int .i64 most] w (Ret (.bool true) w) :=
  walkN (AskLists_snd a most) hg rfl fun k y z p q => by
    match k, p, q with
    | 0, p, q => cases p; cases q; exact h.2
    | 1, p, q => cases p; cases q; exact .int _ _
end Go.Proofs.YtjidhaendndokaaDoor
namespace Go.Proofs.YtjidhaendndokaaDoor.askLists
open Go.ChangeShapes Go.WideShapes Go.ChangeAt Go.RowKit

set_option maxRecDepth 100000 in
theorem lifted (os : Os) (started : os.Started) (H : Type) (enc : TypeId × Value → H) :
    ReturnsInHanded {} Tryd.checked os 3 .any (fun w args => (Rows.askListsSpec.pre enc Tryd.prog Tryd.f3 [] false w args ∧ laidMetH Tryd.prog laidL w) ∧ sizedMet enc Tryd.prog Tryd.f3 (OpenSpec.ofChange Rows.askListsSpec) false w args)
      (Rows.askListsSpec.post enc Tryd.prog Tryd.f3 false true false false) := by
  refine returnsInHanded_of_change_and (C := Tryd.checked) (X := fun w _ => laidMetH Tryd.prog laidL w) (fun _ _ _ hh h => h.of_heap hh) own started (by kernel_rfl) Tryd.func3
    (ChangeSpec.witness_at (enc := enc) (C := Tryd.checked) (os := os) (X := fun w _ => laidMetH Tryd.prog laidL w) false (laidWorld os) #[.agg #[.int .i64 0, .int .i64 0, .slice none 0 0, .slice none 0 0], .int .i64 0] 8 rfl (by kernel_rfl) (by kernel_rfl) (by kernel_rfl) (by kernel_rfl) (by kernel_rfl) (laidWorld_met os _)) ?_
  intro W base args ds gs before hval0 hW _ _ hL _
  have hval : ∀ (j : Nat) t v, Tryd.f3.params[j]? = some t → args[j]? = some v → Value.okWide Tryd.prog W .any base t v := hval0
  have hW' := hW
  obtain ⟨p, q, hA0, hV, rfl, hfz, hnd⟩ := hW
  have hA : DataW.TrodAll enc Tryd.prog W 0 (fun _ => true) true Tryd.f3.params.toList args.toList ds p := hA0
  rw [Tryd.params3] at hA hval
  obtain ⟨v0, vs0, d0, ds0, p0, q0, hargs, rfl, rfl, h0, r0⟩ := trodAll_cons hA
  obtain ⟨v1, vs1, d1, ds1, p1, q1, rfl, rfl, rfl, h1, r1⟩ := trodAll_cons r0
  obtain ⟨rfl, rfl, rfl⟩ := trodAll_nil r1
  obtain rfl : args = #[v0, v1] := by cases args; simp_all
  obtain ⟨rfl, rfl⟩ := trodVars_none hV
  have k0 := h0
  have lt0 : ∀ x ∈ p0, x.block < W.heap.size := by obtain ⟨m, hm⟩ := k0; exact DataW.trod_lt m _ _ _ hm
  obtain ⟨a0, w0⟩ := openAutoT (hval 0 25 v0 rfl rfl) h0
  obtain ⟨a1, rfl, rfl, rfl, w1⟩ := open_int Tryd.underlying3 (hval 1 3 v1 rfl rfl) h1
  clear hA0 hval0
  refine (AskLists_walk _ a0 a1 W w0 (i64_of_wf w1) (handle_of_laid hL)).mono fun e W' ⟨he, bel⟩ => ?_
  subst he
  exact ⟨_, rfl, _, _, _, [], _, [], hW', trodAll_mk1 (shut_bool Tryd.underlying4 _), (trodAll_cons_mk (Below.trod laidOut (by kernel_rfl) (of_decide_eq_true (by kernel_rfl)) k0 bel lt0) (trodAll_cons_mk (shut_int Tryd.underlying3 w1) trodAll_mk0)), rfl, bel.frame _, fun h => by cases h⟩

theorem over : Rows.askListsRow.holds Tryd.pinned (OpenSpec.ofChange Rows.askListsSpec) :=
  OpenClaim.holds_of_wide 3 Tryd.f3 rfl rfl rfl rfl rfl rfl rfl ⟨rfl, rfl, rfl, rfl, rfl⟩ rfl rfl rfl rfl rfl (by kernel_rfl) Tryd.func3 (by kernel_rfl)
    (of_decide_eq_true (by kernel_rfl)) (by unfold Func.isWrapper; first | (rw [if_pos (by decide +kernel)]; kernel_rfl) | (rw [if_neg (by decide +kernel)]; exact ⟨rfl, rfl⟩))
    (fun os started H enc _ => lifted os started H enc)

theorem said : Rows.AskListsSaid := over
theorem plain (f : FuncId) (fn : Func) (hf : Tryd.pinned.checked.prog.funcNamed "filbert/filbertlaw4.AskLists" = some f) (hfn : Tryd.pinned.checked.prog.funcs[f]? = some fn) :
    true = Tryd.pinned.checked.prog.looks [] ∧ ∀ (j : Nat) t, fn.params[j]? = some t → Tryd.pinned.checked.prog.wantsStandIn t = false := by
  obtain rfl : f = 3 := Option.some.inj ((show Tryd.prog.funcNamed "filbert/filbertlaw4.AskLists" = some 3 by kernel_rfl).symm.trans hf) |>.symm
  obtain rfl : fn = Tryd.f3 := (Option.some.inj (Tryd.func3.symm.trans hfn)).symm
  refine ⟨by kernel_rfl, fun j t ht => ?_⟩
  have hall : (Tryd.f3.params.toList.all fun t => !(Tryd.prog.wantsStandIn t)) = true := by kernel_rfl
  have := List.all_eq_true.1 hall t (Array.mem_toList_iff.2 (Array.mem_of_getElem? ht))
  exact (show Tryd.prog.wantsStandIn t = false by simpa using this)

/-- THE STATEMENT: THE CARD. -/
theorem proved : Rows.AskListsCardSaid :=
  Claim7.holds_tied_plain_at .later [] _ _ _ _ said (fun _ h => by cases h) (by kernel_rfl) (fun _ h => by cases h) askLists_row_tie rfl ⟨rfl, rfl⟩ (by kernel_rfl) rfl plain (by kernel_rfl)
#print axioms proved
end Go.Proofs.YtjidhaendndokaaDoor.askLists
