/- Plain laws, data behind worlds, and contracts of functions, for the last text. No conditions. -/
import Derived.Test.YthcclcbliedodaaDoorLay
import Derived.Test.YthcclcbliedodaaDoorM5
import Derived.Shelf.Slices.Clone
import Derived.Shelf.Spec.SlicesInsert
import Derived.Shelf.Spec.SlicesInsertGrow
import Derived.Ground.Names2Prog
import Derived.Lib.SmallJoins
set_option linter.unusedSimpArgs false
set_option linter.unusedVariables false
set_option linter.unnecessarySimpa false
set_option linter.unusedSectionVars false
namespace Go.Proofs.YthcclcbliedodaaDoor
open Go.RowKit

section
variable {G : World → Prop} (hG : Lasting G)
include hG
set_option maxHeartbeats 4000000 in
theorem RMet_snd {n m : Nat} {next : List (List Int)} (hR : Rows0 n m next) (hm : 0 < m) (hm2 : m ≤ 2000000) (hn : n ≤ 1000) : Snd Tryd.prog G 58 [tIntss next] (tInts (met next)) := by
  have htb : Tab.ok Tryd.prog G [] := Tab.nil
  have hlen := hR.len
  refine snd_of_body (n := 55) (tm := [(0, .t (tIntss next))]) (rs := [.tmp 2]) tt_ok Tryd.func58 rfl rfl rfl rfl rfl ?_
  repeat' (first | (with_reducible first | apply w1 | apply w2 | apply w3 | apply w4 | apply w5 | apply w6 | apply w7 | apply w8 | apply w9 | apply wa | apply wb | apply wc) | ((with_reducible apply wd); focus decide) | ((with_reducible apply we); focus exact rfl) | ((with_reducible apply wf); focus exact rfl) | ((first | (with_reducible apply SW_run tt_ok hG htb) | ((with_reducible apply SW_draw rfl tt_ok hG htb); (focus kernel_rfl); focus simp only [List.range, List.range.loop, List.size_toArray, List.length_cons, List.length_nil, Nat.reduceAdd])); focus ((repeat' (first | (with_reducible first | exact wg | exact wh) | ((with_reducible first | apply wi | apply wj); focus (simp (discharger := omega) only [go_sem, simprocAttr]; with_reducible rfl)))); done)))
  refine SW_loop (fun k s => ∃ (i : Nat) (out : List Int) (st : List T), k = m - i ∧ s = ⟨55, [(0, .t (tIntss next)), (3, .sref 0), (4, .sref 1), (5, .t (tInt i))], [.row 4 1 true st, .row 3 1 false (out.map tInt)]⟩ ∧
      st = (seenOf m out).map T.bool ∧ i ≤ out.length ∧ MetOk m out ∧ metLoop next (m - i) i out = met next) m ⟨_, Norm.headS (own := [(4, 3, 1, false), (3, 4, 1, true)]) (keep := [0, 3, 4, 5]) (by refine ⟨?_, ?_⟩; (simp (discharger := omega) only [go_sem, simprocAttr]; with_reducible rfl); refine ⟨?_, ?_, ?_, ?_⟩ <;> (simp only [go_sem, simprocAttr]; with_reducible rfl)), 0, [0], _, rfl, rfl, ?_⟩ ?_
  · refine ⟨?_, by simp, ⟨by simp, fun s hs => by simp at hs; subst hs; omega⟩, by unfold met; rw [hlen]; rfl⟩
    have := seenOf_set m [] 0
    rw [List.nil_append] at this
    rw [show ((0 : Nat) : Int) = 0 from rfl] at this
    rw [← this, seenOf_nil, List.map_set, List.map_replicate, hlen]
  · rintro k s ⟨i, out, st, rfl, rfl, rfl, hi, hmo, hml⟩
    have hol := hmo.len
    by_cases hlt : i < out.length
    · obtain ⟨r, hor⟩ : ∃ r, out[i]! = r := ⟨_, rfl⟩
      have hio : out[i]? = some r := by rw [← hor, getElem!_pos out i hlt]; exact List.getElem?_eq_getElem hlt
      have hs : 0 ≤ r ∧ r < (m : Int) := hmo.ok _ (List.mem_of_getElem? hio)
      obtain ⟨row, hrow⟩ : ∃ row, next[r.toNat]! = row := ⟨_, rfl⟩
      have hrl : r.toNat < next.length := by omega
      have hrow2 : rowOf next r = row := by unfold rowOf; rw [getD_lt hrl, ← hrow, getElem!_pos next _ hrl]
      have hrm : row ∈ next := by rw [← hrow, getElem!_pos next _ hrl]; exact List.getElem_mem hrl
      have hrn : row.length = n := hR.row _ hrm
      have hstep : metLoop next (m - i) i out = metLoop next (m - (i + 1)) (i + 1) (metRow out row) := by
        rw [metLoop_step next hol hlt]
        rw [List.getElem?_eq_getElem hlt] at hio
        rw [Option.some.inj hio, hrow2]
      rw [hstep] at hml
      repeat' (first | (with_reducible first | apply w1 | apply w2 | apply w3 | apply w4 | apply w5 | apply w6 | apply w7 | apply w8 | apply w9 | apply wa | apply wb | apply wc) | ((with_reducible apply wd); focus decide) | ((with_reducible apply we); focus exact rfl) | ((with_reducible apply wf); focus exact rfl) | ((first | (with_reducible apply SW_run tt_ok hG htb) | ((with_reducible apply SW_draw rfl tt_ok hG htb); (focus kernel_rfl); focus simp only [List.range, List.range.loop, List.size_toArray, List.length_cons, List.length_nil, Nat.reduceAdd])); focus ((repeat' (first | (with_reducible first | exact wg | exact wh) | ((with_reducible first | apply wi | apply wj); focus (simp (discharger := omega) only [go_sem, hor, hrow, simprocAttr]; with_reducible rfl)))); done)))
      refine SW_loop (fun k s => ∃ (l : Nat) (o : List Int) (st : List T), k = n - l ∧ s = ⟨55, [(0, .t (tIntss next)), (3, .sref 0), (4, .sref 1), (5, .t (tInt i)), (6, .t (tInts row)), (7, .t (tInt l))], [.row 4 1 true st, .row 3 1 false (o.map tInt)]⟩ ∧
          st = (seenOf m o).map T.bool ∧ l ≤ n ∧ o = metRow out (row.take l) ∧ MetOk m o) n ⟨_, Norm.headS (own := [(4, 3, 1, false), (3, 4, 1, true)]) (keep := [0, 3, 4, 5, 6, 7]) (by refine ⟨?_, ?_⟩; (simp (discharger := omega) only [go_sem, simprocAttr]; with_reducible rfl); refine ⟨?_, ?_, ?_, ?_⟩ <;> (simp only [go_sem, simprocAttr]; with_reducible rfl)), 0, out, _, rfl, rfl, rfl, Nat.zero_le _, rfl, hmo⟩ ?_
      rintro k s ⟨l, o, st, rfl, rfl, rfl, hl, ho, hmo'⟩
      have hol' := hmo'.len
      have hsl := seenOf_length m o
      by_cases hlt2 : l < n
      · have hll : l < row.length := by omega
        obtain ⟨u, hul⟩ : ∃ u, row[l]! = u := ⟨_, rfl⟩
        have hul2 : row[l]? = some u := by rw [← hul, getElem!_pos row l hll]; exact List.getElem?_eq_getElem hll
        have hu : 0 ≤ u ∧ u < (m : Int) := hR.ok _ hrm _ (List.mem_of_getElem? hul2)
        have htk2 : row.take (l + 1) = row.take l ++ [u] := by
          rw [List.take_succ_eq_append_getElem hll]
          rw [List.getElem?_eq_getElem hll] at hul2
          rw [Option.some.inj hul2]
        obtain ⟨j, rfl⟩ : ∃ j : Nat, u = j := ⟨u.toNat, by omega⟩
        have hsn : (seenOf m o)[j]! = decide ((j : Int) ∈ o) := by
          rw [getElem!_pos _ _ (by omega), seenOf_at]
        have hset := seenOf_set m o j
        generalize hsne : seenOf m o = sn at hsn hsl hset
        by_cases hm1 : (j : Int) ∈ o
        · rw [decide_eq_true hm1] at hsn
          repeat' (first | (with_reducible first | apply w1 | apply w2 | apply w3 | apply w4 | apply w5 | apply w6 | apply w7 | apply w8 | apply w9 | apply wa | apply wb | apply wc) | ((with_reducible apply wd); focus decide) | ((with_reducible apply we); focus exact rfl) | ((with_reducible apply wf); focus exact rfl) | ((first | (with_reducible apply SW_run tt_ok hG htb) | ((with_reducible apply SW_draw rfl tt_ok hG htb); (focus kernel_rfl); focus simp only [List.range, List.range.loop, List.size_toArray, List.length_cons, List.length_nil, Nat.reduceAdd])); focus ((repeat' (first | (with_reducible first | exact wg | exact wh) | ((with_reducible first | apply wi | apply wj); focus (simp (discharger := omega) only [go_sem, hsn, hul, simprocAttr]; with_reducible rfl)))); done)))
          exact ⟨n - (l + 1), _, by omega, Norm.headS (own := [(4, 3, 1, false), (3, 4, 1, true)]) (keep := [0, 3, 4, 5, 6, 7]) (by refine ⟨?_, ?_⟩; (simp (discharger := omega) only [go_sem, simprocAttr]; with_reducible rfl); refine ⟨?_, ?_, ?_, ?_⟩ <;> (simp only [go_sem, simprocAttr]; with_reducible rfl)), l + 1, o, _, rfl, rfl, by rw [hsne], by omega, by rw [htk2, metRow_snoc, ← ho, if_pos hm1], hmo'⟩
        · rw [decide_eq_false hm1] at hsn
          repeat' (first | (with_reducible first | apply w1 | apply w2 | apply w3 | apply w4 | apply w5 | apply w6 | apply w7 | apply w8 | apply w9 | apply wa | apply wb | apply wc) | ((with_reducible apply wd); focus decide) | ((with_reducible apply we); focus exact rfl) | ((with_reducible apply wf); focus exact rfl) | ((first | (with_reducible apply SW_run tt_ok hG htb) | ((with_reducible apply SW_draw rfl tt_ok hG htb); (focus kernel_rfl); focus simp only [List.range, List.range.loop, List.size_toArray, List.length_cons, List.length_nil, Nat.reduceAdd])); focus ((repeat' (first | (with_reducible first | exact wg | exact wh) | ((with_reducible first | apply wi | apply wj); focus (simp (discharger := omega) only [go_sem, hsn, hul, simprocAttr]; with_reducible rfl)))); done)))
          exact ⟨n - (l + 1), _, by omega, Norm.headS (own := [(4, 3, 1, false), (3, 4, 1, true)]) (keep := [0, 3, 4, 5, 6, 7]) (by refine ⟨?_, ?_⟩; (simp (discharger := omega) only [go_sem, simprocAttr]; with_reducible rfl); refine ⟨?_, ?_, ?_, ?_⟩ <;> (simp only [go_sem, simprocAttr]; with_reducible rfl)), l + 1, o ++ [(j : Int)], _, rfl, by simp only [List.map_append, List.map_cons, List.map_nil, tInt]; rfl, by rw [← hset, List.map_set], by omega, by rw [htk2, metRow_snoc, ← ho, if_neg hm1], hmo'.snoc hu hm1⟩
      · obtain rfl : l = n := by omega
        rw [List.take_of_length_le (by omega)] at ho
        repeat' (first | (with_reducible first | apply w1 | apply w2 | apply w3 | apply w4 | apply w5 | apply w6 | apply w7 | apply w8 | apply w9 | apply wa | apply wb | apply wc) | ((with_reducible apply wd); focus decide) | ((with_reducible apply we); focus exact rfl) | ((with_reducible apply wf); focus exact rfl) | ((first | (with_reducible apply SW_run tt_ok hG htb) | ((with_reducible apply SW_draw rfl tt_ok hG htb); (focus kernel_rfl); focus simp only [List.range, List.range.loop, List.size_toArray, List.length_cons, List.length_nil, Nat.reduceAdd])); focus ((repeat' (first | (with_reducible first | exact wg | exact wh) | ((with_reducible first | apply wi | apply wj); focus (simp (discharger := omega) only [go_sem, simprocAttr]; with_reducible rfl)))); done)))
        exact ⟨m - (i + 1), _, by omega, Norm.headS (own := [(4, 3, 1, false), (3, 4, 1, true)]) (keep := [0, 3, 4, 5]) (by refine ⟨?_, ?_⟩; (simp (discharger := omega) only [go_sem, simprocAttr]; with_reducible rfl); refine ⟨?_, ?_, ?_, ?_⟩ <;> (simp only [go_sem, simprocAttr]; with_reducible rfl)), i + 1, o, _, rfl, rfl, rfl, by rw [ho]; have := metRow_len row out; omega, hmo', by rw [ho]; exact hml⟩
    · rw [metLoop_end next hlt] at hml
      rw [← hml]
      repeat' (first | (with_reducible first | apply w1 | apply w2 | apply w3 | apply w4 | apply w5 | apply w6 | apply w7 | apply w8 | apply w9 | apply wa | apply wb | apply wc) | ((with_reducible apply wd); focus decide) | ((with_reducible apply we); focus exact rfl) | ((with_reducible apply wf); focus exact rfl) | ((first | (with_reducible apply SW_run tt_ok hG htb) | ((with_reducible apply SW_draw rfl tt_ok hG htb); (focus kernel_rfl); focus simp only [List.range, List.range.loop, List.size_toArray, List.length_cons, List.length_nil, Nat.reduceAdd])); focus ((repeat' (first | (with_reducible first | exact wg | exact wh) | ((with_reducible first | apply wi | apply wj); focus (simp (discharger := omega) only [go_sem, simprocAttr]; with_reducible rfl)))); done)))
      exact (by simp (discharger := omega) only [go_sem, simprocAttr])

/-- Are two states alike, and the classes of their nexts? -/
def likesB (next : List (List Int)) (ends : List Bool) (n : Nat) (cl : Int → Nat) (s t : Int) : Bool :=
  decide (endOf ends s = endOf ends t ∧ cl s = cl t ∧ (List.range n).map (fun l => cl (nx next s l)) = (List.range n).map (fun l => cl (nx next t l)))
omit hG in
theorem range_same {n : Nat} {f g : Nat → Nat} : (List.range n).map f = (List.range n).map g ↔ ∀ l, l < n → f l = g l := by
  constructor
  · intro h l hl
    have := congrArg (fun q : List Nat => q[l]?) h
    simpa [List.getElem?_map, List.getElem?_range hl] using this
  · intro h
    exact List.map_congr_left fun l hl => h l (List.mem_range.1 hl)
set_option maxHeartbeats 4000000 in
theorem likes_snd {n m : Nat} {next : List (List Int)} {ends : List Bool} {cls : List Nat} {s t : Int} (hR : Rows0 n m next) (he : ends.length = m) (hc : cls.length = m) (hs : 0 ≤ s ∧ s < (m : Int)) (ht : 0 ≤ t ∧ t < (m : Int)) (hn : n ≤ 1000) :
    Snd Tryd.prog G 59 [tIntss next, tBools ends, .list (cls.map tNat), tInt s, tInt t] (.bool (likesB next ends n (clf cls) s t)) := by
  have htb : Tab.ok Tryd.prog G [] := Tab.nil
  have hlen := hR.len
  have hes : ends[s.toNat]! = endOf ends s := by unfold endOf; rw [getD_lt (by omega), getElem!_pos ends _ (by omega)]
  have het : ends[t.toNat]! = endOf ends t := by unfold endOf; rw [getD_lt (by omega), getElem!_pos ends _ (by omega)]
  have hcs : cls[s.toNat]! = clf cls s := clf_at hs.1 (by omega)
  have hct : cls[t.toNat]! = clf cls t := clf_at ht.1 (by omega)
  have hrow : ∀ s : Int, 0 ≤ s ∧ s < (m : Int) → (next[s.toNat]!).length = n ∧ next[s.toNat]! ∈ next ∧ rowOf next s = next[s.toNat]! := fun s hs => by
    have h1 : s.toNat < next.length := by omega
    refine ⟨?_, ?_, ?_⟩
    · rw [getElem!_pos next _ h1]; exact hR.row _ (List.getElem_mem h1)
    · rw [getElem!_pos next _ h1]; exact List.getElem_mem h1
    · unfold rowOf; rw [getD_lt h1, getElem!_pos next _ h1]
  obtain ⟨rs, hrs⟩ : ∃ r, next[s.toNat]! = r := ⟨_, rfl⟩
  obtain ⟨rt, hrt⟩ : ∃ r, next[t.toNat]! = r := ⟨_, rfl⟩
  obtain ⟨s1, s2, s3⟩ := hrow s hs
  obtain ⟨t1, t2, t3⟩ := hrow t ht
  rw [hrs] at s1 s2 s3
  rw [hrt] at t1 t2 t3
  refine snd_of_body (n := 62) (tm := [(0, .t (tIntss next)), (1, .t (tBools ends)), (2, .t (.list (cls.map tNat))), (3, .t (tInt s)), (4, .t (tInt t))]) (rs := [.tmp 10]) tt_ok Tryd.func59 rfl rfl rfl rfl rfl ?_
  unfold likesB
  by_cases h1 : endOf ends s = endOf ends t
  · have hb : (ends[s.toNat]! == ends[t.toNat]!) = true := by rw [hes, het, h1]; simp
    by_cases h2 : clf cls s = clf cls t
    · have hb2 : ((cls[s.toNat]! : Nat) : Int) = ((cls[t.toNat]! : Nat) : Int) := by rw [hcs, hct, h2]
      repeat' (first | (with_reducible first | apply w1 | apply w2 | apply w3 | apply w4 | apply w5 | apply w6 | apply w7 | apply w8 | apply w9 | apply wa | apply wb | apply wc) | ((with_reducible apply wd); focus decide) | ((with_reducible apply we); focus exact rfl) | ((with_reducible apply wf); focus exact rfl) | ((first | (with_reducible apply SW_run tt_ok hG htb) | ((with_reducible apply SW_draw rfl tt_ok hG htb); (focus kernel_rfl); focus simp only [List.range, List.range.loop, List.size_toArray, List.length_cons, List.length_nil, Nat.reduceAdd])); focus ((repeat' (first | (with_reducible first | exact wg | exact wh) | ((with_reducible first | apply wi | apply wj); focus (simp (discharger := omega) only [go_sem, hb, hb2, simprocAttr]; with_reducible rfl)))); done)))
      refine SW_loop (fun k st => ∃ l : Nat, k = n - l ∧ st = ⟨62, [(0, .t (tIntss next)), (2, .t (.list (cls.map tNat))), (3, .t (tInt s)), (4, .t (tInt t)), (11, .t (tInt l))], []⟩ ∧ l ≤ n ∧ ∀ j, j < l → clf cls (nx next s j) = clf cls (nx next t j)) n ⟨_, Norm.headS (own := []) (keep := [0, 2, 3, 4, 11]) (by refine ⟨?_, ?_⟩; (simp (discharger := omega) only [go_sem, simprocAttr]; with_reducible rfl); refine ⟨?_, ?_, ?_, ?_⟩ <;> (simp only [go_sem, simprocAttr]; with_reducible rfl)), 0, rfl, rfl, Nat.zero_le _, fun j hj => by omega⟩ ?_
      rintro k st ⟨l, rfl, rfl, hl, hA⟩
      by_cases hlt : l < n
      · obtain ⟨u, hu⟩ : ∃ u, rs[l]! = u := ⟨_, rfl⟩
        obtain ⟨v, hv⟩ : ∃ v, rt[l]! = v := ⟨_, rfl⟩
        have hnu : nx next s l = u := by unfold nx; rw [s3, getD_lt (by omega), ← hu, getElem!_pos rs l (by omega)]
        have hnv : nx next t l = v := by unfold nx; rw [t3, getD_lt (by omega), ← hv, getElem!_pos rt l (by omega)]
        have hu2 : 0 ≤ u ∧ u < (m : Int) := by rw [← hu, getElem!_pos rs l (by omega)]; exact hR.ok _ s2 _ (List.getElem_mem (by omega))
        have hv2 : 0 ≤ v ∧ v < (m : Int) := by rw [← hv, getElem!_pos rt l (by omega)]; exact hR.ok _ t2 _ (List.getElem_mem (by omega))
        obtain ⟨c, hcu⟩ : ∃ c, cls[u.toNat]! = c := ⟨_, rfl⟩
        obtain ⟨d, hcv⟩ : ∃ d, cls[v.toNat]! = d := ⟨_, rfl⟩
        have hcu2 : clf cls u = c := by rw [← clf_at hu2.1 (by omega), hcu]
        have hcv2 : clf cls v = d := by rw [← clf_at hv2.1 (by omega), hcv]
        by_cases h3 : c = d
        · repeat' (first | (with_reducible first | apply w1 | apply w2 | apply w3 | apply w4 | apply w5 | apply w6 | apply w7 | apply w8 | apply w9 | apply wa | apply wb | apply wc) | ((with_reducible apply wd); focus decide) | ((with_reducible apply we); focus exact rfl) | ((with_reducible apply wf); focus exact rfl) | ((first | (with_reducible apply SW_run tt_ok hG htb) | ((with_reducible apply SW_draw rfl tt_ok hG htb); (focus kernel_rfl); focus simp only [List.range, List.range.loop, List.size_toArray, List.length_cons, List.length_nil, Nat.reduceAdd])); focus ((repeat' (first | (with_reducible first | exact wg | exact wh) | ((with_reducible first | apply wi | apply wj); focus (simp (discharger := omega) only [go_sem, hrs, hrt, hu, hv, hcu, hcv, simprocAttr]; with_reducible rfl)))); done)))
          exact ⟨n - (l + 1), _, by omega, Norm.headS (own := []) (keep := [0, 2, 3, 4, 11]) (by refine ⟨?_, ?_⟩; (simp (discharger := omega) only [go_sem, simprocAttr]; with_reducible rfl); refine ⟨?_, ?_, ?_, ?_⟩ <;> (simp only [go_sem, simprocAttr]; with_reducible rfl)), l + 1, rfl, rfl, by omega, fun j hj => by
            by_cases e : j = l
            · subst e; rw [hnu, hnv, hcu2, hcv2, h3]
            · exact hA j (by omega)⟩
        · rw [decide_eq_false (fun e => h3 (by have := range_same.1 e.2.2 l hlt; rwa [hnu, hnv, hcu2, hcv2] at this))]
          repeat' (first | (with_reducible first | apply w1 | apply w2 | apply w3 | apply w4 | apply w5 | apply w6 | apply w7 | apply w8 | apply w9 | apply wa | apply wb | apply wc) | ((with_reducible apply wd); focus decide) | ((with_reducible apply we); focus exact rfl) | ((with_reducible apply wf); focus exact rfl) | ((first | (with_reducible apply SW_run tt_ok hG htb) | ((with_reducible apply SW_draw rfl tt_ok hG htb); (focus kernel_rfl); focus simp only [List.range, List.range.loop, List.size_toArray, List.length_cons, List.length_nil, Nat.reduceAdd])); focus ((repeat' (first | (with_reducible first | exact wg | exact wh) | ((with_reducible first | apply wi | apply wj); focus (simp (discharger := omega) only [go_sem, hrs, hrt, hu, hv, hcu, hcv, simprocAttr]; with_reducible rfl)))); done)))
          exact (by simp (discharger := omega) only [go_sem, simprocAttr])
      · obtain rfl : l = n := by omega
        rw [decide_eq_true ⟨h1, h2, range_same.2 hA⟩]
        repeat' (first | (with_reducible first | apply w1 | apply w2 | apply w3 | apply w4 | apply w5 | apply w6 | apply w7 | apply w8 | apply w9 | apply wa | apply wb | apply wc) | ((with_reducible apply wd); focus decide) | ((with_reducible apply we); focus exact rfl) | ((with_reducible apply wf); focus exact rfl) | ((first | (with_reducible apply SW_run tt_ok hG htb) | ((with_reducible apply SW_draw rfl tt_ok hG htb); (focus kernel_rfl); focus simp only [List.range, List.range.loop, List.size_toArray, List.length_cons, List.length_nil, Nat.reduceAdd])); focus ((repeat' (first | (with_reducible first | exact wg | exact wh) | ((with_reducible first | apply wi | apply wj); focus (simp (discharger := omega) only [go_sem, hrs, simprocAttr]; with_reducible rfl)))); done)))
        exact (by simp (discharger := omega) only [go_sem, simprocAttr])
    · have hb2 : ¬ ((cls[s.toNat]! : Nat) : Int) = ((cls[t.toNat]! : Nat) : Int) := by rw [hcs, hct]; omega
      rw [decide_eq_false (fun e => h2 e.2.1)]
      repeat' (first | (with_reducible first | apply w1 | apply w2 | apply w3 | apply w4 | apply w5 | apply w6 | apply w7 | apply w8 | apply w9 | apply wa | apply wb | apply wc) | ((with_reducible apply wd); focus decide) | ((with_reducible apply we); focus exact rfl) | ((with_reducible apply wf); focus exact rfl) | ((first | (with_reducible apply SW_run tt_ok hG htb) | ((with_reducible apply SW_draw rfl tt_ok hG htb); (focus kernel_rfl); focus simp only [List.range, List.range.loop, List.size_toArray, List.length_cons, List.length_nil, Nat.reduceAdd])); focus ((repeat' (first | (with_reducible first | exact wg | exact wh) | ((with_reducible first | apply wi | apply wj); focus (simp (discharger := omega) only [go_sem, hb, hb2, simprocAttr]; with_reducible rfl)))); done)))
      exact (by simp (discharger := omega) only [go_sem, simprocAttr])
  · have hb : (ends[s.toNat]! == ends[t.toNat]!) = false := by rw [hes, het]; simpa using h1
    rw [decide_eq_false (fun e => h1 e.1)]
    repeat' (first | (with_reducible first | apply w1 | apply w2 | apply w3 | apply w4 | apply w5 | apply w6 | apply w7 | apply w8 | apply w9 | apply wa | apply wb | apply wc) | ((with_reducible apply wd); focus decide) | ((with_reducible apply we); focus exact rfl) | ((with_reducible apply wf); focus exact rfl) | ((first | (with_reducible apply SW_run tt_ok hG htb) | ((with_reducible apply SW_draw rfl tt_ok hG htb); (focus kernel_rfl); focus simp only [List.range, List.range.loop, List.size_toArray, List.length_cons, List.length_nil, Nat.reduceAdd])); focus ((repeat' (first | (with_reducible first | exact wg | exact wh) | ((with_reducible first | apply wi | apply wj); focus (simp (discharger := omega) only [go_sem, hb, simprocAttr]; with_reducible rfl)))); done)))
    exact (by simp (discharger := omega) only [go_sem, simprocAttr])
end
end Go.Proofs.YthcclcbliedodaaDoor
namespace Go.Proofs.YthcclcbliedodaaDoor
open Go.RowKit

/-- What a state looks like to the reference. -/
def kap (next : List (List Int)) (ends : List Bool) (n : Nat) (cl : Int → Nat) (s : Int) : Bool × Nat × List Nat := (endOf ends s, cl s, (List.range n).map fun l => cl (nx next s l))
theorem likesB_iff {next : List (List Int)} {ends : List Bool} {n : Nat} {cl : Int → Nat} {s t : Int} : likesB next ends n cl s t = true ↔ kap next ends n cl s = kap next ends n cl t := by
  simp [likesB, kap]
theorem kap_looks (next : List (List Int)) (ends : List Bool) (n : Nat) (out : List Int) (cl : Int → Nat) : Looks next ends n out cl (kap next ends n cl) := by
  refine ⟨fun s t _ _ h => ?_, fun s t _ _ h l hl => ?_, fun s t _ _ h => ?_, fun s t _ _ h1 h2 h3 => ?_⟩
  · simp only [kap, Prod.mk.injEq] at h; exact h.2.1
  · simp only [kap, Prod.mk.injEq] at h; exact range_same.1 h.2.2 l hl
  · simp only [kap, Prod.mk.injEq] at h; exact h.1
  · simp only [kap, Prod.mk.injEq]; exact ⟨h1, h2, range_same.2 h3⟩
section
variable {G : World → Prop} (hG : Lasting G)
include hG
set_option maxHeartbeats 4000000 in
set_option maxRecDepth 100000 in
theorem Shrunk_snd (base tracks : Int) {n m : Nat} {next : List (List Int)} {ends : List Bool} (hR : Rows0 n m next) (hm : 0 < m) (hm2 : m ≤ 2000000) (he : ends.length = m) (hn : n ≤ 1000) :
    Snd Tryd.prog G 38 [tInt base, tInt tracks, tIntss next, tBools ends] (shrinkT base tracks n next ends) := by
  have htb := Tab.cons (RMet_snd (G := G) hG hR hm hm2 hn) Tab.nil
  have hlen := hR.len
  have hmo := met_ok hR hm
  have hbf := met_bfs hR hm
  have hol := hmo.len
  generalize met next = out at htb hmo hbf hol
  refine snd_of_body (n := 135) (tm := [(0, .t (tInt base)), (1, .t (tInt tracks)), (2, .t (tIntss next)), (3, .t (tBools ends))]) (rs := [.cell 8 25, .tmp 9]) tt_ok Tryd.func38 rfl rfl rfl rfl rfl ?_
  repeat' (first | (with_reducible first | apply w1 | apply w2 | apply w3 | apply w4 | apply w5 | apply w6 | apply w7 | apply w8 | apply w9 | apply wa | apply wb | apply wc) | ((with_reducible apply wd); focus decide) | ((with_reducible apply we); focus exact rfl) | ((with_reducible apply wf); focus exact rfl) | ((first | (with_reducible apply SW_run tt_ok hG htb) | ((with_reducible apply SW_draw rfl tt_ok hG htb); (focus kernel_rfl); focus simp only [List.range, List.range.loop, List.size_toArray, List.length_cons, List.length_nil, Nat.reduceAdd])); focus ((repeat' (first | (with_reducible first | exact wg | exact wh) | ((with_reducible first | apply wi | apply wj); focus (simp (discharger := omega) only [go_sem, simprocAttr]; with_reducible rfl)))); done)))
  refine SW_loop (fun k s => ∃ (many : Nat) (cls : List Nat), k = m + 1 - many ∧ s = ⟨135, [(0, .t (tInt base)), (1, .t (tInt tracks)), (2, .t (tIntss next)), (3, .t (tBools ends)), (8, .bptr 0 0), (10, .t (tInts out)), (11, .sref 1), (12, .t (tNat many))], [.box [.t (tInt 0), .t (tInt 0), .nil, .nil], .row 3 1 false (cls.map tNat)]⟩ ∧ cls.length = m ∧ many ≤ m ∧ RInv next ends n out (clf cls) many) (m + 1)
    ⟨_, Norm.headS (own := [(11, 3, 1, false)]) (keep := [0, 1, 2, 3, 8, 10, 11, 12]) (by refine ⟨?_, ?_⟩; (simp (discharger := omega) only [go_sem, simprocAttr]; with_reducible rfl); refine ⟨?_, ?_, ?_, ?_⟩ <;> (simp only [go_sem, simprocAttr]; with_reducible rfl)), 0, List.replicate m 0, rfl, by rw [List.map_replicate, hlen]; rfl, by simp, Nat.zero_le _, RInv.start fun s t hs ht e => by
      have h1 := hmo.ok s hs
      have h2 := hmo.ok t ht
      unfold clf
      rw [if_pos h1.1, if_pos h2.1, getD_lt (by simp; omega), getD_lt (by simp; omega)]; simp⟩ ?_
  clear htb
  have htb : Tab.ok Tryd.prog G [] := Tab.nil
  rintro k s ⟨many, cls, rfl, rfl, hcl, hmany, hinv⟩
  have hlook := kap_looks next ends n out (clf cls)
  repeat' (first | (with_reducible first | apply w1 | apply w2 | apply w3 | apply w4 | apply w5 | apply w6 | apply w7 | apply w8 | apply w9 | apply wa | apply wb | apply wc) | ((with_reducible apply wd); focus decide) | ((with_reducible apply we); focus exact rfl) | ((with_reducible apply wf); focus exact rfl) | ((first | (with_reducible apply SW_run tt_ok hG htb) | ((with_reducible apply SW_draw rfl tt_ok hG htb); (focus kernel_rfl); focus simp only [List.range, List.range.loop, List.size_toArray, List.length_cons, List.length_nil, Nat.reduceAdd])); focus ((repeat' (first | (with_reducible first | exact wg | exact wh) | ((with_reducible first | apply wi | apply wj); focus (simp (discharger := omega) only [go_sem, simprocAttr]; with_reducible rfl)))); done)))
  refine SW_loop (fun k s => ∃ (i : Nat) (frs : List Nat) (R : List Int), k = m - i ∧ s = ⟨135, [(0, .t (tInt base)), (1, .t (tInt tracks)), (2, .t (tIntss next)), (3, .t (tBools ends)), (8, .bptr 0 0), (10, .t (tInts out)), (11, .sref 1), (12, .t (tNat many)), (13, .sref 2), (14, .sref 3), (15, .t (tInt i))], [.box [.t (tInt 0), .t (tInt 0), .nil, .nil], .row 3 1 false (cls.map tNat), .row 3 1 false (R.map tInt), .row 3 1 true (frs.map tNat)]⟩ ∧ frs.length = m ∧ i ≤ out.length ∧ R.length ≤ 80 ∧ Numd (out.take i) (kap next ends n (clf cls)) (clf frs) R) m
    ⟨_, Norm.headS (own := [(11, 3, 1, false), (13, 3, 1, false), (14, 3, 1, true)]) (keep := [0, 1, 2, 3, 8, 10, 11, 12, 13, 14, 15]) (by refine ⟨?_, ?_⟩; (simp (discharger := omega) only [go_sem, simprocAttr]; with_reducible rfl); refine ⟨?_, ?_, ?_, ?_⟩ <;> (simp only [go_sem, simprocAttr]; with_reducible rfl)), 0, List.replicate m 0, [], rfl, by rw [List.map_replicate, hlen]; rfl, by simp, Nat.zero_le _, by simp, by rw [List.take_zero]; exact Numd.start _ _⟩ ?_
  rintro k s ⟨i, frs, R, rfl, rfl, hfl, hi, hR8, hN⟩
  have hRi : R.length ≤ i ∧ ∀ q ∈ R, 0 ≤ q ∧ q < (m : Int) := by
    refine ⟨?_, fun q hq => hmo.ok q (List.mem_of_mem_take (hN.mem hq))⟩
    have h1 : R.Nodup := (hN.distinct).imp fun {a b} h e => h (by rw [e])
    have h2 : (R.map fun q => ((out.take i).idxOf q)).length ≤ i := nodup_boundN i _ (by
      refine List.pairwise_map.2 (h1.imp_of_mem fun {a b} ha hb hne e => hne ?_)
      have e1 := List.getElem_idxOf (List.idxOf_lt_length_of_mem (hN.mem ha))
      have e2 := List.getElem_idxOf (List.idxOf_lt_length_of_mem (hN.mem hb))
      simp only [e] at e1
      exact e1.symm.trans e2) fun k hk => by
        obtain ⟨q, hq, rfl⟩ := List.mem_map.1 hk
        have := List.idxOf_lt_length_of_mem (hN.mem hq)
        simp at this; omega
    simpa using h2
  by_cases hlt : i < out.length
  · obtain ⟨r, hor⟩ : ∃ r, out[i]! = r := ⟨_, rfl⟩
    have hio : out[i]? = some r := by rw [← hor, getElem!_pos out i hlt]; exact List.getElem?_eq_getElem hlt
    have hrm : r ∈ out := List.mem_of_getElem? hio
    have hs : 0 ≤ r ∧ r < (m : Int) := hmo.ok _ hrm
    have hnr : r ∉ out.take i := fun hm => by
      obtain ⟨q, hq, e⟩ := List.mem_iff_getElem.1 hm
      simp only [List.getElem_take] at e
      rw [List.getElem?_eq_getElem hlt] at hio
      have := nodup_inj hmo.nd (by simp at hq; omega) hlt (e.trans (Option.some.inj hio).symm)
      simp at hq; omega
    have htk : out.take (i + 1) = out.take i ++ [r] := by
      rw [List.take_succ_eq_append_getElem hlt]
      rw [List.getElem?_eq_getElem hlt] at hio
      rw [Option.some.inj hio]
    repeat' (first | (with_reducible first | apply w1 | apply w2 | apply w3 | apply w4 | apply w5 | apply w6 | apply w7 | apply w8 | apply w9 | apply wa | apply wb | apply wc) | ((with_reducible apply wd); focus decide) | ((with_reducible apply we); focus exact rfl) | ((with_reducible apply wf); focus exact rfl) | ((first | (with_reducible apply SW_run tt_ok hG htb) | ((with_reducible apply SW_draw rfl tt_ok hG htb); (focus kernel_rfl); focus simp only [List.range, List.range.loop, List.size_toArray, List.length_cons, List.length_nil, Nat.reduceAdd])); focus ((repeat' (first | (with_reducible first | exact wg | exact wh) | ((with_reducible first | apply wi | apply wj); focus (simp (discharger := omega) only [go_sem, hor, simprocAttr]; with_reducible rfl)))); done)))
    refine SW_loop (fun k s => ∃ j : Nat, k = R.length - j ∧ s = ⟨135, [(0, .t (tInt base)), (1, .t (tInt tracks)), (2, .t (tIntss next)), (3, .t (tBools ends)), (8, .bptr 0 0), (10, .t (tInts out)), (11, .sref 1), (12, .t (tNat many)), (13, .sref 2), (14, .sref 3), (15, .t (tInt i)), (16, .t (tInt r)), (17, .t (tInt j))], [.box [.t (tInt 0), .t (tInt 0), .nil, .nil], .row 3 1 false (cls.map tNat), .row 3 1 false (R.map tInt), .row 3 1 true (frs.map tNat)]⟩ ∧ j ≤ R.length ∧ ∀ q, q < j → kap next ends n (clf cls) R[q]! ≠ kap next ends n (clf cls) r) R.length
      ⟨_, Norm.headS (own := [(11, 3, 1, false), (13, 3, 1, false), (14, 3, 1, true)]) (keep := [0, 1, 2, 3, 8, 10, 11, 12, 13, 14, 15, 16, 17]) (by refine ⟨?_, ?_⟩; (simp (discharger := omega) only [go_sem, simprocAttr]; with_reducible rfl); refine ⟨?_, ?_, ?_, ?_⟩ <;> (simp only [go_sem, simprocAttr]; with_reducible rfl)), 0, rfl, rfl, Nat.zero_le _, fun q hq => by omega⟩ ?_
    rintro k s ⟨j, rfl, rfl, hj, hA⟩
    by_cases hlt2 : j < R.length
    · obtain ⟨q, hq⟩ : ∃ q, R[j]! = q := ⟨_, rfl⟩
      have hq2 : R[j]? = some q := by rw [← hq, getElem!_pos R j hlt2]; exact List.getElem?_eq_getElem hlt2
      have hqm := hRi.2 q (List.mem_of_getElem? hq2)
      have htb := Tab.cons (likes_snd (G := G) (cls := cls) (s := r) (t := q) hG hR he hcl hs hqm hn) Tab.nil
      by_cases hlk : likesB next ends n (clf cls) r q = true
      · rw [hlk] at htb
        obtain ⟨c1, c2⟩ := clf_set (cls := frs) (r := r) hs.1 (by omega) j
        repeat' (first | (with_reducible first | apply w1 | apply w2 | apply w3 | apply w4 | apply w5 | apply w6 | apply w7 | apply w8 | apply w9 | apply wa | apply wb | apply wc) | ((with_reducible apply wd); focus decide) | ((with_reducible apply we); focus exact rfl) | ((with_reducible apply wf); focus exact rfl) | ((first | (with_reducible apply SW_run tt_ok hG htb) | ((with_reducible apply SW_draw rfl tt_ok hG htb); (focus kernel_rfl); focus simp only [List.range, List.range.loop, List.size_toArray, List.length_cons, List.length_nil, Nat.reduceAdd])); focus ((repeat' (first | (with_reducible first | exact wg | exact wh) | ((with_reducible first | apply wi | apply wj); focus (simp (discharger := omega) only [go_sem, hq, simprocAttr]; with_reducible rfl)))); done)))
        exact ⟨m - (i + 1), _, by omega, Norm.headS (own := [(11, 3, 1, false), (13, 3, 1, false), (14, 3, 1, true)]) (keep := [0, 1, 2, 3, 8, 10, 11, 12, 13, 14, 15]) (by refine ⟨?_, ?_⟩; (simp (discharger := omega) only [go_sem, simprocAttr]; with_reducible rfl); refine ⟨?_, ?_, ?_, ?_⟩ <;> (simp only [go_sem, simprocAttr]; with_reducible rfl)), i + 1, frs.set r.toNat j, R, rfl, by rw [List.map_set]; rfl, by simpa using hfl, by omega, hR8, by rw [htk]; exact hN.old hnr hq2 (likesB_iff.1 hlk).symm c2 c1⟩
      · have hlk2 : likesB next ends n (clf cls) r q = false := by simpa using hlk
        rw [hlk2] at htb
        repeat' (first | (with_reducible first | apply w1 | apply w2 | apply w3 | apply w4 | apply w5 | apply w6 | apply w7 | apply w8 | apply w9 | apply wa | apply wb | apply wc) | ((with_reducible apply wd); focus decide) | ((with_reducible apply we); focus exact rfl) | ((with_reducible apply wf); focus exact rfl) | ((first | (with_reducible apply SW_run tt_ok hG htb) | ((with_reducible apply SW_draw rfl tt_ok hG htb); (focus kernel_rfl); focus simp only [List.range, List.range.loop, List.size_toArray, List.length_cons, List.length_nil, Nat.reduceAdd])); focus ((repeat' (first | (with_reducible first | exact wg | exact wh) | ((with_reducible first | apply wi | apply wj); focus (simp (discharger := omega) only [go_sem, hq, simprocAttr]; with_reducible rfl)))); done)))
        exact ⟨R.length - (j + 1), _, by omega, Norm.headS (own := [(11, 3, 1, false), (13, 3, 1, false), (14, 3, 1, true)]) (keep := [0, 1, 2, 3, 8, 10, 11, 12, 13, 14, 15, 16, 17]) (by refine ⟨?_, ?_⟩; (simp (discharger := omega) only [go_sem, simprocAttr]; with_reducible rfl); refine ⟨?_, ?_, ?_, ?_⟩ <;> (simp only [go_sem, simprocAttr]; with_reducible rfl)), j + 1, rfl, rfl, by omega, fun p hp => by
          by_cases e : p = j
          · subst e; rw [hq]; exact fun e => hlk (likesB_iff.2 e.symm)
          · exact hA p (by omega)⟩
    · have hjR : j = R.length := by omega
      subst hjR
      have hno : ∀ q ∈ R, kap next ends n (clf cls) q ≠ kap next ends n (clf cls) r := fun q hq => by
        obtain ⟨p, hp, e⟩ := List.mem_iff_getElem.1 hq
        have := hA p hp
        rwa [getElem!_pos R p hp, e] at this
      by_cases h80 : R.length = 80
      · have hT : shrinkT base tracks n next ends = .tup [tAuto GAuto.zero, .bool false] := by
          have h1 := hinv.bound hR hm hbf hlook (Q := R ++ [r]) (fun q hq => by
            rcases List.mem_append.1 hq with h | h
            · exact List.mem_of_mem_take (hN.mem h)
            · simp at h; subst h; exact hrm) (by
            rw [List.pairwise_append]
            refine ⟨hN.distinct, by simp, fun a ha b hb => ?_⟩
            simp at hb; subst hb; exact hno a ha)
          unfold shrinkT; rw [if_neg (by simp at h1; omega)]
        rw [hT]
        repeat' (first | (with_reducible first | apply w1 | apply w2 | apply w3 | apply w4 | apply w5 | apply w6 | apply w7 | apply w8 | apply w9 | apply wa | apply wb | apply wc) | ((with_reducible apply wd); focus decide) | ((with_reducible apply we); focus exact rfl) | ((with_reducible apply wf); focus exact rfl) | ((first | (with_reducible apply SW_run tt_ok hG htb) | ((with_reducible apply SW_draw rfl tt_ok hG htb); (focus kernel_rfl); focus simp only [List.range, List.range.loop, List.size_toArray, List.length_cons, List.length_nil, Nat.reduceAdd])); focus ((repeat' (first | (with_reducible first | exact wg | exact wh) | ((with_reducible first | apply wi | apply wj); focus (simp (discharger := omega) only [go_sem, h80, simprocAttr]; with_reducible rfl)))); done)))
        exact (by simp (discharger := omega) only [go_sem, tAuto, GAuto.zero, simprocAttr])
      · obtain ⟨c1, c2⟩ := clf_set (cls := frs) (r := r) hs.1 (by omega) R.length
        repeat' (first | (with_reducible first | apply w1 | apply w2 | apply w3 | apply w4 | apply w5 | apply w6 | apply w7 | apply w8 | apply w9 | apply wa | apply wb | apply wc) | ((with_reducible apply wd); focus decide) | ((with_reducible apply we); focus exact rfl) | ((with_reducible apply wf); focus exact rfl) | ((first | (with_reducible apply SW_run tt_ok hG htb) | ((with_reducible apply SW_draw rfl tt_ok hG htb); (focus kernel_rfl); focus simp only [List.range, List.range.loop, List.size_toArray, List.length_cons, List.length_nil, Nat.reduceAdd])); focus ((repeat' (first | (with_reducible first | exact wg | exact wh) | ((with_reducible first | apply wi | apply wj); focus (simp (discharger := omega) only [go_sem, h80, simprocAttr]; with_reducible rfl)))); done)))
        exact ⟨m - (i + 1), _, by omega, Norm.headS (own := [(11, 3, 1, false), (13, 3, 1, false), (14, 3, 1, true)]) (keep := [0, 1, 2, 3, 8, 10, 11, 12, 13, 14, 15]) (by refine ⟨?_, ?_⟩; (simp (discharger := omega) only [go_sem, simprocAttr]; with_reducible rfl); refine ⟨?_, ?_, ?_, ?_⟩ <;> (simp only [go_sem, simprocAttr]; with_reducible rfl)), i + 1, frs.set r.toNat R.length, R ++ [r], rfl, by rw [List.map_set, List.map_append]; rfl, by simpa using hfl, by omega, by simp; omega, by rw [htk]; exact hN.new hnr hno c2 c1⟩
  · have hie : i = out.length := by omega
    subst hie
    rw [List.take_length] at hN
    clear hi hlt
    have hmore := hinv.more hN hlook
    have hbound : R.length ≤ m := by omega
    by_cases hRm : R.length = many
    · have hdone := hinv.done hR hm hmo hbf hN hlook hRm
      have hre := leastRE_eq hR hm hdone
      have hclR : ∀ s, s ∈ out → clf frs s < R.length := fun s hs => hN.lt hs
      subst hRm
      clear hinv hlook hmore
      have hRl : (leftRows next (clf frs) R).length = R.length := by simp [leftRows]
      have hEl : (leftEnds ends R).length = R.length := by simp [leftEnds]
      have hR80 : R.length ≤ 1000000 := by omega
      repeat' (first | (with_reducible first | apply w1 | apply w2 | apply w3 | apply w4 | apply w5 | apply w6 | apply w7 | apply w8 | apply w9 | apply wa | apply wb | apply wc) | ((with_reducible apply wd); focus decide) | ((with_reducible apply we); focus exact rfl) | ((with_reducible apply wf); focus exact rfl) | ((first | (with_reducible apply SW_run tt_ok hG htb) | ((with_reducible apply SW_draw rfl tt_ok hG htb); (focus kernel_rfl); focus simp only [List.range, List.range.loop, List.size_toArray, List.length_cons, List.length_nil, Nat.reduceAdd])); focus ((repeat' (first | (with_reducible first | exact wg | exact wh) | ((with_reducible first | apply wi | apply wj); focus (simp (discharger := omega) only [go_sem, simprocAttr]; with_reducible rfl)))); done)))
      refine SW_loop (fun j s => ∃ (k : Nat) (nt et : List T), j = R.length - k ∧ s = ⟨135, [(2, .t (tIntss next)), (3, .t (tBools ends)), (8, .bptr 0 0), (11, .sref 1), (12, .t (tNat R.length)), (13, .sref 2), (18, .bptr 3 0), (19, .t (tInt k))], [.box [.t (tInt 0), .t (tInt 0), .nil, .nil], .row 3 1 false (frs.map tNat), .row 3 1 false (R.map tInt), .box [.t (tInt base), .t (tInt tracks), .sref 4, .sref 5], .row 35 1 true nt, .row 4 1 true et]⟩ ∧
          nt = ((leftRows next (clf frs) R).take k).map tInts ∧ et = ((leftEnds ends R).take k).map T.bool ∧ k ≤ R.length) R.length
        ⟨_, (Norm.ownB (j := 4) (off := 2) (e := 35) (sz := 1) rfl rfl Nat.one_pos).trans ((Norm.ownB (j := 4) (off := 3) (e := 4) (sz := 1) rfl rfl Nat.one_pos).trans (Norm.headS (own := [(11, 3, 1, false), (13, 3, 1, false)]) (keep := [2, 3, 8, 11, 12, 13, 18, 19]) (by refine ⟨?_, ?_⟩; (simp (discharger := omega) only [go_sem, simprocAttr]; with_reducible rfl); refine ⟨?_, ?_, ?_, ?_⟩ <;> (simp only [go_sem, simprocAttr]; with_reducible rfl)))), 0, _, _, rfl, rfl, by simp, by simp, Nat.zero_le _⟩ ?_
      rintro j s ⟨k, nt, et, rfl, rfl, hnt, het, hk⟩
      have hnl : nt.length = k := by rw [hnt]; simp; omega
      have hel2 : et.length = k := by rw [het]; simp; omega
      by_cases hlt : k < R.length
      · obtain ⟨r, hor⟩ : ∃ r, R[k]! = r := ⟨_, rfl⟩
        have hRk : R[k]? = some r := by rw [← hor, getElem!_pos R k hlt]; exact List.getElem?_eq_getElem hlt
        have hRk2 : R[k] = r := by rw [List.getElem?_eq_getElem hlt] at hRk; exact Option.some.inj hRk
        have hrm : r ∈ out := hN.mem (List.mem_of_getElem? hRk)
        have hs : 0 ≤ r ∧ r < (m : Int) := hmo.ok _ hrm
        obtain ⟨row, hrow⟩ : ∃ row, next[r.toNat]! = row := ⟨_, rfl⟩
        have hrl : r.toNat < next.length := by omega
        have hrow2 : rowOf next r = row := by unfold rowOf; rw [getD_lt hrl, ← hrow, getElem!_pos next _ hrl]
        have hrmem : row ∈ next := by rw [← hrow, getElem!_pos next _ hrl]; exact List.getElem_mem hrl
        have hrn : row.length = n := hR.row _ hrmem
        have hend : ends[r.toNat]! = endOf ends r := by unfold endOf; rw [getD_lt (by omega), getElem!_pos ends _ (by omega)]
        repeat' (first | (with_reducible first | apply w1 | apply w2 | apply w3 | apply w4 | apply w5 | apply w6 | apply w7 | apply w8 | apply w9 | apply wa | apply wb | apply wc) | ((with_reducible apply wd); focus decide) | ((with_reducible apply we); focus exact rfl) | ((with_reducible apply wf); focus exact rfl) | ((first | (with_reducible apply SW_run tt_ok hG htb) | ((with_reducible apply SW_draw rfl tt_ok hG htb); (focus kernel_rfl); focus simp only [List.range, List.range.loop, List.size_toArray, List.length_cons, List.length_nil, Nat.reduceAdd])); focus ((repeat' (first | (with_reducible first | exact wg | exact wh) | ((with_reducible first | apply wi | apply wj); focus (simp (discharger := omega) only [go_sem, hor, hrow, simprocAttr]; with_reducible rfl)))); done)))
        refine SW_loop (fun j s => ∃ (l : Nat) (rt : List T), j = n - l ∧ s = ⟨135, [(2, .t (tIntss next)), (3, .t (tBools ends)), (8, .bptr 0 0), (11, .sref 1), (12, .t (tNat R.length)), (13, .sref 2), (18, .bptr 3 0), (19, .t (tInt k)), (20, .sref 4), (21, .t (tInt l))], [.box [.t (tInt 0), .t (tInt 0), .nil, .nil], .row 3 1 false (frs.map tNat), .row 3 1 false (R.map tInt), .box [.t (tInt base), .t (tInt tracks), .sref 5, .sref 6], .row 3 1 true rt, .row 35 1 true nt, .row 4 1 true et]⟩ ∧
            l ≤ n ∧ rt = (row.take l).map fun t => tNat (clf frs t)) n ⟨_, Norm.headS (own := [(11, 3, 1, false), (13, 3, 1, false), (20, 3, 1, true)]) (keep := [2, 3, 8, 11, 12, 13, 18, 19, 20, 21]) (by refine ⟨?_, ?_⟩; (simp (discharger := omega) only [go_sem, simprocAttr]; with_reducible rfl); refine ⟨?_, ?_, ?_, ?_⟩ <;> (simp only [go_sem, simprocAttr]; with_reducible rfl)), 0, _, rfl, rfl, Nat.zero_le _, rfl⟩ ?_
        rintro j s ⟨l, rt, rfl, rfl, hl, hrt⟩
        have hrtl : rt.length = l := by rw [hrt]; simp; omega
        by_cases hlt2 : l < n
        · obtain ⟨u, hul⟩ : ∃ u, row[l]! = u := ⟨_, rfl⟩
          have hll : l < row.length := by omega
          have hul2 : row[l]? = some u := by rw [← hul, getElem!_pos row l hll]; exact List.getElem?_eq_getElem hll
          have hu : 0 ≤ u ∧ u < (m : Int) := hR.ok _ hrmem _ (List.mem_of_getElem? hul2)
          obtain ⟨d, hd⟩ : ∃ d, frs[u.toNat]! = d := ⟨_, rfl⟩
          have hd2 : clf frs u = d := by rw [← clf_at hu.1 (by omega), hd]
          have htk2 : row.take (l + 1) = row.take l ++ [u] := by
            rw [List.take_succ_eq_append_getElem hll]
            rw [List.getElem?_eq_getElem hll] at hul2
            rw [Option.some.inj hul2]
          repeat' (first | (with_reducible first | apply w1 | apply w2 | apply w3 | apply w4 | apply w5 | apply w6 | apply w7 | apply w8 | apply w9 | apply wa | apply wb | apply wc) | ((with_reducible apply wd); focus decide) | ((with_reducible apply we); focus exact rfl) | ((with_reducible apply wf); focus exact rfl) | ((first | (with_reducible apply SW_run tt_ok hG htb) | ((with_reducible apply SW_draw rfl tt_ok hG htb); (focus kernel_rfl); focus simp only [List.range, List.range.loop, List.size_toArray, List.length_cons, List.length_nil, Nat.reduceAdd])); focus ((repeat' (first | (with_reducible first | exact wg | exact wh) | ((with_reducible first | apply wi | apply wj); focus (simp (discharger := omega) only [go_sem, hor, hrow, hul, hd, simprocAttr]; with_reducible rfl)))); done)))
          exact ⟨n - (l + 1), _, by omega, Norm.headS (own := [(11, 3, 1, false), (13, 3, 1, false), (20, 3, 1, true)]) (keep := [2, 3, 8, 11, 12, 13, 18, 19, 20, 21]) (by refine ⟨?_, ?_⟩; (simp (discharger := omega) only [go_sem, simprocAttr]; with_reducible rfl); refine ⟨?_, ?_, ?_, ?_⟩ <;> (simp only [go_sem, simprocAttr]; with_reducible rfl)), l + 1, _, rfl, rfl, by omega, by rw [htk2, hrt]; simp [hd2, tNat]⟩
        · obtain rfl : l = n := by omega
          rw [List.take_of_length_le (by omega)] at hrt
          repeat' (first | (with_reducible first | apply w1 | apply w2 | apply w3 | apply w4 | apply w5 | apply w6 | apply w7 | apply w8 | apply w9 | apply wa | apply wb | apply wc) | ((with_reducible apply wd); focus decide) | ((with_reducible apply we); focus exact rfl) | ((with_reducible apply wf); focus exact rfl) | ((first | (with_reducible apply SW_run tt_ok hG htb) | ((with_reducible apply SW_draw rfl tt_ok hG htb); (focus kernel_rfl); focus simp only [List.range, List.range.loop, List.size_toArray, List.length_cons, List.length_nil, Nat.reduceAdd])); focus ((repeat' (first | (with_reducible first | exact wg | exact wh) | ((with_reducible first | apply wi | apply wj); focus (simp (discharger := omega) only [go_sem, hor, hrow, hend, simprocAttr]; with_reducible rfl)))); done)))
          have hlr : (leftRows next (clf frs) R).take (k + 1) = (leftRows next (clf frs) R).take k ++ [row.map fun t => (clf frs t : Int)] := by
            rw [List.take_succ_eq_append_getElem (by omega)]
            congr 1
            simp [leftRows, hRk2, hrow2]
          have hle2 : (leftEnds ends R).take (k + 1) = (leftEnds ends R).take k ++ [endOf ends r] := by
            rw [List.take_succ_eq_append_getElem (by omega)]
            congr 1
            simp [leftEnds, hRk2]
          exact ⟨R.length - (k + 1), _, by omega, Norm.headS (own := [(11, 3, 1, false), (13, 3, 1, false)]) (keep := [2, 3, 8, 11, 12, 13, 18, 19]) (by refine ⟨?_, ?_⟩; (simp (discharger := omega) only [go_sem, simprocAttr]; with_reducible rfl); refine ⟨?_, ?_, ?_, ?_⟩ <;> (simp only [go_sem, simprocAttr]; with_reducible rfl)), k + 1, _, _, rfl, rfl, by rw [hlr, List.map_append, ← hnt, hrt]; simp [tInts, tNat, tInt], by rw [hle2, List.map_append, ← het]; rfl, by omega⟩
      · have hkR : k = R.length := by omega
        subst hkR
        rw [List.take_of_length_le (by omega)] at hnt het
        have hT : shrinkT base tracks n next ends = .tup [tAuto ⟨base, tracks, leftRows next (clf frs) R, leftEnds ends R⟩, .bool true] := by
          unfold shrinkT; rw [hre, if_pos (by simp only [hRl]; omega)]
        rw [hT]
        repeat' (first | (with_reducible first | apply w1 | apply w2 | apply w3 | apply w4 | apply w5 | apply w6 | apply w7 | apply w8 | apply w9 | apply wa | apply wb | apply wc) | ((with_reducible apply wd); focus decide) | ((with_reducible apply we); focus exact rfl) | ((with_reducible apply wf); focus exact rfl) | ((first | (with_reducible apply SW_run tt_ok hG htb) | ((with_reducible apply SW_draw rfl tt_ok hG htb); (focus kernel_rfl); focus simp only [List.range, List.range.loop, List.size_toArray, List.length_cons, List.length_nil, Nat.reduceAdd])); focus ((repeat' (first | (with_reducible first | exact wg | exact wh) | ((with_reducible first | apply wi | apply wj); focus (simp (discharger := omega) only [go_sem, simprocAttr]; with_reducible rfl)))); done)))
        subst hnt het
        exact (by simp (discharger := omega) only [go_sem, tAuto, simprocAttr])
    · repeat' (first | (with_reducible first | apply w1 | apply w2 | apply w3 | apply w4 | apply w5 | apply w6 | apply w7 | apply w8 | apply w9 | apply wa | apply wb | apply wc) | ((with_reducible apply wd); focus decide) | ((with_reducible apply we); focus exact rfl) | ((with_reducible apply wf); focus exact rfl) | ((first | (with_reducible apply SW_run tt_ok hG htb) | ((with_reducible apply SW_draw rfl tt_ok hG htb); (focus kernel_rfl); focus simp only [List.range, List.range.loop, List.size_toArray, List.length_cons, List.length_nil, Nat.reduceAdd])); focus ((repeat' (first | (with_reducible first | exact wg | exact wh) | ((with_reducible first | apply wi | apply wj); focus (simp (discharger := omega) only [go_sem, hRm, simprocAttr]; with_reducible rfl)))); done)))
      exact ⟨m + 1 - R.length, _, by omega, Norm.headS (own := [(11, 3, 1, false)]) (keep := [0, 1, 2, 3, 8, 10, 11, 12]) (by refine ⟨?_, ?_⟩; (simp (discharger := omega) only [go_sem, simprocAttr]; with_reducible rfl); refine ⟨?_, ?_, ?_, ?_⟩ <;> (simp only [go_sem, simprocAttr]; with_reducible rfl)), R.length, frs, rfl, rfl, hfl, hbound, hinv.step hbf hN hlook⟩
theorem LeastOf_snd {a : GAuto} (h0 : autoFault a = 0) : Snd Tryd.prog G 20 [tAuto a] (tAuto (leastA a)) := by
  have g := good_of h0
  have hs := Shrunk_snd (G := G) hG a.base a.tracks g.rows g.m0 (by have := g.m80; omega) g.ends (by have := g.n36; omega)
  rw [shrink_least g] at hs
  have htb := Tab.cons hs Tab.nil
  refine snd_of_body (n := 18) (tm := [(0, .t (tAuto a))]) (rs := [.cell 2 25]) tt_ok Tryd.func20 rfl rfl rfl rfl rfl ?_
  generalize leastA a = b at htb ⊢
  repeat' (first | (with_reducible first | apply w1 | apply w2 | apply w3 | apply w4 | apply w5 | apply w6 | apply w7 | apply w8 | apply w9 | apply wa | apply wb | apply wc) | ((with_reducible apply wd); focus decide) | ((with_reducible apply we); focus exact rfl) | ((with_reducible apply wf); focus exact rfl) | ((first | (with_reducible apply SW_run tt_ok hG htb) | ((with_reducible apply SW_draw rfl tt_ok hG htb); (focus kernel_rfl); focus simp only [List.range, List.range.loop, List.size_toArray, List.length_cons, List.length_nil, Nat.reduceAdd])); focus ((repeat' (first | (with_reducible first | exact wg | exact wh) | ((with_reducible first | apply wi | apply wj); focus (simp (discharger := omega) only [go_sem, tAuto, simprocAttr]; with_reducible rfl)))); done)))
  exact (by simp (discharger := omega) only [go_sem, tAuto, simprocAttr])
end
end Go.Proofs.YthcclcbliedodaaDoor
namespace Go.Proofs.YthcclcbliedodaaDoor
open Go.RowKit

section
variable {G : World → Prop} (hG : Lasting G)
include hG
theorem RRadix_snd (base : Int) : Snd Tryd.prog G 52 [tInt base] (tInt (radix base)) := by
  have htb : Tab.ok Tryd.prog G [] := Tab.nil
  refine snd_of_body (n := 12) (tm := [(0, .t (tInt base))]) (rs := [.tmp 2]) tt_ok Tryd.func52 rfl rfl rfl rfl rfl ?_
  unfold radix
  by_cases h1 : base = 1
  · repeat' (first | (with_reducible first | apply w1 | apply w2 | apply w3 | apply w4 | apply w5 | apply w6 | apply w7 | apply w8 | apply w9 | apply wa | apply wb | apply wc) | ((with_reducible apply wd); focus decide) | ((with_reducible apply we); focus exact rfl) | ((with_reducible apply wf); focus exact rfl) | ((first | (with_reducible apply SW_run tt_ok hG htb) | ((with_reducible apply SW_draw rfl tt_ok hG htb); (focus kernel_rfl); focus simp only [List.range, List.range.loop, List.size_toArray, List.length_cons, List.length_nil, Nat.reduceAdd])); focus ((repeat' (first | (with_reducible first | exact wg | exact wh) | ((with_reducible first | apply wi | apply wj); focus (simp (discharger := omega) only [go_sem, h1, simprocAttr]; with_reducible rfl)))); done)))
    exact (by simp (discharger := omega) only [go_sem, h1, simprocAttr])
  · by_cases h2 : 2 ≤ base
    · by_cases h3 : base ≤ 6
      · repeat' (first | (with_reducible first | apply w1 | apply w2 | apply w3 | apply w4 | apply w5 | apply w6 | apply w7 | apply w8 | apply w9 | apply wa | apply wb | apply wc) | ((with_reducible apply wd); focus decide) | ((with_reducible apply we); focus exact rfl) | ((with_reducible apply wf); focus exact rfl) | ((first | (with_reducible apply SW_run tt_ok hG htb) | ((with_reducible apply SW_draw rfl tt_ok hG htb); (focus kernel_rfl); focus simp only [List.range, List.range.loop, List.size_toArray, List.length_cons, List.length_nil, Nat.reduceAdd])); focus ((repeat' (first | (with_reducible first | exact wg | exact wh) | ((with_reducible first | apply wi | apply wj); focus (simp (discharger := omega) only [go_sem, simprocAttr]; with_reducible rfl)))); done)))
        exact (by simp (discharger := omega) only [go_sem, simprocAttr])
      · repeat' (first | (with_reducible first | apply w1 | apply w2 | apply w3 | apply w4 | apply w5 | apply w6 | apply w7 | apply w8 | apply w9 | apply wa | apply wb | apply wc) | ((with_reducible apply wd); focus decide) | ((with_reducible apply we); focus exact rfl) | ((with_reducible apply wf); focus exact rfl) | ((first | (with_reducible apply SW_run tt_ok hG htb) | ((with_reducible apply SW_draw rfl tt_ok hG htb); (focus kernel_rfl); focus simp only [List.range, List.range.loop, List.size_toArray, List.length_cons, List.length_nil, Nat.reduceAdd])); focus ((repeat' (first | (with_reducible first | exact wg | exact wh) | ((with_reducible first | apply wi | apply wj); focus (simp (discharger := omega) only [go_sem, simprocAttr]; with_reducible rfl)))); done)))
        exact (by simp (discharger := omega) only [go_sem, simprocAttr])
    · repeat' (first | (with_reducible first | apply w1 | apply w2 | apply w3 | apply w4 | apply w5 | apply w6 | apply w7 | apply w8 | apply w9 | apply wa | apply wb | apply wc) | ((with_reducible apply wd); focus decide) | ((with_reducible apply we); focus exact rfl) | ((with_reducible apply wf); focus exact rfl) | ((first | (with_reducible apply SW_run tt_ok hG htb) | ((with_reducible apply SW_draw rfl tt_ok hG htb); (focus kernel_rfl); focus simp only [List.range, List.range.loop, List.size_toArray, List.length_cons, List.length_nil, Nat.reduceAdd])); focus ((repeat' (first | (with_reducible first | exact wg | exact wh) | ((with_reducible first | apply wi | apply wj); focus (simp (discharger := omega) only [go_sem, simprocAttr]; with_reducible rfl)))); done)))
      exact (by simp (discharger := omega) only [go_sem, simprocAttr])
theorem RDigitOf_snd (base : Int) (t : Nat) (l : Int) (i : Nat) (hr : radix base ≠ 0) (ht : t ≤ 5) (hl0 : 0 ≤ l) (hl1 : l ≤ 7776) (hi : i < t) :
    Snd Tryd.prog G 54 [tInt base, tInt t, tInt l, tInt i] (tInt (digitAt (radix base) t l i)) := by
  have htb := Tab.cons (RRadix_snd hG base) Tab.nil
  refine snd_of_body (n := 26) (tm := [(0, .t (tInt base)), (1, .t (tInt t)), (2, .t (tInt l)), (3, .t (tInt i))]) (rs := [.tmp 8]) tt_ok Tryd.func54 rfl rfl rfl rfl rfl ?_
  obtain ⟨r2, r6⟩ := radix_two hr
  unfold digitAt
  generalize radix base = k at *
  repeat' (first | (with_reducible first | apply w1 | apply w2 | apply w3 | apply w4 | apply w5 | apply w6 | apply w7 | apply w8 | apply w9 | apply wa | apply wb | apply wc) | ((with_reducible apply wd); focus decide) | ((with_reducible apply we); focus exact rfl) | ((with_reducible apply wf); focus exact rfl) | ((first | (with_reducible apply SW_run tt_ok hG htb) | ((with_reducible apply SW_draw rfl tt_ok hG htb); (focus kernel_rfl); focus simp only [List.range, List.range.loop, List.size_toArray, List.length_cons, List.length_nil, Nat.reduceAdd])); focus ((repeat' (first | (with_reducible first | exact wg | exact wh) | ((with_reducible first | apply wi | apply wj); focus (simp (discharger := omega) only [go_sem, simprocAttr]; with_reducible rfl)))); done)))
  refine SW_loop (fun m s => ∃ (j : Nat) (q : Int), m = j ∧ s = ⟨26, [(2, .t (tInt q)), (3, .t (tInt i)), (9, .t (tInt k)), (10, .t (tInt (i + j : Nat)))], []⟩ ∧ i + j < t ∧ 0 ≤ q ∧ q ≤ 7776 ∧ (unpack k t l).getD i 0 = (unpack k (i + j + 1) q).getD i 0) (t - 1 - i) ⟨_, Norm.headS (own := []) (keep := [2, 3, 9, 10]) (by refine ⟨?_, ?_⟩; (simp (discharger := omega) only [go_sem, simprocAttr]; with_reducible rfl); refine ⟨?_, ?_, ?_, ?_⟩ <;> (simp only [go_sem, simprocAttr]; with_reducible rfl)), t - 1 - i, l, rfl, by rw [show i + (t - 1 - i) = t - 1 by omega, show ((t - 1 : Nat) : Int) = (t : Int) - 1 by omega]; rfl, by omega, hl0, hl1, by rw [show i + (t - 1 - i) + 1 = t by omega]⟩ ?_
  rintro m s ⟨j, q, rfl, rfl, hj, q0, q1, hU⟩
  have e1 : q.tmod k = q % k := Int.tmod_eq_emod_of_nonneg q0
  have e2 : q.tdiv k = q / k := Int.tdiv_eq_ediv_of_nonneg q0
  have q2 : 0 ≤ q % k := Int.emod_nonneg _ (by omega)
  have q3 : 0 ≤ q / k := Int.ediv_nonneg q0 (by omega)
  have q4 : q / k ≤ q := Int.ediv_le_self _ q0
  by_cases hlt : 0 < m
  · obtain ⟨j, rfl⟩ : ∃ j, m = j + 1 := ⟨m - 1, by omega⟩
    have e3 : ((i + (j + 1) : Nat) : Int) - 1 = ((i + j : Nat) : Int) := by omega
    repeat' (first | (with_reducible first | apply w1 | apply w2 | apply w3 | apply w4 | apply w5 | apply w6 | apply w7 | apply w8 | apply w9 | apply wa | apply wb | apply wc) | ((with_reducible apply wd); focus decide) | ((with_reducible apply we); focus exact rfl) | ((with_reducible apply wf); focus exact rfl) | ((first | (with_reducible apply SW_run tt_ok hG htb) | ((with_reducible apply SW_draw rfl tt_ok hG htb); (focus kernel_rfl); focus simp only [List.range, List.range.loop, List.size_toArray, List.length_cons, List.length_nil, Nat.reduceAdd])); focus ((repeat' (first | (with_reducible first | exact wg | exact wh) | ((with_reducible first | apply wi | apply wj); focus (simp (discharger := omega) only [go_sem, e2, e3, simprocAttr]; with_reducible rfl)))); done)))
    exact ⟨j, _, by omega, Norm.headS (own := []) (keep := [2, 3, 9, 10]) (by refine ⟨?_, ?_⟩; (simp (discharger := omega) only [go_sem, simprocAttr]; with_reducible rfl); refine ⟨?_, ?_, ?_, ?_⟩ <;> (simp only [go_sem, simprocAttr]; with_reducible rfl)), j, q / k, rfl, rfl, by omega, q3, by omega, by rw [hU]; exact unpack_pre k (i + j + 1) q i (by omega)⟩
  · obtain rfl : m = 0 := by omega
    rw [hU, Nat.add_zero, unpack_last]
    repeat' (first | (with_reducible first | apply w1 | apply w2 | apply w3 | apply w4 | apply w5 | apply w6 | apply w7 | apply w8 | apply w9 | apply wa | apply wb | apply wc) | ((with_reducible apply wd); focus decide) | ((with_reducible apply we); focus exact rfl) | ((with_reducible apply wf); focus exact rfl) | ((first | (with_reducible apply SW_run tt_ok hG htb) | ((with_reducible apply SW_draw rfl tt_ok hG htb); (focus kernel_rfl); focus simp only [List.range, List.range.loop, List.size_toArray, List.length_cons, List.length_nil, Nat.reduceAdd])); focus ((repeat' (first | (with_reducible first | exact wg | exact wh) | ((with_reducible first | apply wi | apply wj); focus (simp (discharger := omega) only [go_sem, e1, simprocAttr]; with_reducible rfl)))); done)))
    exact (by simp (discharger := omega) only [go_sem, simprocAttr])
end
end Go.Proofs.YthcclcbliedodaaDoor
namespace Go.Proofs.YthcclcbliedodaaDoor
open Go.RowKit

section
variable {G : World → Prop} (hG : Lasting G)
include hG
set_option maxHeartbeats 4000000 in
theorem RLetters_snd (base t : Int) : Snd Tryd.prog G 25 [tInt base, tInt t] (.tup [tInt (manyOf base t), tInt (manyErr base t)]) := by
  have htb := Tab.cons (RRadix_snd hG base) Tab.nil
  refine snd_of_body (n := 32) (tm := [(0, .t (tInt base)), (1, .t (tInt t))]) (rs := [.tmp 4, .tmp 5]) tt_ok Tryd.func25 rfl rfl rfl rfl rfl ?_
  unfold manyOf manyErr
  generalize hk : radix base = k at htb ⊢
  by_cases h1 : k = 0
  · subst h1
    repeat' (first | (with_reducible first | apply w1 | apply w2 | apply w3 | apply w4 | apply w5 | apply w6 | apply w7 | apply w8 | apply w9 | apply wa | apply wb | apply wc) | ((with_reducible apply wd); focus decide) | ((with_reducible apply we); focus exact rfl) | ((with_reducible apply wf); focus exact rfl) | ((first | (with_reducible apply SW_run tt_ok hG htb) | ((with_reducible apply SW_draw rfl tt_ok hG htb); (focus kernel_rfl); focus simp only [List.range, List.range.loop, List.size_toArray, List.length_cons, List.length_nil, Nat.reduceAdd])); focus ((repeat' (first | (with_reducible first | exact wg | exact wh) | ((with_reducible first | apply wi | apply wj); focus (simp (discharger := omega) only [go_sem, simprocAttr]; with_reducible rfl)))); done)))
    exact (by simp (discharger := omega) only [go_sem, simprocAttr])
  · by_cases h2 : t < 0
    · repeat' (first | (with_reducible first | apply w1 | apply w2 | apply w3 | apply w4 | apply w5 | apply w6 | apply w7 | apply w8 | apply w9 | apply wa | apply wb | apply wc) | ((with_reducible apply wd); focus decide) | ((with_reducible apply we); focus exact rfl) | ((with_reducible apply wf); focus exact rfl) | ((first | (with_reducible apply SW_run tt_ok hG htb) | ((with_reducible apply SW_draw rfl tt_ok hG htb); (focus kernel_rfl); focus simp only [List.range, List.range.loop, List.size_toArray, List.length_cons, List.length_nil, Nat.reduceAdd])); focus ((repeat' (first | (with_reducible first | exact wg | exact wh) | ((with_reducible first | apply wi | apply wj); focus (simp (discharger := omega) only [go_sem, simprocAttr]; with_reducible rfl)))); done)))
      exact (by simp (discharger := omega) only [go_sem, simprocAttr])
    · by_cases h3 : 5 < t
      · repeat' (first | (with_reducible first | apply w1 | apply w2 | apply w3 | apply w4 | apply w5 | apply w6 | apply w7 | apply w8 | apply w9 | apply wa | apply wb | apply wc) | ((with_reducible apply wd); focus decide) | ((with_reducible apply we); focus exact rfl) | ((with_reducible apply wf); focus exact rfl) | ((first | (with_reducible apply SW_run tt_ok hG htb) | ((with_reducible apply SW_draw rfl tt_ok hG htb); (focus kernel_rfl); focus simp only [List.range, List.range.loop, List.size_toArray, List.length_cons, List.length_nil, Nat.reduceAdd])); focus ((repeat' (first | (with_reducible first | exact wg | exact wh) | ((with_reducible first | apply wi | apply wj); focus (simp (discharger := omega) only [go_sem, simprocAttr]; with_reducible rfl)))); done)))
        exact (by simp (discharger := omega) only [go_sem, simprocAttr])
      · obtain ⟨r2, r6⟩ := radix_two (b := base) (by omega)
        rw [hk] at r2 r6
        obtain ⟨t, rfl⟩ := Int.eq_ofNat_of_zero_le (show 0 ≤ t by omega)
        rw [show (if k = 0 ∨ (t : Int) < 0 ∨ 5 < (t : Int) then (1 : Int) else if 36 < powW k (t : Int).toNat then 3 else 0) = if 36 < powW k t then 3 else 0 by rw [if_neg (by omega)]; rfl]
        repeat' (first | (with_reducible first | apply w1 | apply w2 | apply w3 | apply w4 | apply w5 | apply w6 | apply w7 | apply w8 | apply w9 | apply wa | apply wb | apply wc) | ((with_reducible apply wd); focus decide) | ((with_reducible apply we); focus exact rfl) | ((with_reducible apply wf); focus exact rfl) | ((first | (with_reducible apply SW_run tt_ok hG htb) | ((with_reducible apply SW_draw rfl tt_ok hG htb); (focus kernel_rfl); focus simp only [List.range, List.range.loop, List.size_toArray, List.length_cons, List.length_nil, Nat.reduceAdd])); focus ((repeat' (first | (with_reducible first | exact wg | exact wh) | ((with_reducible first | apply wi | apply wj); focus (simp (discharger := omega) only [go_sem, simprocAttr]; with_reducible rfl)))); done)))
        refine SW_loop (fun m s => ∃ i : Nat, m = t - i ∧ s = ⟨32, [(1, .t (tInt t)), (6, .t (tInt k)), (7, .t (tInt (powW k i))), (8, .t (tInt i))], []⟩ ∧ i ≤ t) t ⟨_, Norm.headS (own := []) (keep := [1, 6, 7, 8]) (by refine ⟨?_, ?_⟩; (simp (discharger := omega) only [go_sem, simprocAttr]; with_reducible rfl); refine ⟨?_, ?_, ?_, ?_⟩ <;> (simp only [go_sem, simprocAttr]; with_reducible rfl)), 0, rfl, rfl, Nat.zero_le _⟩ ?_
        rintro m s ⟨i, rfl, rfl, hi⟩
        have hb := powW_bd r2 r6 (j := i) (by omega)
        by_cases hlt : i < t
        · have hb1 : 1 ≤ powW k i * k ∧ powW k i * k ≤ 7776 := powW_bd r2 r6 (j := i + 1) (by omega)
          repeat' (first | (with_reducible first | apply w1 | apply w2 | apply w3 | apply w4 | apply w5 | apply w6 | apply w7 | apply w8 | apply w9 | apply wa | apply wb | apply wc) | ((with_reducible apply wd); focus decide) | ((with_reducible apply we); focus exact rfl) | ((with_reducible apply wf); focus exact rfl) | ((first | (with_reducible apply SW_run tt_ok hG htb) | ((with_reducible apply SW_draw rfl tt_ok hG htb); (focus kernel_rfl); focus simp only [List.range, List.range.loop, List.size_toArray, List.length_cons, List.length_nil, Nat.reduceAdd])); focus ((repeat' (first | (with_reducible first | exact wg | exact wh) | ((with_reducible first | apply wi | apply wj); focus (simp (discharger := omega) only [go_sem, simprocAttr]; with_reducible rfl)))); done)))
          exact ⟨t - (i + 1), _, by omega, Norm.headS (own := []) (keep := [1, 6, 7, 8]) (by refine ⟨?_, ?_⟩; (simp (discharger := omega) only [go_sem, simprocAttr]; with_reducible rfl); refine ⟨?_, ?_, ?_, ?_⟩ <;> (simp only [go_sem, simprocAttr]; with_reducible rfl)), i + 1, rfl, rfl, by omega⟩
        · obtain rfl : i = t := by omega
          by_cases h36 : 36 < powW k i
          · repeat' (first | (with_reducible first | apply w1 | apply w2 | apply w3 | apply w4 | apply w5 | apply w6 | apply w7 | apply w8 | apply w9 | apply wa | apply wb | apply wc) | ((with_reducible apply wd); focus decide) | ((with_reducible apply we); focus exact rfl) | ((with_reducible apply wf); focus exact rfl) | ((first | (with_reducible apply SW_run tt_ok hG htb) | ((with_reducible apply SW_draw rfl tt_ok hG htb); (focus kernel_rfl); focus simp only [List.range, List.range.loop, List.size_toArray, List.length_cons, List.length_nil, Nat.reduceAdd])); focus ((repeat' (first | (with_reducible first | exact wg | exact wh) | ((with_reducible first | apply wi | apply wj); focus (simp (discharger := omega) only [go_sem, simprocAttr]; with_reducible rfl)))); done)))
            exact (by simp (discharger := omega) only [go_sem, simprocAttr])
          · repeat' (first | (with_reducible first | apply w1 | apply w2 | apply w3 | apply w4 | apply w5 | apply w6 | apply w7 | apply w8 | apply w9 | apply wa | apply wb | apply wc) | ((with_reducible apply wd); focus decide) | ((with_reducible apply we); focus exact rfl) | ((with_reducible apply wf); focus exact rfl) | ((first | (with_reducible apply SW_run tt_ok hG htb) | ((with_reducible apply SW_draw rfl tt_ok hG htb); (focus kernel_rfl); focus simp only [List.range, List.range.loop, List.size_toArray, List.length_cons, List.length_nil, Nat.reduceAdd])); focus ((repeat' (first | (with_reducible first | exact wg | exact wh) | ((with_reducible first | apply wi | apply wj); focus (simp (discharger := omega) only [go_sem, simprocAttr]; with_reducible rfl)))); done)))
            exact (by simp (discharger := omega) only [go_sem, simprocAttr])
end
end Go.Proofs.YthcclcbliedodaaDoor
namespace Go.Proofs.YthcclcbliedodaaDoor
open Go.RowKit
section
variable {G : World → Prop} (hG : Lasting G)
include hG
set_option maxHeartbeats 4000000 in
theorem Fault_snd (a : GAuto) : Snd Tryd.prog G 7 [tAuto a] (tInt (autoFault a)) := by
  have htb := Tab.cons (RLetters_snd hG a.base a.tracks) Tab.nil
  refine snd_of_body (n := 76) (tm := [(0, .t (tAuto a))]) (rs := [.tmp 2]) tt_ok Tryd.func7 rfl rfl rfl rfl rfl ?_
  unfold autoFault
  by_cases h0 : manyErr a.base a.tracks = 0
  · rw [if_neg (by omega)]
    rw [h0] at htb
    have h36 := (many_ok h0).2.2.2.1
    rw [← (many_ok h0).2.2.2.2] at h36
    generalize hmo : manyOf a.base a.tracks = mo at *
    by_cases h1 : a.next.length = 0
    · repeat' (first | (with_reducible first | apply w1 | apply w2 | apply w3 | apply w4 | apply w5 | apply w6 | apply w7 | apply w8 | apply w9 | apply wa | apply wb | apply wc) | ((with_reducible apply wd); focus decide) | ((with_reducible apply we); focus exact rfl) | ((with_reducible apply wf); focus exact rfl) | ((first | (with_reducible apply SW_run tt_ok hG htb) | ((with_reducible apply SW_draw rfl tt_ok hG htb); (focus kernel_rfl); focus simp only [List.range, List.range.loop, List.size_toArray, List.length_cons, List.length_nil, Nat.reduceAdd])); focus ((repeat' (first | (with_reducible first | exact wg | exact wh) | ((with_reducible first | apply wi | apply wj); focus (simp (discharger := omega) only [go_sem, tAuto, simprocAttr]; with_reducible rfl)))); done)))
      exact (by simp (discharger := omega) only [go_sem, simprocAttr])
    · by_cases h2 : 80 < a.next.length
      · repeat' (first | (with_reducible first | apply w1 | apply w2 | apply w3 | apply w4 | apply w5 | apply w6 | apply w7 | apply w8 | apply w9 | apply wa | apply wb | apply wc) | ((with_reducible apply wd); focus decide) | ((with_reducible apply we); focus exact rfl) | ((with_reducible apply wf); focus exact rfl) | ((first | (with_reducible apply SW_run tt_ok hG htb) | ((with_reducible apply SW_draw rfl tt_ok hG htb); (focus kernel_rfl); focus simp only [List.range, List.range.loop, List.size_toArray, List.length_cons, List.length_nil, Nat.reduceAdd])); focus ((repeat' (first | (with_reducible first | exact wg | exact wh) | ((with_reducible first | apply wi | apply wj); focus (simp (discharger := omega) only [go_sem, tAuto, simprocAttr]; with_reducible rfl)))); done)))
        exact (by simp (discharger := omega) only [go_sem, simprocAttr])
      · by_cases h3 : a.ends.length = a.next.length
        · rw [if_neg h1, if_neg h2, if_neg (by omega)]
          repeat' (first | (with_reducible first | apply w1 | apply w2 | apply w3 | apply w4 | apply w5 | apply w6 | apply w7 | apply w8 | apply w9 | apply wa | apply wb | apply wc) | ((with_reducible apply wd); focus decide) | ((with_reducible apply we); focus exact rfl) | ((with_reducible apply wf); focus exact rfl) | ((first | (with_reducible apply SW_run tt_ok hG htb) | ((with_reducible apply SW_draw rfl tt_ok hG htb); (focus kernel_rfl); focus simp only [List.range, List.range.loop, List.size_toArray, List.length_cons, List.length_nil, Nat.reduceAdd])); focus ((repeat' (first | (with_reducible first | exact wg | exact wh) | ((with_reducible first | apply wi | apply wj); focus (simp (discharger := omega) only [go_sem, tAuto, h3, simprocAttr]; with_reducible rfl)))); done)))
          refine SW_loop (fun m s => ∃ i : Nat, m = a.next.length - i ∧ s = ⟨76, [(1, .bptr 0 0), (3, .t (tInt mo)), (5, .t (tInt i))], [.box [.t (tInt a.base), .t (tInt a.tracks), .t (tIntss a.next), .t (tBools a.ends)]]⟩ ∧ i ≤ a.next.length ∧ ∀ j (hj : j < a.next.length), j < i → (a.next[j].length : Int) = mo ∧ ∀ s ∈ a.next[j], 0 ≤ s ∧ s < (a.next.length : Int)) a.next.length
            ⟨_, Norm.headS (own := []) (keep := [1, 3, 5]) (by refine ⟨?_, ?_⟩; (simp (discharger := omega) only [go_sem, simprocAttr]; with_reducible rfl); refine ⟨?_, ?_, ?_, ?_⟩ <;> (simp only [go_sem, simprocAttr]; with_reducible rfl)), 0, rfl, rfl, Nat.zero_le _, fun j hj h => by omega⟩ ?_
          rintro m s ⟨i, rfl, rfl, hi, hA⟩
          by_cases hlt : i < a.next.length
          · obtain ⟨row, hrow⟩ : ∃ row, a.next[i]! = row := ⟨_, rfl⟩
            have hat := bang_at hrow hlt
            obtain ⟨f1, f2⟩ := rowsFault_at hlt hA
            rw [hat] at f1 f2
            by_cases hrl : (row.length : Int) = mo
            · repeat' (first | (with_reducible first | apply w1 | apply w2 | apply w3 | apply w4 | apply w5 | apply w6 | apply w7 | apply w8 | apply w9 | apply wa | apply wb | apply wc) | ((with_reducible apply wd); focus decide) | ((with_reducible apply we); focus exact rfl) | ((with_reducible apply wf); focus exact rfl) | ((first | (with_reducible apply SW_run tt_ok hG htb) | ((with_reducible apply SW_draw rfl tt_ok hG htb); (focus kernel_rfl); focus simp only [List.range, List.range.loop, List.size_toArray, List.length_cons, List.length_nil, Nat.reduceAdd])); focus ((repeat' (first | (with_reducible first | exact wg | exact wh) | ((with_reducible first | apply wi | apply wj); focus (simp (discharger := omega) only [go_sem, hrow, simprocAttr]; with_reducible rfl)))); done)))
              refine SW_loop (fun m s => ∃ l : Nat, m = row.length - l ∧ s = ⟨76, [(1, .bptr 0 0), (3, .t (tInt mo)), (5, .t (tInt i)), (6, .t (tInt l))], [.box [.t (tInt a.base), .t (tInt a.tracks), .t (tIntss a.next), .t (tBools a.ends)]]⟩ ∧ l ≤ row.length ∧ ∀ x ∈ row.take l, 0 ≤ x ∧ x < (a.next.length : Int)) row.length
                ⟨_, Norm.headS (own := []) (keep := [1, 3, 5, 6]) (by refine ⟨?_, ?_⟩; (simp (discharger := omega) only [go_sem, simprocAttr]; with_reducible rfl); refine ⟨?_, ?_, ?_, ?_⟩ <;> (simp only [go_sem, simprocAttr]; with_reducible rfl)), 0, rfl, rfl, Nat.zero_le _, fun x hx => by simp at hx⟩ ?_
              rintro m s ⟨l, rfl, rfl, hl, hB⟩
              by_cases hlt2 : l < row.length
              · obtain ⟨x, hx⟩ : ∃ x, row[l]! = x := ⟨_, rfl⟩
                have htk := take_next hx hlt2
                have hxm := bang_mem hx hlt2
                by_cases hx0 : 0 ≤ x
                · by_cases hxm2 : x < (a.next.length : Int)
                  · repeat' (first | (with_reducible first | apply w1 | apply w2 | apply w3 | apply w4 | apply w5 | apply w6 | apply w7 | apply w8 | apply w9 | apply wa | apply wb | apply wc) | ((with_reducible apply wd); focus decide) | ((with_reducible apply we); focus exact rfl) | ((with_reducible apply wf); focus exact rfl) | ((first | (with_reducible apply SW_run tt_ok hG htb) | ((with_reducible apply SW_draw rfl tt_ok hG htb); (focus kernel_rfl); focus simp only [List.range, List.range.loop, List.size_toArray, List.length_cons, List.length_nil, Nat.reduceAdd])); focus ((repeat' (first | (with_reducible first | exact wg | exact wh) | ((with_reducible first | apply wi | apply wj); focus (simp (discharger := omega) only [go_sem, hrow, hx, simprocAttr]; with_reducible rfl)))); done)))
                    exact ⟨row.length - (l + 1), _, by omega, Norm.headS (own := []) (keep := [1, 3, 5, 6]) (by refine ⟨?_, ?_⟩; (simp (discharger := omega) only [go_sem, simprocAttr]; with_reducible rfl); refine ⟨?_, ?_, ?_, ?_⟩ <;> (simp only [go_sem, simprocAttr]; with_reducible rfl)), l + 1, rfl, rfl, by omega, fun y hy => by
                      rw [htk] at hy
                      rcases List.mem_append.1 hy with h | h
                      · exact hB y h
                      · simp at h; subst h; exact ⟨hx0, hxm2⟩⟩
                  · rw [f2 hrl ⟨x, hxm, by omega⟩]
                    repeat' (first | (with_reducible first | apply w1 | apply w2 | apply w3 | apply w4 | apply w5 | apply w6 | apply w7 | apply w8 | apply w9 | apply wa | apply wb | apply wc) | ((with_reducible apply wd); focus decide) | ((with_reducible apply we); focus exact rfl) | ((with_reducible apply wf); focus exact rfl) | ((first | (with_reducible apply SW_run tt_ok hG htb) | ((with_reducible apply SW_draw rfl tt_ok hG htb); (focus kernel_rfl); focus simp only [List.range, List.range.loop, List.size_toArray, List.length_cons, List.length_nil, Nat.reduceAdd])); focus ((repeat' (first | (with_reducible first | exact wg | exact wh) | ((with_reducible first | apply wi | apply wj); focus (simp (discharger := omega) only [go_sem, hrow, hx, simprocAttr]; with_reducible rfl)))); done)))
                    exact (by simp (discharger := omega) only [go_sem, simprocAttr])
                · rw [f2 hrl ⟨x, hxm, by omega⟩]
                  repeat' (first | (with_reducible first | apply w1 | apply w2 | apply w3 | apply w4 | apply w5 | apply w6 | apply w7 | apply w8 | apply w9 | apply wa | apply wb | apply wc) | ((with_reducible apply wd); focus decide) | ((with_reducible apply we); focus exact rfl) | ((with_reducible apply wf); focus exact rfl) | ((first | (with_reducible apply SW_run tt_ok hG htb) | ((with_reducible apply SW_draw rfl tt_ok hG htb); (focus kernel_rfl); focus simp only [List.range, List.range.loop, List.size_toArray, List.length_cons, List.length_nil, Nat.reduceAdd])); focus ((repeat' (first | (with_reducible first | exact wg | exact wh) | ((with_reducible first | apply wi | apply wj); focus (simp (discharger := omega) only [go_sem, hrow, hx, simprocAttr]; with_reducible rfl)))); done)))
                  exact (by simp (discharger := omega) only [go_sem, simprocAttr])
              · obtain rfl : l = row.length := by omega
                rw [List.take_length] at hB
                repeat' (first | (with_reducible first | apply w1 | apply w2 | apply w3 | apply w4 | apply w5 | apply w6 | apply w7 | apply w8 | apply w9 | apply wa | apply wb | apply wc) | ((with_reducible apply wd); focus decide) | ((with_reducible apply we); focus exact rfl) | ((with_reducible apply wf); focus exact rfl) | ((first | (with_reducible apply SW_run tt_ok hG htb) | ((with_reducible apply SW_draw rfl tt_ok hG htb); (focus kernel_rfl); focus simp only [List.range, List.range.loop, List.size_toArray, List.length_cons, List.length_nil, Nat.reduceAdd])); focus ((repeat' (first | (with_reducible first | exact wg | exact wh) | ((with_reducible first | apply wi | apply wj); focus (simp (discharger := omega) only [go_sem, simprocAttr]; with_reducible rfl)))); done)))
                exact ⟨a.next.length - (i + 1), _, by omega, Norm.headS (own := []) (keep := [1, 3, 5]) (by refine ⟨?_, ?_⟩; (simp (discharger := omega) only [go_sem, simprocAttr]; with_reducible rfl); refine ⟨?_, ?_, ?_, ?_⟩ <;> (simp only [go_sem, simprocAttr]; with_reducible rfl)), i + 1, rfl, rfl, by omega, fun j hj h => by
                  by_cases e : j = i
                  · subst e; rw [hat]; exact ⟨hrl, hB⟩
                  · exact hA j hj (by omega)⟩
            · rw [f1 hrl]
              repeat' (first | (with_reducible first | apply w1 | apply w2 | apply w3 | apply w4 | apply w5 | apply w6 | apply w7 | apply w8 | apply w9 | apply wa | apply wb | apply wc) | ((with_reducible apply wd); focus decide) | ((with_reducible apply we); focus exact rfl) | ((with_reducible apply wf); focus exact rfl) | ((first | (with_reducible apply SW_run tt_ok hG htb) | ((with_reducible apply SW_draw rfl tt_ok hG htb); (focus kernel_rfl); focus simp only [List.range, List.range.loop, List.size_toArray, List.length_cons, List.length_nil, Nat.reduceAdd])); focus ((repeat' (first | (with_reducible first | exact wg | exact wh) | ((with_reducible first | apply wi | apply wj); focus (simp (discharger := omega) only [go_sem, hrow, simprocAttr]; with_reducible rfl)))); done)))
              exact (by simp (discharger := omega) only [go_sem, simprocAttr])
          · obtain rfl : i = a.next.length := by omega
            rw [rowsFault_zero.2 fun r hr => by obtain ⟨j, hj, rfl⟩ := List.mem_iff_getElem.1 hr; exact hA j hj hj]
            repeat' (first | (with_reducible first | apply w1 | apply w2 | apply w3 | apply w4 | apply w5 | apply w6 | apply w7 | apply w8 | apply w9 | apply wa | apply wb | apply wc) | ((with_reducible apply wd); focus decide) | ((with_reducible apply we); focus exact rfl) | ((with_reducible apply wf); focus exact rfl) | ((first | (with_reducible apply SW_run tt_ok hG htb) | ((with_reducible apply SW_draw rfl tt_ok hG htb); (focus kernel_rfl); focus simp only [List.range, List.range.loop, List.size_toArray, List.length_cons, List.length_nil, Nat.reduceAdd])); focus ((repeat' (first | (with_reducible first | exact wg | exact wh) | ((with_reducible first | apply wi | apply wj); focus (simp (discharger := omega) only [go_sem, simprocAttr]; with_reducible rfl)))); done)))
            exact (by simp (discharger := omega) only [go_sem, simprocAttr])
        · repeat' (first | (with_reducible first | apply w1 | apply w2 | apply w3 | apply w4 | apply w5 | apply w6 | apply w7 | apply w8 | apply w9 | apply wa | apply wb | apply wc) | ((with_reducible apply wd); focus decide) | ((with_reducible apply we); focus exact rfl) | ((with_reducible apply wf); focus exact rfl) | ((first | (with_reducible apply SW_run tt_ok hG htb) | ((with_reducible apply SW_draw rfl tt_ok hG htb); (focus kernel_rfl); focus simp only [List.range, List.range.loop, List.size_toArray, List.length_cons, List.length_nil, Nat.reduceAdd])); focus ((repeat' (first | (with_reducible first | exact wg | exact wh) | ((with_reducible first | apply wi | apply wj); focus (simp (discharger := omega) only [go_sem, tAuto, h3, simprocAttr]; with_reducible rfl)))); done)))
          exact (by simp (discharger := omega) only [go_sem, h3, simprocAttr])
  · generalize manyErr a.base a.tracks = e at *
    repeat' (first | (with_reducible first | apply w1 | apply w2 | apply w3 | apply w4 | apply w5 | apply w6 | apply w7 | apply w8 | apply w9 | apply wa | apply wb | apply wc) | ((with_reducible apply wd); focus decide) | ((with_reducible apply we); focus exact rfl) | ((with_reducible apply wf); focus exact rfl) | ((first | (with_reducible apply SW_run tt_ok hG htb) | ((with_reducible apply SW_draw rfl tt_ok hG htb); (focus kernel_rfl); focus simp only [List.range, List.range.loop, List.size_toArray, List.length_cons, List.length_nil, Nat.reduceAdd])); focus ((repeat' (first | (with_reducible first | exact wg | exact wh) | ((with_reducible first | apply wi | apply wj); focus (simp (discharger := omega) only [go_sem, tAuto, h0, simprocAttr]; with_reducible rfl)))); done)))
    exact (by simp (discharger := omega) only [go_sem, h0, simprocAttr])
end
end Go.Proofs.YthcclcbliedodaaDoor
namespace Go.Proofs.YthcclcbliedodaaDoor
open Go.RowKit

def single (n : Nat) : List (List Int) := (List.range n).map fun (l : Nat) => [(l : Int)]
section
variable {G : World → Prop} (hG : Lasting G)
include hG
end
end Go.Proofs.YthcclcbliedodaaDoor
namespace Go.Proofs.YthcclcbliedodaaDoor
open Go.RowKit

section
variable {G : World → Prop} (hG : Lasting G)
include hG
theorem RPackOf_snd (base : Int) (d : List Int) (hr : radix base ≠ 0) (hl : d.length ≤ 5) (hok : ∀ x ∈ d, 0 ≤ x ∧ x < radix base) : Snd Tryd.prog G 55 [tInt base, tInts d] (tInt (pack (radix base) d)) := by
  have htb := Tab.cons (RRadix_snd hG base) Tab.nil
  refine snd_of_body (n := 23) (tm := [(0, .t (tInt base)), (1, .t (tInts d))]) (rs := [.tmp 4]) tt_ok Tryd.func55 rfl rfl rfl rfl rfl ?_
  obtain ⟨r2, r6⟩ := radix_two hr
  generalize radix base = k at *
  repeat' (first | (with_reducible first | apply w1 | apply w2 | apply w3 | apply w4 | apply w5 | apply w6 | apply w7 | apply w8 | apply w9 | apply wa | apply wb | apply wc) | ((with_reducible apply wd); focus decide) | ((with_reducible apply we); focus exact rfl) | ((with_reducible apply wf); focus exact rfl) | ((first | (with_reducible apply SW_run tt_ok hG htb) | ((with_reducible apply SW_draw rfl tt_ok hG htb); (focus kernel_rfl); focus simp only [List.range, List.range.loop, List.size_toArray, List.length_cons, List.length_nil, Nat.reduceAdd])); focus ((repeat' (first | (with_reducible first | exact wg | exact wh) | ((with_reducible first | apply wi | apply wj); focus (simp (discharger := omega) only [go_sem, simprocAttr]; with_reducible rfl)))); done)))
  refine SW_loop (fun m s => ∃ i : Nat, m = d.length - i ∧ s = ⟨23, [(0, .t (tInt base)), (1, .t (tInts d)), (5, .t (tInt (pack k (d.take i)))), (6, .t (tInt i))], []⟩ ∧ i ≤ d.length) d.length ⟨_, Norm.headS (own := []) (keep := [0, 1, 5, 6]) (by refine ⟨?_, ?_⟩; (simp (discharger := omega) only [go_sem, simprocAttr]; with_reducible rfl); refine ⟨?_, ?_, ?_, ?_⟩ <;> (simp only [go_sem, simprocAttr]; with_reducible rfl)), 0, rfl, rfl, Nat.zero_le _⟩ ?_
  rintro m s ⟨i, rfl, rfl, hi⟩
  have hb := pack_bd r2 (d.take i) fun x hx => hok x (List.mem_of_mem_take hx)
  have hb2 := powW_bd r2 r6 (j := (d.take i).length) (by simp; omega)
  by_cases hlt : i < d.length
  · obtain ⟨x, hx⟩ : ∃ x, d[i]! = x := ⟨_, rfl⟩
    have hxk := hok x (bang_mem hx hlt)
    have hpk : pack k (d.take (i + 1)) = pack k (d.take i) * k + x := by rw [take_next hx hlt, pack_snoc]
    have hm1 : 0 ≤ pack k (d.take i) * k := Int.mul_nonneg hb.1 (by omega)
    have hm2 : pack k (d.take i) * k ≤ 7776 * 6 := Int.mul_le_mul (by omega) r6 (by omega) (by omega)
    repeat' (first | (with_reducible first | apply w1 | apply w2 | apply w3 | apply w4 | apply w5 | apply w6 | apply w7 | apply w8 | apply w9 | apply wa | apply wb | apply wc) | ((with_reducible apply wd); focus decide) | ((with_reducible apply we); focus exact rfl) | ((with_reducible apply wf); focus exact rfl) | ((first | (with_reducible apply SW_run tt_ok hG htb) | ((with_reducible apply SW_draw rfl tt_ok hG htb); (focus kernel_rfl); focus simp only [List.range, List.range.loop, List.size_toArray, List.length_cons, List.length_nil, Nat.reduceAdd])); focus ((repeat' (first | (with_reducible first | exact wg | exact wh) | ((with_reducible first | apply wi | apply wj); focus (simp (discharger := omega) only [go_sem, hx, simprocAttr]; with_reducible rfl)))); done)))
    exact ⟨d.length - (i + 1), _, by omega, Norm.headS (own := []) (keep := [0, 1, 5, 6]) (by refine ⟨?_, ?_⟩; (simp (discharger := omega) only [go_sem, simprocAttr]; with_reducible rfl); refine ⟨?_, ?_, ?_, ?_⟩ <;> (simp only [go_sem, simprocAttr]; with_reducible rfl)), i + 1, rfl, by rw [hpk]; rfl, by omega⟩
  · obtain rfl : i = d.length := by omega
    rw [List.take_length] at hb ⊢
    repeat' (first | (with_reducible first | apply w1 | apply w2 | apply w3 | apply w4 | apply w5 | apply w6 | apply w7 | apply w8 | apply w9 | apply wa | apply wb | apply wc) | ((with_reducible apply wd); focus decide) | ((with_reducible apply we); focus exact rfl) | ((with_reducible apply wf); focus exact rfl) | ((first | (with_reducible apply SW_run tt_ok hG htb) | ((with_reducible apply SW_draw rfl tt_ok hG htb); (focus kernel_rfl); focus simp only [List.range, List.range.loop, List.size_toArray, List.length_cons, List.length_nil, Nat.reduceAdd])); focus ((repeat' (first | (with_reducible first | exact wg | exact wh) | ((with_reducible first | apply wi | apply wj); focus (simp (discharger := omega) only [go_sem, simprocAttr]; with_reducible rfl)))); done)))
    exact (by simp (discharger := omega) only [go_sem, simprocAttr])
end
end Go.Proofs.YthcclcbliedodaaDoor
namespace Go.Proofs.YthcclcbliedodaaDoor

def walkOk (c : Nat → Nat → Bool) : Nat → List Nat → Bool
  | _, [] => true
  | s, l :: w => !c s l && walkOk c l w
def chain (c : Nat → Nat → Bool) : List Nat → Bool
  | [] => true
  | x :: w => walkOk c x w
theorem map_range_take {α : Type} (f : Nat → α) {m k : Nat} (h : k < m) : ((List.range m).map f).take (k + 1) = ((List.range m).map f).take k ++ [f k] := by
  rw [List.take_succ_eq_append_getElem (by simpa using h)]; simp
/-- Two letters that have a digit 1 on the same track, in base Fib. -/
def clash (base : Int) (t s l : Nat) : Bool := base == 1 && (List.range t).any fun k => digitAt (radix base) t (s : Int) k == 1 && digitAt (radix base) t (l : Int) k == 1
end Go.Proofs.YthcclcbliedodaaDoor
namespace Go.Proofs.YthcclcbliedodaaDoor
open Go.RowKit

section
variable {G : World → Prop} (hG : Lasting G)
include hG
set_option maxHeartbeats 4000000 in
theorem Without_snd (base : Int) (t k : Nat) (l : Nat) (hr : radix base ≠ 0) (ht : t ≤ 4) (hk : k ≤ t) (hl : l ≤ 7776) :
    Snd Tryd.prog G 28 [tInt base, tInt ((t + 1 : Nat) : Int), tInt k, tInt l] (tInts ((List.range (radix base).toNat).map fun x : Nat => fixL base t k x l)) := by
  obtain ⟨r2, r6⟩ := radix_two hr
  have cR := RRadix_snd hG base
  have htb : Tab.ok Tryd.prog G [] := Tab.nil
  refine snd_of_body (n := 56) (tm := [(0, .t (tInt base)), (1, .t (tInt ((t + 1 : Nat) : Int))), (2, .t (tInt k)), (3, .t (tInt l))]) (rs := [.tmp 8]) tt_ok Tryd.func28 rfl rfl rfl rfl rfl ?_
  have et : ((t + 1 : Nat) : Int) - 1 = (t : Nat) := by omega
  repeat' (first | (with_reducible first | apply w1 | apply w2 | apply w3 | apply w4 | apply w5 | apply w6 | apply w7 | apply w8 | apply w9 | apply wa | apply wb | apply wc) | ((with_reducible apply wd); focus decide) | ((with_reducible apply we); focus exact rfl) | ((with_reducible apply wf); focus exact rfl) | ((first | (with_reducible apply SW_run tt_ok hG htb) | ((with_reducible apply SW_draw rfl tt_ok hG htb); (focus kernel_rfl); focus simp only [List.range, List.range.loop, List.size_toArray, List.length_cons, List.length_nil, Nat.reduceAdd])); focus ((repeat' (first | (with_reducible first | exact wg | exact wh) | ((with_reducible first | apply wi | apply wj); focus (simp (discharger := omega) only [go_sem, simprocAttr]; with_reducible rfl)))); done)))
  clear htb
  refine SW_loop (fun m s => ∃ (i : Nat) (dt : List T), m = t - i ∧ s = ⟨56, [(0, .t (tInt base)), (1, .t (tInt ((t + 1 : Nat) : Int))), (2, .t (tInt k)), (3, .t (tInt l)), (9, .sref 0), (10, .t (tInt i))], [.row 3 1 false dt]⟩ ∧ i ≤ t ∧ dt = ((unpack (radix base) t (l : Int)).take i).map tInt) t
    ⟨_, Norm.headS (own := [(9, 3, 1, false)]) (keep := [0, 1, 2, 3, 9, 10]) (by refine ⟨?_, ?_⟩; (simp (discharger := omega) only [go_sem, simprocAttr]; with_reducible rfl); refine ⟨?_, ?_, ?_, ?_⟩ <;> (simp only [go_sem, simprocAttr]; with_reducible rfl)), 0, _, rfl, rfl, Nat.zero_le _, by simp⟩ ?_
  rintro m s ⟨i, dt, rfl, rfl, hi, hdt⟩
  have hul := unpack_length (radix base) t (l : Int)
  have hdl : dt.length = i := by rw [hdt]; simp; omega
  by_cases hlt : i < t
  · have c1 := RDigitOf_snd hG base t (l : Int) i hr (by omega) (by omega) (by omega) hlt
    have htk : (unpack (radix base) t (l : Int)).take (i + 1) = (unpack (radix base) t (l : Int)).take i ++ [digitAt (radix base) t (l : Int) i] := by
      rw [List.take_succ_eq_append_getElem (by omega)]
      unfold digitAt
      rw [getD_lt (by omega)]
    generalize digitAt (radix base) t (l : Int) i = y at *
    have htb := Tab.cons c1 Tab.nil
    repeat' (first | (with_reducible first | apply w1 | apply w2 | apply w3 | apply w4 | apply w5 | apply w6 | apply w7 | apply w8 | apply w9 | apply wa | apply wb | apply wc) | ((with_reducible apply wd); focus decide) | ((with_reducible apply we); focus exact rfl) | ((with_reducible apply wf); focus exact rfl) | ((first | (with_reducible apply SW_run tt_ok hG htb) | ((with_reducible apply SW_draw rfl tt_ok hG htb); (focus kernel_rfl); focus simp only [List.range, List.range.loop, List.size_toArray, List.length_cons, List.length_nil, Nat.reduceAdd])); focus ((repeat' (first | (with_reducible first | exact wg | exact wh) | ((with_reducible first | apply wi | apply wj); focus (simp (discharger := omega) only [go_sem, et, simprocAttr]; with_reducible rfl)))); done)))
    exact ⟨t - (i + 1), _, by omega, Norm.headS (own := [(9, 3, 1, false)]) (keep := [0, 1, 2, 3, 9, 10]) (by refine ⟨?_, ?_⟩; (simp (discharger := omega) only [go_sem, simprocAttr]; with_reducible rfl); refine ⟨?_, ?_, ?_, ?_⟩ <;> (simp only [go_sem, simprocAttr]; with_reducible rfl)), i + 1, _, rfl, rfl, by omega, by rw [htk, List.map_append, ← hdt]; rfl⟩
  · obtain rfl : i = t := by omega
    rw [List.take_of_length_le (by omega)] at hdt
    obtain ⟨d, hd⟩ : ∃ d, unpack (radix base) i (l : Int) = d := ⟨_, rfl⟩
    have hdok := unpack_ok r2 i (l : Int)
    rw [hd] at hul hdt hdok
    have htb := Tab.cons cR Tab.nil
    subst hdt
    refine SW_norm (Norm.frz 9 rfl rfl) ?_
    repeat' (first | (with_reducible first | apply w1 | apply w2 | apply w3 | apply w4 | apply w5 | apply w6 | apply w7 | apply w8 | apply w9 | apply wa | apply wb | apply wc) | ((with_reducible apply wd); focus decide) | ((with_reducible apply we); focus exact rfl) | ((with_reducible apply wf); focus exact rfl) | ((first | (with_reducible apply SW_run tt_ok hG htb) | ((with_reducible apply SW_draw rfl tt_ok hG htb); (focus kernel_rfl); focus simp only [List.range, List.range.loop, List.size_toArray, List.length_cons, List.length_nil, Nat.reduceAdd])); focus ((repeat' (first | (with_reducible first | exact wg | exact wh) | ((with_reducible first | apply wi | apply wj); focus (simp (discharger := omega) only [go_sem, et, simprocAttr]; with_reducible rfl)))); done)))
    refine SW_loop (fun m s => ∃ (x : Nat) (ot : List T), m = (radix base).toNat - x ∧ s = ⟨56, [(0, .t (tInt base)), (2, .t (tInt k)), (9, .sref 0), (11, .sref 1), (12, .t (tInt x))], [.froz (d.map tInt), .row 3 1 false ot]⟩ ∧ x ≤ (radix base).toNat ∧ ot = (((List.range (radix base).toNat).map fun x : Nat => fixL base i k x l).take x).map tInt) (radix base).toNat
      ⟨_, Norm.headS (own := [(11, 3, 1, false)]) (keep := [0, 2, 9, 11, 12]) (by refine ⟨?_, ?_⟩; (simp (discharger := omega) only [go_sem, simprocAttr]; with_reducible rfl); refine ⟨?_, ?_, ?_, ?_⟩ <;> (simp only [go_sem, simprocAttr]; with_reducible rfl)), 0, _, rfl, rfl, Nat.zero_le _, by simp⟩ ?_
    rintro m s ⟨x, ot, rfl, rfl, hx, hot⟩
    have hol : ot.length = x := by rw [hot]; simp; omega
    by_cases hlt2 : x < (radix base).toNat
    · have hall : ∀ l : List Int, (l.all fun _ => true) = true := fun l => by simp
      obtain ⟨d1, e1⟩ : ∃ d1, d.take k = d1 := ⟨_, rfl⟩
      obtain ⟨d2, e2⟩ : ∃ d2, d.drop k = d2 := ⟨_, rfl⟩
      have l1 : d1.length = k := by rw [← e1]; simp; omega
      have l2 : d2.length = i - k := by rw [← e2]; simp; omega
      have m1 : (d.map tInt).take k = d1.map tInt := by rw [← e1, List.map_take]
      have m2 : (d.map tInt).drop k = d2.map tInt := by rw [← e2, List.map_drop]
      have m3 : (d.map tInt).take d.length = d.map tInt := List.take_of_length_le (by simp)
      have hD : fixD base i k x l = d1 ++ [(x : Int)] ++ d2 := by unfold fixD; rw [hd, e1, e2]
      have hok := fixD_ok hr (t := i) (k := k) (x := (x : Int)) (by omega) l
      rw [hD] at hok
      have c2 := RPackOf_snd hG base (d1 ++ [(x : Int)] ++ d2) hr (by simp; omega) hok
      have htk := map_range_take (fun x : Nat => fixL base i k x l) hlt2
      have hv : fixL base i k x l = pack (radix base) (d1 ++ [(x : Int)] ++ d2) := by unfold fixL; rw [hD]
      rw [hv] at htk
      clear hv hD hok
      generalize pack (radix base) (d1 ++ [(x : Int)] ++ d2) = v at *
      generalize radix base = r at *
      clear htb
      have htb := Tab.cons cR (Tab.cons c2 Tab.nil)
      repeat' (first | (with_reducible first | apply w1 | apply w2 | apply w3 | apply w4 | apply w5 | apply w6 | apply w7 | apply w8 | apply w9 | apply wa | apply wb | apply wc) | ((with_reducible apply wd); focus decide) | ((with_reducible apply we); focus exact rfl) | ((with_reducible apply wf); focus exact rfl) | ((first | (with_reducible apply SW_run tt_ok hG htb) | ((with_reducible apply SW_draw rfl tt_ok hG htb); (focus kernel_rfl); focus simp only [List.range, List.range.loop, List.size_toArray, List.length_cons, List.length_nil, Nat.reduceAdd])); focus ((repeat' (first | (with_reducible first | exact wg | exact wh) | ((with_reducible first | apply wi | apply wj); focus (simp (discharger := omega) only [go_sem, Function.comp_def, hall, m1, m2, m3, List.length_append, List.map_append, simprocAttr]; with_reducible rfl)))); done)))
      exact ⟨r.toNat - (x + 1), _, by omega, Norm.headS (own := [(11, 3, 1, false)]) (keep := [0, 2, 9, 11, 12]) (by refine ⟨?_, ?_⟩; (simp (discharger := omega) only [go_sem, simprocAttr]; with_reducible rfl); refine ⟨?_, ?_, ?_, ?_⟩ <;> (simp only [go_sem, simprocAttr]; with_reducible rfl)), x + 1, _, rfl, rfl, by omega, by rw [htk, List.map_append, ← hot]; rfl⟩
    · obtain rfl : x = (radix base).toNat := by omega
      rw [List.take_of_length_le (by simp)] at hot
      subst hot
      generalize radix base = r at *
      repeat' (first | (with_reducible first | apply w1 | apply w2 | apply w3 | apply w4 | apply w5 | apply w6 | apply w7 | apply w8 | apply w9 | apply wa | apply wb | apply wc) | ((with_reducible apply wd); focus decide) | ((with_reducible apply we); focus exact rfl) | ((with_reducible apply wf); focus exact rfl) | ((first | (with_reducible apply SW_run tt_ok hG htb) | ((with_reducible apply SW_draw rfl tt_ok hG htb); (focus kernel_rfl); focus simp only [List.range, List.range.loop, List.size_toArray, List.length_cons, List.length_nil, Nat.reduceAdd])); focus ((repeat' (first | (with_reducible first | exact wg | exact wh) | ((with_reducible first | apply wi | apply wj); focus (simp (discharger := omega) only [go_sem, simprocAttr]; with_reducible rfl)))); done)))
      exact (by simp (discharger := omega) only [go_sem, simprocAttr])
end
end Go.Proofs.YthcclcbliedodaaDoor
namespace Go.Proofs.YthcclcbliedodaaDoor
open Go.RowKit

def autoB (a : GAuto) : List SV := [.t (tInt a.base), .t (tInt a.tracks), .t (tIntss a.next), .t (tBools a.ends)]
def stepW (next : List (List Int)) (W : List (List Int)) (s : List Int) (l : Nat) : List Int := s.flatMap fun x => (W[l]!).map fun k => nx next x k.toNat
theorem stepW_in {N m : Nat} {next W : List (List Int)} (h : Rows0 N m next) (hW2 : ∀ r ∈ W, ∀ k ∈ r, 0 ≤ k ∧ k < (N : Int)) {s : List Int} (hs : Inm m s) {l : Nat} (hl : l < W.length) : Inm m (stepW next W s l) := fun x hx => by
  obtain ⟨y, hy, hx⟩ := List.mem_flatMap.1 hx
  obtain ⟨k, hk, rfl⟩ := List.mem_map.1 hx
  have := hW2 _ (bang_mem rfl hl) k hk
  exact nx_ok h (hs y hy) (by omega)
theorem stepW_len {next W : List (List Int)} {s : List Int} {l c : Nat} (h : (W[l]!).length ≤ c) : (stepW next W s l).length ≤ s.length * c := by
  induction s with
  | nil => simp [stepW]
  | cons x s ih =>
    have e : stepW next W (x :: s) l = ((W[l]!).map fun k => nx next x k.toNat) ++ stepW next W s l := rfl
    rw [e, List.length_append, List.length_map, List.length_cons, Nat.add_mul, Nat.one_mul]
    omega
section
variable {G : World → Prop} (hG : Lasting G)
include hG
set_option maxHeartbeats 8000000 in
set_option maxRecDepth 100000 in
theorem LeftStep_snd {a : GAuto} {N m : Nat} (h : Rows0 N m a.next) {W : List (List Int)} (hW : ∀ r ∈ W, r.length ≤ 1000 ∧ ∀ k ∈ r, 0 ≤ k ∧ k < (N : Int)) (s : List Int) (hs : Inm m s) (hsl : s.length ≤ 1000) (l : Nat) (hl : l < W.length) :
    SndG Tryd.prog G 68 ([.t (tInts s), .t (tNat l)] ++ [.t (.ptr [tIntss W]), .bptr 0 0]) [.box (autoB a)] [] (.sref 1) ([.box (autoB a)] ++ [.row 3 1 true (iL (stepW a.next W s l))]) := by
  refine sndG_of_body tt_ok Tryd.func68 rfl rfl (n := 41) rfl (rs := [.tmp 6]) rfl (by simp only [List.length_cons, List.length_nil, List.length_append]; decide) [0] (fun i l h => ?_) (fun i hi => ?_) fun bs => ?_
  · match i, h with
    | 0, h => exact ⟨by simp, _, rfl⟩
  · simp only [List.mem_singleton] at hi
    subst hi
    exact ⟨_, rfl⟩
  show SW _ _ _ _ ⟨41, [(0, .t (tInts s)), (1, .t (tNat l)), (2, .t (.ptr [tIntss W])), (3, .bptr 0 0), (41, .pin 0 (bs 0))], [.box (autoB a)]⟩
  unfold autoB
  have htb : Tab.ok Tryd.prog G [] := Tab.nil
  have hnl := h.len
  obtain ⟨r, hr⟩ : ∃ r, W[l]! = r := ⟨_, rfl⟩
  have hrW := hW r (bang_mem hr hl)
  have hstep : ∀ (p : List Int) (x : Int), stepW a.next W (p ++ [x]) l = stepW a.next W p l ++ r.map fun k => nx a.next x k.toNat := fun p x => by
    unfold stepW
    rw [List.flatMap_append, hr]; simp
  repeat' (first | (with_reducible first | apply w1 | apply w2 | apply w3 | apply w4 | apply w5 | apply w6 | apply w7 | apply w8 | apply w9 | apply wa | apply wb | apply wc) | ((with_reducible apply wd); focus decide) | ((with_reducible apply we); focus exact rfl) | ((with_reducible apply wf); focus exact rfl) | ((first | (with_reducible apply SW_run tt_ok hG htb) | ((with_reducible apply SW_draw rfl tt_ok hG htb); (focus kernel_rfl); focus simp only [List.range, List.range.loop, List.size_toArray, List.length_cons, List.length_nil, Nat.reduceAdd])); focus ((repeat' (first | (with_reducible first | exact wg | exact wh) | ((with_reducible first | apply wi | apply wj); focus (simp (discharger := omega) only [go_sem, simprocAttr]; with_reducible rfl)))); done)))
  refine SW_loop (fun mm st => ∃ (i : Nat) (os : List T), mm = s.length - i ∧ st = ⟨41, [(41, .pin 0 (bs 0)), (1, .t (tNat l)), (2, .t (.ptr [tIntss W])), (3, .bptr 0 0), (7, .sref 1), (12, .t (tInts s)), (13, .t (tNat s.length)), (14, .t (tNat i))], [.box [.t (tInt a.base), .t (tInt a.tracks), .t (tIntss a.next), .t (tBools a.ends)], .row 3 1 true os]⟩ ∧ i ≤ s.length ∧ os = iL (stepW a.next W (s.take i) l)) s.length
    ⟨_, Norm.headS (own := [(7, 3, 1, true)]) (keep := [41, 1, 2, 3, 7, 12, 13, 14]) (by refine ⟨?_, ?_⟩; (simp (discharger := omega) only [go_sem, simprocAttr]; with_reducible rfl); refine ⟨?_, ?_, ?_, ?_⟩ <;> (simp only [go_sem, simprocAttr]; with_reducible rfl)), 0, _, rfl, rfl, Nat.zero_le _, rfl⟩ ?_
  rintro mm st ⟨i, os, rfl, rfl, hi, hos⟩
  have hos1 : os.length ≤ 1000 * 1000 := by
    rw [hos, iL_length]
    refine Nat.le_trans (stepW_len (c := 1000) (by rw [hr]; exact hrW.1)) (Nat.mul_le_mul_right _ ?_)
    rw [List.length_take]; omega
  by_cases hlt : i < s.length
  · obtain ⟨x, hx⟩ : ∃ x, s[i]! = x := ⟨_, rfl⟩
    have hg := bang_get hx hlt
    have hxb := hs x (List.mem_of_getElem? hg)
    obtain ⟨row, hrow⟩ : ∃ row, a.next[x.toNat]! = row := ⟨_, rfl⟩
    have hrl := h.row row (bang_mem hrow (by omega))
    have htk : s.take (i + 1) = s.take i ++ [x] := by
      rw [List.take_succ_eq_append_getElem hlt]
      obtain ⟨q1, q2⟩ := List.getElem?_eq_some_iff.1 hg
      rw [q2]
    have hos2 : iL (stepW a.next W (s.take (i + 1)) l) = os ++ iL (r.map fun k => nx a.next x k.toNat) := by rw [htk, hstep, hos]; simp [iL]
    repeat' (first | (with_reducible first | apply w1 | apply w2 | apply w3 | apply w4 | apply w5 | apply w6 | apply w7 | apply w8 | apply w9 | apply wa | apply wb | apply wc) | ((with_reducible apply wd); focus decide) | ((with_reducible apply we); focus exact rfl) | ((with_reducible apply wf); focus exact rfl) | ((first | (with_reducible apply SW_run tt_ok hG htb) | ((with_reducible apply SW_draw rfl tt_ok hG htb); (focus kernel_rfl); focus simp only [List.range, List.range.loop, List.size_toArray, List.length_cons, List.length_nil, Nat.reduceAdd])); focus ((repeat' (first | (with_reducible first | exact wg | exact wh) | ((with_reducible first | apply wi | apply wj); focus (simp (discharger := omega) only [go_sem, hx, hr, simprocAttr]; with_reducible rfl)))); done)))
    refine SW_loop (fun mm st => ∃ (j : Nat) (os' : List T), mm = r.length - j ∧ st = ⟨41, [(41, .pin 0 (bs 0)), (1, .t (tNat l)), (2, .t (.ptr [tIntss W])), (3, .bptr 0 0), (7, .sref 1), (9, .t (tInt x)), (12, .t (tInts s)), (13, .t (tNat s.length)), (14, .t (tNat i)), (21, .t (tInts r)), (22, .t (tNat r.length)), (23, .t (tNat j))], [.box [.t (tInt a.base), .t (tInt a.tracks), .t (tIntss a.next), .t (tBools a.ends)], .row 3 1 true os']⟩ ∧ j ≤ r.length ∧ os' = os ++ iL ((r.take j).map fun k => nx a.next x k.toNat)) r.length
      ⟨_, Norm.headS (own := []) (keep := [41, 1, 2, 3, 7, 9, 12, 13, 14, 21, 22, 23]) (by refine ⟨?_, ?_⟩; (simp (discharger := omega) only [go_sem, simprocAttr]; with_reducible rfl); refine ⟨?_, ?_, ?_, ?_⟩ <;> (simp only [go_sem, simprocAttr]; with_reducible rfl)), 0, _, rfl, rfl, Nat.zero_le _, by simp [iL]⟩ ?_
    rintro mm st ⟨j, os', rfl, rfl, hj, hos'⟩
    have hos'l : os'.length = os.length + j := by rw [hos']; simp [iL]; omega
    by_cases hjt : j < r.length
    · obtain ⟨k, hk⟩ : ∃ k, r[j]! = k := ⟨_, rfl⟩
      have hgk := bang_get hk hjt
      have hkb := hrW.2 k (List.mem_of_getElem? hgk)
      obtain ⟨t, ht⟩ : ∃ t, row[k.toNat]! = t := ⟨_, rfl⟩
      have hnx : nx a.next x k.toNat = t := by unfold nx rowOf; rw [bang_D hrow (by omega), bang_D ht (by omega)]
      have htk2 : r.take (j + 1) = r.take j ++ [k] := by
        rw [List.take_succ_eq_append_getElem hjt]
        obtain ⟨q1, q2⟩ := List.getElem?_eq_some_iff.1 hgk
        rw [q2]
      have hos3 : os ++ iL ((r.take (j + 1)).map fun k => nx a.next x k.toNat) = os' ++ [.int .i64 t] := by rw [htk2, hos']; simp [iL, hnx]
      have hr1 := hrW.1
      repeat' (first | (with_reducible first | apply w1 | apply w2 | apply w3 | apply w4 | apply w5 | apply w6 | apply w7 | apply w8 | apply w9 | apply wa | apply wb | apply wc) | ((with_reducible apply wd); focus decide) | ((with_reducible apply we); focus exact rfl) | ((with_reducible apply wf); focus exact rfl) | ((first | (with_reducible apply SW_run tt_ok hG htb) | ((with_reducible apply SW_draw rfl tt_ok hG htb); (focus kernel_rfl); focus simp only [List.range, List.range.loop, List.size_toArray, List.length_cons, List.length_nil, Nat.reduceAdd])); focus ((repeat' (first | (with_reducible first | exact wg | exact wh) | ((with_reducible first | apply wi | apply wj); focus (simp (discharger := omega) only [go_sem, hk, hrow, ht, hrl, simprocAttr]; with_reducible rfl)))); done)))
      exact ⟨r.length - (j + 1), _, by omega, Norm.headS (own := []) (keep := [41, 1, 2, 3, 7, 9, 12, 13, 14, 21, 22, 23]) (by refine ⟨?_, ?_⟩; (simp (discharger := omega) only [go_sem, simprocAttr]; with_reducible rfl); refine ⟨?_, ?_, ?_, ?_⟩ <;> (simp only [go_sem, simprocAttr]; with_reducible rfl)), j + 1, _, rfl, rfl, by omega, hos3.symm⟩
    · obtain rfl : j = r.length := by omega
      rw [List.take_length, ← hos2] at hos'
      repeat' (first | (with_reducible first | apply w1 | apply w2 | apply w3 | apply w4 | apply w5 | apply w6 | apply w7 | apply w8 | apply w9 | apply wa | apply wb | apply wc) | ((with_reducible apply wd); focus decide) | ((with_reducible apply we); focus exact rfl) | ((with_reducible apply wf); focus exact rfl) | ((first | (with_reducible apply SW_run tt_ok hG htb) | ((with_reducible apply SW_draw rfl tt_ok hG htb); (focus kernel_rfl); focus simp only [List.range, List.range.loop, List.size_toArray, List.length_cons, List.length_nil, Nat.reduceAdd])); focus ((repeat' (first | (with_reducible first | exact wg | exact wh) | ((with_reducible first | apply wi | apply wj); focus (simp (discharger := omega) only [go_sem, simprocAttr]; with_reducible rfl)))); done)))
      exact ⟨s.length - (i + 1), _, by omega, Norm.headS (own := []) (keep := [41, 1, 2, 3, 7, 12, 13, 14]) (by refine ⟨?_, ?_⟩; (simp (discharger := omega) only [go_sem, simprocAttr]; with_reducible rfl); refine ⟨?_, ?_, ?_, ?_⟩ <;> (simp only [go_sem, simprocAttr]; with_reducible rfl)), i + 1, _, rfl, rfl, by omega, hos'⟩
  · obtain rfl : i = s.length := by omega
    rw [List.take_length] at hos
    rw [← hos]
    repeat' (first | (with_reducible first | apply w1 | apply w2 | apply w3 | apply w4 | apply w5 | apply w6 | apply w7 | apply w8 | apply w9 | apply wa | apply wb | apply wc) | ((with_reducible apply wd); focus decide) | ((with_reducible apply we); focus exact rfl) | ((with_reducible apply wf); focus exact rfl) | ((first | (with_reducible apply SW_run tt_ok hG htb) | ((with_reducible apply SW_draw rfl tt_ok hG htb); (focus kernel_rfl); focus simp only [List.range, List.range.loop, List.size_toArray, List.length_cons, List.length_nil, Nat.reduceAdd])); focus ((repeat' (first | (with_reducible first | exact wg | exact wh) | ((with_reducible first | apply wi | apply wj); focus (simp (discharger := omega) only [go_sem, simprocAttr]; with_reducible rfl)))); done)))
    refine SPostG_norm (Norm.headS (own := []) (keep := [41, 6]) (by refine ⟨?_, ?_⟩; (simp (discharger := omega) only [go_sem, simprocAttr]; with_reducible rfl); refine ⟨?_, ?_, ?_, ?_⟩ <;> (simp only [go_sem, simprocAttr]; with_reducible rfl))) ?_
    exact SPostG_r (Norm.refl _) rfl rfl (fun i hi => by simp only [List.mem_singleton] at hi; subst hi; rfl)
end
end Go.Proofs.YthcclcbliedodaaDoor
namespace Go.Proofs.YthcclcbliedodaaDoor
open Go.RowKit

section
variable {P : Program} {G : World → Prop} {κ : Type} {tt : Nat → Option TI} {tb : Tab} {K : St → (κ → Option HR) → Prop} {Q : Exit → St → (κ → Option HR) → Prop} {st : St} {g : κ → Option HR} {i id : Nat}
theorem HThen_n (h : K st g) : HThen K Q .normal st g := h
theorem HThen_r (h : Q .ret st g) : HThen K Q .ret st g := h
theorem HThen_e (h : Q (.exit i) st g) : HThen K Q (.exit i) st g := h
theorem HIn_n (h : Q .normal st g) : HIn id Q .normal st g := h
theorem HIn_r (h : Q .ret st g) : HIn id Q .ret st g := h
theorem HIn_eq (h : Q .normal st g) : HIn id Q (.exit id) st g := by simp [HIn, h]
theorem HIn_ne (hne : i ≠ id) (h : Q (.exit i) st g) : HIn id Q (.exit i) st g := by simp [HIn, hne, h]
theorem HW_run (hT : TTok P tt) (hGl : Lasting G) (htb : Tab.ok P G tb) {id : Nat} {l : List Oper} {st st' : St} {g : κ → Option HR} (h : runX tt tb l.toArray l st = some st') (hq : Q .normal st' g) : HW P G (.region id l.toArray false) Q st g :=
  HW_sw (SW_run hT hGl htb h hq)
theorem HW_draw (hm : P.follows .mixedOrders = true) (hT : TTok P tt) (hGl : Lasting G) (htb : Tab.ok P G tb) {id : Nat} {ops : Array Oper} (htopo : topoB ops = true) {s t : St} {g : κ → Option HR} (h : runI tt tb ops (List.range ops.size) s = some t) (hq : Q .normal t g) : HW P G (.region id ops true) Q s g :=
  HW_sw (SW_draw hm hT hGl htb htopo h hq)
end
theorem v1 : type_of% @HW_seq := @HW_seq
theorem v2 : type_of% @HW_block := @HW_block
theorem v3 : type_of% @HThen_n := @HThen_n
theorem v4 : type_of% @HThen_r := @HThen_r
theorem v5 : type_of% @HThen_e := @HThen_e
theorem v6 : type_of% @HIn_n := @HIn_n
theorem v7 : type_of% @HIn_r := @HIn_r
theorem v8 : type_of% @HIn_eq := @HIn_eq
theorem v9 : type_of% @HW_skip := @HW_skip
theorem va : type_of% @HW_exit := @HW_exit
theorem vb : type_of% @HW_ret := @HW_ret
theorem vc : type_of% @SPost_r := @SPost_r
theorem vd : type_of% @HIn_ne := @HIn_ne
theorem ve : type_of% @HW_true := @HW_true
theorem vf : type_of% @HW_false := @HW_false
/-- The types, a nil []int being told as its header. -/
def ttR (t : Nat) : Option TI := if t = 35 then some ⟨.slice 3, 1, 24, [.t (.raw none 0 0)], false⟩ else tt t
attribute [go_sem] ttR
theorem ttR_ok : TTok Tryd.prog ttR := fun t i h => by
  unfold ttR at h
  split at h
  · rename_i e
    subst e
    cases h
    have k := tt_ok 35 ⟨.slice 3, 1, 24, [.nil], false⟩ rfl
    obtain ⟨inf, i1, i2, i3, z, i4, i5, i6, i7, i8⟩ := k.info
    refine ⟨⟨inf, i1, i2, i3, z, i4, i5, rfl, fun q x v h1 h2 => ?_, i8⟩, k.pos, k.says, fun h => by cases h⟩
    match q, h1 with
    | 0, h1 =>
      cases h1
      have := i7 0 .nil v rfl h2
      unfold zm at this
      split at this <;> first | rfl | (cases this; done) | (simp_all; done) | skip
  · exact tt_ok t i h
end Go.Proofs.YthcclcbliedodaaDoor
namespace Go.Proofs.YthcclcbliedodaaDoor
open Go.RowKit

/-- At each letter of what is left the letters with a digit more. -/
def withR (base : Int) (t k l : Nat) : List Int := (List.range (radix base).toNat).map fun x : Nat => fixL base t k x l
def withW (base : Int) (t k : Nat) : List (List Int) := (List.range (manyOf base (t : Int)).toNat).map (withR base t k)
def leftW (a : GAuto) (track : Int) : List (List Int) := withW a.base (a.tracks - 1).toNat track.toNat
def leftN (a : GAuto) : Nat := (manyOf a.base (((a.tracks - 1).toNat : Nat) : Int)).toNat
noncomputable def leftF (a : GAuto) (track : Int) : List Int := closeL (leastA a) ((leftW a track)[0]!)
def leftBad (a : GAuto) (track : Int) : Prop := autoFault a ≠ 0 ∨ track < 0 ∨ a.tracks ≤ track
noncomputable def leftOk (a : GAuto) (track : Int) : Bool := growOk (stepW (leastA a).next (leftW a track)) (leftN a) (leftF a track)
open Classical in
noncomputable def leftErr (a : GAuto) (track : Int) : Int := if autoFault a ≠ 0 then autoFault a else if track < 0 ∨ a.tracks ≤ track then 1 else if leftOk a track = false then 3 else 0
open Classical in
noncomputable def leftS (a : GAuto) (track : Int) : List (List Int) := if leftBad a track then [] else growSets (stepW (leastA a).next (leftW a track)) (leftN a) (leftF a track)
open Classical in
noncomputable def leftR (a : GAuto) (track : Int) : List (List Int) := if leftBad a track then [] else growRows (stepW (leastA a).next (leftW a track)) (leftN a) (leftF a track)
/-- What is known where nothing is wrong. -/
structure LeftOk (a : GAuto) (k t N nW r : Nat) : Prop where
  good : Good a N a.next.length
  tr : a.tracks = ((t + 1 : Nat) : Int)
  kt : k ≤ t
  t4 : t ≤ 4
  rad : radix a.base = (r : Int)
  r2 : 2 ≤ r
  r6 : r ≤ 6
  many : manyErr a.base (t : Int) = 0
  nWe : manyOf a.base (t : Int) = (nW : Int)
  nW0 : 0 < nW
  nW36 : nW ≤ 36
  N_eq : (N : Int) = powW (radix a.base) (t + 1)
theorem left_ok {a : GAuto} {k : Nat} (hf : autoFault a = 0) (hk : (k : Int) < a.tracks) : ∃ t nW r, LeftOk a k t (manyOf a.base a.tracks).toNat nW r := by
  have g := good_of hf
  obtain ⟨r0, t0, t5, p36, hm⟩ := many_ok g.many
  obtain ⟨h2, h6⟩ := radix_two r0
  obtain ⟨r, hr⟩ := Int.eq_ofNat_of_zero_le (show 0 ≤ radix a.base by omega)
  obtain ⟨t, ht⟩ : ∃ t : Nat, a.tracks = ((t + 1 : Nat) : Int) := ⟨(a.tracks - 1).toNat, by omega⟩
  have h1 := manyErr_less (base := a.base) (t := t) (by rw [← ht]; exact g.many)
  obtain ⟨_, _, _, q36, qm⟩ := many_ok h1
  have hp := powW_pos h2 (t : Int).toNat
  obtain ⟨nW, hn⟩ := Int.eq_ofNat_of_zero_le (show 0 ≤ manyOf a.base (t : Int) by omega)
  have hne := g.n_eq
  have e0 : a.tracks.toNat = t + 1 := by omega
  refine ⟨t, nW, r, g, ht, by omega, by omega, hr, by omega, by omega, h1, hn, by omega, by omega, ?_⟩
  rw [← hne, hm, e0]
theorem withR_len {base : Int} {t k l r : Nat} (hr : radix base = (r : Int)) : (withR base t k l).length = r := by
  unfold withR; rw [List.length_map, List.length_range, hr]; rfl
theorem withR_bd {a : GAuto} {k t N nW r : Nat} (h : LeftOk a k t N nW r) (l : Nat) : ∀ x ∈ withR a.base t k l, 0 ≤ x ∧ x < (N : Int) := fun x hx => by
  unfold withR at hx
  obtain ⟨y, hy, rfl⟩ := List.mem_map.1 hx
  have hyr : y < (radix a.base).toNat := List.mem_range.1 hy
  have hr := h.rad
  have hr2 := h.r2
  have := fixL_bd (base := a.base) (by omega) (t := t) (k := k) (x := (y : Int)) (by omega) h.kt l
  have := h.N_eq
  omega
theorem withW_len {a : GAuto} {k t N nW r : Nat} (h : LeftOk a k t N nW r) : (withW a.base t k).length = nW := by
  unfold withW; rw [List.length_map, List.length_range, h.nWe]; rfl
theorem withW_get {a : GAuto} {k t N nW r : Nat} (h : LeftOk a k t N nW r) {l : Nat} (hl : l < nW) : (withW a.base t k)[l]? = some (withR a.base t k l) := by
  unfold withW
  rw [List.getElem?_map, List.getElem?_range (by rw [h.nWe]; exact hl)]; rfl
theorem withR_take {base : Int} {t k l r : Nat} (hr : radix base = (r : Int)) {x : Nat} (hx : x < r) : (withR base t k l).take (x + 1) = (withR base t k l).take x ++ [fixL base t k x l] := by
  unfold withR
  rw [← List.map_take, ← List.map_take, List.take_range, List.take_range, Nat.min_eq_left (by rw [hr]; exact hx), Nat.min_eq_left (by rw [hr]; exact Nat.le_of_lt hx), List.range_succ, List.map_append]
  rfl

/-- Rows of hidden rows, and what they hold. -/
def HdrInv (g : Nat → Option HR) (ws : List T) (n : Nat) (cont : Nat → List Int) : Prop := ws.length = n ∧ ∀ j, j < n → HdrOk g j 3 1 (iL (cont j)) (ws[j]!)
theorem HdrInv.init (n : Nat) : HdrInv (fun _ => none) (List.replicate n (.raw none 0 0)) n (fun _ => []) :=
  ⟨List.length_replicate, fun j hj => .inl ⟨rfl, rfl, by rw [getElem!_pos _ _ (by rw [List.length_replicate]; exact hj), List.getElem_replicate]⟩⟩
theorem HdrInv.congr {g : Nat → Option HR} {ws : List T} {n : Nat} {cont cont' : Nat → List Int} (h : HdrInv g ws n cont) (he : ∀ j, j < n → cont' j = cont j) : HdrInv g ws n cont' :=
  ⟨h.1, fun j hj => by rw [he j hj]; exact h.2 j hj⟩
theorem HdrInv.step {g : Nat → Option HR} {ws : List T} {n : Nat} {cont cont' : Nat → List Int} (h : HdrInv g ws n cont) {l : Nat} (hl : l < n) (v : Int) (c : Option Addr × Nat × Nat) (h1 : cont' l = cont l ++ [v]) (h2 : ∀ j, j ≠ l → j < n → cont' j = cont j) :
    HdrInv (upd g l (some ⟨c.1, c.2.1, c.2.2, 3, 1, iL (cont l) ++ [.int .i64 v]⟩)) (ws.set l (.raw c.1 c.2.1 c.2.2)) n cont' := by
  refine ⟨by rw [List.length_set]; exact h.1, fun j hj => ?_⟩
  have hlen := h.1
  have hg : (ws.set l (T.raw c.1 c.2.1 c.2.2))[j]! = if l = j then T.raw c.1 c.2.1 c.2.2 else ws[j]! := by
    rw [getElem!_pos _ _ (by rw [List.length_set]; omega), List.getElem_set]
    split
    · rfl
    · rw [getElem!_pos _ _ (by omega)]
  rw [hg]
  by_cases e : l = j
  · subst e
    rw [if_pos rfl, h1]
    refine .inr ⟨⟨c.1, c.2.1, c.2.2, 3, 1, iL (cont l) ++ [.int .i64 v]⟩, by simp [upd], rfl, rfl, by simp [iL], rfl⟩
  · rw [if_neg e, h2 j (fun q => e q.symm) hj]
    have e2 : upd g l (some ⟨c.1, c.2.1, c.2.2, 3, 1, iL (cont l) ++ [.int .i64 v]⟩) j = g j := by
      show (if j = l then _ else g j) = g j
      rw [if_neg fun q => e q.symm]
    rcases h.2 j hj with ⟨q1, q2, q3⟩ | ⟨r, q1, q2, q3, q4, q5⟩
    · exact .inl ⟨by rw [e2]; exact q1, q2, q3⟩
    · exact .inr ⟨r, by rw [e2]; exact q1, q2, q3, q4, q5⟩
theorem HdrInv.opens {g : Nat → Option HR} {ws : List T} {n : Nat} {W : List (List Int)} (h : HdrInv g ws n (fun j => W[j]!)) (hW : W.length = n) (hne : ∀ r ∈ W, r ≠ []) : (W.map tInts).length = ws.length ∧ ∀ (i : Nat) (y y' : T), ws[i]? = some y → (W.map tInts)[i]? = some y' → OpenH g y y' := by
  refine ⟨by rw [List.length_map, h.1, hW], fun i y y' h1 h2 => ?_⟩
  obtain ⟨hi, e1⟩ := List.getElem?_eq_some_iff.1 h1
  have hin : i < n := by rw [← h.1]; exact hi
  have ey : ws[i]! = y := by rw [getElem!_pos ws i hi, e1]
  rw [List.getElem?_map, Option.map_eq_some_iff] at h2
  obtain ⟨r, hr, rfl⟩ := h2
  have er : W[i]! = r := by
    obtain ⟨q1, q2⟩ := List.getElem?_eq_some_iff.1 hr
    rw [getElem!_pos W i q1, q2]
  have hk := h.2 i hin
  simp only [er, ey] at hk
  rcases hk with ⟨_, q2, _⟩ | ⟨q, q1, _, _, q4, rfl⟩
  · exfalso
    exact hne r (List.mem_of_getElem? hr) (List.eq_nil_of_length_eq_zero (by have := congrArg List.length q2; rw [iL_length] at this; exact this))
  · exact .raw i q (iL r) q1 (by rw [q4]) fun k y z e1 e2 => by
      rw [q4, e2] at e1
      cases e1
      exact .refl _
end Go.Proofs.YthcclcbliedodaaDoor
namespace Go.Proofs.YthcclcbliedodaaDoor
open Go.RowKit

section
variable {G : World → Prop} (hG : Lasting G)
include hG
set_option maxHeartbeats 16000000 in
set_option maxRecDepth 100000 in
theorem GrowN_snd {m : Nat} (hm80 : m ≤ 80) (first : List Int) (n : Nat) (sf : Nat) (c0 b0 b1 b2 b3 : T) (stp : List Int → Nat → List Int) (hf : Inm m first) (hfl : first.length ≤ 1000000) (hn : n ≤ 36) (hsm : ∀ s l, Inm m s → l < n → Inm m (stp s l)) (hlen : ∀ s l, Inm m s → s.Pairwise (· < ·) → l < n → (stp s l).length ≤ 1000000)
    (hstp : ∀ s l, Inm m s → s.Pairwise (· < ·) → l < n → SndG Tryd.prog G sf ([.t (tInts s), .t (tNat l)] ++ [.t c0, .bptr 0 0]) [.box [.t b0, .t b1, .t b2, .t b3]] [] (.sref 1) ([.box [.t b0, .t b1, .t b2, .t b3]] ++ [.row 3 1 true (iL (stp s l))])) :
    SndG Tryd.prog G 46 [.sref 0, .t (tNat n), .fn sf [.t c0, .bptr 1 0]] [.row 3 1 true (iL first), .box [.t b0, .t b1, .t b2, .t b3]] [] (.t (.tup [tIntss (growSets stp n first), tIntss (growRows stp n first), .bool (growOk stp n first)])) [.hole, .box [.t b0, .t b1, .t b2, .t b3], .box [.t (tIntss (growSets stp n first))]] := by
  refine sndG_of_body tt_ok Tryd.func46 rfl rfl (n := 54) rfl (rs := [.cell 6 22, .tmp 7, .tmp 8]) rfl (by simp only [List.length_cons, List.length_nil]; decide) [1] (fun i l h => ?_) (fun i hi => ?_) fun bs => ?_
  · match i, h with
    | 0, h => cases h
    | 1, h => exact ⟨by simp, _, rfl⟩
  · simp only [List.mem_singleton] at hi
    subst hi
    exact ⟨_, rfl⟩
  show SW _ _ _ _ ⟨54, [(0, .sref 0), (1, .t (tNat n)), (2, .fn sf [.t c0, .bptr 1 0]), (55, .pin 1 (bs 1))], [.row 3 1 true (iL first), .box [.t b0, .t b1, .t b2, .t b3]]⟩
  have htb : Tab.ok Tryd.prog G [] := Tab.nil
  obtain ⟨δ, hδ⟩ : ∃ δ, nextD stp = δ := ⟨_, rfl⟩
  obtain ⟨s0, hs0⟩ : ∃ s0, canonL first = s0 := ⟨_, rfl⟩
  have c1 := find_snd hG [] first (hf.small hm80) hfl (fun q hq => by simp at hq) List.nodup_nil (by simp)
  have e1 : addS ([] : List (List Int)) (canonL first) = [canonL first] := by simp [addS]
  rw [e1, hs0] at c1
  repeat' (first | (with_reducible first | refine SW_seq ?_ | refine SW_block ?_ | refine SThen_n ?_ | refine SThen_r ?_ | refine SThen_e ?_ | refine SIn_n ?_ | refine SIn_r ?_ | refine SIn_eq ?_ | refine SW_skip ?_ | refine SW_exit ?_ | refine SW_ret ?_ | refine SPost_r ?_) | ((with_reducible refine SIn_ne ?_ ?_); focus decide) | ((with_reducible refine SW_true ?_ ?_); focus exact rfl) | ((with_reducible refine SW_false ?_ ?_); focus exact rfl) | ((with_reducible apply SW_run tt_ok hG htb); focus ((repeat' (first | (with_reducible exact runX_nil) | ((with_reducible apply runX_cons); focus (simp (discharger := omega) only [go_sem, simprocAttr]; with_reducible rfl)))); done)))
  refine SW_norm ((Norm.headS (own := []) (keep := [55, 9, 6, 0, 1, 2, 7, 8, 10]) (by refine ⟨?_, ?_⟩; (simp (discharger := omega) only [go_sem, simprocAttr]; with_reducible rfl); refine ⟨?_, ?_, ?_, ?_⟩ <;> (simp only [go_sem, simprocAttr]; with_reducible rfl))).trans (Norm.ownB (j := 2) (off := 0) (e := 35) (sz := 1) rfl rfl (by decide))) ?_
  refine SW_norm (Norm.headP [1, 2, 4, 5, 3] rfl (own := []) (keep := [55, 9, 6, 0, 1, 2, 7, 8, 10]) (by refine ⟨?_, ?_⟩; (simp (discharger := omega) only [go_sem, simprocAttr]; with_reducible rfl); refine ⟨?_, ?_, ?_, ?_⟩ <;> (simp only [go_sem, simprocAttr]; with_reducible rfl))) ?_
  refine SW_region ?_
  refine SL_k tt_ok hG htb 2 (by simp only [List.take_succ_cons, List.take_zero]; rfl) (by simp only [List.drop_succ_cons, List.drop_zero, Nat.reduceAdd]; rfl) (by (repeat' (first | (with_reducible exact runX_nil) | ((with_reducible apply runX_cons); focus (simp (discharger := omega) only [go_sem, simprocAttr]; with_reducible rfl))))) ?_
  refine SL_callH (g := 62) (cap := [.bptr 0 0, .bptr 1 0]) (obs := [.box [.map 2], .box [.sref 3], .map .str (strEntries []), .row 35 1 true ([].map tInts), .row 3 1 true (iL first)]) (ks := []) (obs' := [.box [.map 2], .box [.sref 3], .map .str (strEntries [s0]), .row 35 1 true ([s0].map tInts), .hole]) (rst := ?zra) (r := .t (tNat (idxS [s0] s0))) (s3 := ?zua) rfl rfl ?q1a ?q2a ?q3a ?q4a ?q5a ?q6a ?q7a ?q8a ?q9a
  case q5a => exact c1
  case q1a => rfl
  case q2a => rfl
  case q3a => rfl
  case q4a => rfl
  case q6a => rfl
  case q7a => rfl
  case q8a =>
    simp only [go_sem, St.back, List.map_cons, List.map_nil, SV.ren, Ob.ren, renL, pastG, lateG, List.length_cons, List.length_nil, List.take_succ_cons, List.take_zero, List.drop_succ_cons, List.drop_zero, List.getElem?_cons_zero, List.getElem?_cons_succ, List.getElem?_nil, simprocAttr]
    rfl
  refine SL_done tt_ok hG htb (by (repeat' (first | (with_reducible exact runX_nil) | ((with_reducible apply runX_cons); focus (simp (discharger := omega) only [go_sem, simprocAttr]; with_reducible rfl))))) ?_
  repeat' (first | (with_reducible first | refine SW_seq ?_ | refine SW_block ?_ | refine SThen_n ?_ | refine SThen_r ?_ | refine SThen_e ?_ | refine SIn_n ?_ | refine SIn_r ?_ | refine SIn_eq ?_ | refine SW_skip ?_ | refine SW_exit ?_ | refine SW_ret ?_ | refine SPost_r ?_) | ((with_reducible refine SIn_ne ?_ ?_); focus decide) | ((with_reducible refine SW_true ?_ ?_); focus exact rfl) | ((with_reducible refine SW_false ?_ ?_); focus exact rfl) | ((with_reducible apply SW_run tt_ok hG htb); focus ((repeat' (first | (with_reducible exact runX_nil) | ((with_reducible apply runX_cons); focus (simp (discharger := omega) only [go_sem, simprocAttr]; with_reducible rfl)))); done)))
  have hp0 : Inm m s0 ∧ s0.Pairwise (· < ·) := ⟨hs0 ▸ hf.canon, hs0 ▸ (canonL_spec first).1⟩
  have hpd : ∀ s l, l < n → Inm m s ∧ s.Pairwise (· < ·) → Inm m (δ s l) ∧ (δ s l).Pairwise (· < ·) := fun s l hl h => by
    rw [← hδ]
    exact ⟨(hsm s l h.1 hl).canon, (canonL_spec _).1⟩
  have hgood : ∀ k, ∀ q ∈ growS δ n s0 k, Inm m q ∧ q.Pairwise (· < ·) := growS_in' hp0 hpd
  unfold growSets growRows growOk
  rw [hδ, hs0]
  refine SW_loop (fun mm st => ∃ (i : Nat) (nx ms : List T) (es : List (T × T)), mm = 2001 - i ∧ st = ⟨54, [(55, .pin 0 (bs 1)), (9, .bptr 1 0), (6, .bptr 2 0), (1, .t (tNat n)), (2, .fn sf [.t c0, .bptr 0 0]), (7, .sref 3), (8, .t (.bool false)), (10, .fn 62 [.bptr 1 0, .bptr 2 0]), (11, .t (tNat i))], [.box [.t b0, .t b1, .t b2, .t b3], .box [.map 4], .box [.sref 5], .row 35 1 true nx, .map .str es, .row 35 1 true ms]⟩ ∧ i ≤ 2000 ∧ i ≤ (growS δ n s0 i).length ∧ es = strEntries (growS δ n s0 i) ∧ ms = (growS δ n s0 i).map tInts ∧ nx = (rowsIn δ n (growS δ n s0 i) i).map tInts) 2001
    ⟨_, Norm.headS (own := [(7, 35, 1, true)]) (keep := [55, 9, 6, 1, 2, 7, 8, 10, 11]) (by refine ⟨?_, ?_⟩; (simp (discharger := omega) only [go_sem, simprocAttr]; with_reducible rfl); refine ⟨?_, ?_, ?_, ?_⟩ <;> (simp only [go_sem, simprocAttr]; with_reducible rfl)), 0, _, _, _, rfl, rfl, Nat.zero_le _, Nat.zero_le _, rfl, rfl, rfl⟩ ?_
  rintro mm st ⟨i, nx, ms, es, rfl, rfl, hi, hil, hes, hms, hnx⟩
  have hml : ms.length = (growS δ n s0 i).length := by rw [hms, List.length_map]
  by_cases hlt : i < (growS δ n s0 i).length
  rotate_left
  · have hie : (growS δ n s0 i).length = i := by omega
    have hok := grow_few (δ := δ) (n := n) (s0 := s0) hi hie
    rw [if_pos hok, if_pos hok, hok, grow_end (i := i) (by omega) (by omega), grow_rows (by omega) hie]
    have hlt2 : ¬ ((i : Nat) : Int) < ((ms.length : Nat) : Int) := by omega
    have hle2 : ((ms.length : Nat) : Int) ≤ 2000 := by omega
    have hle3 := eq_true hle2
    repeat' (first | (with_reducible first | apply w1 | apply w2 | apply w3 | apply w4 | apply w5 | apply w6 | apply w7 | apply w8 | apply w9 | apply wa | apply wb | apply wc) | ((with_reducible apply wd); focus decide) | ((with_reducible apply we); focus exact rfl) | ((with_reducible apply wf); focus exact rfl) | ((first | (with_reducible apply SW_run tt_ok hG htb) | ((with_reducible apply SW_draw rfl tt_ok hG htb); (focus kernel_rfl); focus simp only [List.range, List.range.loop, List.size_toArray, List.length_cons, List.length_nil, Nat.reduceAdd])); focus ((repeat' (first | (with_reducible first | exact wg | exact wh) | ((with_reducible first | apply wi | apply wj); focus (simp (discharger := omega) only [go_sem, hlt2, hle3, simprocAttr]; with_reducible rfl)))); done)))
    subst hms hnx
    refine SPostG_norm (Norm.headS (own := []) (keep := [55, 6, 7, 8]) (by refine ⟨?_, ?_⟩; (simp (discharger := omega) only [go_sem, simprocAttr]; with_reducible rfl); refine ⟨?_, ?_, ?_, ?_⟩ <;> (simp only [go_sem, simprocAttr]; with_reducible rfl))) ?_
    refine SPostG_normE (Norm.frzRow 3 rfl) (by simp only [go_sem, simprocAttr]; rfl) ?_
    refine SPostG_normE (Norm.frzRow 2 rfl) (by simp only [go_sem, simprocAttr]; rfl) ?_
    refine SPostG_normE (Norm.trB 1 0 rfl rfl rfl) (by simp only [go_sem, simprocAttr]; rfl) ?_
    refine SPostG_normE (Norm.datum 7 2 rfl rfl) (by simp only [go_sem, simprocAttr]; rfl) ?_
    refine SPostG_norm (Norm.headS (own := []) (keep := [55, 6, 7, 8]) (by refine ⟨?_, ?_⟩; (simp (discharger := omega) only [go_sem, simprocAttr]; with_reducible rfl); refine ⟨?_, ?_, ?_, ?_⟩ <;> (simp only [go_sem, simprocAttr]; with_reducible rfl))) ?_
    refine SPostG_normE (Norm.hole _) (by simp only [go_sem, simprocAttr]; rfl) ?_
    refine SPostG_norm (Norm.headP [2, 0, 1] rfl (own := []) (keep := [55, 6, 7, 8]) (by refine ⟨?_, ?_⟩; (simp (discharger := omega) only [go_sem, simprocAttr]; with_reducible rfl); refine ⟨?_, ?_, ?_, ?_⟩ <;> (simp only [go_sem, simprocAttr]; with_reducible rfl))) ?_
    exact SPostG_r (Norm.refl _) rfl rfl (fun i hi => by simp only [List.mem_singleton] at hi; subst hi; rfl)
  by_cases hbig : 2000 < (growS δ n s0 i).length
  · have hok := grow_many (δ := δ) (n := n) (s0 := s0) (i := i) (by omega) hbig
    rw [hok, if_neg (by decide), if_neg (by decide)]
    have hlt2 : ((i : Nat) : Int) < ((ms.length : Nat) : Int) := by omega
    have hgt2 : ((ms.length : Nat) : Int) > 2000 := by omega
    repeat' (first | (with_reducible first | apply w1 | apply w2 | apply w3 | apply w4 | apply w5 | apply w6 | apply w7 | apply w8 | apply w9 | apply wa | apply wb | apply wc) | ((with_reducible apply wd); focus decide) | ((with_reducible apply we); focus exact rfl) | ((with_reducible apply wf); focus exact rfl) | ((first | (with_reducible apply SW_run tt_ok hG htb) | ((with_reducible apply SW_draw rfl tt_ok hG htb); (focus kernel_rfl); focus simp only [List.range, List.range.loop, List.size_toArray, List.length_cons, List.length_nil, Nat.reduceAdd])); focus ((repeat' (first | (with_reducible first | exact wg | exact wh) | ((with_reducible first | apply wi | apply wj); focus (simp (discharger := omega) only [go_sem, hlt2, hgt2, simprocAttr]; with_reducible rfl)))); done)))
    refine SPostG_norm (Norm.headS (own := []) (keep := [55, 6, 7, 8]) (by refine ⟨?_, ?_⟩; (simp (discharger := omega) only [go_sem, simprocAttr]; with_reducible rfl); refine ⟨?_, ?_, ?_, ?_⟩ <;> (simp only [go_sem, simprocAttr]; with_reducible rfl))) ?_
    refine SPostG_normE (Norm.trB 1 0 rfl rfl rfl) (by simp only [go_sem, simprocAttr]; rfl) ?_
    refine SPostG_normE (Norm.tr 7 rfl rfl) (by simp only [go_sem, simprocAttr]; rfl) ?_
    refine SPostG_norm (Norm.headS (own := []) (keep := [55, 6, 7, 8]) (by refine ⟨?_, ?_⟩; (simp (discharger := omega) only [go_sem, simprocAttr]; with_reducible rfl); refine ⟨?_, ?_, ?_, ?_⟩ <;> (simp only [go_sem, simprocAttr]; with_reducible rfl))) ?_
    refine SPostG_normE (Norm.hole _) (by simp only [go_sem, simprocAttr]; rfl) ?_
    refine SPostG_norm (Norm.headP [2, 0, 1] rfl (own := []) (keep := [55, 6, 7, 8]) (by refine ⟨?_, ?_⟩; (simp (discharger := omega) only [go_sem, simprocAttr]; with_reducible rfl); refine ⟨?_, ?_, ?_, ?_⟩ <;> (simp only [go_sem, simprocAttr]; with_reducible rfl))) ?_
    exact SPostG_r (Norm.refl _) rfl rfl (fun i hi => by simp only [List.mem_singleton] at hi; subst hi; rfl)
  obtain ⟨s, hs⟩ : ∃ s, (growS δ n s0 i)[i]? = some s := ⟨_, List.getElem?_eq_getElem hlt⟩
  have hsg := hgood i s (List.mem_of_getElem? hs)
  have hgi := hgood i
  have hndi := growS_nodup (δ := δ) (n := n) (s0 := s0) i
  have hnext := growS_some hs
  have hrows := rows_step hs
  rw [hnext] at hrows
  generalize hP : growS δ n s0 i = P at *
  have hlt2 : ((i : Nat) : Int) < ((ms.length : Nat) : Int) := by omega
  have hgt2 : ¬ ((ms.length : Nat) : Int) > 2000 := by omega
  repeat' (first | (with_reducible first | apply w1 | apply w2 | apply w3 | apply w4 | apply w5 | apply w6 | apply w7 | apply w8 | apply w9 | apply wa | apply wb | apply wc) | ((with_reducible apply wd); focus decide) | ((with_reducible apply we); focus exact rfl) | ((with_reducible apply wf); focus exact rfl) | ((first | (with_reducible apply SW_run tt_ok hG htb) | ((with_reducible apply SW_draw rfl tt_ok hG htb); (focus kernel_rfl); focus simp only [List.range, List.range.loop, List.size_toArray, List.length_cons, List.length_nil, Nat.reduceAdd])); focus ((repeat' (first | (with_reducible first | exact wg | exact wh) | ((with_reducible first | apply wi | apply wj); focus (simp (discharger := omega) only [go_sem, hlt2, hgt2, simprocAttr]; with_reducible rfl)))); done)))
  refine SW_loop (fun mm st => ∃ (l : Nat) (rw' ms' : List T) (es' : List (T × T)), mm = n - l ∧ st = ⟨54, [(55, .pin 0 (bs 1)), (9, .bptr 1 0), (6, .bptr 2 0), (1, .t (tNat n)), (2, .fn sf [.t c0, .bptr 0 0]), (7, .sref 3), (8, .t (.bool false)), (10, .fn 62 [.bptr 1 0, .bptr 2 0]), (11, .t (tNat i)), (12, .sref 4), (28, .t (tNat n)), (29, .t (tNat l))], [.box [.t b0, .t b1, .t b2, .t b3], .box [.map 5], .box [.sref 6], .row 35 1 true nx, .row 3 1 true rw', .map .str es', .row 35 1 true ms']⟩ ∧ l ≤ n ∧ es' = strEntries (partS δ P s l) ∧ ms' = (partS δ P s l).map tInts ∧ rw' = (rowIn δ (partS δ P s l) s l).map tInt) n
    ⟨_, Norm.headS (own := [(12, 3, 1, true)]) (keep := [55, 9, 6, 1, 2, 7, 8, 10, 11, 12, 28, 29]) (by refine ⟨?_, ?_⟩; (simp (discharger := omega) only [go_sem, simprocAttr]; with_reducible rfl); refine ⟨?_, ?_, ?_, ?_⟩ <;> (simp only [go_sem, simprocAttr]; with_reducible rfl)), 0, _, _, _, rfl, rfl, Nat.zero_le _, hes, hms, rfl⟩ ?_
  rintro mm st ⟨l, rw', ms', es', rfl, rfl, hl, hes', hms', hrw'⟩
  by_cases hll : l < n
  · have e2 : canonL (stp s l) = δ s l := by rw [← hδ]; rfl
    have hpl := partS_len δ P s l
    have c2 := find_snd hG (partS δ P s l) (stp s l) ((hsm s l hsg.1 hll).small hm80) (hlen s l hsg.1 hsg.2 hll) (fun q hq => (partS_in' (p := fun q => Inm m q ∧ q.Pairwise (· < ·)) hgi l (fun j hj => hpd s j (by omega) hsg) q hq).1.small hm80) (partS_nodup hndi s l) (by omega)
    rw [e2, show addS (partS δ P s l) (δ s l) = partS δ P s (l + 1) from rfl, ← hes', ← hms'] at c2
    have c3 := hstp s l hsg.1 hsg.2 hll
    have hil2 : i < (partS δ P s l).length := by
      have := (partS_pre δ P s l).length_le
      omega
    have hsi : ms'[i]! = tInts s := by
      have h1 : (partS δ P s l)[i]? = some s := pre_get (partS_pre δ P s l) hs
      rw [hms', getElem!_pos _ _ (by rw [List.length_map]; exact hil2)]
      obtain ⟨q1, q2⟩ := List.getElem?_eq_some_iff.1 h1
      simp [q2]
    have hms2 : ms'.length = (partS δ P s l).length := by rw [hms', List.length_map]
    have hrl : rw'.length = l := by rw [hrw', List.length_map]; simp [rowIn]
    obtain ⟨es2, hes2⟩ : ∃ es2, strEntries (partS δ P s (l + 1)) = es2 := ⟨_, rfl⟩
    obtain ⟨ms2, hms3⟩ : ∃ ms2, (partS δ P s (l + 1)).map tInts = ms2 := ⟨_, rfl⟩
    obtain ⟨k, hk⟩ : ∃ k, idxS (partS δ P s (l + 1)) (δ s l) = k := ⟨_, rfl⟩
    have hstep := rowIn_step (δ := δ) (met := P) (s := s) l
    rw [hk] at hstep
    rw [hes2, hms3, hk] at c2
    generalize stp s l = u at *
    repeat' (first | (with_reducible first | refine SW_seq ?_ | refine SW_block ?_ | refine SThen_n ?_ | refine SThen_r ?_ | refine SThen_e ?_ | refine SIn_n ?_ | refine SIn_r ?_ | refine SIn_eq ?_ | refine SW_skip ?_ | refine SW_exit ?_ | refine SW_ret ?_ | refine SPost_r ?_) | ((with_reducible refine SIn_ne ?_ ?_); focus decide) | ((with_reducible refine SW_true ?_ ?_); focus exact rfl) | ((with_reducible refine SW_false ?_ ?_); focus exact rfl) | ((with_reducible apply SW_run tt_ok hG htb); focus ((repeat' (first | (with_reducible exact runX_nil) | ((with_reducible apply runX_cons); focus (simp (discharger := omega) only [go_sem, simprocAttr]; with_reducible rfl)))); done)))
    refine SW_region ?_
    refine SL_k tt_ok hG htb 8 (by simp only [List.take_succ_cons, List.take_zero]; rfl) (by simp only [List.drop_succ_cons, List.drop_zero, Nat.reduceAdd]; rfl) (by (repeat' (first | (with_reducible exact runX_nil) | ((with_reducible apply runX_cons); focus (simp (discharger := omega) only [go_sem, hsi, simprocAttr]; with_reducible rfl))))) ?_
    refine SL_callH (g := sf) (cap := [.t c0, .bptr 0 0]) (obs := [.box [.t b0, .t b1, .t b2, .t b3]]) (ks := []) (obs' := [.box [.t b0, .t b1, .t b2, .t b3]] ++ [.row 3 1 true (iL u)]) (rst := ?zrb) (r := .sref 1) (s3 := ?zub) rfl rfl ?q1b ?q2b ?q3b ?q4b ?q5b ?q6b ?q7b ?q8b ?q9b
    case q5b => exact c3
    case q1b => rfl
    case q2b => rfl
    case q3b => rfl
    case q4b => rfl
    case q6b => rfl
    case q7b => rfl
    case q8b =>
      simp only [go_sem, St.back, List.map_cons, List.map_nil, SV.ren, Ob.ren, renL, pastG, lateG, List.length_cons, List.length_nil, List.take_succ_cons, List.take_zero, List.drop_succ_cons, List.drop_zero, List.getElem?_cons_zero, List.getElem?_cons_succ, List.getElem?_nil, List.cons_append, List.nil_append, simprocAttr]
      rfl
    refine SL_norm (Norm.headP [1, 2, 5, 6, 7] rfl (own := []) (keep := [55, 9, 6, 1, 2, 7, 8, 10, 11, 12, 28, 29, 32, 33, 40]) (by refine ⟨?_, ?_⟩; (simp (discharger := omega) only [go_sem, simprocAttr]; with_reducible rfl); refine ⟨?_, ?_, ?_, ?_⟩ <;> (simp only [go_sem, simprocAttr]; with_reducible rfl))) ?_
    refine SL_callH (g := 62) (cap := [.bptr 0 0, .bptr 1 0]) (obs := [.box [.map 2], .box [.sref 3], .map .str es', .row 35 1 true ms', .row 3 1 true (iL u)]) (ks := []) (obs' := [.box [.map 2], .box [.sref 3], .map .str es2, .row 35 1 true ms2, .hole]) (rst := ?zrc) (r := .t (tNat k)) (s3 := ?zuc) rfl rfl ?q1c ?q2c ?q3c ?q4c ?q5c ?q6c ?q7c ?q8c ?q9c
    case q5c => exact c2
    case q1c => rfl
    case q2c => rfl
    case q3c => rfl
    case q4c => rfl
    case q6c => rfl
    case q7c => rfl
    case q8c =>
      simp only [go_sem, St.back, List.map_cons, List.map_nil, SV.ren, Ob.ren, renL, pastG, lateG, List.length_cons, List.length_nil, List.take_succ_cons, List.take_zero, List.drop_succ_cons, List.drop_zero, List.getElem?_cons_zero, List.getElem?_cons_succ, List.getElem?_nil, simprocAttr]
      rfl
    refine SL_done tt_ok hG htb (by (repeat' (first | (with_reducible exact runX_nil) | ((with_reducible apply runX_cons); focus (simp (discharger := omega) only [go_sem, hrl, simprocAttr]; with_reducible rfl))))) ?_
    repeat' (first | (with_reducible first | refine SW_seq ?_ | refine SW_block ?_ | refine SThen_n ?_ | refine SThen_r ?_ | refine SThen_e ?_ | refine SIn_n ?_ | refine SIn_r ?_ | refine SIn_eq ?_ | refine SW_skip ?_ | refine SW_exit ?_ | refine SW_ret ?_ | refine SPost_r ?_) | ((with_reducible refine SIn_ne ?_ ?_); focus decide) | ((with_reducible refine SW_true ?_ ?_); focus exact rfl) | ((with_reducible refine SW_false ?_ ?_); focus exact rfl) | ((with_reducible apply SW_run tt_ok hG htb); focus ((repeat' (first | (with_reducible exact runX_nil) | ((with_reducible apply runX_cons); focus (simp (discharger := omega) only [go_sem, simprocAttr]; with_reducible rfl)))); done)))
    exact ⟨n - (l + 1), _, by omega, Norm.headS (own := []) (keep := [55, 9, 6, 1, 2, 7, 8, 10, 11, 12, 28, 29]) (by refine ⟨?_, ?_⟩; (simp (discharger := omega) only [go_sem, simprocAttr]; with_reducible rfl); refine ⟨?_, ?_, ?_, ?_⟩ <;> (simp only [go_sem, simprocAttr]; with_reducible rfl)), l + 1, _, _, _, rfl, rfl, by omega, hes2.symm, hms3.symm, by rw [← hstep, List.map_append, ← hrw']; rfl⟩
  · obtain rfl : l = n := by omega
    have hnl : nx.length = i := by
      rw [hnx, List.length_map]
      simp [rowsIn]; omega
    repeat' (first | (with_reducible first | apply w1 | apply w2 | apply w3 | apply w4 | apply w5 | apply w6 | apply w7 | apply w8 | apply w9 | apply wa | apply wb | apply wc) | ((with_reducible apply wd); focus decide) | ((with_reducible apply we); focus exact rfl) | ((with_reducible apply wf); focus exact rfl) | ((first | (with_reducible apply SW_run tt_ok hG htb) | ((with_reducible apply SW_draw rfl tt_ok hG htb); (focus kernel_rfl); focus simp only [List.range, List.range.loop, List.size_toArray, List.length_cons, List.length_nil, Nat.reduceAdd])); focus ((repeat' (first | (with_reducible first | exact wg | exact wh) | ((with_reducible first | apply wi | apply wj); focus (simp (discharger := omega) only [go_sem, hnl, simprocAttr]; with_reducible rfl)))); done)))
    exact ⟨2001 - (i + 1), _, by omega, Norm.headS (own := []) (keep := [55, 9, 6, 1, 2, 7, 8, 10, 11]) (by refine ⟨?_, ?_⟩; (simp (discharger := omega) only [go_sem, simprocAttr]; with_reducible rfl); refine ⟨?_, ?_, ?_, ?_⟩ <;> (simp only [go_sem, simprocAttr]; with_reducible rfl)), i + 1, _, _, _, rfl, rfl, by omega, by rw [hnext]; have := (partS_pre δ P s l).length_le; omega, by rw [hnext]; exact hes', by rw [hnext]; exact hms', by rw [hnext, ← hrows, List.map_append, ← hnx, hrw']; rfl⟩
end
end Go.Proofs.YthcclcbliedodaaDoor
namespace Go.Proofs
open Go.Shelf
end Go.Proofs
namespace Go.Proofs.YthcclcbliedodaaDoor
open Go.RowKit Go.Lib

theorem blk_set {w : World} {g i : Nat} {cs : Array Value} {t : TypeId} {fr : Nat × Nat} (h : w.heap[g]? = some (.cells cs t fr)) (v : Value) : (w.setCell ⟨g, i, none⟩ v).heap[g]? = some (.cells (cs.setIfInBounds i v) t fr) := by
  unfold World.setCell
  simp only [Array.getElem?_modify, if_true, h, Option.map_some, Option.isSome_none, Bool.false_eq_true, if_false]
theorem setCells_blk (b : Nat) : ∀ (vs : List Value) (o : Nat) (w : World) (cur : Array Value) (e : TypeId) (fr : Nat × Nat), w.heap[b]? = some (.cells cur e fr) → o + vs.length ≤ cur.size → ∃ cur' : Array Value, (w.setCells b o vs).heap[b]? = some (.cells cur' e fr) ∧ cur'.size = cur.size ∧ cur'.toList = cur.toList.take o ++ vs ++ cur.toList.drop (o + vs.length)
  | [], o, w, cur, e, fr, h, _ => ⟨cur, h, rfl, by simp⟩
  | v :: r, o, w, cur, e, fr, h, hl => by
    simp only [List.length_cons] at hl
    obtain ⟨cur', h1, h2, h3⟩ := setCells_blk b r (o + 1) (w.setCell ⟨b, o, none⟩ v) (cur.setIfInBounds o v) e fr (blk_set h v) (by simp; omega)
    refine ⟨cur', h1, by simpa using h2, ?_⟩
    have hlt : o < cur.toList.length := by simp; omega
    rw [h3, Array.toList_setIfInBounds, List.set_eq_take_append_cons_drop, if_pos hlt]
    have e1 : (cur.toList.take o).length = o := by rw [List.length_take]; omega
    have e0 : (cur.toList.take o).take (o + 1) = cur.toList.take o := List.take_of_length_le (by omega)
    have e9 : (cur.toList.take o).drop (o + 1 + r.length) = [] := List.drop_of_length_le (by omega)
    rw [List.take_append, List.drop_append, e1, e0, e9]
    have e2 : o + 1 - o = 1 := by omega
    have e3 : o + 1 + r.length - o = r.length + 1 := by omega
    rw [e2, e3]
    simp only [List.take_succ_cons, List.take_zero, List.drop_succ_cons, List.nil_append, List.drop_drop, List.append_assoc, List.cons_append, List.length_cons]
    rw [show o + 1 + r.length = o + (r.length + 1) by omega]
theorem setCells_grown (b : Nat) : ∀ (vs : List Value) (o : Nat) (w : World), w.grownBy (w.setCells b o vs) (some b)
  | [], o, w => ⟨rfl, rfl, rfl, Nat.le_refl _, fun _ _ _ => rfl⟩
  | v :: r, o, w => by
    have h := setCells_grown b r (o + 1) (w.setCell ⟨b, o, none⟩ v)
    refine ⟨h.os, h.tape, h.output, by have := h.size; rwa [World.size_setCell] at this, fun k hk hne => ?_⟩
    have h1 := h.block k (by rw [World.size_setCell]; exact hk) hne
    rw [World.setCells, h1]
    exact heap_setCell_other w _ k v (fun e => hne (by rw [e]))
theorem grown_trans {w w1 w2 : World} {o : Option Nat} (h : w.grownBy w1 o) (h2 : w1.grownBy w2 o) : w.grownBy w2 o :=
  ⟨h2.os.trans h.os, h2.tape.trans h.tape, h2.output.trans h.output, Nat.le_trans h.size h2.size, fun k hk hne => (h2.block k (Nat.lt_of_lt_of_le hk h.size) hne).trans (h.block k hk hne)⟩
theorem grown_drew (w : World) (o : Option Nat) : w.grownBy w.drew o := ⟨rfl, rfl, rfl, Nat.le_refl _, fun _ _ _ => rfl⟩
theorem iL_sz (l : List Int) : ∀ x ∈ iL l, x.cells.length = 1 := fun x hx => by
  obtain ⟨y, _, rfl⟩ := List.mem_map.1 hx; rfl
section
variable {P : Program} {C : Ctx} {hd : List Hd} {w w' : World} {e : Nat} {l ys : List Int}
theorem row_new {obs : List Ob} (hr : StR C ⟨0, [], obs⟩ hd act0 w) (hb : Below w.heap.size w w') {g n' cap : Nat} (ho : w'.ownsRow w.heap.size e 1 (.slice (some ⟨g, 0, none⟩) n' cap) n' (ys.map (Value.int .i64))) (hn : n' = ys.length) (hm : ys.length ≤ maxLen) :
    ∃ hd', StR C ⟨0, [], [.row e 1 true (iL ys)]⟩ hd' act0 w' ∧ RepS (vis C hd') w' hd' (.sref 0) (.slice (some ⟨g, 0, none⟩) n' cap) := by
  have hlt := ho.lt g rfl
  have ho2 : w'.ownsRow C.w0.heap.size e 1 (.slice (some ⟨g, 0, none⟩) n' cap) n' (ys.map (Value.int .i64)) := by
    refine ⟨ho.1, ?_⟩
    rcases ho.2 with q | ⟨g', cap', cur, q, hB, r⟩
    · exact .inl q
    · exact .inr ⟨g', cap', cur, q, Nat.le_trans hr.below.size hB, r⟩
  have hr1 := hr.new hb (.row e 1 true (iL ys)) (.sl (some ⟨g, 0, none⟩) n' cap (some g)) (fun b hbo => by
    simp only [Hd.own, Option.some.injEq] at hbo
    subst hbo
    exact hlt) ⟨by rw [iL_length]; exact hn, Nat.one_pos, by rw [iL_length]; exact hm, iL_sz ys, .inl ⟨_, ho2, rfl, iL_rep _ _ _⟩⟩
  have hlast : (hd ++ [Hd.sl (some ⟨g, 0, none⟩) n' cap (some g)])[obs.length]? = some (.sl (some ⟨g, 0, none⟩) n' cap (some g)) := by
    have := hr.hl
    simp only at this
    rw [← this, List.getElem?_append_right (Nat.le_refl _), Nat.sub_self]; rfl
  have hr2 : StR C ⟨0, [(0, .pinS obs.length (some ⟨g, 0, none⟩) n' cap)], obs ++ [.row e 1 true (iL ys)]⟩ (hd ++ [Hd.sl (some ⟨g, 0, none⟩) n' cap (some g)]) act0 w' := ⟨hr1.below, hr1.df, hr1.nt, hr1.hl, hr1.ob, hr1.own, hr1.dist, fun t y hy => (by
    simp only [look] at hy
    split at hy
    · cases hy
      exact .pinS _ _ _ _ _ hlast
    · cases hy), hr1.ext⟩
  obtain ⟨hd2, hr3⟩ := Norm.ids [obs.length] rfl _ C _ _ _ hr2
  have hp := hr3.sl 0 (.pinS 0 (some ⟨g, 0, none⟩) n' cap) (by simp [look, SV.ren, posIn])
  generalize act0.tmps.getD 0 undef = u at hp
  cases hp
  rename_i o hh
  refine ⟨hd2, ⟨hr3.below, hr3.df, hr3.nt, ?_, fun i o' h h1 h2 => hr3.ob i o' h (by simpa [Ob.ren] using h1) h2, hr3.own, hr3.dist, fun t y hy => by simp [look] at hy, hr3.ext⟩, .sref _ _ _ _ o hh⟩
  have := hr3.hl
  simpa using this
end
section
variable {G : World → Prop}
theorem Clone_snd (d : List Int) (hd1 : d.length ≤ 1000000) : SndG Tryd.prog G 67 [.t (tInts d)] [] [] (.sref 0) [.row 3 1 true (iL d)] := by
  refine ⟨enter_body Tryd.func67 rfl rfl, Nat.zero_le _, fun i l h => by simp at h, fun C hd w vs hG hr hvs hrep => ?_⟩
  obtain ⟨v, rfl⟩ : ∃ v, vs = #[v] := by
    match vs, hvs with
    | ⟨[v]⟩, _ => exact ⟨v, rfl⟩
  have hv := (hrep 0 _ _ rfl rfl).toT
  obtain ⟨a, cap, sz, xs, e1, hmx, h0, hf, ha, h1, hx⟩ := hv.listInv
  have hdl : (d.map tInt).length = d.length := List.length_map _
  have nilrow : ∀ {w' : World}, Below w.heap.size w w' → StR C ⟨0, [], [.row 3 1 true (iL [])]⟩ (hd ++ [.sl none 0 0 none]) act0 w' := fun {w'} hb => by
    have := hr.new hb (.row 3 1 true (iL [])) (.sl none 0 0 none) (fun b hb => by simp [Hd.own] at hb) ⟨rfl, Nat.one_pos, Nat.zero_le _, fun x hx => by simp [iL] at hx, .inl ⟨[], World.ownsRow_nil _ _ _ _, rfl, RepL.nil _ _⟩⟩
    exact this
  have hd0 : hd = [] := List.eq_nil_of_length_eq_zero hr.hl
  have fin : ∀ (v' : Value) (w' : World), w'.ownsRow w.heap.size 3 1 v' d.length (d.map (Value.int .i64)) → Below w.heap.size w w' → ∃ hd', StR C ⟨0, [], [.row 3 1 true (iL d)]⟩ hd' act0 w' ∧ RepS (vis C hd') w' hd' (.sref 0) v' := fun v' w' hown hb => by
    rcases hown.2 with ⟨rfl, hn⟩ | ⟨g, cap', cur, rfl, _⟩
    · obtain rfl : d = [] := List.eq_nil_of_length_eq_zero hn
      exact ⟨_, nilrow hb, .sref _ _ _ _ none (by rw [hd0]; rfl)⟩
    · exact row_new hr hb hown rfl (by unfold maxLen; omega)
  by_cases hd2 : d = []
  · subst hd2
    cases a with
    | none =>
      subst e1
      refine (Any.slices_Clone_int_nil Tryd.layClone _ cap w).mono fun e' w' ⟨q1, q2⟩ => ?_
      subst q1 q2
      exact ⟨_, _, rfl, nilrow (Below.refl _ _), (fun i l b h => by simp at h), (fun i hi => by simp at hi), .sref _ _ _ _ none (by rw [hd0]; rfl)⟩
    | some ad =>
      subst e1
      refine (Any.slices_Clone_int_zero Tryd.layClone ad cap w).mono fun e' w' ⟨v', q1, q2, _, q3⟩ => ?_
      subst q1
      obtain ⟨hd', f1, f2⟩ := fin v' w' q2 q3
      exact ⟨_, hd', rfl, f1, (fun i l b h => by simp at h), (fun i hi => by simp at hi), f2⟩
  · obtain ⟨b, off, rfl, _, hc⟩ := ha (by simpa using hd2)
    have hsz : sz = 1 := by
      cases d with
      | nil => exact (hd2 rfl).elim
      | cons z d => exact (hf (tInt z) (by simp)).symm
    subst hsz
    subst e1
    have hcell : ∀ j, j < d.length → w.cell? ⟨b, off + j, none⟩ = some (.int .i64 (d.getD j 0)) := fun j hj => by
      rw [hc j (by rw [hdl]; omega)]
      have hy := hx j (tInt d[j]) (by
        have : flat (d.map tInt) = d.map tInt := flat_iL d
        rw [this, List.getElem?_map, List.getElem?_eq_getElem hj]; rfl)
      generalize xs j = u at hy
      unfold tInt at hy
      cases hy
      rw [List.getD_eq_getElem?_getD, List.getElem?_eq_getElem hj]; rfl
    rw [hdl]
    refine (Any.slices_Clone_int Tryd.layClone b off d.length cap d w (Nat.le_refl _) (by omega) hcell).mono fun e' w' ⟨v', q1, q2, _, q3⟩ => ?_
    subst q1
    rw [List.take_of_length_le (Nat.le_refl _)] at q2
    obtain ⟨hd', f1, f2⟩ := fin v' w' q2 q3
    exact ⟨_, hd', rfl, f1, (fun i l b h => by simp at h), (fun i hi => by simp at hi), f2⟩
theorem drew_alloc_below (w : World) (o : Obj) : Below w.heap.size w (w.drew.alloc o) := by
  have h := alloc_below w.drew o
  exact ⟨h.os, h.tape, h.output, h.size, h.block⟩
theorem layInsert_t3 : Tryd.layInsert_ren.t 3 = 3 := rfl
/-- A new block that begins with these. -/
theorem owns_new {w w' : World} {g n' cap e : Nat} {arr : Array Value} {ys : List Int} (hB : w.heap.size ≤ g) (hg : w'.heap[g]? = some (.cells arr e (0, 0))) (hs : arr.size = cap) (hn : n' ≤ cap) (hm : cap ≤ maxLen) (hl : n' = ys.length) (ht : arr.toList.take n' = ys.map (Value.int .i64)) : w'.ownsRow w.heap.size e 1 (.slice (some ⟨g, 0, none⟩) n' cap) n' (ys.map (Value.int .i64)) :=
  ⟨by rw [List.length_map, Nat.mul_one, hl], .inr ⟨g, cap, arr, rfl, hB, hg, hn, hm, by rw [Nat.mul_one]; exact hs, by rw [Nat.mul_one]; exact ht⟩⟩
def insL (l : List Int) (k : Nat) (x : Int) : List Int := l.take k ++ [x] ++ l.drop k
theorem insL_length {l : List Int} {k : Nat} {x : Int} (hk : k ≤ l.length) : (insL l k x).length = l.length + 1 := by
  unfold insL; simp; omega
theorem insL_end {l : List Int} {x : Int} : insL l l.length x = l ++ [x] := by
  unfold insL; simp
set_option maxHeartbeats 4000000 in
theorem Insert_own (l : List Int) (k : Nat) (x : Int) (hk : k ≤ l.length) (hl : l.length ≤ 1000000) :
    SndG Tryd.prog G 66 [.sref 0, .t (tNat k), .lit [tInt x]] [.row 3 1 true (iL l)] [] (.sref 0) [.row 3 1 true (iL (insL l k x))] := by
  refine ⟨enter_body Tryd.func66 rfl rfl, Nat.le_refl _, fun i q h => ?_, fun C hd w vs hG hr hvs hrep => ?_⟩
  · match i, h with
    | 0, h => cases h
  obtain ⟨v0, v1, v2, rfl⟩ : ∃ v0 v1 v2, vs = #[v0, v1, v2] := by
    match vs, hvs with
    | ⟨[v0, v1, v2]⟩, _ => exact ⟨v0, v1, v2, rfl⟩
  obtain ⟨ad, cap, rfl, hd0, hown⟩ := row_open hr (hrep 0 _ _ rfl rfl)
  have hk1 : RepT (vis C hd) w (.int .i64 (k : Int)) v1 := (hrep 1 _ _ rfl rfl).toT
  cases hk1
  have hlit : RepS (vis C hd) w hd (.lit [tInt x]) v2 := hrep 2 _ _ rfl rfl
  cases hlit
  rename_i vb hlr hz
  obtain ⟨a', cap', sz', xs, e1, _, _, hf', ha, _, hx'⟩ := hlr.listInv
  obtain ⟨b', off', e2, hS, hc⟩ := ha (by simp)
  rw [e2] at e1
  injection e1 with q1 q2 q3
  injection q1 with q1
  injection q1 with q1 q4 q5
  subst q1 q4
  have hsz' : sz' = 1 := (hf' (tInt x) (by simp)).symm
  subst hsz'
  obtain ⟨lv, lt, hzb⟩ := hz (by simp)
  have hcx : w.cell? ⟨vb, 0 + 0, none⟩ = some (.int .i64 x) := by
    rw [hc 0 (by simp)]
    have hy := hx' 0 (tInt x) rfl
    generalize xs 0 = u at hy
    unfold tInt at hy
    cases hy
    rfl
  have hvs' : ∀ (j : Nat) (v : Value), ([Value.int .i64 x] : List Value)[j]? = some v → w.cell? ⟨vb, 0 + j, none⟩ = some v := fun j v hj => by
    match j, hj with
    | 0, hj => cases hj; exact hcx
  have h1v : ∀ v ∈ ([Value.int .i64 x] : List Value), v.oneCell' = true := fun v hv => by
    simp at hv; subst hv; rfl
  have hil := insL_length (x := x) hk
  have post : ∀ (v' : Value) (w' : World), (∃ hd', StR C ⟨0, [], [.row 3 1 true (iL (insL l k x))]⟩ hd' act0 w' ∧ RepS (vis C hd') w' hd' (.sref 0) v') → ∃ v hd', Ending.returned v' = .returned v ∧ StR C ⟨0, [], [.row 3 1 true (iL (insL l k x))]⟩ hd' act0 w' ∧ (∀ (i : Nat) (q : List SV) (b : Nat), ([.row 3 1 true (iL l)] : List Ob)[i]? = some (.box q) → hd[i]? = some (.bx b true) → hd'[i]? = some (.bx b true)) ∧ (∀ i ∈ ([] : List Nat), ∀ h, hd[i]? = some h → hd'[i]? = some h) ∧ RepS (vis C hd') w' hd' (.sref 0) v := fun v' w' ⟨hd', f1, f2⟩ => by
    refine ⟨v', hd', rfl, f1, fun i q b h1 h2 => ?_, (fun i hi => by simp at hi), f2⟩
    match i, h1 with
    | 0, h1 => cases h1
  have hlm : (l.map (Value.int .i64)).length = l.length := List.length_map _
  rcases hown.2 with ⟨q, hn0⟩ | ⟨g, cap2, cur, q, hB, hg, h1, h2, h3, h4⟩
  · -- nothing until now
    obtain rfl : l = [] := List.eq_nil_of_length_eq_zero hn0
    obtain rfl : k = 0 := by simpa using hk
    cases q
    refine (Any2.slices_Insert_int_end_grow Tryd.layInsert none 0 0 vb 0 1 1 [] [.int .i64 x] w (by decide) (Nat.le_refl _) (by decide) (by decide) rfl rfl (fun _ => rfl) (fun a h => by cases h) hvs' h1v).mono fun e' w' ⟨q1, q2⟩ => ?_
    rw [layInsert_t3] at q1 q2
    subst q1
    refine post _ _ ?_
    have hge := grownCap_ge w (0 + 1) 0 3
    have hle := grownCap_le_maxLen w (0 + 1) 0 3 (by decide)
    refine row_new hr (by rw [q2]; exact drew_alloc_below _ _) (owns_new (Nat.le_refl _) (by rw [q2]; exact heap_alloc_new w.drew _) ?_ hge hle rfl ?_) rfl (by simp [insL, maxLen])
    · simp only [Array.size_append, List.size_toArray, List.length_append, List.length_cons, List.length_nil, size_zeroCells]
      have : (Value.int .i64 0).cells.size = 1 := rfl
      rw [this]
      show 0 + (0 + 1) + (grownCap w (0 + 1) 0 3 - (0 + 1)) * 1 = grownCap w (0 + 1) 0 3
      omega
    · simp [insL]
  · cases q
    have h3' : cur.size = cap := by omega
    have h4' : cur.toList.take l.length = l.map (Value.int .i64) := by rw [Nat.mul_one] at h4; exact h4
    have hne : vb ≠ g := fun e => by
      have := hS.2 (Hd.sl (some ⟨g, 0, none⟩) l.length cap (some g)) (by rw [hd0]; exact List.mem_cons_self)
      exact this (by rw [e]; rfl)
    have hcs : ∀ (j : Nat) (v : Value), (l.map (Value.int .i64))[j]? = some v → w.cell? ⟨g, 0 + j, none⟩ = some v := fun j v hj => by
      have hjl := (List.getElem?_eq_some_iff.1 hj).1
      rw [hlm] at hjl
      rw [← h4', List.getElem?_take, if_pos hjl] at hj
      simp only [World.cell?, hg]
      simpa using hj
    have hsp : ∀ j, j < cap → (w.cell? ⟨g, 0 + j, none⟩).isSome = true := fun j hj => by
      simp only [World.cell?, hg]
      simp
      omega
    have hfz : ∀ j, w.frozen? ⟨g, j, none⟩ = false := fun j => by
      simp [World.frozen?, hg]
    have h1c : ∀ v ∈ l.map (Value.int .i64), v.oneCell' = true := fun v hv => by
      obtain ⟨y, _, rfl⟩ := List.mem_map.1 hv; rfl
    have inplace : ∀ w' : World, w.grownBy w' (some g) → (∃ cur' : Array Value, w'.heap[g]? = some (.cells cur' 3 (0, 0)) ∧ cur'.size = cap ∧ cur'.toList.take (l.length + 1) = (insL l k x).map (Value.int .i64)) → l.length + 1 ≤ cap →
        ∃ hd', StR C ⟨0, [], [.row 3 1 true (iL (insL l k x))]⟩ hd' act0 w' ∧ RepS (vis C hd') w' hd' (.sref 0) (.slice (some ⟨g, 0, none⟩) (l.length + 1) cap) := fun w' hgb ⟨cur', f1, f2, f3⟩ hroom => by
      refine ⟨_, row_change hr hd0 (n' := l.length + 1) rfl hgb ⟨by rw [List.length_map, hil, Nat.mul_one], .inr ⟨g, cap, cur', rfl, hB, f1, hroom, h2, by omega, by rw [Nat.mul_one]; exact f3⟩⟩ hil.symm (by rw [hil]; unfold maxLen; omega), .sref _ _ _ _ _ rfl⟩
    have hap : ∀ (A B D : List Value) (n : Nat), A.length + B.length = n → (A ++ B ++ D).take n = A ++ B := fun A B D n h => by
      rw [List.take_append_of_le_length (by simp; omega), List.take_of_length_le (by simp; omega)]
    by_cases hkn : k = l.length
    · subst hkn
      by_cases hroom : l.length + 1 ≤ cap
      · refine (Any2.slices_Insert_int_end_room Tryd.layInsert g 0 l.length cap vb 0 1 1 [.int .i64 x] w (by decide) hroom (by unfold maxLen at h2; omega) rfl (fun j hj => by rw [Nat.add_assoc]; exact hsp _ (by omega)) (fun j hj => hfz _) hvs' h1v).mono fun e' w' ⟨q1, q2⟩ => ?_
        subst q1
        refine post _ _ (inplace w' (by rw [q2]; exact setCells_grown _ _ _ _) ?_ hroom)
        obtain ⟨cur', f1, f2, f3⟩ := setCells_blk g [.int .i64 x] (0 + l.length) w cur 3 (0, 0) hg (by simp; omega)
        refine ⟨cur', by rw [q2]; exact f1, by omega, ?_⟩
        rw [insL_end, f3, Nat.zero_add, h4', List.map_append]
        exact hap _ _ _ _ (by simp)
      · refine (Any2.slices_Insert_int_end_grow Tryd.layInsert (some ⟨g, 0, none⟩) l.length cap vb 0 1 1 (l.map (.int .i64)) [.int .i64 x] w (by decide) h1 (by omega) (by omega) hlm rfl (fun h => by cases h) (fun a h j v hj => by cases h; rw [Addr.add_lit]; exact hcs j v hj) hvs' h1v).mono fun e' w' ⟨q1, q2⟩ => ?_
        rw [layInsert_t3] at q1 q2
        subst q1
        refine post _ _ ?_
        have hge := grownCap_ge w (l.length + 1) cap 3
        have hle := grownCap_le_maxLen w (l.length + 1) cap 3 (by unfold maxLen; omega)
        refine row_new hr (by rw [q2]; exact drew_alloc_below _ _) (owns_new (Nat.le_refl _) (by rw [q2]; exact heap_alloc_new w.drew _) ?_ hge hle hil.symm ?_) hil.symm (by rw [hil]; unfold maxLen; omega)
        · have : (Value.int .i64 0).cells.size = 1 := rfl
          simp only [Array.size_append, List.size_toArray, List.length_append, List.length_cons, List.length_nil, size_zeroCells, this, hlm]
          show l.length + (0 + 1) + (grownCap w (l.length + 1) cap 3 - (l.length + 1)) * 1 = grownCap w (l.length + 1) cap 3
          omega
        · rw [insL_end, Array.toList_append, List.take_append_of_le_length (by simp), List.take_of_length_le (by simp), List.map_append]
          rfl
    · have hkl : k < l.length := by omega
      have hdr : (l.map (Value.int .i64)).drop k = (l.drop k).map (Value.int .i64) := by rw [List.map_drop]
      have hmap : (insL l k x).map (Value.int .i64) = (l.map (Value.int .i64)).take k ++ [.int .i64 x] ++ (l.map (Value.int .i64)).drop k := by
        unfold insL
        simp only [List.map_append, List.map_take, List.map_drop, List.map_cons, List.map_nil]
      by_cases hroom : l.length + 1 ≤ cap
      · refine (Any2.slices_Insert_int_shift Tryd.layInsert g 0 l.length cap k vb 0 1 1 (l.map (.int .i64)) [.int .i64 x] w hkl (by decide) hroom (by unfold maxLen at h2; omega) hne hlm rfl hcs (fun j hj => hsp j (by omega)) (fun j hj => hfz _) hvs' h1c h1v lt 3 lv.size cur.size (by simp [World.shape?, hzb]) (by simp [World.shape?, hg]) (by omega) (by simp [World.frozen?, hzb]) (by simp [World.frozen?, hzb])).mono fun e' w' ⟨q1, q2⟩ => ?_
        subst q1
        obtain ⟨c1, f1, f2, f3⟩ := setCells_blk g ((l.map (Value.int .i64)).drop k) (0 + (k + 1)) w.drew cur 3 (0, 0) hg (by rw [List.length_drop, hlm]; omega)
        obtain ⟨c2, g1, g2, g3⟩ := setCells_blk g [.int .i64 x] (0 + k) _ c1 3 (0, 0) f1 (by simp; omega)
        refine post _ _ (inplace w' (by rw [q2]; exact grown_trans (grown_drew _ _) (grown_trans (setCells_grown _ _ _ _) (setCells_grown _ _ _ _))) ⟨c2, by rw [q2]; exact g1, by omega, ?_⟩ hroom)
        have hcl : cur.toList.length = cap := by simpa using h3'
        have hk1 : (cur.toList.take (0 + (k + 1))).length = k + 1 := by rw [List.length_take]; omega
        have htk : cur.toList.take k = (l.map (Value.int .i64)).take k := by rw [← h4', List.take_take, Nat.min_eq_left (by omega)]
        rw [g3, f3, hmap]
        have e1 : (cur.toList.take (0 + (k + 1)) ++ (l.map (Value.int .i64)).drop k ++ cur.toList.drop (0 + (k + 1) + ((l.map (Value.int .i64)).drop k).length)).take (0 + k) = (l.map (Value.int .i64)).take k := by
          rw [List.append_assoc, List.take_append_of_le_length (by omega), List.take_take, Nat.min_eq_left (by omega), Nat.zero_add, htk]
        have e2 : (cur.toList.take (0 + (k + 1)) ++ (l.map (Value.int .i64)).drop k ++ cur.toList.drop (0 + (k + 1) + ((l.map (Value.int .i64)).drop k).length)).drop (0 + k + ([Value.int .i64 x] : List Value).length) = (l.map (Value.int .i64)).drop k ++ cur.toList.drop (0 + (k + 1) + ((l.map (Value.int .i64)).drop k).length) := by
          rw [List.append_assoc]
          exact List.drop_left' (by rw [hk1]; simp)
        rw [e1, e2, ← List.append_assoc]
        exact List.take_left' (by simp; omega)
      · refine (Any2.slices_Insert_int_grow Tryd.layInsert g 0 l.length cap k vb 0 1 1 (l.map (.int .i64)) [.int .i64 x] w hkl (by decide) h1 (by omega) (by omega) hlm rfl hcs hvs' h1c h1v).mono fun e' w' ⟨q1, q2⟩ => ?_
        rw [layInsert_t3] at q1 q2
        subst q1
        refine post _ _ ?_
        have hge := grownCap_ge w (l.length + 1) cap 3
        have hle := grownCap_le_maxLen w (l.length + 1) cap 3 (by unfold maxLen; omega)
        obtain ⟨A, hA⟩ : ∃ A : Array Value, (((l.map (Value.int .i64)).take k).toArray ++ Builtin.zeroCells (Value.int .i64 0).cells (l.length + 1 - k) ++ Builtin.zeroCells (Value.int .i64 0).cells (grownCap w (l.length + 1) cap 3 - (l.length + 1))) = A := ⟨_, rfl⟩
        have hAs : A.size = grownCap w (l.length + 1) cap 3 := by
          rw [← hA]
          have : (Value.int .i64 0).cells.size = 1 := rfl
          simp only [Array.size_append, List.size_toArray, List.length_take, size_zeroCells, this, hlm]
          omega
        have hAt : A.toList.take k = (l.map (Value.int .i64)).take k := by
          rw [← hA, Array.toList_append, Array.toList_append, List.append_assoc]
          exact List.take_left' (by simp; omega)
        have q2' : w' = (((w.alloc (.cells A 3)).drew.setCells w.heap.size k [.int .i64 x]).drew).setCells w.heap.size (k + 1) ((l.map (Value.int .i64)).drop k) := by rw [← hA]; exact q2
        obtain ⟨c1, f1, f2, f3⟩ := setCells_blk w.heap.size [.int .i64 x] k (w.alloc (.cells A 3)).drew A 3 (0, 0) (heap_alloc_new w _) (by simp; omega)
        obtain ⟨c2, g1, g2, g3⟩ := setCells_blk w.heap.size ((l.map (Value.int .i64)).drop k) (k + 1) (((w.alloc (.cells A 3)).drew.setCells w.heap.size k [.int .i64 x]).drew) c1 3 (0, 0) f1 (by rw [List.length_drop, hlm]; omega)
        have hgb := grown_trans (setCells_grown w.heap.size [.int .i64 x] k (w.alloc (.cells A 3)).drew) (grown_trans (grown_drew _ _) (setCells_grown w.heap.size ((l.map (Value.int .i64)).drop k) (k + 1) (((w.alloc (.cells A 3)).drew.setCells w.heap.size k [.int .i64 x]).drew)))
        have hal := alloc_below w (.cells A 3)
        refine row_new hr ⟨?_, ?_, ?_, ?_, fun b hb => ?_⟩ (owns_new (Nat.le_refl _) (by rw [q2']; exact g1) (by omega) hge hle hil.symm ?_) hil.symm (by rw [hil]; unfold maxLen; omega)
        · rw [q2', hgb.os]; exact hal.os
        · rw [q2', hgb.tape]; exact hal.tape
        · rw [q2', hgb.output]; exact hal.output
        · rw [q2']; exact Nat.le_trans hal.size hgb.size
        · rw [q2', hgb.block b (Nat.lt_of_lt_of_le hb hal.size) (fun e => by cases e; omega)]
          exact hal.block b hb
        · rw [g3, f3, hmap]
          have hAl : A.toList.length = grownCap w (l.length + 1) cap 3 := by simpa using hAs
          have hkA : (A.toList.take k).length = k := by rw [List.length_take]; omega
          have e1 : (A.toList.take k ++ [Value.int .i64 x] ++ A.toList.drop (k + ([Value.int .i64 x] : List Value).length)).take (k + 1) = (l.map (Value.int .i64)).take k ++ [Value.int .i64 x] := by
            rw [← hAt]
            exact List.take_left' (by rw [List.length_append, hkA]; rfl)
          rw [e1]
          exact List.take_left' (by simp; omega)
/-- What a call hands back, in another form. -/
theorem SndG.post {P : Program} {f : Nat} {xs : List SV} {obs obs' obs'' : List Ob} {r r' : SV} {tm : List (Nat × SV)} (h : SndG P G f xs obs [] r obs') (hlen : obs.length ≤ obs''.length) (hbox : ∀ (i : Nat) (l : List SV), obs[i]? ≠ some (.box l)) (hl : look tm 0 = some r') (hn : Norm ⟨1, [(0, r)], obs'⟩ ⟨1, tm, obs''⟩) : SndG P G f xs obs [] r' obs'' :=
  ⟨h.enter, hlen, fun i l q => (hbox i l q).elim, fun C hd w vs hG hr hvs hrep => (h.calls C hd w vs hG hr hvs hrep).mono fun e w' ⟨v, hd', e1, h1, _, _, h2⟩ => by
    have hr1 : StR C ⟨1, [(0, r)], obs'⟩ hd' { tmps := #[v], defers := [] } w' := ⟨h1.below, rfl, rfl, h1.hl, h1.ob, h1.own, h1.dist, fun t y hy => (by
      simp only [look] at hy
      split at hy
      · rename_i e; subst e; cases hy; exact h2
      · cases hy), h1.ext⟩
    obtain ⟨hd2, hr2⟩ := hn C hd' _ w' hr1
    exact ⟨v, hd2, e1, ⟨hr2.below, rfl, rfl, hr2.hl, hr2.ob, hr2.own, hr2.dist, fun t y hy => by simp [look] at hy, hr2.ext⟩, fun i l b q => (hbox i l q).elim, fun i hi => by simp at hi, hr2.sl 0 r' hl⟩⟩
theorem Insert_snd (l : List Int) (k : Nat) (x : Int) (hk : k ≤ l.length) (hl : l.length ≤ 1000000) :
    SndG Tryd.prog G 66 [.sref 0, .t (tNat k), .lit [tInt x]] [.row 3 1 true (iL l)] [] (.t (tInts (insL l k x))) [.froz (iL (insL l k x))] := by
  refine (Insert_own l k x hk hl).post (Nat.le_refl _) (fun i q h => ?_) (tm := [(0, .t (.list (iL (insL l k x)))), (0, .sref 0)]) rfl ((Norm.frzRow 0 rfl).trans (Norm.datum 0 0 rfl rfl))
  match i, h with
  | 0, h => cases h
end
end Go.Proofs.YthcclcbliedodaaDoor
namespace Go.Proofs.YthcclcbliedodaaDoor
open Go.RowKit

section
variable {G : World → Prop} (hG : Lasting G)
include hG
set_option maxHeartbeats 4000000 in
theorem Pack_snd (base : Int) (d : List Int) : Snd Tryd.prog G 31 [tInt base, tInts d] (.tup [tInt (packOf base d), tErr (packErr base d)]) := by
  have htb := Tab.cons (Radix_snd hG base) (Tab.cons (Many_snd hG base d.length) Tab.nil)
  refine snd_of_body (n := 45) (tm := [(0, .t (tInt base)), (1, .t (tInts d))]) (rs := [.tmp 4, .tmp 5]) tt_ok Tryd.func31 rfl rfl rfl rfl rfl ?_
  by_cases h0 : manyErr base d.length = 0
  · obtain ⟨h1, _, h5, hp36, _⟩ := many_ok h0
    obtain ⟨r2, r6⟩ := radix_two h1
    have hdig : ∀ {i : Nat} (hi : i < d.length), ¬ (0 ≤ d[i] ∧ d[i] < radix base) → packErr base d = 1 ∧ packOf base d = 0 := fun hi hx => packErr_digit h0 hi hx
    have hok : (∀ x ∈ d, 0 ≤ x ∧ x < radix base) → packErr base d = 0 ∧ packOf base d = pack (radix base) d := packErr_ok h0
    rw [h0] at htb
    generalize manyOf base d.length = mo at htb
    generalize radix base = k at *
    repeat' (first | (with_reducible first | apply w1 | apply w2 | apply w3 | apply w4 | apply w5 | apply w6 | apply w7 | apply w8 | apply w9 | apply wa | apply wb | apply wc) | ((with_reducible apply wd); focus decide) | ((with_reducible apply we); focus exact rfl) | ((with_reducible apply wf); focus exact rfl) | ((first | (with_reducible apply SW_run tt_ok hG htb) | ((with_reducible apply SW_draw rfl tt_ok hG htb); (focus kernel_rfl); focus simp only [List.range, List.range.loop, List.size_toArray, List.length_cons, List.length_nil, Nat.reduceAdd])); focus ((repeat' (first | (with_reducible first | exact wg | exact wh) | ((with_reducible first | apply wi | apply wj); focus (simp (discharger := omega) only [go_sem, tErr, simprocAttr]; with_reducible rfl)))); done)))
    refine SW_loop (fun m s => ∃ i : Nat, m = d.length - i ∧ s = ⟨45, [(8, .t (tInt k)), (9, .t (tInt (pack k (d.take i)))), (24, .t (tInts d)), (25, .t (tInt d.length)), (26, .t (tInt i))], []⟩ ∧ i ≤ d.length ∧ ∀ x ∈ d.take i, 0 ≤ x ∧ x < k) d.length ⟨_, Norm.headS (own := []) (keep := [8, 9, 24, 25, 26]) (by refine ⟨?_, ?_⟩; (simp (discharger := omega) only [go_sem, simprocAttr]; with_reducible rfl); refine ⟨?_, ?_, ?_, ?_⟩ <;> (simp only [go_sem, simprocAttr]; with_reducible rfl)), 0, rfl, rfl, Nat.zero_le _, fun x hx => by simp at hx⟩ ?_
    rintro m s ⟨i, rfl, rfl, hi, hA⟩
    have hb := pack_bd r2 _ hA
    have hb2 := powW_bd r2 r6 (j := (d.take i).length) (by simp; omega)
    by_cases hlt : i < d.length
    · obtain ⟨x, hx⟩ : ∃ x, d[i]! = x := ⟨_, rfl⟩
      have htk := take_next hx hlt
      have hat := bang_at hx hlt
      by_cases hx0 : 0 ≤ x
      · by_cases hxk : x < k
        · have hA' : ∀ y ∈ d.take (i + 1), 0 ≤ y ∧ y < k := fun y hy => by
            rw [htk] at hy
            rcases List.mem_append.1 hy with h | h
            · exact hA y h
            · simp at h; subst h; exact ⟨hx0, hxk⟩
          have hpk : pack k (d.take (i + 1)) = pack k (d.take i) * k + x := by rw [htk, pack_snoc]
          have hm1 : 0 ≤ pack k (d.take i) * k := Int.mul_nonneg hb.1 (by omega)
          have hm2 : pack k (d.take i) * k ≤ 7776 * 6 := Int.mul_le_mul (by omega) r6 (by omega) (by omega)
          repeat' (first | (with_reducible first | apply w1 | apply w2 | apply w3 | apply w4 | apply w5 | apply w6 | apply w7 | apply w8 | apply w9 | apply wa | apply wb | apply wc) | ((with_reducible apply wd); focus decide) | ((with_reducible apply we); focus exact rfl) | ((with_reducible apply wf); focus exact rfl) | ((first | (with_reducible apply SW_run tt_ok hG htb) | ((with_reducible apply SW_draw rfl tt_ok hG htb); (focus kernel_rfl); focus simp only [List.range, List.range.loop, List.size_toArray, List.length_cons, List.length_nil, Nat.reduceAdd])); focus ((repeat' (first | (with_reducible first | exact wg | exact wh) | ((with_reducible first | apply wi | apply wj); focus (simp (discharger := omega) only [go_sem, hx, simprocAttr]; with_reducible rfl)))); done)))
          exact ⟨d.length - (i + 1), _, by omega, Norm.headS (own := []) (keep := [8, 9, 24, 25, 26]) (by refine ⟨?_, ?_⟩; (simp (discharger := omega) only [go_sem, simprocAttr]; with_reducible rfl); refine ⟨?_, ?_, ?_, ?_⟩ <;> (simp only [go_sem, simprocAttr]; with_reducible rfl)), i + 1, rfl, by rw [hpk]; rfl, by omega, hA'⟩
        · obtain ⟨e1, e2⟩ := hdig hlt (by rw [hat]; omega)
          rw [e1, e2]
          repeat' (first | (with_reducible first | apply w1 | apply w2 | apply w3 | apply w4 | apply w5 | apply w6 | apply w7 | apply w8 | apply w9 | apply wa | apply wb | apply wc) | ((with_reducible apply wd); focus decide) | ((with_reducible apply we); focus exact rfl) | ((with_reducible apply wf); focus exact rfl) | ((first | (with_reducible apply SW_run tt_ok hG htb) | ((with_reducible apply SW_draw rfl tt_ok hG htb); (focus kernel_rfl); focus simp only [List.range, List.range.loop, List.size_toArray, List.length_cons, List.length_nil, Nat.reduceAdd])); focus ((repeat' (first | (with_reducible first | exact wg | exact wh) | ((with_reducible first | apply wi | apply wj); focus (simp (discharger := omega) only [go_sem, hx, simprocAttr]; with_reducible rfl)))); done)))
          exact (by simp (discharger := omega) only [go_sem, tErr, simprocAttr])
      · obtain ⟨e1, e2⟩ := hdig hlt (by rw [hat]; omega)
        rw [e1, e2]
        repeat' (first | (with_reducible first | apply w1 | apply w2 | apply w3 | apply w4 | apply w5 | apply w6 | apply w7 | apply w8 | apply w9 | apply wa | apply wb | apply wc) | ((with_reducible apply wd); focus decide) | ((with_reducible apply we); focus exact rfl) | ((with_reducible apply wf); focus exact rfl) | ((first | (with_reducible apply SW_run tt_ok hG htb) | ((with_reducible apply SW_draw rfl tt_ok hG htb); (focus kernel_rfl); focus simp only [List.range, List.range.loop, List.size_toArray, List.length_cons, List.length_nil, Nat.reduceAdd])); focus ((repeat' (first | (with_reducible first | exact wg | exact wh) | ((with_reducible first | apply wi | apply wj); focus (simp (discharger := omega) only [go_sem, hx, simprocAttr]; with_reducible rfl)))); done)))
        exact (by simp (discharger := omega) only [go_sem, tErr, simprocAttr])
    · obtain rfl : i = d.length := by omega
      rw [List.take_length] at hA hb ⊢
      obtain ⟨e1, e2⟩ := hok hA
      rw [e1, e2]
      repeat' (first | (with_reducible first | apply w1 | apply w2 | apply w3 | apply w4 | apply w5 | apply w6 | apply w7 | apply w8 | apply w9 | apply wa | apply wb | apply wc) | ((with_reducible apply wd); focus decide) | ((with_reducible apply we); focus exact rfl) | ((with_reducible apply wf); focus exact rfl) | ((first | (with_reducible apply SW_run tt_ok hG htb) | ((with_reducible apply SW_draw rfl tt_ok hG htb); (focus kernel_rfl); focus simp only [List.range, List.range.loop, List.size_toArray, List.length_cons, List.length_nil, Nat.reduceAdd])); focus ((repeat' (first | (with_reducible first | exact wg | exact wh) | ((with_reducible first | apply wi | apply wj); focus (simp (discharger := omega) only [go_sem, simprocAttr]; with_reducible rfl)))); done)))
      exact (by simp (discharger := omega) only [go_sem, tErr, simprocAttr])
  · obtain ⟨e1, e2⟩ := packErr_many h0
    rw [e1, e2]
    generalize manyErr base d.length = e at *
    repeat' (first | (with_reducible first | apply w1 | apply w2 | apply w3 | apply w4 | apply w5 | apply w6 | apply w7 | apply w8 | apply w9 | apply wa | apply wb | apply wc) | ((with_reducible apply wd); focus decide) | ((with_reducible apply we); focus exact rfl) | ((with_reducible apply wf); focus exact rfl) | ((first | (with_reducible apply SW_run tt_ok hG htb) | ((with_reducible apply SW_draw rfl tt_ok hG htb); (focus kernel_rfl); focus simp only [List.range, List.range.loop, List.size_toArray, List.length_cons, List.length_nil, Nat.reduceAdd])); focus ((repeat' (first | (with_reducible first | exact wg | exact wh) | ((with_reducible first | apply wi | apply wj); focus (simp (discharger := omega) only [go_sem, tErr, h0, simprocAttr]; with_reducible rfl)))); done)))
    exact (by simp (discharger := omega) only [go_sem, tErr, h0, simprocAttr])
set_option maxHeartbeats 4000000 in
theorem Unpack_snd (base t l : Int) : Snd Tryd.prog G 30 [tInt base, tInt t, tInt l] (.tup [tInts (unpackOf base t l), tErr (unpackErr base t l)]) := by
  have htb := Tab.cons (Radix_snd hG base) (Tab.cons (Many_snd hG base t) Tab.nil)
  refine snd_of_body (n := 52) (tm := [(0, .t (tInt base)), (1, .t (tInt t)), (2, .t (tInt l))]) (rs := [.tmp 6, .tmp 7]) tt_ok Tryd.func30 rfl rfl rfl rfl rfl ?_
  by_cases h0 : manyErr base t = 0
  · obtain ⟨h1, h2, h5, hp36, hm⟩ := many_ok h0
    obtain ⟨r2, r6⟩ := radix_two h1
    have hp1 := powW_pos r2 t.toNat
    have hok : ¬ (l < 0 ∨ manyOf base t ≤ l) → unpackErr base t l = 0 ∧ unpackOf base t l = unpack (radix base) t.toNat l := unpackErr_ok h0
    have hno : (l < 0 ∨ manyOf base t ≤ l) → unpackErr base t l = 1 ∧ unpackOf base t l = [] := unpackErr_letter h0
    rw [h0] at htb
    rw [← hm] at hp36 hp1
    generalize manyOf base t = mo at *
    generalize radix base = k at *
    by_cases hl0 : l < 0
    · obtain ⟨e1, e2⟩ := hno (by omega)
      rw [e1, e2]
      repeat' (first | (with_reducible first | apply w1 | apply w2 | apply w3 | apply w4 | apply w5 | apply w6 | apply w7 | apply w8 | apply w9 | apply wa | apply wb | apply wc) | ((with_reducible apply wd); focus decide) | ((with_reducible apply we); focus exact rfl) | ((with_reducible apply wf); focus exact rfl) | ((first | (with_reducible apply SW_run tt_ok hG htb) | ((with_reducible apply SW_draw rfl tt_ok hG htb); (focus kernel_rfl); focus simp only [List.range, List.range.loop, List.size_toArray, List.length_cons, List.length_nil, Nat.reduceAdd])); focus ((repeat' (first | (with_reducible first | exact wg | exact wh) | ((with_reducible first | apply wi | apply wj); focus (simp (discharger := omega) only [go_sem, tErr, simprocAttr]; with_reducible rfl)))); done)))
      exact (by simp (discharger := omega) only [go_sem, tErr, simprocAttr])
    · by_cases hl1 : mo ≤ l
      · obtain ⟨e1, e2⟩ := hno (by omega)
        rw [e1, e2]
        repeat' (first | (with_reducible first | apply w1 | apply w2 | apply w3 | apply w4 | apply w5 | apply w6 | apply w7 | apply w8 | apply w9 | apply wa | apply wb | apply wc) | ((with_reducible apply wd); focus decide) | ((with_reducible apply we); focus exact rfl) | ((with_reducible apply wf); focus exact rfl) | ((first | (with_reducible apply SW_run tt_ok hG htb) | ((with_reducible apply SW_draw rfl tt_ok hG htb); (focus kernel_rfl); focus simp only [List.range, List.range.loop, List.size_toArray, List.length_cons, List.length_nil, Nat.reduceAdd])); focus ((repeat' (first | (with_reducible first | exact wg | exact wh) | ((with_reducible first | apply wi | apply wj); focus (simp (discharger := omega) only [go_sem, tErr, simprocAttr]; with_reducible rfl)))); done)))
        exact (by simp (discharger := omega) only [go_sem, tErr, simprocAttr])
      · obtain ⟨e1, e2⟩ := hok (by omega)
        rw [e1, e2]
        obtain ⟨t, rfl⟩ := Int.eq_ofNat_of_zero_le h2
        rw [Int.toNat_natCast] at *
        repeat' (first | (with_reducible first | apply w1 | apply w2 | apply w3 | apply w4 | apply w5 | apply w6 | apply w7 | apply w8 | apply w9 | apply wa | apply wb | apply wc) | ((with_reducible apply wd); focus decide) | ((with_reducible apply we); focus exact rfl) | ((with_reducible apply wf); focus exact rfl) | ((first | (with_reducible apply SW_run tt_ok hG htb) | ((with_reducible apply SW_draw rfl tt_ok hG htb); (focus kernel_rfl); focus simp only [List.range, List.range.loop, List.size_toArray, List.length_cons, List.length_nil, Nat.reduceAdd])); focus ((repeat' (first | (with_reducible first | exact wg | exact wh) | ((with_reducible first | apply wi | apply wj); focus (simp (discharger := omega) only [go_sem, tErr, simprocAttr]; with_reducible rfl)))); done)))
        refine SW_loop (fun m s => ∃ (j : Nat) (q : Int) (u : List Int) (ot : List T), m = t - j ∧ s = ⟨52, [(1, .t (tInt t)), (2, .t (tInt q)), (10, .t (tInt k)), (11, .sref 0), (34, .t (tInt t)), (35, .t (tInt j))], [.row 3 1 true ot]⟩ ∧ ot = (List.replicate (t - j) 0 ++ u).map tInt ∧ j ≤ t ∧ 0 ≤ q ∧ q ≤ 36 ∧ u.length = j ∧ unpack k t l = unpack k (t - j) q ++ u) t
          ⟨_, Norm.headS (own := [(11, 3, 1, true)]) (keep := [1, 2, 10, 11, 34, 35]) (by refine ⟨?_, ?_⟩; (simp (discharger := omega) only [go_sem, simprocAttr]; with_reducible rfl); refine ⟨?_, ?_, ?_, ?_⟩ <;> (simp only [go_sem, simprocAttr]; with_reducible rfl)), 0, l, [], _, rfl, rfl, by simp [tInt], Nat.zero_le _, by omega, by omega, rfl, by simp⟩ ?_
        rintro m s ⟨j, q, u, ot, rfl, rfl, hot, hj, q0, q36, hu, hU⟩
        have hol : ot.length = t := by rw [hot]; simp; omega
        by_cases hlt : j < t
        · have q1 : q.tmod k = q % k := by rw [Int.tmod_eq_emod_of_nonneg q0]
          have q2 : q.tdiv k = q / k := by rw [Int.tdiv_eq_ediv_of_nonneg q0]
          have q3 : 0 ≤ q / k := Int.ediv_nonneg q0 (by omega)
          have q4 : q / k ≤ q := Int.ediv_le_self _ q0
          obtain ⟨r, hr⟩ : ∃ r : Nat, t - j = r + 1 := ⟨t - j - 1, by omega⟩
          have hr' : (t : Int) - 1 - (j : Int) = (r : Nat) := by omega
          repeat' (first | (with_reducible first | apply w1 | apply w2 | apply w3 | apply w4 | apply w5 | apply w6 | apply w7 | apply w8 | apply w9 | apply wa | apply wb | apply wc) | ((with_reducible apply wd); focus decide) | ((with_reducible apply we); focus exact rfl) | ((with_reducible apply wf); focus exact rfl) | ((first | (with_reducible apply SW_run tt_ok hG htb) | ((with_reducible apply SW_draw rfl tt_ok hG htb); (focus kernel_rfl); focus simp only [List.range, List.range.loop, List.size_toArray, List.length_cons, List.length_nil, Nat.reduceAdd])); focus ((repeat' (first | (with_reducible first | exact wg | exact wh) | ((with_reducible first | apply wi | apply wj); focus (simp (discharger := omega) only [go_sem, q1, q2, hr', simprocAttr]; with_reducible rfl)))); done)))
          refine ⟨t - (j + 1), _, by omega, Norm.headS (own := [(11, 3, 1, true)]) (keep := [1, 2, 10, 11, 34, 35]) (by refine ⟨?_, ?_⟩; (simp (discharger := omega) only [go_sem, simprocAttr]; with_reducible rfl); refine ⟨?_, ?_, ?_, ?_⟩ <;> (simp only [go_sem, simprocAttr]; with_reducible rfl)), j + 1, q / k, (q % k) :: u, _, rfl, rfl, ?_, by omega, q3, by omega, by simp [hu], ?_⟩
          · have e : t - (j + 1) = r := by omega
            rw [hot, hr, e, List.replicate_succ', List.append_assoc, List.map_append, List.map_append, List.set_append_right _ _ (by simp)]
            simp [tInt]
          · have e : t - (j + 1) = r := by omega
            rw [hU, hr, e, unpack, List.append_assoc]; rfl
        · obtain rfl : j = t := by omega
          have : unpack k j l = u := by rw [hU]; simp [unpack]
          rw [this]
          rw [Nat.sub_self, List.replicate_zero, List.nil_append] at hot
          repeat' (first | (with_reducible first | apply w1 | apply w2 | apply w3 | apply w4 | apply w5 | apply w6 | apply w7 | apply w8 | apply w9 | apply wa | apply wb | apply wc) | ((with_reducible apply wd); focus decide) | ((with_reducible apply we); focus exact rfl) | ((with_reducible apply wf); focus exact rfl) | ((first | (with_reducible apply SW_run tt_ok hG htb) | ((with_reducible apply SW_draw rfl tt_ok hG htb); (focus kernel_rfl); focus simp only [List.range, List.range.loop, List.size_toArray, List.length_cons, List.length_nil, Nat.reduceAdd])); focus ((repeat' (first | (with_reducible first | exact wg | exact wh) | ((with_reducible first | apply wi | apply wj); focus (simp (discharger := omega) only [go_sem, simprocAttr]; with_reducible rfl)))); done)))
          exact (by simp (discharger := omega) only [go_sem, tErr, hot, simprocAttr])
  · obtain ⟨e1, e2⟩ := unpackErr_many (l := l) h0
    rw [e1, e2]
    generalize manyErr base t = e at *
    repeat' (first | (with_reducible first | apply w1 | apply w2 | apply w3 | apply w4 | apply w5 | apply w6 | apply w7 | apply w8 | apply w9 | apply wa | apply wb | apply wc) | ((with_reducible apply wd); focus decide) | ((with_reducible apply we); focus exact rfl) | ((with_reducible apply wf); focus exact rfl) | ((first | (with_reducible apply SW_run tt_ok hG htb) | ((with_reducible apply SW_draw rfl tt_ok hG htb); (focus kernel_rfl); focus simp only [List.range, List.range.loop, List.size_toArray, List.length_cons, List.length_nil, Nat.reduceAdd])); focus ((repeat' (first | (with_reducible first | exact wg | exact wh) | ((with_reducible first | apply wi | apply wj); focus (simp (discharger := omega) only [go_sem, tErr, h0, simprocAttr]; with_reducible rfl)))); done)))
    exact (by simp (discharger := omega) only [go_sem, tErr, h0, simprocAttr])
end
end Go.Proofs.YthcclcbliedodaaDoor
namespace Go.Proofs.YthcclcbliedodaaDoor
open Go.RowKit

section
variable {G : World → Prop} (hG : Lasting G)
include hG
set_option maxHeartbeats 16000000 in
set_option maxRecDepth 100000 in
theorem left_snd (a : GAuto) (track : Int) : Snd Tryd.prog G 50 [tAuto a, tInt track] (.tup [tAuto (leastOf a), tIntss (leftS a track), tIntss (leftR a track), tErr (leftErr a track)]) := by
  have c1 := Least_snd hG a
  refine sndH_of_body (κ := Nat) (n := 111) (tm := [(0, .t (tAuto a)), (1, .t (tInt track))]) (rs := [.cell 4 25, .tmp 5, .tmp 6, .tmp 7]) ttR_ok Tryd.func50 rfl rfl rfl rfl rfl ?_
  by_cases hf : autoFault a = 0
  rotate_left
  · have he : leftErr a track = autoFault a := if_pos hf
    have hb : leftBad a track := .inl hf
    have hS : leftS a track = [] := if_pos hb
    have hR : leftR a track = [] := if_pos hb
    have hl0 : leastOf a = GAuto.zero := if_neg hf
    rw [he, hS, hR, hl0]
    rw [hl0] at c1
    generalize autoFault a = e at *
    have htb := Tab.cons c1 Tab.nil
    repeat' (first | (with_reducible first | apply v1 | apply v2 | apply v3 | apply v4 | apply v5 | apply v6 | apply v7 | apply v8 | apply v9 | apply va | apply vb | apply vc) | ((with_reducible apply vd); focus decide) | ((with_reducible apply ve); focus exact rfl) | ((with_reducible apply vf); focus exact rfl) | ((first | (with_reducible apply HW_run ttR_ok hG htb) | ((with_reducible apply HW_draw rfl ttR_ok hG htb); (focus kernel_rfl); focus simp only [List.range, List.range.loop, List.size_toArray, List.length_cons, List.length_nil, Nat.reduceAdd])); focus ((repeat' (first | (with_reducible first | exact wg | exact wh) | ((with_reducible first | apply wi | apply wj); focus (simp (discharger := omega) only [go_sem, tAuto, tErr, hf, simprocAttr]; with_reducible rfl)))); done)))
    exact (by simp (discharger := omega) only [go_sem, tAuto, tErr, hf, GAuto.zero, simprocAttr])
  have hlA : leastOf a = leastA a := if_pos hf
  have g0 := good_of hf
  obtain ⟨_, _, gM⟩ := least_again g0
  obtain ⟨M, hM⟩ : ∃ M, leastA a = M := ⟨_, rfl⟩
  rw [hlA, hf, hM] at c1
  rw [hlA, hM]
  rw [hM] at gM
  by_cases hk0 : track < 0
  · have hb : leftBad a track := .inr (.inl hk0)
    have hS : leftS a track = [] := if_pos hb
    have hR : leftR a track = [] := if_pos hb
    have he : leftErr a track = 1 := by unfold leftErr; rw [if_neg (fun q => q hf), if_pos (.inl hk0)]
    rw [hS, hR, he]
    have htb := Tab.cons c1 Tab.nil
    repeat' (first | (with_reducible first | apply v1 | apply v2 | apply v3 | apply v4 | apply v5 | apply v6 | apply v7 | apply v8 | apply v9 | apply va | apply vb | apply vc) | ((with_reducible apply vd); focus decide) | ((with_reducible apply ve); focus exact rfl) | ((with_reducible apply vf); focus exact rfl) | ((first | (with_reducible apply HW_run ttR_ok hG htb) | ((with_reducible apply HW_draw rfl ttR_ok hG htb); (focus kernel_rfl); focus simp only [List.range, List.range.loop, List.size_toArray, List.length_cons, List.length_nil, Nat.reduceAdd])); focus ((repeat' (first | (with_reducible first | exact wg | exact wh) | ((with_reducible first | apply wi | apply wj); focus (simp (discharger := omega) only [go_sem, tErr0, tAuto, simprocAttr]; with_reducible rfl)))); done)))
    exact (by simp (discharger := omega) only [go_sem, tAuto, tErr, simprocAttr])
  by_cases hkt : a.tracks ≤ track
  · have hb : leftBad a track := .inr (.inr hkt)
    have hS : leftS a track = [] := if_pos hb
    have hR : leftR a track = [] := if_pos hb
    have he : leftErr a track = 1 := by unfold leftErr; rw [if_neg (fun q => q hf), if_pos (.inr hkt)]
    rw [hS, hR, he]
    have htb := Tab.cons c1 Tab.nil
    repeat' (first | (with_reducible first | apply v1 | apply v2 | apply v3 | apply v4 | apply v5 | apply v6 | apply v7 | apply v8 | apply v9 | apply va | apply vb | apply vc) | ((with_reducible apply vd); focus decide) | ((with_reducible apply ve); focus exact rfl) | ((with_reducible apply vf); focus exact rfl) | ((first | (with_reducible apply HW_run ttR_ok hG htb) | ((with_reducible apply HW_draw rfl ttR_ok hG htb); (focus kernel_rfl); focus simp only [List.range, List.range.loop, List.size_toArray, List.length_cons, List.length_nil, Nat.reduceAdd])); focus ((repeat' (first | (with_reducible first | exact wg | exact wh) | ((with_reducible first | apply wi | apply wj); focus (simp (discharger := omega) only [go_sem, tErr0, tAuto, simprocAttr]; with_reducible rfl)))); done)))
    exact (by simp (discharger := omega) only [go_sem, tAuto, tErr, simprocAttr])
  obtain ⟨k, rfl⟩ : ∃ k : Nat, track = (k : Int) := ⟨track.toNat, by omega⟩
  obtain ⟨t, N, r, ok⟩ := left_ok hf (by omega : (k : Int) < a.tracks)
  have hb : ¬ leftBad a (k : Int) := fun q => by
    rcases q with q | q | q
    · exact q hf
    · omega
    · omega
  have hS : leftS a (k : Int) = _ := if_neg hb
  have hR : leftR a (k : Int) = _ := if_neg hb
  have htt : a.tracks - 1 = ((t : Nat) : Int) := by have := ok.tr; omega
  have hW : leftW a (k : Int) = withW a.base t k := by unfold leftW; rw [htt]; rfl
  have hNe : leftN a = N := by unfold leftN; rw [htt, Int.toNat_natCast, ok.nWe, Int.toNat_natCast]
  have hFe : leftF a (k : Int) = closeL M ((withW a.base t k)[0]!) := by unfold leftF; rw [hW, hM]
  rw [hS, hR, hM, hNe, hFe, hW]
  have c2 := Many_snd hG a.base (t : Int)
  rw [ok.many, ok.nWe] at c2
  have c3 := Radix_snd hG a.base
  rw [ok.rad] at c3
  have htr := ok.tr
  have ht4 := ok.t4
  have hkt2 := ok.kt
  have hN36 := ok.nW36
  have hN0 := ok.nW0
  have hr2 := ok.r2
  have hr6 := ok.r6
  have h1 : ¬ (a.tracks ≤ (k : Int)) := hkt
  have htb := Tab.cons c1 (Tab.cons c2 Tab.nil)
  repeat' (first | (with_reducible first | apply v1 | apply v2 | apply v3 | apply v4 | apply v5 | apply v6 | apply v7 | apply v8 | apply v9 | apply va | apply vb | apply vc) | ((with_reducible apply vd); focus decide) | ((with_reducible apply ve); focus exact rfl) | ((with_reducible apply vf); focus exact rfl) | ((first | (with_reducible apply HW_run ttR_ok hG htb) | ((with_reducible apply HW_draw rfl ttR_ok hG htb); (focus kernel_rfl); focus simp only [List.range, List.range.loop, List.size_toArray, List.length_cons, List.length_nil, Nat.reduceAdd])); focus ((repeat' (first | (with_reducible first | exact wg | exact wh) | ((with_reducible first | apply wi | apply wj); focus (simp (discharger := omega) only [go_sem, tErr0, tAuto, htt, simprocAttr]; with_reducible rfl)))); done)))
  clear htb
  have htb := Tab.cons c3 Tab.nil
  refine HW_norm (Norm.headS (own := []) (keep := [1, 2, 4, 7, 8, 10, 48, 49]) (by refine ⟨?_, ?_⟩; (simp (discharger := omega) only [go_sem, simprocAttr]; with_reducible rfl); refine ⟨?_, ?_, ?_, ?_⟩ <;> (simp only [go_sem, simprocAttr]; with_reducible rfl))) ?_
  refine HW_norm (Norm.fixBox 0 rfl rfl) ?_
  refine HW_norm (Norm.tr 2 rfl rfl) ?_
  refine HW_loop (fun mm st g => ∃ (l : Nat) (ws : List T), mm = N - l ∧ st = ⟨111, [(1, .t (tNat k)), (2, .t (autoP a)), (4, .bptr 0 0), (7, .t .nilI), (8, .t (tNat N)), (10, .bptr 1 0), (48, .t (tNat N)), (49, .t (tNat l))], [.box [.t (tInt M.base), .t (tInt M.tracks), .t (tIntss M.next), .t (tBools M.ends)], .box [.sref 2], .row 35 1 true ws]⟩ ∧ l ≤ N ∧ HdrInv g ws N (fun j => if j < l then withR a.base t k j else [])) N
    ⟨_, Norm.headS (own := []) (keep := [1, 2, 4, 7, 8, 10, 48, 49]) (by refine ⟨?_, ?_⟩; (simp (discharger := omega) only [go_sem, simprocAttr]; with_reducible rfl); refine ⟨?_, ?_, ?_, ?_⟩ <;> (simp only [go_sem, simprocAttr]; with_reducible rfl)), 0, _, rfl, rfl, Nat.zero_le _, (HdrInv.init N).congr fun j hj => by rw [if_neg (by omega)]⟩ ?_
  rintro mm st g ⟨l, ws, rfl, rfl, hl, hinv⟩
  have hwl : ws.length = N := hinv.1
  by_cases hlt : l < N
  · have c4 := Unpack_snd hG a.base (t : Int) (l : Int)
    obtain ⟨u1, u2⟩ := unpackErr_ok (base := a.base) (t := (t : Int)) (l := (l : Int)) ok.many (by rw [ok.nWe]; omega)
    rw [u1, u2, Int.toNat_natCast] at c4
    obtain ⟨d, hd⟩ : ∃ d, unpack (radix a.base) t (l : Int) = d := ⟨_, rfl⟩
    rw [hd] at c4
    have hdl : d.length = t := by rw [← hd]; exact unpack_length _ _ _
    clear htb
    have htb := Tab.cons c4 (Tab.cons c3 Tab.nil)
    repeat' (first | (with_reducible first | apply v1 | apply v2 | apply v3 | apply v4 | apply v5 | apply v6 | apply v7 | apply v8 | apply v9 | apply va | apply vb | apply vc) | ((with_reducible apply vd); focus decide) | ((with_reducible apply ve); focus exact rfl) | ((with_reducible apply vf); focus exact rfl) | ((first | (with_reducible apply HW_run ttR_ok hG htb) | ((with_reducible apply HW_draw rfl ttR_ok hG htb); (focus kernel_rfl); focus simp only [List.range, List.range.loop, List.size_toArray, List.length_cons, List.length_nil, Nat.reduceAdd])); focus ((repeat' (first | (with_reducible first | exact wg | exact wh) | ((with_reducible first | apply wi | apply wj); focus (simp (discharger := omega) only [go_sem, tErr0, autoP, htt, simprocAttr]; with_reducible rfl)))); done)))
    refine HW_loop (fun mm st g => ∃ (x : Nat) (ws : List T), mm = r - x ∧ st = ⟨111, [(1, .t (tNat k)), (2, .t (autoP a)), (4, .bptr 0 0), (7, .t .nilI), (8, .t (tNat N)), (10, .bptr 1 0), (11, .t (tNat l)), (12, .t (tInts d)), (48, .t (tNat N)), (49, .t (tNat l)), (64, .t (tNat r)), (65, .t (tNat x))], [.box [.t (tInt M.base), .t (tInt M.tracks), .t (tIntss M.next), .t (tBools M.ends)], .box [.sref 2], .row 35 1 true ws]⟩ ∧ x ≤ r ∧ HdrInv g ws N (fun j => if j < l then withR a.base t k j else if j = l then (withR a.base t k l).take x else [])) r
      ⟨_, Norm.headS (own := []) (keep := [1, 2, 4, 7, 8, 10, 11, 12, 48, 49, 64, 65]) (by refine ⟨?_, ?_⟩; (simp (discharger := omega) only [go_sem, simprocAttr]; with_reducible rfl); refine ⟨?_, ?_, ?_, ?_⟩ <;> (simp only [go_sem, simprocAttr]; with_reducible rfl)), 0, _, rfl, rfl, Nat.zero_le _, hinv.congr fun j hj => by
        by_cases h : j < l
        · rw [if_pos h, if_pos h]
        · rw [if_neg h, if_neg h, List.take_zero]; simp⟩ ?_
    rintro mm st g ⟨x, ws, rfl, rfl, hx, hinv⟩
    have hwl : ws.length = N := hinv.1
    by_cases hxr : x < r
    · obtain ⟨y, hy⟩ : ∃ y, insL d k (x : Int) = y := ⟨_, rfl⟩
      have hyf : y = fixD a.base t k (x : Int) l := by rw [← hy]; unfold insL fixD; rw [hd]
      have hyl : y.length = t + 1 := by rw [← hy, insL_length (by omega), hdl]
      obtain ⟨v, hv⟩ : ∃ v, fixL a.base t k (x : Int) l = v := ⟨_, rfl⟩
      have c5 := Pack_snd hG a.base y
      have hrr := ok.rad
      obtain ⟨p1, p2⟩ := packErr_ok (base := a.base) (d := y) (by rw [hyl, ← ok.tr]; exact ok.good.many) (by rw [hyf]; exact fixD_ok (by omega) (by omega) l)
      have p3 : pack (radix a.base) y = v := by rw [hyf]; exact hv
      rw [p1, p2, p3] at c5
      have c6 := Clone_snd (G := G) d (by omega)
      have c7 := Insert_snd (G := G) d k (x : Int) (by omega) (by omega)
      rw [hy] at c7
      clear htb
      have htb := Tab.cons c5 Tab.nil
      repeat' (first | (with_reducible first | apply v1 | apply v2 | apply v3 | apply v4 | apply v5 | apply v6 | apply v7 | apply v8 | apply v9 | apply va | apply vb | apply vc) | ((with_reducible apply vd); focus decide) | ((with_reducible apply ve); focus exact rfl) | ((with_reducible apply vf); focus exact rfl) | ((first | (with_reducible apply HW_run ttR_ok hG htb) | ((with_reducible apply HW_draw rfl ttR_ok hG htb); (focus kernel_rfl); focus simp only [List.range, List.range.loop, List.size_toArray, List.length_cons, List.length_nil, Nat.reduceAdd])); focus ((repeat' (first | (with_reducible first | exact wg | exact wh) | ((with_reducible first | apply wi | apply wj); focus (simp (discharger := omega) only [go_sem, simprocAttr]; with_reducible rfl)))); done)))
      refine HW_norm (Norm.headS (own := []) (keep := [1, 2, 4, 7, 8, 10, 11, 12, 14, 48, 49, 64, 65]) (by refine ⟨?_, ?_⟩; (simp (discharger := omega) only [go_sem, simprocAttr]; with_reducible rfl); refine ⟨?_, ?_, ?_, ?_⟩ <;> (simp only [go_sem, simprocAttr]; with_reducible rfl))) ?_
      refine HW_sw ?_
      refine SW_drawS (fun q => if q = 3 then some ⟨[.box [.t (tInt M.base), .t (tInt M.tracks), .t (tIntss M.next), .t (tBools M.ends)], .box [.sref 2], .row 35 1 true ws], [.t (.fn 67 []), .t (tInts d)], [.box [.t (tInt M.base), .t (tInt M.tracks), .t (tIntss M.next), .t (tBools M.ends)], .box [.sref 2], .row 35 1 true ws, .row 3 1 true (iL d)], .sref 3, pastG [] []⟩ else if q = 7 then some ⟨[.box [.t (tInt M.base), .t (tInt M.tracks), .t (tIntss M.next), .t (tBools M.ends)], .box [.sref 2], .row 35 1 true ws, .row 3 1 true (iL d)], [.t (.fn 66 []), .sref 3, .t (tNat k), .lit [tInt (x : Int)]], [.froz (iL y), .box [.t (tInt M.base), .t (tInt M.tracks), .t (tIntss M.next), .t (tBools M.ends)], .box [.sref 3], .row 35 1 true ws], .t (tInts y), fun i => (posIn [3, 0, 1, 2] i).bind (pastG [.row 3 1 true (iL d)] [])⟩ else none) [3, 7] rfl ttR_ok hG htb (t := ?zt) ?topo ?hlk ?hok ?run ?rest
      case topo => kernel_rfl
      case hlk =>
        intro q L h
        by_cases h3 : q = 3
        · subst h3; simp
        · by_cases h7 : q = 7
          · subst h7; simp
          · simp [h3, h7] at h
      case hok =>
        intro q L o hL ho
        by_cases h3 : q = 3
        · subst h3
          rw [if_pos rfl] at hL
          cases hL
          cases ho
          exact LoudOk.call (asl := [.t (tInts d)]) (obs := []) (rst := [.box [.t (tInt M.base), .t (tInt M.tracks), .t (tIntss M.next), .t (tBools M.ends)], .box [.sref 2], .row 35 1 true ws]) (ks := []) (cap := []) rfl rfl rfl c6 rfl rfl
        · rw [if_neg h3] at hL
          by_cases h7 : q = 7
          · subst h7
            rw [if_pos rfl] at hL
            cases hL
            cases ho
            refine LoudOk.perm [3, 0, 1, 2] rfl (LoudOk.call (asl := [.sref 0, .t (tNat k), .lit [tInt (x : Int)]]) (obs := [.row 3 1 true (iL d)]) (rst := [.box [.t (tInt M.base), .t (tInt M.tracks), .t (tIntss M.next), .t (tBools M.ends)], .box [.sref 3], .row 35 1 true ws]) (ks := []) (cap := []) rfl rfl rfl c7 rfl rfl) rfl rfl ?_
            intro v hv
            simp [Op.operands, Call.operands] at hv
          · rw [if_neg h7] at hL
            cases hL
      case run =>
        (simp only [List.range, List.range.loop, List.size_toArray, List.length_cons, List.length_nil, Nat.reduceAdd]; repeat' (first | (with_reducible exact runA_nil) | ((with_reducible apply runA_cons); focus (first | (apply stepS_quietE rfl rfl rfl rfl; (focus (intro H; simp (discharger := omega) only [go_sem, autoP, tErr0, simprocAttr]; with_reducible rfl)); (focus rfl); (focus rfl); (focus (simp only [go_sem, simprocAttr]; with_reducible rfl))) | (apply stepS_loud rfl rfl rfl rfl rfl rfl; (focus (simp only [go_sem, loudSt, St.put, List.map_cons, List.map_nil, SV.ren, renL, pastG, posIn, Option.bind, List.getElem?_cons_zero, List.getElem?_cons_succ, List.getElem?_nil, simprocAttr]; with_reducible rfl)))))))
      case rest =>
        refine HThen_n ?_
        refine HW_norm (Norm.headS (own := []) (keep := [1, 2, 4, 7, 8, 10, 11, 12, 15, 48, 49, 64, 65]) (by refine ⟨?_, ?_⟩; (simp (discharger := omega) only [go_sem, simprocAttr]; with_reducible rfl); refine ⟨?_, ?_, ?_, ?_⟩ <;> (simp only [go_sem, simprocAttr]; with_reducible rfl))) ?_
        obtain ⟨sv, hsv⟩ : ∃ sv, ws[l]! = sv := ⟨_, rfl⟩
        have hhd := hinv.2 l hlt
        dsimp only at hhd
        rw [if_neg (by omega), if_pos rfl, hsv] at hhd
        obtain ⟨ra, rn, rc, rfl⟩ : ∃ ra rn rc, sv = .raw ra rn rc := by rcases hhd with ⟨_, _, h⟩ | ⟨q, _, _, _, _, h⟩ <;> exact ⟨_, _, _, h⟩
        have hcl : ((withR a.base t k l).take x).length ≤ 6 := by rw [List.length_take]; omega
        refine HW_drawH (A := ⟨8, .tmp 85, .tmp 87, .raw ra rn rc, [tInt v], l, 3, 1, iL ((withR a.base t k l).take x), g⟩) 10 rfl ttR_ok hG htb ?topo (t := 35) (i := ⟨.slice 3, 1, 24, [.t (.raw none 0 0)], false⟩) (ie := ⟨.int .i64, 1, 8, [.t (.int .i64 0)], false⟩) ⟨_, rfl, rfl, rfl⟩ rfl rfl (by show ttR 3 = _; rfl) rfl hhd rfl rfl ?hb ?hm rfl ?run2
        case topo => kernel_rfl
        case hb =>
          simp only [iL_length, List.length_cons, List.length_nil]
          show _ * 8 ≤ _
          omega
        case hm =>
          simp only [iL_length, List.length_cons, List.length_nil]
          unfold maxLen
          omega
        case run2 =>
          intro c
          have hst := hinv.step hlt v c (cont' := fun j => if j < l then withR a.base t k j else if j = l then (withR a.base t k l).take (x + 1) else []) (by rw [if_neg (by omega), if_pos rfl, if_neg (by omega), if_pos rfl, withR_take ok.rad hxr, hv]) (fun j h1 h2 => by
            by_cases h : j < l
            · rw [if_pos h, if_pos h]
            · rw [if_neg h, if_neg h, if_neg h1, if_neg h1])
          rw [if_neg (by omega), if_pos rfl] at hst
          refine ⟨?t2, ?r1, ?r2⟩
          case r1 =>
            (simp only [List.range, List.range.loop, List.size_toArray, List.length_cons, List.length_nil, Nat.reduceAdd]; repeat' (first | (with_reducible exact runA_nil) | ((with_reducible apply runA_cons); focus (first | (apply stepH_q rfl (by simp) (by simp) rfl rfl; (focus (simp (discharger := omega) only [go_sem, hsv, simprocAttr]; with_reducible rfl)); (focus (simp only [go_sem, simprocAttr]; with_reducible rfl))) | (apply stepH_a rfl rfl rfl rfl rfl rfl rfl; (focus (simp only [go_sem, simprocAttr]; with_reducible rfl))) | (apply stepH_l rfl (by simp) rfl; (focus (simp (discharger := omega) only [go_sem, hsv, simprocAttr]; with_reducible rfl)))))))
          case r2 =>
            dsimp only
            repeat' (first | (with_reducible first | apply v1 | apply v2 | apply v3 | apply v4 | apply v5 | apply v6 | apply v7 | apply v8 | apply v9 | apply va | apply vb | apply vc) | ((with_reducible apply vd); focus decide) | ((with_reducible apply ve); focus exact rfl) | ((with_reducible apply vf); focus exact rfl) | ((first | (with_reducible apply HW_run ttR_ok hG htb) | ((with_reducible apply HW_draw rfl ttR_ok hG htb); (focus kernel_rfl); focus simp only [List.range, List.range.loop, List.size_toArray, List.length_cons, List.length_nil, Nat.reduceAdd])); focus ((repeat' (first | (with_reducible first | exact wg | exact wh) | ((with_reducible first | apply wi | apply wj); focus (simp (discharger := omega) only [go_sem, simprocAttr]; with_reducible rfl)))); done)))
            exact ⟨r - (x + 1), _, by omega, Norm.headS (own := []) (keep := [1, 2, 4, 7, 8, 10, 11, 12, 48, 49, 64, 65]) (by refine ⟨?_, ?_⟩; (simp (discharger := omega) only [go_sem, simprocAttr]; with_reducible rfl); refine ⟨?_, ?_, ?_, ?_⟩ <;> (simp only [go_sem, simprocAttr]; with_reducible rfl)), x + 1, _, rfl, rfl, by omega, hst⟩
    · obtain rfl : x = r := by omega
      have htk : (withR a.base t k l).take x = withR a.base t k l := List.take_of_length_le (by rw [withR_len ok.rad]; exact Nat.le_refl _)
      repeat' (first | (with_reducible first | apply v1 | apply v2 | apply v3 | apply v4 | apply v5 | apply v6 | apply v7 | apply v8 | apply v9 | apply va | apply vb | apply vc) | ((with_reducible apply vd); focus decide) | ((with_reducible apply ve); focus exact rfl) | ((with_reducible apply vf); focus exact rfl) | ((first | (with_reducible apply HW_run ttR_ok hG htb) | ((with_reducible apply HW_draw rfl ttR_ok hG htb); (focus kernel_rfl); focus simp only [List.range, List.range.loop, List.size_toArray, List.length_cons, List.length_nil, Nat.reduceAdd])); focus ((repeat' (first | (with_reducible first | exact wg | exact wh) | ((with_reducible first | apply wi | apply wj); focus (simp (discharger := omega) only [go_sem, simprocAttr]; with_reducible rfl)))); done)))
      exact ⟨N - (l + 1), _, by omega, Norm.headS (own := []) (keep := [1, 2, 4, 7, 8, 10, 48, 49]) (by refine ⟨?_, ?_⟩; (simp (discharger := omega) only [go_sem, simprocAttr]; with_reducible rfl); refine ⟨?_, ?_, ?_, ?_⟩ <;> (simp only [go_sem, simprocAttr]; with_reducible rfl)), l + 1, _, rfl, rfl, by omega, hinv.congr fun j hj => by
        by_cases h : j < l
        · rw [if_pos (by omega), if_pos h]
        · by_cases h' : j = l
          · subst h'
            rw [if_pos (by omega), if_neg h, if_pos rfl, htk]
          · rw [if_neg (by omega), if_neg h, if_neg h']⟩
  · obtain rfl : l = N := by omega
    have hWl := withW_len ok
    obtain ⟨W, hWe⟩ : ∃ W, withW a.base t k = W := ⟨_, rfl⟩
    rw [hWe] at hWl
    have hWg : ∀ j, j < l → W[j]! = withR a.base t k j := fun j hj => by
      have := withW_get ok hj
      rw [hWe] at this
      obtain ⟨q1, q2⟩ := List.getElem?_eq_some_iff.1 this
      rw [getElem!_pos W j q1, q2]
    have hWr : ∀ w ∈ W, w.length = r ∧ ∀ x ∈ w, 0 ≤ x ∧ x < ((manyOf a.base a.tracks).toNat : Int) := fun w hw => by
      rw [← hWe] at hw
      unfold withW at hw
      obtain ⟨j, _, rfl⟩ := List.mem_map.1 hw
      exact ⟨withR_len ok.rad, withR_bd ok j⟩
    obtain ⟨o1, o2⟩ := (hinv.congr (cont' := fun j => W[j]!) (fun j hj => by rw [if_pos hj]; exact hWg j hj)).opens hWl (fun w hw e => by have := (hWr w hw).1; rw [e] at this; simp at this; omega)
    rw [hWe]
    refine HW_seq ?_
    repeat' (first | (with_reducible first | apply v2 | apply v3 | apply v4 | apply v5 | apply v6 | apply v7 | apply v8 | apply v9 | apply va | apply vb | apply vc) | ((with_reducible apply vd); focus decide) | ((with_reducible apply ve); focus exact rfl) | ((with_reducible apply vf); focus exact rfl) | ((first | (with_reducible apply HW_run ttR_ok hG htb) | ((with_reducible apply HW_draw rfl ttR_ok hG htb); (focus kernel_rfl); focus simp only [List.range, List.range.loop, List.size_toArray, List.length_cons, List.length_nil, Nat.reduceAdd])); focus ((repeat' (first | (with_reducible first | exact wg | exact wh) | ((with_reducible first | apply wi | apply wj); focus (simp (discharger := omega) only [go_sem, simprocAttr]; with_reducible rfl)))); done)))
    refine HW_seq ?_
    repeat' (first | (with_reducible first | apply v2 | apply v3 | apply v4 | apply v5 | apply v6 | apply v7 | apply v8 | apply v9 | apply va | apply vb | apply vc) | ((with_reducible apply vd); focus decide) | ((with_reducible apply ve); focus exact rfl) | ((with_reducible apply vf); focus exact rfl) | ((first | (with_reducible apply HW_run ttR_ok hG htb) | ((with_reducible apply HW_draw rfl ttR_ok hG htb); (focus kernel_rfl); focus simp only [List.range, List.range.loop, List.size_toArray, List.length_cons, List.length_nil, Nat.reduceAdd])); focus ((repeat' (first | (with_reducible first | exact wg | exact wh) | ((with_reducible first | apply wi | apply wj); focus (simp (discharger := omega) only [go_sem, simprocAttr]; with_reducible rfl)))); done)))
    refine HW_norm (Norm.headS (own := []) (keep := [1, 2, 4, 7, 8, 10]) (by refine ⟨?_, ?_⟩; (simp (discharger := omega) only [go_sem, simprocAttr]; with_reducible rfl); refine ⟨?_, ?_, ?_, ?_⟩ <;> (simp only [go_sem, simprocAttr]; with_reducible rfl))) ?_
    refine HW_open (κ' := Nat) (by exact GS_openRow (st := ⟨111, [(1, .t (tNat k)), (2, .t (autoP a)), (4, .bptr 0 0), (7, .t .nilI), (8, .t (tNat l)), (10, .bptr 1 0)], [.box [.t (tInt M.base), .t (tInt M.tracks), .t (tIntss M.next), .t (tBools M.ends)], .box [.sref 2], .row 35 1 true ws]⟩) (j := 2) (W.map tInts) rfl o1 o2) ?_
    clear o1 o2 hinv htb
    have htb : Tab.ok Tryd.prog G [] := Tab.nil
    refine SW_norm (Norm.frzRow 2 rfl) ?_
    refine SW_norm (Norm.trB 1 0 rfl rfl rfl) ?_
    refine SW_norm (Norm.fixBox 1 rfl rfl) ?_
    refine SW_norm (Norm.tr 10 rfl rfl) ?_
    refine SW_norm (Norm.headS (own := []) (keep := [1, 2, 4, 7, 8, 10]) (by refine ⟨?_, ?_⟩; (simp (discharger := omega) only [go_sem, simprocAttr]; with_reducible rfl); refine ⟨?_, ?_, ?_, ?_⟩ <;> (simp only [go_sem, simprocAttr]; with_reducible rfl))) ?_
    obtain ⟨w0, hw0⟩ : ∃ w0, W[0]! = w0 := ⟨_, rfl⟩
    have hw0W := bang_mem hw0 (by omega)
    have gMr := gM.rows
    have hm0 := gM.m0
    have hm80 := gM.m80
    obtain ⟨m, hm⟩ : ∃ m, M.next.length = m := ⟨_, rfl⟩
    rw [hm] at gMr hm0 hm80
    have c8 := closure_snd hG gMr hm0 hm80 (letters := w0) (hWr w0 hw0W).2
    have hIm : Inm m (closeL M w0) := close_in gMr hm0 (hWr w0 hw0W).2 _
    have hIl : (closeL M w0).length ≤ m := close_len gMr hm0 (hWr w0 hw0W).2 _
    have hWb : ∀ j, j < l → (W[j]!).length ≤ 6 := fun j hj => by
      have := (hWr _ (bang_mem (i := j) rfl (by omega))).1
      omega
    have c9 := GrowN_snd hG hm80 (closeL M w0) l 68 (.ptr [tIntss W]) (tInt M.base) (tInt M.tracks) (tIntss M.next) (tBools M.ends) (stepW M.next W) hIm (by omega) hN36 (fun s j hs hj => stepW_in gMr (fun q hq => (hWr q hq).2) hs (by omega)) (fun s j hs ha hj => by
      have := inm_len hs ha
      have h2 := stepW_len (next := M.next) (s := s) (hWb j hj)
      have h3 : s.length * 6 ≤ 80 * 6 := Nat.mul_le_mul_right _ (by omega)
      omega) (fun s j hs ha hj => LeftStep_snd hG gMr (fun q hq => ⟨by have := (hWr q hq).1; omega, (hWr q hq).2⟩) s hs (by have := inm_len hs ha; omega) j (by omega))
    rw [hw0]
    obtain ⟨R, hR⟩ : ∃ R, iL (closeL M w0) = R := ⟨_, rfl⟩
    rw [hR] at c8 c9
    obtain ⟨S, hS⟩ : ∃ S, growSets (stepW M.next W) l (closeL M w0) = S := ⟨_, rfl⟩
    obtain ⟨D, hD⟩ : ∃ D, growRows (stepW M.next W) l (closeL M w0) = D := ⟨_, rfl⟩
    obtain ⟨gk, hgk⟩ : ∃ gk, growOk (stepW M.next W) l (closeL M w0) = gk := ⟨_, rfl⟩
    rw [hS, hD, hgk] at c9
    rw [hS, hD]
    have hoke : leftOk a (k : Int) = gk := by unfold leftOk; rw [hM, hNe, hFe, hW, hWe, hw0]; exact hgk
    have hWlen : 0 < W.length := by omega
    show SW _ _ _ _ ⟨111, [(1, .t (tNat k)), (2, .t (autoP a)), (4, .bptr 0 0), (7, .t .nilI), (8, .t (tNat l)), (10, .t (.ptr [tIntss W]))], [.box [.t (tInt M.base), .t (tInt M.tracks), .t (tIntss M.next), .t (tBools M.ends)]]⟩
    refine SW_seq ?_
    refine SW_drawM (fun q => if q = 4 then some ⟨[.box [.t (tInt M.base), .t (tInt M.tracks), .t (tIntss M.next), .t (tBools M.ends)]], [.t (.fn 47 []), .t (tAuto M), .t (tInts w0)], [.box [.t (tInt M.base), .t (tInt M.tracks), .t (tIntss M.next), .t (tBools M.ends)], .row 3 1 true R], .sref 1, pastG [] []⟩ else if q = 7 then some ⟨[.box [.t (tInt M.base), .t (tInt M.tracks), .t (tIntss M.next), .t (tBools M.ends)], .row 3 1 true R], [.t (.fn 46 []), .sref 1, .t (tNat l), .fn 68 [.t (.ptr [tIntss W]), .bptr 0 0]], [.hole, .box [.t (tInt M.base), .t (tInt M.tracks), .t (tIntss M.next), .t (tBools M.ends)], .box [.t (tIntss S)]], .t (.tup [tIntss S, tIntss D, .bool gk]), fun i => (posIn [1, 0] i).bind (pastG [.row 3 1 true R, .box [.t (tInt M.base), .t (tInt M.tracks), .t (tIntss M.next), .t (tBools M.ends)]] [])⟩ else none) [4, 7] [4] [0] rfl ttR_ok hG htb (t := ?zt3) ?topo3 ?hlk3 ?hml3 ?hok3 ?run3 ?rest3
    case topo3 => kernel_rfl
    case hlk3 =>
      intro q L h
      by_cases h4 : q = 4
      · subst h4; simp
      · by_cases h7 : q = 7
        · subst h7; simp
        · simp [h4, h7] at h
    case hml3 =>
      intro q L h h4
      obtain rfl : q = 4 := by simpa using h4
      rw [if_pos rfl] at h
      cases h
      exact past_none
    case hok3 =>
      intro q L o hL ho
      by_cases h4 : q = 4
      · subst h4
        rw [if_pos rfl] at hL
        cases hL
        cases ho
        exact LoudOk.call (asl := [.t (tAuto M), .t (tInts w0)]) (obs := []) (rst := [.box [.t (tInt M.base), .t (tInt M.tracks), .t (tIntss M.next), .t (tBools M.ends)]]) (ks := []) (cap := []) rfl rfl rfl c8 rfl rfl
      · rw [if_neg h4] at hL
        by_cases h7 : q = 7
        · subst h7
          rw [if_pos rfl] at hL
          cases hL
          cases ho
          refine LoudOk.perm [1, 0] rfl (LoudOk.call (asl := [.sref 0, .t (tNat l), .fn 68 [.t (.ptr [tIntss W]), .bptr 1 0]]) (obs := [.row 3 1 true R, .box [.t (tInt M.base), .t (tInt M.tracks), .t (tIntss M.next), .t (tBools M.ends)]]) (rst := []) (ks := []) (cap := []) rfl rfl rfl c9 rfl rfl) rfl rfl ?_
          intro v hv
          simp [Op.operands, Call.operands] at hv
        · rw [if_neg h7] at hL
          cases hL
    case run3 =>
      (simp only [List.range, List.range.loop, List.size_toArray, List.length_cons, List.length_nil, Nat.reduceAdd]; repeat' (first | (with_reducible exact runA_nil) | ((with_reducible apply runA_cons); focus (first | (apply stepM_quiet rfl rfl rfl rfl; (focus (intro H; simp (discharger := omega) only [go_sem, tAuto, hw0, simprocAttr]; with_reducible rfl)); (focus (simp only [go_sem, simprocAttr]; with_reducible rfl))) | (apply stepM_own rfl rfl (by decide) rfl rfl; (focus (simp (discharger := omega) only [go_sem, tAuto, hw0, simprocAttr]; with_reducible rfl)); (focus (simp only [go_sem, simprocAttr]; with_reducible rfl))) | (apply stepM_loud rfl rfl rfl rfl rfl rfl; (focus (simp only [go_sem, loudSt, St.put, List.map_cons, List.map_nil, SV.ren, renL, pastG, posIn, Option.bind, List.getElem?_cons_zero, List.getElem?_cons_succ, List.getElem?_nil, simprocAttr]; with_reducible rfl)))))))
    case rest3 =>
      cases gk with
      | false =>
        have he : leftErr a (k : Int) = 3 := by unfold leftErr; rw [if_neg (fun q => q hf), if_neg (by omega), if_pos hoke]
        have hS0 : S = [] := by rw [← hS]; unfold growSets; rw [if_neg (by rw [hgk]; decide)]
        have hD0 : D = [] := by rw [← hD]; unfold growRows; rw [if_neg (by rw [hgk]; decide)]
        rw [he, hS0, hD0]
        repeat' (first | (with_reducible first | apply w1 | apply w2 | apply w3 | apply w4 | apply w5 | apply w6 | apply w7 | apply w8 | apply w9 | apply wa | apply wb | apply wc) | ((with_reducible apply wd); focus decide) | ((with_reducible apply we); focus exact rfl) | ((with_reducible apply wf); focus exact rfl) | ((first | (with_reducible apply SW_run tt_ok hG htb) | ((with_reducible apply SW_draw rfl tt_ok hG htb); (focus kernel_rfl); focus simp only [List.range, List.range.loop, List.size_toArray, List.length_cons, List.length_nil, Nat.reduceAdd])); focus ((repeat' (first | (with_reducible first | exact wg | exact wh) | ((with_reducible first | apply wi | apply wj); focus (simp (discharger := omega) only [go_sem, simprocAttr]; with_reducible rfl)))); done)))
        exact (by simp (discharger := omega) only [go_sem, tAuto, tErr, simprocAttr])
      | true =>
        have he : leftErr a (k : Int) = 0 := by unfold leftErr; rw [if_neg (fun q => q hf), if_neg (by omega), if_neg (by rw [hoke]; decide)]
        rw [he]
        repeat' (first | (with_reducible first | apply w1 | apply w2 | apply w3 | apply w4 | apply w5 | apply w6 | apply w7 | apply w8 | apply w9 | apply wa | apply wb | apply wc) | ((with_reducible apply wd); focus decide) | ((with_reducible apply we); focus exact rfl) | ((with_reducible apply wf); focus exact rfl) | ((first | (with_reducible apply SW_run tt_ok hG htb) | ((with_reducible apply SW_draw rfl tt_ok hG htb); (focus kernel_rfl); focus simp only [List.range, List.range.loop, List.size_toArray, List.length_cons, List.length_nil, Nat.reduceAdd])); focus ((repeat' (first | (with_reducible first | exact wg | exact wh) | ((with_reducible first | apply wi | apply wj); focus (simp (discharger := omega) only [go_sem, simprocAttr]; with_reducible rfl)))); done)))
        exact (by simp (discharger := omega) only [go_sem, tAuto, tErr, simprocAttr])
end
end Go.Proofs.YthcclcbliedodaaDoor
namespace Go.Proofs.YthcclcbliedodaaDoor
open Go.RowKit

/-- What is known where nothing is wrong. -/
structure LeftIs (a : GAuto) (k t N nW r m : Nat) : Prop where
  ok : LeftOk a k t N nW r
  M : Good (leastA a) N m
  Wlen : (withW a.base t k).length = nW
  Wrow : ∀ w ∈ withW a.base t k, w.length = r ∧ ∀ x ∈ w, 0 ≤ x ∧ x < (N : Int)
  W : leftW a (k : Int) = withW a.base t k
  n : leftN a = nW
  first : Inm m (closeL (leastA a) ((withW a.base t k)[0]!))
  F : leftF a (k : Int) = closeL (leastA a) ((withW a.base t k)[0]!)
  len : (leftR a k).length = (leftS a k).length
  pos : 0 < (leftS a k).length
  few : (leftS a k).length ≤ 2000
  rows : Rows0 nW (leftS a k).length (leftR a k)
  sets : ∀ s ∈ leftS a k, Inm m s ∧ s.Pairwise (· < ·)
  gok : growOk (stepW (leastA a).next (withW a.base t k)) nW (closeL (leastA a) ((withW a.base t k)[0]!)) = true
  expl : Expl (nextD (stepW (leastA a).next (withW a.base t k))) nW (leftS a k) (leftR a k)
  start : (leftS a k)[0]! = canonL (closeL (leastA a) ((withW a.base t k)[0]!))
theorem leftErr_zero {a : GAuto} {track : Int} (h : leftErr a track = 0) : autoFault a = 0 ∧ 0 ≤ track ∧ track < a.tracks ∧ leftOk a track = true := by
  unfold leftErr at h
  split at h
  · rename_i h1; exact (h1 h).elim
  · rename_i h1
    split at h
    · omega
    · rename_i h2
      split at h
      · omega
      · rename_i h3
        exact ⟨Classical.not_not.1 h1, by omega, by omega, by simpa using h3⟩
theorem left_is {a : GAuto} {k : Nat} (h : leftErr a (k : Int) = 0) : ∃ t N nW r m, LeftIs a k t N nW r m := by
  obtain ⟨hf, _, hkt, hok⟩ := leftErr_zero h
  obtain ⟨t, nW, r, ok⟩ := left_ok hf hkt
  obtain ⟨_, _, gM⟩ := least_again (good_of hf)
  have htt : a.tracks - 1 = ((t : Nat) : Int) := by have := ok.tr; omega
  have hW : leftW a (k : Int) = withW a.base t k := by unfold leftW; rw [htt]; rfl
  have hNe : leftN a = nW := by unfold leftN; rw [htt, Int.toNat_natCast, ok.nWe, Int.toNat_natCast]
  have hFe : leftF a (k : Int) = closeL (leastA a) ((withW a.base t k)[0]!) := by unfold leftF; rw [hW]
  have hb : ¬ leftBad a (k : Int) := fun q => by
    rcases q with q | q | q
    · exact q hf
    · omega
    · omega
  have hS : leftS a (k : Int) = growSets (stepW (leastA a).next (withW a.base t k)) nW (closeL (leastA a) ((withW a.base t k)[0]!)) := by
    unfold leftS; rw [if_neg hb, hW, hNe, hFe]
  have hR : leftR a (k : Int) = growRows (stepW (leastA a).next (withW a.base t k)) nW (closeL (leastA a) ((withW a.base t k)[0]!)) := by
    unfold leftR; rw [if_neg hb, hW, hNe, hFe]
  have hg : growOk (stepW (leastA a).next (withW a.base t k)) nW (closeL (leastA a) ((withW a.base t k)[0]!)) = true := by
    unfold leftOk at hok; rw [hW, hNe, hFe] at hok; exact hok
  have hWl := withW_len ok
  have hWr : ∀ w ∈ withW a.base t k, w.length = r ∧ ∀ x ∈ w, 0 ≤ x ∧ x < ((manyOf a.base a.tracks).toNat : Int) := fun w hw => by
    unfold withW at hw
    obtain ⟨j, _, rfl⟩ := List.mem_map.1 hw
    exact ⟨withR_len ok.rad, withR_bd ok j⟩
  have hn0 := ok.nW0
  have hIm : Inm (leastA a).next.length (closeL (leastA a) ((withW a.base t k)[0]!)) := close_in gM.rows gM.m0 (hWr _ (bang_mem (l := withW a.base t k) (i := 0) rfl (by omega))).2 _
  obtain ⟨f1, f2, f3, f4, f5, f6⟩ := grow_facts hg
  have fS := grow_inm (n := nW) (stp := stepW (leastA a).next (withW a.base t k)) hIm (fun s l hs hl => stepW_in gM.rows (fun q hq => (hWr q hq).2) hs (by rw [hWl]; exact hl))
  rw [← hS] at f1 f2 f3 f4 f5 f6 fS
  rw [← hR] at f1 f4 f6
  exact ⟨t, _, nW, r, _, ok, gM, hWl, hWr, hW, hNe, hIm, hFe, f1, f2, f3, f4, fS, hg, f6, f5⟩
noncomputable def someE (a : GAuto) (track : Int) : List Bool := (leftS a track).map fun s => s.any (endOf (leastA a).ends)
noncomputable def someRE (a : GAuto) (track : Int) : List (List Int) × List Bool := leastRE (leftN a) (leftR a track) (someE a track)
open Classical in
noncomputable def someErr (a : GAuto) (track : Int) : Int := if leftErr a track ≠ 0 then leftErr a track else if (someRE a track).1.length ≤ 80 then 0 else 3
open Classical in
noncomputable def someA (a : GAuto) (track : Int) : GAuto := if someErr a track = 0 then ⟨a.base, a.tracks - 1, (someRE a track).1, (someRE a track).2⟩ else GAuto.zero
section
variable {G : World → Prop} (hG : Lasting G)
include hG
theorem SomeEnd_snd {a : GAuto} {m : Nat} (h : a.ends.length = m) (x : Int) (hx : 0 ≤ x ∧ x < (m : Int)) : Snd Tryd.prog G 51 ([tInt x] ++ [autoP a]) (.bool (endOf a.ends x)) := by
  have htb : Tab.ok Tryd.prog G [] := Tab.nil
  refine snd_of_body (n := 9) (tm := [(0, .t (tInt x)), (1, .t (autoP a))]) (rs := [.tmp 3]) tt_ok Tryd.func51 rfl rfl rfl rfl rfl ?_
  obtain ⟨b, hb⟩ : ∃ b, a.ends[x.toNat]! = b := ⟨_, rfl⟩
  have he : endOf a.ends x = b := by unfold endOf; exact bang_D hb (by omega)
  rw [he]
  repeat' (first | (with_reducible first | apply w1 | apply w2 | apply w3 | apply w4 | apply w5 | apply w6 | apply w7 | apply w8 | apply w9 | apply wa | apply wb | apply wc) | ((with_reducible apply wd); focus decide) | ((with_reducible apply we); focus exact rfl) | ((with_reducible apply wf); focus exact rfl) | ((first | (with_reducible apply SW_run tt_ok hG htb) | ((with_reducible apply SW_draw rfl tt_ok hG htb); (focus kernel_rfl); focus simp only [List.range, List.range.loop, List.size_toArray, List.length_cons, List.length_nil, Nat.reduceAdd])); focus ((repeat' (first | (with_reducible first | exact wg | exact wh) | ((with_reducible first | apply wi | apply wj); focus (simp (discharger := omega) only [go_sem, autoP, hb, simprocAttr]; with_reducible rfl)))); done)))
  exact (by simp (discharger := omega) only [go_sem, simprocAttr])
set_option maxHeartbeats 8000000 in
set_option maxRecDepth 100000 in
theorem Some_snd (a : GAuto) (track : Int) : Snd Tryd.prog G 23 [tAuto a, tInt track] (.tup [tAuto (someA a track), tErr (someErr a track)]) := by
  have c1 := left_snd hG a track
  refine snd_of_body (n := 42) (tm := [(0, .t (tAuto a)), (1, .t (tInt track))]) (rs := [.cell 4 25, .tmp 5]) tt_ok Tryd.func23 rfl rfl rfl rfl rfl ?_
  by_cases h0 : leftErr a track = 0
  rotate_left
  · have he : someErr a track = leftErr a track := if_pos h0
    have hz : someA a track = GAuto.zero := by unfold someA; rw [he, if_neg h0]
    rw [he, hz]
    generalize leftErr a track = e at *
    generalize leastOf a = M at *
    generalize leftS a track = S at *
    generalize leftR a track = R at *
    have htb := Tab.cons c1 Tab.nil
    repeat' (first | (with_reducible first | apply w1 | apply w2 | apply w3 | apply w4 | apply w5 | apply w6 | apply w7 | apply w8 | apply w9 | apply wa | apply wb | apply wc) | ((with_reducible apply wd); focus decide) | ((with_reducible apply we); focus exact rfl) | ((with_reducible apply wf); focus exact rfl) | ((first | (with_reducible apply SW_run tt_ok hG htb) | ((with_reducible apply SW_draw rfl tt_ok hG htb); (focus kernel_rfl); focus simp only [List.range, List.range.loop, List.size_toArray, List.length_cons, List.length_nil, Nat.reduceAdd])); focus ((repeat' (first | (with_reducible first | exact wg | exact wh) | ((with_reducible first | apply wi | apply wj); focus (simp (discharger := omega) only [go_sem, tAuto, tErr, h0, simprocAttr]; with_reducible rfl)))); done)))
    exact (by simp (discharger := omega) only [go_sem, tAuto, tErr, h0, GAuto.zero, simprocAttr])
  obtain ⟨hf, hk0, _, _⟩ := leftErr_zero h0
  obtain ⟨k, rfl⟩ : ∃ k : Nat, track = (k : Int) := ⟨track.toNat, by omega⟩
  obtain ⟨t, N, nW, r, m, L⟩ := left_is h0
  have hlA : leastOf a = leastA a := if_pos hf
  have htt : a.tracks - 1 = ((t : Nat) : Int) := by have := L.ok.tr; omega
  have htr := L.ok.tr
  have ht4 := L.ok.t4
  have hne := L.n
  have hpos := L.pos
  have hfew := L.few
  have hrows := L.rows
  have hsets := L.sets
  have gM := L.M
  have hrl := L.len
  have hn36 := L.ok.nW36
  rw [h0, hlA] at c1
  have hsE : someE a (k : Int) = (leftS a (k : Int)).map fun s => s.any (endOf (leastA a).ends) := rfl
  have hRE : someRE a (k : Int) = leastRE nW (leftR a (k : Int)) (someE a (k : Int)) := by unfold someRE; rw [hne]
  have he0 : someErr a (k : Int) = if (someRE a (k : Int)).1.length ≤ 80 then 0 else 3 := by unfold someErr; rw [if_neg (fun q => q h0)]
  have hz0 : someA a (k : Int) = if someErr a (k : Int) = 0 then ⟨a.base, a.tracks - 1, (someRE a (k : Int)).1, (someRE a (k : Int)).2⟩ else GAuto.zero := rfl
  rw [hz0, he0, hRE, htt, hsE]
  clear he0 hz0 hRE hsE
  generalize leastA a = M at *
  generalize leftS a (k : Int) = S at *
  generalize leftR a (k : Int) = R at *
  have htb := Tab.cons c1 Tab.nil
  repeat' (first | (with_reducible first | apply w1 | apply w2 | apply w3 | apply w4 | apply w5 | apply w6 | apply w7 | apply w8 | apply w9 | apply wa | apply wb | apply wc) | ((with_reducible apply wd); focus decide) | ((with_reducible apply we); focus exact rfl) | ((with_reducible apply wf); focus exact rfl) | ((first | (with_reducible apply SW_run tt_ok hG htb) | ((with_reducible apply SW_draw rfl tt_ok hG htb); (focus kernel_rfl); focus simp only [List.range, List.range.loop, List.size_toArray, List.length_cons, List.length_nil, Nat.reduceAdd])); focus ((repeat' (first | (with_reducible first | exact wg | exact wh) | ((with_reducible first | apply wi | apply wj); focus (simp (discharger := omega) only [go_sem, tAuto, tErr0, simprocAttr]; with_reducible rfl)))); done)))
  clear htb
  refine SW_norm (Norm.headS (own := []) (keep := [2, 4, 5, 6, 7, 8, 9]) (by refine ⟨?_, ?_⟩; (simp (discharger := omega) only [go_sem, simprocAttr]; with_reducible rfl); refine ⟨?_, ?_, ?_, ?_⟩ <;> (simp only [go_sem, simprocAttr]; with_reducible rfl))) ?_
  refine SW_norm (Norm.fixBox 0 rfl rfl) ?_
  refine SW_norm (Norm.fixBox 2 rfl rfl) ?_
  refine SW_norm (Norm.tr 2 rfl rfl) ?_
  refine SW_norm (Norm.tr 6 rfl rfl) ?_
  refine SW_norm (Norm.headS (own := []) (keep := [2, 4, 5, 6, 7, 8, 9]) (by refine ⟨?_, ?_⟩; (simp (discharger := omega) only [go_sem, simprocAttr]; with_reducible rfl); refine ⟨?_, ?_, ?_, ?_⟩ <;> (simp only [go_sem, simprocAttr]; with_reducible rfl))) ?_
  have c2 := Ends_snd hG S (by omega) 51 [autoP M] (endOf M.ends) (fun s hs x hx => SomeEnd_snd hG gM.ends x ((hsets s hs).1 x hx))
  obtain ⟨E, hE⟩ : ∃ E, (S.map fun s => s.any (endOf M.ends)) = E := ⟨_, rfl⟩
  rw [hE] at c2
  have hEl : E.length = S.length := by rw [← hE, List.length_map]
  have c3 := Shrink_snd hG a.base (t : Int) hrows hpos (by omega) (ends := E) hEl (by omega)
  rw [hE]
  have hmap : [autoP M] = [.ptr [.int .i64 M.base, .int .i64 M.tracks, tIntss M.next, tBools M.ends]] := rfl
  have htb := Tab.cons c2 (Tab.cons c3 Tab.nil)
  by_cases h80 : (leastRE nW R E).1.length ≤ 80
  · have hsh : shrinkT a.base (t : Int) nW R E = .tup [tAuto ⟨a.base, (t : Int), (leastRE nW R E).1, (leastRE nW R E).2⟩, .bool true] := if_pos h80
    rw [if_pos h80, if_pos rfl]
    rw [hsh] at htb c3
    generalize leastRE nW R E = RE at *
    refine SW_norm (Norm.hole _) ?_
    (with_reducible apply SW_drawA [(13, 1)] rfl tt_ok hG htb)
    · kernel_rfl
    · simp only [List.range, List.range.loop, List.size_toArray, List.length_cons, List.length_nil, Nat.reduceAdd]
      repeat' (first | (with_reducible exact runG_nil) | ((with_reducible apply runG_cons); focus (simp (discharger := omega) only [go_sem, autoP, tAuto, htt, simprocAttr]; with_reducible rfl)))
    repeat' (first | (with_reducible first | apply w1 | apply w2 | apply w3 | apply w4 | apply w5 | apply w6 | apply w7 | apply w8 | apply w9 | apply wa | apply wb | apply wc) | ((with_reducible apply wd); focus decide) | ((with_reducible apply we); focus exact rfl) | ((with_reducible apply wf); focus exact rfl) | ((first | (with_reducible apply SW_run tt_ok hG htb) | ((with_reducible apply SW_draw rfl tt_ok hG htb); (focus kernel_rfl); focus simp only [List.range, List.range.loop, List.size_toArray, List.length_cons, List.length_nil, Nat.reduceAdd])); focus ((repeat' (first | (with_reducible first | exact wg | exact wh) | ((with_reducible first | apply wi | apply wj); focus (simp (discharger := omega) only [go_sem, autoP, tAuto, tErr0, simprocAttr]; with_reducible rfl)))); done)))
    exact (by simp (discharger := omega) only [go_sem, tAuto, tErr0, simprocAttr])
  · have hsh : shrinkT a.base (t : Int) nW R E = .tup [tAuto GAuto.zero, .bool false] := if_neg h80
    rw [if_neg h80, if_neg (by decide)]
    rw [hsh] at htb c3
    refine SW_norm (Norm.hole _) ?_
    (with_reducible apply SW_drawA [(13, 1)] rfl tt_ok hG htb)
    · kernel_rfl
    · simp only [List.range, List.range.loop, List.size_toArray, List.length_cons, List.length_nil, Nat.reduceAdd]
      repeat' (first | (with_reducible exact runG_nil) | ((with_reducible apply runG_cons); focus (simp (discharger := omega) only [go_sem, autoP, tAuto, htt, simprocAttr]; with_reducible rfl)))
    repeat' (first | (with_reducible first | apply w1 | apply w2 | apply w3 | apply w4 | apply w5 | apply w6 | apply w7 | apply w8 | apply w9 | apply wa | apply wb | apply wc) | ((with_reducible apply wd); focus decide) | ((with_reducible apply we); focus exact rfl) | ((with_reducible apply wf); focus exact rfl) | ((first | (with_reducible apply SW_run tt_ok hG htb) | ((with_reducible apply SW_draw rfl tt_ok hG htb); (focus kernel_rfl); focus simp only [List.range, List.range.loop, List.size_toArray, List.length_cons, List.length_nil, Nat.reduceAdd])); focus ((repeat' (first | (with_reducible first | exact wg | exact wh) | ((with_reducible first | apply wi | apply wj); focus (simp (discharger := omega) only [go_sem, autoP, tAuto, simprocAttr]; with_reducible rfl)))); done)))
    exact (by simp (discharger := omega) only [go_sem, tAuto, tErr, GAuto.zero, simprocAttr])
theorem SetsS_snd (a : GAuto) (track : Int) : Snd Tryd.prog G 24 [tAuto a, tInt track] (.tup [tNat (leftS a track).length, tErr (leftErr a track)]) := by
  have c1 := left_snd hG a track
  refine snd_of_body (n := 21) (tm := [(0, .t (tAuto a)), (1, .t (tInt track))]) (rs := [.tmp 4, .tmp 5]) tt_ok Tryd.func24 rfl rfl rfl rfl rfl ?_
  generalize leftErr a track = e at *
  generalize leastOf a = M at *
  generalize leftS a track = S at *
  generalize leftR a track = R at *
  have htb := Tab.cons c1 Tab.nil
  by_cases h : e = 0
  · subst h
    repeat' (first | (with_reducible first | apply w1 | apply w2 | apply w3 | apply w4 | apply w5 | apply w6 | apply w7 | apply w8 | apply w9 | apply wa | apply wb | apply wc) | ((with_reducible apply wd); focus decide) | ((with_reducible apply we); focus exact rfl) | ((with_reducible apply wf); focus exact rfl) | ((first | (with_reducible apply SW_run tt_ok hG htb) | ((with_reducible apply SW_draw rfl tt_ok hG htb); (focus kernel_rfl); focus simp only [List.range, List.range.loop, List.size_toArray, List.length_cons, List.length_nil, Nat.reduceAdd])); focus ((repeat' (first | (with_reducible first | exact wg | exact wh) | ((with_reducible first | apply wi | apply wj); focus (simp (discharger := omega) only [go_sem, tAuto, tErr0, simprocAttr]; with_reducible rfl)))); done)))
    exact (by simp (discharger := omega) only [go_sem, tErr0, simprocAttr])
  · repeat' (first | (with_reducible first | apply w1 | apply w2 | apply w3 | apply w4 | apply w5 | apply w6 | apply w7 | apply w8 | apply w9 | apply wa | apply wb | apply wc) | ((with_reducible apply wd); focus decide) | ((with_reducible apply we); focus exact rfl) | ((with_reducible apply wf); focus exact rfl) | ((first | (with_reducible apply SW_run tt_ok hG htb) | ((with_reducible apply SW_draw rfl tt_ok hG htb); (focus kernel_rfl); focus simp only [List.range, List.range.loop, List.size_toArray, List.length_cons, List.length_nil, Nat.reduceAdd])); focus ((repeat' (first | (with_reducible first | exact wg | exact wh) | ((with_reducible first | apply wi | apply wj); focus (simp (discharger := omega) only [go_sem, tAuto, tErr, h, simprocAttr]; with_reducible rfl)))); done)))
    exact (by simp (discharger := omega) only [go_sem, tErr, h, simprocAttr])
end
end Go.Proofs.YthcclcbliedodaaDoor
namespace Go.Proofs.YthcclcbliedodaaDoor
open Go.RowKit

theorem stepW_G {next : List (List Int)} {m : Nat} {W : List (List Int)} {s : List Int} (hs : Inm m s) (l : Nat) : nextD (stpG next m W false) s l = nextD (stepW next W) s l := by
  unfold nextD
  refine canonL_eq fun y => ?_
  unfold stpG stepW
  rw [List.mem_flatMap, List.mem_flatMap]
  constructor
  · rintro ⟨x, hx, hy⟩
    obtain ⟨k, hk, hy⟩ := List.mem_flatMap.1 hy
    simp only [conG, Bool.false_eq_true, if_false] at hy
    split at hy
    · rw [List.mem_singleton] at hy
      exact ⟨_, ‹_›, List.mem_map.2 ⟨k, hk, hy.symm⟩⟩
    · cases hy
  · rintro ⟨x, hx, hy⟩
    obtain ⟨k, hk, rfl⟩ := List.mem_map.1 hy
    have hxm := hs x hx
    refine ⟨x.toNat, List.mem_range.2 (by omega), List.mem_flatMap.2 ⟨k, hk, ?_⟩⟩
    simp only [conG, Bool.false_eq_true, if_false]
    rw [Int.toNat_of_nonneg hxm.1, if_pos hx]
    exact List.mem_singleton.2 rfl
section
variable {G : World → Prop} (hG : Lasting G)
include hG
set_option maxHeartbeats 16000000 in
set_option maxRecDepth 100000 in
theorem SomeOf_ref (a : GAuto) (track : Int) : Snd Tryd.prog G 22 [tAuto a, tInt track] (.tup [tNat (leftS a track).length, tInt (leftErr a track), tAuto (someA a track), tInt (someErr a track)]) := by
  have c1 := Fault_snd hG a
  have htb0 : Tab.ok Tryd.prog G [] := Tab.nil
  refine snd_of_body (n := 114) (tm := [(0, .t (tAuto a)), (1, .t (tInt track))]) (rs := [.tmp 4, .tmp 5, .cell 6 25, .tmp 7]) tt_ok Tryd.func22 rfl rfl rfl rfl rfl ?_
  have hbad : leftErr a track ≠ 0 → someErr a track = leftErr a track ∧ someA a track = GAuto.zero := fun h => by
    have he : someErr a track = leftErr a track := if_pos h
    exact ⟨he, by unfold someA; rw [he, if_neg h]⟩
  by_cases hf : autoFault a = 0
  rotate_left
  · have he : leftErr a track = autoFault a := if_pos hf
    have hS : leftS a track = [] := if_pos (.inl hf)
    obtain ⟨e1, e2⟩ := hbad (by rw [he]; exact hf)
    rw [e1, e2, he, hS]
    generalize autoFault a = e at *
    have htb := Tab.cons c1 Tab.nil
    repeat' (first | (with_reducible first | apply w1 | apply w2 | apply w3 | apply w4 | apply w5 | apply w6 | apply w7 | apply w8 | apply w9 | apply wa | apply wb | apply wc) | ((with_reducible apply wd); focus decide) | ((with_reducible apply we); focus exact rfl) | ((with_reducible apply wf); focus exact rfl) | ((first | (with_reducible apply SW_run tt_ok hG htb) | ((with_reducible apply SW_draw rfl tt_ok hG htb); (focus kernel_rfl); focus simp only [List.range, List.range.loop, List.size_toArray, List.length_cons, List.length_nil, Nat.reduceAdd])); focus ((repeat' (first | (with_reducible first | exact wg | exact wh) | ((with_reducible first | apply wi | apply wj); focus (simp (discharger := omega) only [go_sem, tAuto, hf, simprocAttr]; with_reducible rfl)))); done)))
    exact (by simp (discharger := omega) only [go_sem, tAuto, hf, GAuto.zero, simprocAttr])
  by_cases hk0 : track < 0
  · have he : leftErr a track = 1 := by unfold leftErr; rw [if_neg (fun q => q hf), if_pos (.inl hk0)]
    have hS : leftS a track = [] := if_pos (.inr (.inl hk0))
    obtain ⟨e1, e2⟩ := hbad (by rw [he]; decide)
    rw [e1, e2, he, hS]
    rw [hf] at c1
    have htb := Tab.cons c1 Tab.nil
    have hk1 := eq_true hk0
    repeat' (first | (with_reducible first | apply w1 | apply w2 | apply w3 | apply w4 | apply w5 | apply w6 | apply w7 | apply w8 | apply w9 | apply wa | apply wb | apply wc) | ((with_reducible apply wd); focus decide) | ((with_reducible apply we); focus exact rfl) | ((with_reducible apply wf); focus exact rfl) | ((first | (with_reducible apply SW_run tt_ok hG htb) | ((with_reducible apply SW_draw rfl tt_ok hG htb); (focus kernel_rfl); focus simp only [List.range, List.range.loop, List.size_toArray, List.length_cons, List.length_nil, Nat.reduceAdd])); focus ((repeat' (first | (with_reducible first | exact wg | exact wh) | ((with_reducible first | apply wi | apply wj); focus (simp (discharger := omega) only [go_sem, tAuto, hk1, simprocAttr]; with_reducible rfl)))); done)))
    exact (by simp (discharger := omega) only [go_sem, tAuto, GAuto.zero, simprocAttr])
  by_cases hkt : a.tracks ≤ track
  · have he : leftErr a track = 1 := by unfold leftErr; rw [if_neg (fun q => q hf), if_pos (.inr hkt)]
    have hS : leftS a track = [] := if_pos (.inr (.inr hkt))
    obtain ⟨e1, e2⟩ := hbad (by rw [he]; decide)
    rw [e1, e2, he, hS]
    rw [hf] at c1
    have htb := Tab.cons c1 Tab.nil
    have hk1 : track ≥ a.tracks := hkt
    have hk2 := eq_true hk1
    repeat' (first | (with_reducible first | apply w1 | apply w2 | apply w3 | apply w4 | apply w5 | apply w6 | apply w7 | apply w8 | apply w9 | apply wa | apply wb | apply wc) | ((with_reducible apply wd); focus decide) | ((with_reducible apply we); focus exact rfl) | ((with_reducible apply wf); focus exact rfl) | ((first | (with_reducible apply SW_run tt_ok hG htb) | ((with_reducible apply SW_draw rfl tt_ok hG htb); (focus kernel_rfl); focus simp only [List.range, List.range.loop, List.size_toArray, List.length_cons, List.length_nil, Nat.reduceAdd])); focus ((repeat' (first | (with_reducible first | exact wg | exact wh) | ((with_reducible first | apply wi | apply wj); focus (simp (discharger := omega) only [go_sem, tAuto, hk0, hk2, simprocAttr]; with_reducible rfl)))); done)))
    exact (by simp (discharger := omega) only [go_sem, tAuto, GAuto.zero, simprocAttr])
  obtain ⟨k, rfl⟩ : ∃ k : Nat, track = (k : Int) := ⟨track.toNat, by omega⟩
  have c2 := LeastOf_snd hG hf
  obtain ⟨t, nW, r, ok⟩ := left_ok hf (k := k) (by omega)
  have g := ok.good
  obtain ⟨_, _, gM⟩ := least_again (good_of hf)
  have htt : a.tracks - 1 = ((t : Nat) : Int) := by have := ok.tr; omega
  have htr := ok.tr
  have ht4 := ok.t4
  have hkt2 := ok.kt
  have hn36 := ok.nW36
  have hn0 := ok.nW0
  have hW : leftW a (k : Int) = withW a.base t k := by unfold leftW; rw [htt]; rfl
  have hNe : leftN a = nW := by unfold leftN; rw [htt, Int.toNat_natCast, ok.nWe, Int.toNat_natCast]
  have hFe : leftF a (k : Int) = closeL (leastA a) ((withW a.base t k)[0]!) := by unfold leftF; rw [hW]
  have hWl := withW_len ok
  have hWr : ∀ w ∈ withW a.base t k, w.length = r ∧ ∀ x ∈ w, 0 ≤ x ∧ x < ((manyOf a.base a.tracks).toNat : Int) := fun w hw => by
    unfold withW at hw
    obtain ⟨j, _, rfl⟩ := List.mem_map.1 hw
    exact ⟨withR_len ok.rad, withR_bd ok j⟩
  have hnb : ¬ leftBad a (k : Int) := fun q => by
    rcases q with q | q | q
    · exact q hf
    · omega
    · exact hkt q
  have hSe : leftS a (k : Int) = growSets (stepW (leastA a).next (withW a.base t k)) nW (closeL (leastA a) ((withW a.base t k)[0]!)) := by unfold leftS; rw [if_neg hnb, hW, hNe, hFe]
  have hRe : leftR a (k : Int) = growRows (stepW (leastA a).next (withW a.base t k)) nW (closeL (leastA a) ((withW a.base t k)[0]!)) := by unfold leftR; rw [if_neg hnb, hW, hNe, hFe]
  have hoke : leftOk a (k : Int) = growOk (stepW (leastA a).next (withW a.base t k)) nW (closeL (leastA a) ((withW a.base t k)[0]!)) := by unfold leftOk; rw [hW, hNe, hFe]
  have hErr : leftErr a (k : Int) = if leftOk a (k : Int) = false then 3 else 0 := by unfold leftErr; rw [if_neg (fun q => q hf), if_neg (by omega)]
  have hsE : someE a (k : Int) = (leftS a (k : Int)).map fun s => s.any (endOf (leastA a).ends) := rfl
  have hRE : someRE a (k : Int) = leastRE nW (leftR a (k : Int)) (someE a (k : Int)) := by unfold someRE; rw [hNe]
  rw [hf] at c1
  rw [hoke] at hErr
  have hrad0 : radix a.base ≠ 0 := by have := ok.rad; have := ok.r2; omega
  have cW : ∀ l, l < nW → Snd Tryd.prog G 28 [tInt a.base, tInt a.tracks, tInt k, tInt l] (tInts (withR a.base t k l)) := fun l hl => by
    have := Without_snd hG a.base t k l hrad0 ht4 hkt2 (by omega)
    rw [← htr] at this
    exact this
  have hWat : ∀ l, l < nW → (withW a.base t k)[l]? = some (withR a.base t k l) := fun l hl => withW_get ok hl
  have cL := RLetters_snd hG a.base (t : Int)
  rw [ok.nWe, ok.many] at cL
  obtain ⟨M, hM⟩ : ∃ M, leastA a = M := ⟨_, rfl⟩
  rw [hM] at gM c2 hsE hSe hRe hErr
  obtain ⟨W, hWe⟩ : ∃ W, withW a.base t k = W := ⟨_, rfl⟩
  rw [hWe] at hWl hWr hSe hRe hErr hWat
  obtain ⟨w0, hw0⟩ : ∃ w0, W[0]! = w0 := ⟨_, rfl⟩
  rw [hw0] at hSe hRe hErr
  have hw0W := bang_mem hw0 (by omega)
  have gMr := gM.rows
  have hm0 := gM.m0
  have hm80 := gM.m80
  obtain ⟨m, hm⟩ : ∃ m, M.next.length = m := ⟨_, rfl⟩
  rw [hm] at gMr hm0 hm80
  have hIm : Inm m (closeL M w0) := close_in gMr hm0 (hWr w0 hw0W).2 _
  obtain ⟨F, hF⟩ : ∃ F, canonL (closeL M w0) = F := ⟨_, rfl⟩
  have hFp : Inm m F ∧ F.Pairwise (· < ·) := ⟨hF ▸ hIm.canon, hF ▸ (canonL_spec _).1⟩
  have c3 : Snd Tryd.prog G 43 [tAuto M, tInts w0] (tSet F) := by
    have := Closed_ref hG gMr hm0 hm80 (letters := w0) (hWr w0 hw0W).2
    rw [show tSet (closeL M w0) = tSet F by rw [← hF]; exact tSet_cong fun x => canonL_mem.symm] at this
    exact this
  have c5 := Grown_ref hG gMr hm80 F hFp W (fun q hq => (hWr q hq).2) (by omega) (fun q hq => by have := (hWr q hq).1; have := ok.r6; omega) false
  obtain ⟨sc1, sc2, sc3⟩ := sets_cong (δ := nextD (stpG M.next m W false)) (δ' := nextD (stepW M.next W)) (n := nW) (s0 := F) (p := Inm m) hFp.1 (fun s l hl hs => by rw [stepW_G hs l]; exact (stepW_in gMr (fun q hq => (hWr q hq).2) hs (by omega)).canon) (fun s l hs _ => stepW_G hs l)
  unfold grownR at c5
  rw [hWl, sc1, sc2, sc3] at c5
  obtain ⟨S, hS⟩ : ∃ S, growSets (stepW M.next W) nW (closeL M w0) = S := ⟨_, rfl⟩
  obtain ⟨N, hN⟩ : ∃ N, growRows (stepW M.next W) nW (closeL M w0) = N := ⟨_, rfl⟩
  obtain ⟨gk, hgk⟩ : ∃ gk, growOk (stepW M.next W) nW (closeL M w0) = gk := ⟨_, rfl⟩
  have hok1 : setsOk (nextD (stepW M.next W)) nW F = gk := by rw [← hgk, ← hF]; rfl
  rw [hok1] at c5
  rw [hS] at hSe
  rw [hN] at hRe
  rw [hgk] at hErr
  have hmE : M.ends.length = m := by rw [gM.ends, hm]
  have htb := Tab.cons c1 (Tab.cons c2 (Tab.cons cL Tab.nil))
  repeat' (first | (with_reducible first | apply w1 | apply w2 | apply w3 | apply w4 | apply w5 | apply w6 | apply w7 | apply w8 | apply w9 | apply wa | apply wb | apply wc) | ((with_reducible apply wd); focus decide) | ((with_reducible apply we); focus exact rfl) | ((with_reducible apply wf); focus exact rfl) | ((first | (with_reducible apply SW_run tt_ok hG htb) | ((with_reducible apply SW_draw rfl tt_ok hG htb); (focus kernel_rfl); focus simp only [List.range, List.range.loop, List.size_toArray, List.length_cons, List.length_nil, Nat.reduceAdd])); focus ((repeat' (first | (with_reducible first | exact wg | exact wh) | ((with_reducible first | apply wi | apply wj); focus (simp (discharger := omega) only [go_sem, tAuto, hk0, hkt, htt, simprocAttr]; with_reducible rfl)))); done)))
  clear htb
  refine SW_norm (Norm.headS (own := [(12, 35, 1, true)]) (keep := [1, 2, 6, 9, 10, 12, 13]) (by refine ⟨?_, ?_⟩; (simp (discharger := omega) only [go_sem, simprocAttr]; with_reducible rfl); refine ⟨?_, ?_, ?_, ?_⟩ <;> (simp only [go_sem, simprocAttr]; with_reducible rfl))) ?_
  refine SW_norm (Norm.fixBox 2 rfl rfl) ?_
  refine SW_loop (fun mm st => ∃ (l : Nat) (ws : List T), mm = nW - l ∧ st = ⟨114, [(1, .t (tInt k)), (2, .bptr 0 0), (6, .bptr 1 0), (9, .bptr 2 0), (10, .t (tNat nW)), (12, .sref 3), (13, .t (tNat l))], [.box [.t (tInt a.base), .t (tInt a.tracks), .t (tIntss a.next), .t (tBools a.ends)], .box [.t (tInt 0), .t (tInt 0), .nil, .nil], .fbox [tInt M.base, tInt M.tracks, tIntss M.next, tBools M.ends], .row 35 1 true ws]⟩ ∧ l ≤ nW ∧ ws = (W.take l).map tInts) nW
    ⟨_, Norm.headS (own := []) (keep := [1, 2, 6, 9, 10, 12, 13]) (by refine ⟨?_, ?_⟩; (simp (discharger := omega) only [go_sem, simprocAttr]; with_reducible rfl); refine ⟨?_, ?_, ?_, ?_⟩ <;> (simp only [go_sem, simprocAttr]; with_reducible rfl)), 0, _, rfl, rfl, Nat.zero_le _, rfl⟩ ?_
  rintro mm st ⟨l, ws, rfl, rfl, hl, hws⟩
  have hwsl : ws.length = l := by rw [hws, List.length_map, List.length_take]; omega
  by_cases hlt : l < nW
  · have c4 := cW l hlt
    have htk : W.take (l + 1) = W.take l ++ [withR a.base t k l] := by
      obtain ⟨q1, q2⟩ := List.getElem?_eq_some_iff.1 (hWat l hlt)
      rw [List.take_succ_eq_append_getElem q1, q2]
    generalize withR a.base t k l = wl at *
    have htb := Tab.cons c4 Tab.nil
    repeat' (first | (with_reducible first | apply w1 | apply w2 | apply w3 | apply w4 | apply w5 | apply w6 | apply w7 | apply w8 | apply w9 | apply wa | apply wb | apply wc) | ((with_reducible apply wd); focus decide) | ((with_reducible apply we); focus exact rfl) | ((with_reducible apply wf); focus exact rfl) | ((first | (with_reducible apply SW_run tt_ok hG htb) | ((with_reducible apply SW_draw rfl tt_ok hG htb); (focus kernel_rfl); focus simp only [List.range, List.range.loop, List.size_toArray, List.length_cons, List.length_nil, Nat.reduceAdd])); focus ((repeat' (first | (with_reducible first | exact wg | exact wh) | ((with_reducible first | apply wi | apply wj); focus (simp (discharger := omega) only [go_sem, hwsl, simprocAttr]; with_reducible rfl)))); done)))
    exact ⟨nW - (l + 1), _, by omega, Norm.headS (own := []) (keep := [1, 2, 6, 9, 10, 12, 13]) (by refine ⟨?_, ?_⟩; (simp (discharger := omega) only [go_sem, simprocAttr]; with_reducible rfl); refine ⟨?_, ?_, ?_, ?_⟩ <;> (simp only [go_sem, simprocAttr]; with_reducible rfl)), l + 1, _, rfl, rfl, by omega, by rw [htk, List.map_append, ← hws]; rfl⟩
  obtain rfl : l = nW := by omega
  have hws2 : ws = W.map tInts := by rw [hws, List.take_of_length_le (by omega)]
  clear hws
  subst hws2
  refine SW_norm (Norm.frz 12 rfl rfl) ?_
  cases gk with
  | false =>
    have he : leftErr a (k : Int) = 3 := by rw [hErr, if_pos rfl]
    have hS0 : leftS a (k : Int) = [] := by rw [hSe, ← hS]; unfold growSets; rw [if_neg (by rw [hgk]; decide)]
    obtain ⟨e1, e2⟩ := hbad (by rw [he]; decide)
    rw [e1, e2, he, hS0]
    rw [if_neg (by decide)] at c5
    have htb := Tab.cons c3 (Tab.cons c5 Tab.nil)
    repeat' (first | (with_reducible first | apply w1 | apply w2 | apply w3 | apply w4 | apply w5 | apply w6 | apply w7 | apply w8 | apply w9 | apply wa | apply wb | apply wc) | ((with_reducible apply wd); focus decide) | ((with_reducible apply we); focus exact rfl) | ((with_reducible apply wf); focus exact rfl) | ((first | (with_reducible apply SW_run tt_ok hG htb) | ((with_reducible apply SW_draw rfl tt_ok hG htb); (focus kernel_rfl); focus simp only [List.range, List.range.loop, List.size_toArray, List.length_cons, List.length_nil, Nat.reduceAdd])); focus ((repeat' (first | (with_reducible first | exact wg | exact wh) | ((with_reducible first | apply wi | apply wj); focus (simp (discharger := omega) only [go_sem, tAuto, tSet, hw0, hWl, simprocAttr]; with_reducible rfl)))); done)))
    exact (by simp (discharger := omega) only [go_sem, tAuto, GAuto.zero, simprocAttr])
  | true =>
    have hS1 : setsOf (nextD (stepW M.next W)) l F = S := by rw [← hS, ← hF]; unfold growSets; rw [hgk, if_pos rfl]
    have hN1 : rowsOf (nextD (stepW M.next W)) l F = N := by rw [← hN, ← hF]; unfold growRows; rw [hgk, if_pos rfl]
    rw [if_pos rfl, hS1, hN1] at c5
    have he : leftErr a (k : Int) = 0 := by rw [hErr, if_neg (by decide)]
    obtain ⟨f1, f2, f3, f4, f5, _⟩ := grow_facts hgk
    have fS := grow_inm (n := l) (stp := stepW M.next W) hIm (fun s j hs hj => stepW_in gMr (fun q hq => (hWr q hq).2) hs (by omega))
    rw [hS, hN] at f1 f4
    rw [hS] at f2 f3 f5 fS
    obtain ⟨E, hE⟩ : ∃ E, (S.map fun s => s.any (endOf M.ends)) = E := ⟨_, rfl⟩
    have hEl : E.length = S.length := by rw [← hE, List.length_map]
    rw [hSe, hE] at hsE
    rw [hRe, hsE] at hRE
    have he0 : someErr a (k : Int) = if (leastRE l N E).1.length ≤ 80 then 0 else 3 := by unfold someErr; rw [if_neg (fun q => q he), hRE]
    have hz0 : someA a (k : Int) = if someErr a (k : Int) = 0 then ⟨a.base, (t : Int), (leastRE l N E).1, (leastRE l N E).2⟩ else GAuto.zero := by unfold someA; rw [hRE, htt]
    rw [hz0, he0, he, hSe]
    have htb := Tab.cons c3 (Tab.cons c5 Tab.nil)
    repeat' (first | (with_reducible first | apply w1 | apply w2 | apply w3 | apply w4 | apply w5 | apply w6 | apply w7 | apply w8 | apply w9 | apply wa | apply wb | apply wc) | ((with_reducible apply wd); focus decide) | ((with_reducible apply we); focus exact rfl) | ((with_reducible apply wf); focus exact rfl) | ((first | (with_reducible apply SW_run tt_ok hG htb) | ((with_reducible apply SW_draw rfl tt_ok hG htb); (focus kernel_rfl); focus simp only [List.range, List.range.loop, List.size_toArray, List.length_cons, List.length_nil, Nat.reduceAdd])); focus ((repeat' (first | (with_reducible first | exact wg | exact wh) | ((with_reducible first | apply wi | apply wj); focus (simp (discharger := omega) only [go_sem, tAuto, tSet, hw0, hWl, simprocAttr]; with_reducible rfl)))); done)))
    clear htb
    refine SW_loop (fun mm st => ∃ (i : Nat) (es : List T), mm = S.length - i ∧ st = ⟨114, [(2, .bptr 0 0), (6, .bptr 1 0), (9, .bptr 2 0), (14, .t (.list (S.map tSet))), (15, .t (tIntss N)), (17, .sref 3), (18, .t (tNat i))], [.box [.t (tInt a.base), .t (tInt a.tracks), .t (tIntss a.next), .t (tBools a.ends)], .box [.t (tInt 0), .t (tInt 0), .nil, .nil], .fbox [tInt M.base, tInt M.tracks, tIntss M.next, tBools M.ends], .row 4 1 true es]⟩ ∧ i ≤ S.length ∧ es = (E.take i).map T.bool) S.length
      ⟨_, Norm.headS (own := [(17, 4, 1, true)]) (keep := [2, 6, 9, 14, 15, 17, 18]) (by refine ⟨?_, ?_⟩; (simp (discharger := omega) only [go_sem, simprocAttr]; with_reducible rfl); refine ⟨?_, ?_, ?_, ?_⟩ <;> (simp only [go_sem, simprocAttr]; with_reducible rfl)), 0, _, rfl, rfl, Nat.zero_le _, rfl⟩ ?_
    rintro mm st ⟨i, es, rfl, rfl, hi, hes⟩
    have hesl : es.length = i := by rw [hes, List.length_map, List.length_take]; omega
    by_cases hlt : i < S.length
    · obtain ⟨si, hsi⟩ : ∃ si, S[i]! = si := ⟨_, rfl⟩
      have c6 := ended_ref hG hm hmE hm80 si (fS si (bang_mem hsi hlt)).1
      obtain ⟨b, hb⟩ : ∃ b, si.any (endOf M.ends) = b := ⟨_, rfl⟩
      rw [hb] at c6
      have htk : E.take (i + 1) = E.take i ++ [b] := by
        have hei : E[i]? = some b := by rw [← hE, List.getElem?_map, bang_get hsi hlt, Option.map_some, hb]
        obtain ⟨q1, q2⟩ := List.getElem?_eq_some_iff.1 hei
        rw [List.take_succ_eq_append_getElem q1, q2]
      have htb := Tab.cons c6 Tab.nil
      repeat' (first | (with_reducible first | apply w1 | apply w2 | apply w3 | apply w4 | apply w5 | apply w6 | apply w7 | apply w8 | apply w9 | apply wa | apply wb | apply wc) | ((with_reducible apply wd); focus decide) | ((with_reducible apply we); focus exact rfl) | ((with_reducible apply wf); focus exact rfl) | ((first | (with_reducible apply SW_run tt_ok hG htb) | ((with_reducible apply SW_draw rfl tt_ok hG htb); (focus kernel_rfl); focus simp only [List.range, List.range.loop, List.size_toArray, List.length_cons, List.length_nil, Nat.reduceAdd])); focus ((repeat' (first | (with_reducible first | exact wg | exact wh) | ((with_reducible first | apply wi | apply wj); focus (simp (discharger := omega) only [go_sem, hesl, hsi, tSet, tAuto, simprocAttr]; with_reducible rfl)))); done)))
      exact ⟨S.length - (i + 1), _, by omega, Norm.headS (own := []) (keep := [2, 6, 9, 14, 15, 17, 18]) (by refine ⟨?_, ?_⟩; (simp (discharger := omega) only [go_sem, simprocAttr]; with_reducible rfl); refine ⟨?_, ?_, ?_, ?_⟩ <;> (simp only [go_sem, simprocAttr]; with_reducible rfl)), i + 1, _, rfl, rfl, by omega, by rw [htk, List.map_append, ← hes]; rfl⟩
    obtain rfl : i = S.length := by omega
    have hes2 : es = E.map T.bool := by rw [hes, List.take_of_length_le (by omega)]
    clear hes
    subst hes2
    have c7 := Shrunk_snd hG a.base (t : Int) f4 f2 (by omega) (ends := E) hEl (by omega)
    refine SW_norm (Norm.frzRow 3 rfl) ?_
    by_cases h80 : (leastRE l N E).1.length ≤ 80
    · have hsh : shrinkT a.base (t : Int) l N E = .tup [tAuto ⟨a.base, (t : Int), (leastRE l N E).1, (leastRE l N E).2⟩, .bool true] := if_pos h80
      rw [if_pos h80, if_pos rfl]
      rw [hsh] at c7
      generalize leastRE l N E = RE at *
      have htb := Tab.cons c7 Tab.nil
      repeat' (first | (with_reducible first | apply w1 | apply w2 | apply w3 | apply w4 | apply w5 | apply w6 | apply w7 | apply w8 | apply w9 | apply wa | apply wb | apply wc) | ((with_reducible apply wd); focus decide) | ((with_reducible apply we); focus exact rfl) | ((with_reducible apply wf); focus exact rfl) | ((first | (with_reducible apply SW_run tt_ok hG htb) | ((with_reducible apply SW_draw rfl tt_ok hG htb); (focus kernel_rfl); focus simp only [List.range, List.range.loop, List.size_toArray, List.length_cons, List.length_nil, Nat.reduceAdd])); focus ((repeat' (first | (with_reducible first | exact wg | exact wh) | ((with_reducible first | apply wi | apply wj); focus (simp (discharger := omega) only [go_sem, tAuto, htt, simprocAttr]; with_reducible rfl)))); done)))
      exact (by simp (discharger := omega) only [go_sem, tAuto, simprocAttr])
    · have hsh : shrinkT a.base (t : Int) l N E = .tup [tAuto GAuto.zero, .bool false] := if_neg h80
      rw [if_neg h80, if_neg (by decide)]
      rw [hsh] at c7
      have htb := Tab.cons c7 Tab.nil
      repeat' (first | (with_reducible first | apply w1 | apply w2 | apply w3 | apply w4 | apply w5 | apply w6 | apply w7 | apply w8 | apply w9 | apply wa | apply wb | apply wc) | ((with_reducible apply wd); focus decide) | ((with_reducible apply we); focus exact rfl) | ((with_reducible apply wf); focus exact rfl) | ((first | (with_reducible apply SW_run tt_ok hG htb) | ((with_reducible apply SW_draw rfl tt_ok hG htb); (focus kernel_rfl); focus simp only [List.range, List.range.loop, List.size_toArray, List.length_cons, List.length_nil, Nat.reduceAdd])); focus ((repeat' (first | (with_reducible first | exact wg | exact wh) | ((with_reducible first | apply wi | apply wj); focus (simp (discharger := omega) only [go_sem, tAuto, htt, simprocAttr]; with_reducible rfl)))); done)))
      exact (by simp (discharger := omega) only [go_sem, tAuto, GAuto.zero, simprocAttr])
end
end Go.Proofs.YthcclcbliedodaaDoor
namespace Go.Proofs.YthcclcbliedodaaDoor
open Go.RowKit
theorem repErr_inv {S : Nat → Prop} {w : World} {v : Value} {e : Int} (h : RepT S w (tErr e) v) : v = errV 26 e := by
  unfold tErr at h; unfold errV
  split at h
  · rename_i h0
    rw [if_pos h0]; cases h; rfl
  · rename_i h0
    rw [if_neg h0]
    cases h with
    | iface t x v h => cases h; rfl
theorem errCell_lasting : Lasting errCell := fun _ _ hb h => errCell.below h hb
theorem Error_snd (e f : Int) : Snd Tryd.prog errCell 10 [tErr e, tInt f] (.bool (e == f)) :=
  snd2 Tryd.func10 rfl rfl fun S w v u hg _ h h' => by
    obtain rfl := repErr_inv h; obtain rfl := intInv h'
    exact ⟨_, Error_calls e f w hg, fun S w => .bool _⟩
end Go.Proofs.YthcclcbliedodaaDoor
