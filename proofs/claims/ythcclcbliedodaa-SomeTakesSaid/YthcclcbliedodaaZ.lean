/- The law SomeTakes returns true at every input and leaves its arguments as they read. No conditions. -/
import Derived.Test.YthcclcbliedodaaM5
set_option linter.unusedSimpArgs false
set_option linter.unusedVariables false
set_option linter.unnecessarySimpa false
set_option linter.unusedSectionVars false
namespace Go.Proofs.Ythcclcbliedodaa
open Go.RowKit

section
variable {G : World → Prop} (hG : Lasting G)
include hG
set_option maxHeartbeats 4000000 in
theorem Pack_snd (base : Int) (d : List Int) : Snd Try.prog G 31 [tInt base, tInts d] (.tup [tInt (packOf base d), tErr (packErr base d)]) := by
  have htb := Tab.cons (Radix_snd hG base) (Tab.cons (Many_snd hG base d.length) Tab.nil)
  refine snd_of_body (n := 45) (tm := [(0, .t (tInt base)), (1, .t (tInts d))]) (rs := [.tmp 4, .tmp 5]) tt_ok Try.func31 rfl rfl rfl rfl rfl ?_
  by_cases h0 : manyErr base d.length = 0
  · obtain ⟨h1, _, h5, hp36, _⟩ := many_ok h0
    obtain ⟨r2, r6⟩ := radix_two h1
    have hdig : ∀ {i : Nat} (hi : i < d.length), ¬ (0 ≤ d[i] ∧ d[i] < radix base) → packErr base d = 1 ∧ packOf base d = 0 := fun hi hx => packErr_digit h0 hi hx
    have hok : (∀ x ∈ d, 0 ≤ x ∧ x < radix base) → packErr base d = 0 ∧ packOf base d = pack (radix base) d := packErr_ok h0
    rw [h0] at htb
    generalize manyOf base d.length = mo at htb
    generalize radix base = k at *
    repeat' (first | (with_reducible first | apply w1 | apply w2 | apply w3 | apply w4 | apply w5 | apply w6 | apply w7 | apply w8 | apply w9 | apply wa | apply wb | apply wc) | ((with_reducible apply wd); focus decide) | ((with_reducible apply we); focus exact rfl) | ((with_reducible apply wf); focus exact rfl) | ((first | (with_reducible apply SW_run tt_ok hG htb) | ((with_reducible apply SW_draw rfl tt_ok hG htb); (focus kernel_rfl); focus simp only [List.range, List.range.loop, List.size_toArray, List.length_cons, List.length_nil, Nat.reduceAdd])); focus ((repeat' (first | (with_reducible first | exact wg | exact wh) | ((with_reducible first | apply wi | apply wj); focus (simp (discharger := omega) only [go_sem, tErr, simprocAttr]; with_reducible rfl)))); done)))
    refine SW_loop (fun m s => ∃ i : Nat, m = d.length - i ∧ s = ⟨45, [(8, .t (tInt k)), (9, .t (tInt (pack k (d.take i)))), (24, .t (tInts d)), (25, .t (tInt d.length)), (26, .t (tInt i))], []⟩ ∧ i ≤ d.length ∧ ∀ x ∈ d.take i, 0 ≤ x ∧ x < k) d.length ⟨_, Norm.headS (own := []) (keep := [8, 9, 24, 25, 26]) (by refine ⟨?_, ?_⟩; (simp (discharger := omega) only [go_sem, simprocAttr]; with_reducible rfl); refine ⟨?_, ?_, ?_, ?_⟩ <;> (simp only [go_sem, simprocAttr]; with_reducible rfl)), 0, rfl, rfl, Nat.zero_le _, fun x hx => by simp at hx⟩ ?_
    rintro m s ⟨i, rfl, rfl, hi, hA⟩
    have hb := pack_bd r2 _ hA
    have hb2 := powW_bd r2 r6 (j := (d.take i).length) (by simp; omega)
    by_cases hlt : i < d.length
    · obtain ⟨x, hx⟩ : ∃ x, d[i]! = x := ⟨_, rfl⟩
      have htk := take_next hx hlt
      have hat := bang_at hx hlt
      by_cases hx0 : 0 ≤ x
      · by_cases hxk : x < k
        · have hA' : ∀ y ∈ d.take (i + 1), 0 ≤ y ∧ y < k := fun y hy => by
            rw [htk] at hy
            rcases List.mem_append.1 hy with h | h
            · exact hA y h
            · simp at h; subst h; exact ⟨hx0, hxk⟩
          have hpk : pack k (d.take (i + 1)) = pack k (d.take i) * k + x := by rw [htk, pack_snoc]
          have hm1 : 0 ≤ pack k (d.take i) * k := Int.mul_nonneg hb.1 (by omega)
          have hm2 : pack k (d.take i) * k ≤ 7776 * 6 := Int.mul_le_mul (by omega) r6 (by omega) (by omega)
          repeat' (first | (with_reducible first | apply w1 | apply w2 | apply w3 | apply w4 | apply w5 | apply w6 | apply w7 | apply w8 | apply w9 | apply wa | apply wb | apply wc) | ((with_reducible apply wd); focus decide) | ((with_reducible apply we); focus exact rfl) | ((with_reducible apply wf); focus exact rfl) | ((first | (with_reducible apply SW_run tt_ok hG htb) | ((with_reducible apply SW_draw rfl tt_ok hG htb); (focus kernel_rfl); focus simp only [List.range, List.range.loop, List.size_toArray, List.length_cons, List.length_nil, Nat.reduceAdd])); focus ((repeat' (first | (with_reducible first | exact wg | exact wh) | ((with_reducible first | apply wi | apply wj); focus (simp (discharger := omega) only [go_sem, hx, simprocAttr]; with_reducible rfl)))); done)))
          exact ⟨d.length - (i + 1), _, by omega, Norm.headS (own := []) (keep := [8, 9, 24, 25, 26]) (by refine ⟨?_, ?_⟩; (simp (discharger := omega) only [go_sem, simprocAttr]; with_reducible rfl); refine ⟨?_, ?_, ?_, ?_⟩ <;> (simp only [go_sem, simprocAttr]; with_reducible rfl)), i + 1, rfl, by rw [hpk]; rfl, by omega, hA'⟩
        · obtain ⟨e1, e2⟩ := hdig hlt (by rw [hat]; omega)
          rw [e1, e2]
          repeat' (first | (with_reducible first | apply w1 | apply w2 | apply w3 | apply w4 | apply w5 | apply w6 | apply w7 | apply w8 | apply w9 | apply wa | apply wb | apply wc) | ((with_reducible apply wd); focus decide) | ((with_reducible apply we); focus exact rfl) | ((with_reducible apply wf); focus exact rfl) | ((first | (with_reducible apply SW_run tt_ok hG htb) | ((with_reducible apply SW_draw rfl tt_ok hG htb); (focus kernel_rfl); focus simp only [List.range, List.range.loop, List.size_toArray, List.length_cons, List.length_nil, Nat.reduceAdd])); focus ((repeat' (first | (with_reducible first | exact wg | exact wh) | ((with_reducible first | apply wi | apply wj); focus (simp (discharger := omega) only [go_sem, hx, simprocAttr]; with_reducible rfl)))); done)))
          exact (by simp (discharger := omega) only [go_sem, tErr, simprocAttr])
      · obtain ⟨e1, e2⟩ := hdig hlt (by rw [hat]; omega)
        rw [e1, e2]
        repeat' (first | (with_reducible first | apply w1 | apply w2 | apply w3 | apply w4 | apply w5 | apply w6 | apply w7 | apply w8 | apply w9 | apply wa | apply wb | apply wc) | ((with_reducible apply wd); focus decide) | ((with_reducible apply we); focus exact rfl) | ((with_reducible apply wf); focus exact rfl) | ((first | (with_reducible apply SW_run tt_ok hG htb) | ((with_reducible apply SW_draw rfl tt_ok hG htb); (focus kernel_rfl); focus simp only [List.range, List.range.loop, List.size_toArray, List.length_cons, List.length_nil, Nat.reduceAdd])); focus ((repeat' (first | (with_reducible first | exact wg | exact wh) | ((with_reducible first | apply wi | apply wj); focus (simp (discharger := omega) only [go_sem, hx, simprocAttr]; with_reducible rfl)))); done)))
        exact (by simp (discharger := omega) only [go_sem, tErr, simprocAttr])
    · obtain rfl : i = d.length := by omega
      rw [List.take_length] at hA hb ⊢
      obtain ⟨e1, e2⟩ := hok hA
      rw [e1, e2]
      repeat' (first | (with_reducible first | apply w1 | apply w2 | apply w3 | apply w4 | apply w5 | apply w6 | apply w7 | apply w8 | apply w9 | apply wa | apply wb | apply wc) | ((with_reducible apply wd); focus decide) | ((with_reducible apply we); focus exact rfl) | ((with_reducible apply wf); focus exact rfl) | ((first | (with_reducible apply SW_run tt_ok hG htb) | ((with_reducible apply SW_draw rfl tt_ok hG htb); (focus kernel_rfl); focus simp only [List.range, List.range.loop, List.size_toArray, List.length_cons, List.length_nil, Nat.reduceAdd])); focus ((repeat' (first | (with_reducible first | exact wg | exact wh) | ((with_reducible first | apply wi | apply wj); focus (simp (discharger := omega) only [go_sem, simprocAttr]; with_reducible rfl)))); done)))
      exact (by simp (discharger := omega) only [go_sem, tErr, simprocAttr])
  · obtain ⟨e1, e2⟩ := packErr_many h0
    rw [e1, e2]
    generalize manyErr base d.length = e at *
    repeat' (first | (with_reducible first | apply w1 | apply w2 | apply w3 | apply w4 | apply w5 | apply w6 | apply w7 | apply w8 | apply w9 | apply wa | apply wb | apply wc) | ((with_reducible apply wd); focus decide) | ((with_reducible apply we); focus exact rfl) | ((with_reducible apply wf); focus exact rfl) | ((first | (with_reducible apply SW_run tt_ok hG htb) | ((with_reducible apply SW_draw rfl tt_ok hG htb); (focus kernel_rfl); focus simp only [List.range, List.range.loop, List.size_toArray, List.length_cons, List.length_nil, Nat.reduceAdd])); focus ((repeat' (first | (with_reducible first | exact wg | exact wh) | ((with_reducible first | apply wi | apply wj); focus (simp (discharger := omega) only [go_sem, tErr, h0, simprocAttr]; with_reducible rfl)))); done)))
    exact (by simp (discharger := omega) only [go_sem, tErr, h0, simprocAttr])
set_option maxHeartbeats 4000000 in
theorem Unpack_snd (base t l : Int) : Snd Try.prog G 30 [tInt base, tInt t, tInt l] (.tup [tInts (unpackOf base t l), tErr (unpackErr base t l)]) := by
  have htb := Tab.cons (Radix_snd hG base) (Tab.cons (Many_snd hG base t) Tab.nil)
  refine snd_of_body (n := 52) (tm := [(0, .t (tInt base)), (1, .t (tInt t)), (2, .t (tInt l))]) (rs := [.tmp 6, .tmp 7]) tt_ok Try.func30 rfl rfl rfl rfl rfl ?_
  by_cases h0 : manyErr base t = 0
  · obtain ⟨h1, h2, h5, hp36, hm⟩ := many_ok h0
    obtain ⟨r2, r6⟩ := radix_two h1
    have hp1 := powW_pos r2 t.toNat
    have hok : ¬ (l < 0 ∨ manyOf base t ≤ l) → unpackErr base t l = 0 ∧ unpackOf base t l = unpack (radix base) t.toNat l := unpackErr_ok h0
    have hno : (l < 0 ∨ manyOf base t ≤ l) → unpackErr base t l = 1 ∧ unpackOf base t l = [] := unpackErr_letter h0
    rw [h0] at htb
    rw [← hm] at hp36 hp1
    generalize manyOf base t = mo at *
    generalize radix base = k at *
    by_cases hl0 : l < 0
    · obtain ⟨e1, e2⟩ := hno (by omega)
      rw [e1, e2]
      repeat' (first | (with_reducible first | apply w1 | apply w2 | apply w3 | apply w4 | apply w5 | apply w6 | apply w7 | apply w8 | apply w9 | apply wa | apply wb | apply wc) | ((with_reducible apply wd); focus decide) | ((with_reducible apply we); focus exact rfl) | ((with_reducible apply wf); focus exact rfl) | ((first | (with_reducible apply SW_run tt_ok hG htb) | ((with_reducible apply SW_draw rfl tt_ok hG htb); (focus kernel_rfl); focus simp only [List.range, List.range.loop, List.size_toArray, List.length_cons, List.length_nil, Nat.reduceAdd])); focus ((repeat' (first | (with_reducible first | exact wg | exact wh) | ((with_reducible first | apply wi | apply wj); focus (simp (discharger := omega) only [go_sem, tErr, simprocAttr]; with_reducible rfl)))); done)))
      exact (by simp (discharger := omega) only [go_sem, tErr, simprocAttr])
    · by_cases hl1 : mo ≤ l
      · obtain ⟨e1, e2⟩ := hno (by omega)
        rw [e1, e2]
        repeat' (first | (with_reducible first | apply w1 | apply w2 | apply w3 | apply w4 | apply w5 | apply w6 | apply w7 | apply w8 | apply w9 | apply wa | apply wb | apply wc) | ((with_reducible apply wd); focus decide) | ((with_reducible apply we); focus exact rfl) | ((with_reducible apply wf); focus exact rfl) | ((first | (with_reducible apply SW_run tt_ok hG htb) | ((with_reducible apply SW_draw rfl tt_ok hG htb); (focus kernel_rfl); focus simp only [List.range, List.range.loop, List.size_toArray, List.length_cons, List.length_nil, Nat.reduceAdd])); focus ((repeat' (first | (with_reducible first | exact wg | exact wh) | ((with_reducible first | apply wi | apply wj); focus (simp (discharger := omega) only [go_sem, tErr, simprocAttr]; with_reducible rfl)))); done)))
        exact (by simp (discharger := omega) only [go_sem, tErr, simprocAttr])
      · obtain ⟨e1, e2⟩ := hok (by omega)
        rw [e1, e2]
        obtain ⟨t, rfl⟩ := Int.eq_ofNat_of_zero_le h2
        rw [Int.toNat_natCast] at *
        repeat' (first | (with_reducible first | apply w1 | apply w2 | apply w3 | apply w4 | apply w5 | apply w6 | apply w7 | apply w8 | apply w9 | apply wa | apply wb | apply wc) | ((with_reducible apply wd); focus decide) | ((with_reducible apply we); focus exact rfl) | ((with_reducible apply wf); focus exact rfl) | ((first | (with_reducible apply SW_run tt_ok hG htb) | ((with_reducible apply SW_draw rfl tt_ok hG htb); (focus kernel_rfl); focus simp only [List.range, List.range.loop, List.size_toArray, List.length_cons, List.length_nil, Nat.reduceAdd])); focus ((repeat' (first | (with_reducible first | exact wg | exact wh) | ((with_reducible first | apply wi | apply wj); focus (simp (discharger := omega) only [go_sem, tErr, simprocAttr]; with_reducible rfl)))); done)))
        refine SW_loop (fun m s => ∃ (j : Nat) (q : Int) (u : List Int) (ot : List T), m = t - j ∧ s = ⟨52, [(1, .t (tInt t)), (2, .t (tInt q)), (10, .t (tInt k)), (11, .sref 0), (34, .t (tInt t)), (35, .t (tInt j))], [.row 3 1 true ot]⟩ ∧ ot = (List.replicate (t - j) 0 ++ u).map tInt ∧ j ≤ t ∧ 0 ≤ q ∧ q ≤ 36 ∧ u.length = j ∧ unpack k t l = unpack k (t - j) q ++ u) t
          ⟨_, Norm.headS (own := [(11, 3, 1, true)]) (keep := [1, 2, 10, 11, 34, 35]) (by refine ⟨?_, ?_⟩; (simp (discharger := omega) only [go_sem, simprocAttr]; with_reducible rfl); refine ⟨?_, ?_, ?_, ?_⟩ <;> (simp only [go_sem, simprocAttr]; with_reducible rfl)), 0, l, [], _, rfl, rfl, by simp [tInt], Nat.zero_le _, by omega, by omega, rfl, by simp⟩ ?_
        rintro m s ⟨j, q, u, ot, rfl, rfl, hot, hj, q0, q36, hu, hU⟩
        have hol : ot.length = t := by rw [hot]; simp; omega
        by_cases hlt : j < t
        · have q1 : q.tmod k = q % k := by rw [Int.tmod_eq_emod_of_nonneg q0]
          have q2 : q.tdiv k = q / k := by rw [Int.tdiv_eq_ediv_of_nonneg q0]
          have q3 : 0 ≤ q / k := Int.ediv_nonneg q0 (by omega)
          have q4 : q / k ≤ q := Int.ediv_le_self _ q0
          obtain ⟨r, hr⟩ : ∃ r : Nat, t - j = r + 1 := ⟨t - j - 1, by omega⟩
          have hr' : (t : Int) - 1 - (j : Int) = (r : Nat) := by omega
          repeat' (first | (with_reducible first | apply w1 | apply w2 | apply w3 | apply w4 | apply w5 | apply w6 | apply w7 | apply w8 | apply w9 | apply wa | apply wb | apply wc) | ((with_reducible apply wd); focus decide) | ((with_reducible apply we); focus exact rfl) | ((with_reducible apply wf); focus exact rfl) | ((first | (with_reducible apply SW_run tt_ok hG htb) | ((with_reducible apply SW_draw rfl tt_ok hG htb); (focus kernel_rfl); focus simp only [List.range, List.range.loop, List.size_toArray, List.length_cons, List.length_nil, Nat.reduceAdd])); focus ((repeat' (first | (with_reducible first | exact wg | exact wh) | ((with_reducible first | apply wi | apply wj); focus (simp (discharger := omega) only [go_sem, q1, q2, hr', simprocAttr]; with_reducible rfl)))); done)))
          refine ⟨t - (j + 1), _, by omega, Norm.headS (own := [(11, 3, 1, true)]) (keep := [1, 2, 10, 11, 34, 35]) (by refine ⟨?_, ?_⟩; (simp (discharger := omega) only [go_sem, simprocAttr]; with_reducible rfl); refine ⟨?_, ?_, ?_, ?_⟩ <;> (simp only [go_sem, simprocAttr]; with_reducible rfl)), j + 1, q / k, (q % k) :: u, _, rfl, rfl, ?_, by omega, q3, by omega, by simp [hu], ?_⟩
          · have e : t - (j + 1) = r := by omega
            rw [hot, hr, e, List.replicate_succ', List.append_assoc, List.map_append, List.map_append, List.set_append_right _ _ (by simp)]
            simp [tInt]
          · have e : t - (j + 1) = r := by omega
            rw [hU, hr, e, unpack, List.append_assoc]; rfl
        · obtain rfl : j = t := by omega
          have : unpack k j l = u := by rw [hU]; simp [unpack]
          rw [this]
          rw [Nat.sub_self, List.replicate_zero, List.nil_append] at hot
          repeat' (first | (with_reducible first | apply w1 | apply w2 | apply w3 | apply w4 | apply w5 | apply w6 | apply w7 | apply w8 | apply w9 | apply wa | apply wb | apply wc) | ((with_reducible apply wd); focus decide) | ((with_reducible apply we); focus exact rfl) | ((with_reducible apply wf); focus exact rfl) | ((first | (with_reducible apply SW_run tt_ok hG htb) | ((with_reducible apply SW_draw rfl tt_ok hG htb); (focus kernel_rfl); focus simp only [List.range, List.range.loop, List.size_toArray, List.length_cons, List.length_nil, Nat.reduceAdd])); focus ((repeat' (first | (with_reducible first | exact wg | exact wh) | ((with_reducible first | apply wi | apply wj); focus (simp (discharger := omega) only [go_sem, simprocAttr]; with_reducible rfl)))); done)))
          exact (by simp (discharger := omega) only [go_sem, tErr, hot, simprocAttr])
  · obtain ⟨e1, e2⟩ := unpackErr_many (l := l) h0
    rw [e1, e2]
    generalize manyErr base t = e at *
    repeat' (first | (with_reducible first | apply w1 | apply w2 | apply w3 | apply w4 | apply w5 | apply w6 | apply w7 | apply w8 | apply w9 | apply wa | apply wb | apply wc) | ((with_reducible apply wd); focus decide) | ((with_reducible apply we); focus exact rfl) | ((with_reducible apply wf); focus exact rfl) | ((first | (with_reducible apply SW_run tt_ok hG htb) | ((with_reducible apply SW_draw rfl tt_ok hG htb); (focus kernel_rfl); focus simp only [List.range, List.range.loop, List.size_toArray, List.length_cons, List.length_nil, Nat.reduceAdd])); focus ((repeat' (first | (with_reducible first | exact wg | exact wh) | ((with_reducible first | apply wi | apply wj); focus (simp (discharger := omega) only [go_sem, tErr, h0, simprocAttr]; with_reducible rfl)))); done)))
    exact (by simp (discharger := omega) only [go_sem, tErr, h0, simprocAttr])
end
end Go.Proofs.Ythcclcbliedodaa
namespace Go.Proofs.Ythcclcbliedodaa
open Go.RowKit

section
variable {G : World → Prop} (hG : Lasting G)
include hG
set_option maxHeartbeats 16000000 in
set_option maxRecDepth 100000 in
theorem left_snd (a : GAuto) (track : Int) : Snd Try.prog G 42 [tAuto a, tInt track] (.tup [tAuto (leastOf a), tIntss (leftS a track), tIntss (leftR a track), tErr (leftErr a track)]) := by
  have c1 := Least_snd hG a
  refine sndH_of_body (κ := Nat) (n := 111) (tm := [(0, .t (tAuto a)), (1, .t (tInt track))]) (rs := [.cell 4 25, .tmp 5, .tmp 6, .tmp 7]) ttR_ok Try.func42 rfl rfl rfl rfl rfl ?_
  by_cases hf : autoFault a = 0
  rotate_left
  · have he : leftErr a track = autoFault a := if_pos hf
    have hb : leftBad a track := .inl hf
    have hS : leftS a track = [] := if_pos hb
    have hR : leftR a track = [] := if_pos hb
    have hl0 : leastOf a = GAuto.zero := if_neg hf
    rw [he, hS, hR, hl0]
    rw [hl0] at c1
    generalize autoFault a = e at *
    have htb := Tab.cons c1 Tab.nil
    repeat' (first | (with_reducible first | apply v1 | apply v2 | apply v3 | apply v4 | apply v5 | apply v6 | apply v7 | apply v8 | apply v9 | apply va | apply vb | apply vc) | ((with_reducible apply vd); focus decide) | ((with_reducible apply ve); focus exact rfl) | ((with_reducible apply vf); focus exact rfl) | ((first | (with_reducible apply HW_run ttR_ok hG htb) | ((with_reducible apply HW_draw rfl ttR_ok hG htb); (focus kernel_rfl); focus simp only [List.range, List.range.loop, List.size_toArray, List.length_cons, List.length_nil, Nat.reduceAdd])); focus ((repeat' (first | (with_reducible first | exact wg | exact wh) | ((with_reducible first | apply wi | apply wj); focus (simp (discharger := omega) only [go_sem, tAuto, tErr, hf, simprocAttr]; with_reducible rfl)))); done)))
    exact (by simp (discharger := omega) only [go_sem, tAuto, tErr, hf, GAuto.zero, simprocAttr])
  have hlA : leastOf a = leastA a := if_pos hf
  have g0 := good_of hf
  obtain ⟨_, _, gM⟩ := least_again g0
  obtain ⟨M, hM⟩ : ∃ M, leastA a = M := ⟨_, rfl⟩
  rw [hlA, hf, hM] at c1
  rw [hlA, hM]
  rw [hM] at gM
  by_cases hk0 : track < 0
  · have hb : leftBad a track := .inr (.inl hk0)
    have hS : leftS a track = [] := if_pos hb
    have hR : leftR a track = [] := if_pos hb
    have he : leftErr a track = 1 := by unfold leftErr; rw [if_neg (fun q => q hf), if_pos (.inl hk0)]
    rw [hS, hR, he]
    have htb := Tab.cons c1 Tab.nil
    repeat' (first | (with_reducible first | apply v1 | apply v2 | apply v3 | apply v4 | apply v5 | apply v6 | apply v7 | apply v8 | apply v9 | apply va | apply vb | apply vc) | ((with_reducible apply vd); focus decide) | ((with_reducible apply ve); focus exact rfl) | ((with_reducible apply vf); focus exact rfl) | ((first | (with_reducible apply HW_run ttR_ok hG htb) | ((with_reducible apply HW_draw rfl ttR_ok hG htb); (focus kernel_rfl); focus simp only [List.range, List.range.loop, List.size_toArray, List.length_cons, List.length_nil, Nat.reduceAdd])); focus ((repeat' (first | (with_reducible first | exact wg | exact wh) | ((with_reducible first | apply wi | apply wj); focus (simp (discharger := omega) only [go_sem, tErr0, tAuto, simprocAttr]; with_reducible rfl)))); done)))
    exact (by simp (discharger := omega) only [go_sem, tAuto, tErr, simprocAttr])
  by_cases hkt : a.tracks ≤ track
  · have hb : leftBad a track := .inr (.inr hkt)
    have hS : leftS a track = [] := if_pos hb
    have hR : leftR a track = [] := if_pos hb
    have he : leftErr a track = 1 := by unfold leftErr; rw [if_neg (fun q => q hf), if_pos (.inr hkt)]
    rw [hS, hR, he]
    have htb := Tab.cons c1 Tab.nil
    repeat' (first | (with_reducible first | apply v1 | apply v2 | apply v3 | apply v4 | apply v5 | apply v6 | apply v7 | apply v8 | apply v9 | apply va | apply vb | apply vc) | ((with_reducible apply vd); focus decide) | ((with_reducible apply ve); focus exact rfl) | ((with_reducible apply vf); focus exact rfl) | ((first | (with_reducible apply HW_run ttR_ok hG htb) | ((with_reducible apply HW_draw rfl ttR_ok hG htb); (focus kernel_rfl); focus simp only [List.range, List.range.loop, List.size_toArray, List.length_cons, List.length_nil, Nat.reduceAdd])); focus ((repeat' (first | (with_reducible first | exact wg | exact wh) | ((with_reducible first | apply wi | apply wj); focus (simp (discharger := omega) only [go_sem, tErr0, tAuto, simprocAttr]; with_reducible rfl)))); done)))
    exact (by simp (discharger := omega) only [go_sem, tAuto, tErr, simprocAttr])
  obtain ⟨k, rfl⟩ : ∃ k : Nat, track = (k : Int) := ⟨track.toNat, by omega⟩
  obtain ⟨t, N, r, ok⟩ := left_ok hf (by omega : (k : Int) < a.tracks)
  have hb : ¬ leftBad a (k : Int) := fun q => by
    rcases q with q | q | q
    · exact q hf
    · omega
    · omega
  have hS : leftS a (k : Int) = _ := if_neg hb
  have hR : leftR a (k : Int) = _ := if_neg hb
  have htt : a.tracks - 1 = ((t : Nat) : Int) := by have := ok.tr; omega
  have hW : leftW a (k : Int) = withW a.base t k := by unfold leftW; rw [htt]; rfl
  have hNe : leftN a = N := by unfold leftN; rw [htt, Int.toNat_natCast, ok.nWe, Int.toNat_natCast]
  have hFe : leftF a (k : Int) = closeL M ((withW a.base t k)[0]!) := by unfold leftF; rw [hW, hM]
  rw [hS, hR, hM, hNe, hFe, hW]
  have c2 := Many_snd hG a.base (t : Int)
  rw [ok.many, ok.nWe] at c2
  have c3 := Radix_snd hG a.base
  rw [ok.rad] at c3
  have htr := ok.tr
  have ht4 := ok.t4
  have hkt2 := ok.kt
  have hN36 := ok.nW36
  have hN0 := ok.nW0
  have hr2 := ok.r2
  have hr6 := ok.r6
  have h1 : ¬ (a.tracks ≤ (k : Int)) := hkt
  have htb := Tab.cons c1 (Tab.cons c2 Tab.nil)
  repeat' (first | (with_reducible first | apply v1 | apply v2 | apply v3 | apply v4 | apply v5 | apply v6 | apply v7 | apply v8 | apply v9 | apply va | apply vb | apply vc) | ((with_reducible apply vd); focus decide) | ((with_reducible apply ve); focus exact rfl) | ((with_reducible apply vf); focus exact rfl) | ((first | (with_reducible apply HW_run ttR_ok hG htb) | ((with_reducible apply HW_draw rfl ttR_ok hG htb); (focus kernel_rfl); focus simp only [List.range, List.range.loop, List.size_toArray, List.length_cons, List.length_nil, Nat.reduceAdd])); focus ((repeat' (first | (with_reducible first | exact wg | exact wh) | ((with_reducible first | apply wi | apply wj); focus (simp (discharger := omega) only [go_sem, tErr0, tAuto, htt, simprocAttr]; with_reducible rfl)))); done)))
  clear htb
  have htb := Tab.cons c3 Tab.nil
  refine HW_norm (Norm.headS (own := []) (keep := [1, 2, 4, 7, 8, 10, 48, 49]) (by refine ⟨?_, ?_⟩; (simp (discharger := omega) only [go_sem, simprocAttr]; with_reducible rfl); refine ⟨?_, ?_, ?_, ?_⟩ <;> (simp only [go_sem, simprocAttr]; with_reducible rfl))) ?_
  refine HW_norm (Norm.fixBox 0 rfl rfl) ?_
  refine HW_norm (Norm.tr 2 rfl rfl) ?_
  refine HW_loop (fun mm st g => ∃ (l : Nat) (ws : List T), mm = N - l ∧ st = ⟨111, [(1, .t (tNat k)), (2, .t (autoP a)), (4, .bptr 0 0), (7, .t .nilI), (8, .t (tNat N)), (10, .bptr 1 0), (48, .t (tNat N)), (49, .t (tNat l))], [.box [.t (tInt M.base), .t (tInt M.tracks), .t (tIntss M.next), .t (tBools M.ends)], .box [.sref 2], .row 26 1 true ws]⟩ ∧ l ≤ N ∧ HdrInv g ws N (fun j => if j < l then withR a.base t k j else [])) N
    ⟨_, Norm.headS (own := []) (keep := [1, 2, 4, 7, 8, 10, 48, 49]) (by refine ⟨?_, ?_⟩; (simp (discharger := omega) only [go_sem, simprocAttr]; with_reducible rfl); refine ⟨?_, ?_, ?_, ?_⟩ <;> (simp only [go_sem, simprocAttr]; with_reducible rfl)), 0, _, rfl, rfl, Nat.zero_le _, (HdrInv.init N).congr fun j hj => by rw [if_neg (by omega)]⟩ ?_
  rintro mm st g ⟨l, ws, rfl, rfl, hl, hinv⟩
  have hwl : ws.length = N := hinv.1
  by_cases hlt : l < N
  · have c4 := Unpack_snd hG a.base (t : Int) (l : Int)
    obtain ⟨u1, u2⟩ := unpackErr_ok (base := a.base) (t := (t : Int)) (l := (l : Int)) ok.many (by rw [ok.nWe]; omega)
    rw [u1, u2, Int.toNat_natCast] at c4
    obtain ⟨d, hd⟩ : ∃ d, unpack (radix a.base) t (l : Int) = d := ⟨_, rfl⟩
    rw [hd] at c4
    have hdl : d.length = t := by rw [← hd]; exact unpack_length _ _ _
    clear htb
    have htb := Tab.cons c4 (Tab.cons c3 Tab.nil)
    repeat' (first | (with_reducible first | apply v1 | apply v2 | apply v3 | apply v4 | apply v5 | apply v6 | apply v7 | apply v8 | apply v9 | apply va | apply vb | apply vc) | ((with_reducible apply vd); focus decide) | ((with_reducible apply ve); focus exact rfl) | ((with_reducible apply vf); focus exact rfl) | ((first | (with_reducible apply HW_run ttR_ok hG htb) | ((with_reducible apply HW_draw rfl ttR_ok hG htb); (focus kernel_rfl); focus simp only [List.range, List.range.loop, List.size_toArray, List.length_cons, List.length_nil, Nat.reduceAdd])); focus ((repeat' (first | (with_reducible first | exact wg | exact wh) | ((with_reducible first | apply wi | apply wj); focus (simp (discharger := omega) only [go_sem, tErr0, autoP, htt, simprocAttr]; with_reducible rfl)))); done)))
    refine HW_loop (fun mm st g => ∃ (x : Nat) (ws : List T), mm = r - x ∧ st = ⟨111, [(1, .t (tNat k)), (2, .t (autoP a)), (4, .bptr 0 0), (7, .t .nilI), (8, .t (tNat N)), (10, .bptr 1 0), (11, .t (tNat l)), (12, .t (tInts d)), (48, .t (tNat N)), (49, .t (tNat l)), (64, .t (tNat r)), (65, .t (tNat x))], [.box [.t (tInt M.base), .t (tInt M.tracks), .t (tIntss M.next), .t (tBools M.ends)], .box [.sref 2], .row 26 1 true ws]⟩ ∧ x ≤ r ∧ HdrInv g ws N (fun j => if j < l then withR a.base t k j else if j = l then (withR a.base t k l).take x else [])) r
      ⟨_, Norm.headS (own := []) (keep := [1, 2, 4, 7, 8, 10, 11, 12, 48, 49, 64, 65]) (by refine ⟨?_, ?_⟩; (simp (discharger := omega) only [go_sem, simprocAttr]; with_reducible rfl); refine ⟨?_, ?_, ?_, ?_⟩ <;> (simp only [go_sem, simprocAttr]; with_reducible rfl)), 0, _, rfl, rfl, Nat.zero_le _, hinv.congr fun j hj => by
        by_cases h : j < l
        · rw [if_pos h, if_pos h]
        · rw [if_neg h, if_neg h, List.take_zero]; simp⟩ ?_
    rintro mm st g ⟨x, ws, rfl, rfl, hx, hinv⟩
    have hwl : ws.length = N := hinv.1
    by_cases hxr : x < r
    · obtain ⟨y, hy⟩ : ∃ y, insL d k (x : Int) = y := ⟨_, rfl⟩
      have hyf : y = fixD a.base t k (x : Int) l := by rw [← hy]; unfold insL fixD; rw [hd]
      have hyl : y.length = t + 1 := by rw [← hy, insL_length (by omega), hdl]
      obtain ⟨v, hv⟩ : ∃ v, fixL a.base t k (x : Int) l = v := ⟨_, rfl⟩
      have c5 := Pack_snd hG a.base y
      have hrr := ok.rad
      obtain ⟨p1, p2⟩ := packErr_ok (base := a.base) (d := y) (by rw [hyl, ← ok.tr]; exact ok.good.many) (by rw [hyf]; exact fixD_ok (by omega) (by omega) l)
      have p3 : pack (radix a.base) y = v := by rw [hyf]; exact hv
      rw [p1, p2, p3] at c5
      have c6 := Clone_snd (G := G) d (by omega)
      have c7 := Insert_snd (G := G) d k (x : Int) (by omega) (by omega)
      rw [hy] at c7
      clear htb
      have htb := Tab.cons c5 Tab.nil
      repeat' (first | (with_reducible first | apply v1 | apply v2 | apply v3 | apply v4 | apply v5 | apply v6 | apply v7 | apply v8 | apply v9 | apply va | apply vb | apply vc) | ((with_reducible apply vd); focus decide) | ((with_reducible apply ve); focus exact rfl) | ((with_reducible apply vf); focus exact rfl) | ((first | (with_reducible apply HW_run ttR_ok hG htb) | ((with_reducible apply HW_draw rfl ttR_ok hG htb); (focus kernel_rfl); focus simp only [List.range, List.range.loop, List.size_toArray, List.length_cons, List.length_nil, Nat.reduceAdd])); focus ((repeat' (first | (with_reducible first | exact wg | exact wh) | ((with_reducible first | apply wi | apply wj); focus (simp (discharger := omega) only [go_sem, simprocAttr]; with_reducible rfl)))); done)))
      refine HW_norm (Norm.headS (own := []) (keep := [1, 2, 4, 7, 8, 10, 11, 12, 14, 48, 49, 64, 65]) (by refine ⟨?_, ?_⟩; (simp (discharger := omega) only [go_sem, simprocAttr]; with_reducible rfl); refine ⟨?_, ?_, ?_, ?_⟩ <;> (simp only [go_sem, simprocAttr]; with_reducible rfl))) ?_
      refine HW_sw ?_
      refine SW_drawS (fun q => if q = 3 then some ⟨[.box [.t (tInt M.base), .t (tInt M.tracks), .t (tIntss M.next), .t (tBools M.ends)], .box [.sref 2], .row 26 1 true ws], [.t (.fn 57 []), .t (tInts d)], [.box [.t (tInt M.base), .t (tInt M.tracks), .t (tIntss M.next), .t (tBools M.ends)], .box [.sref 2], .row 26 1 true ws, .row 3 1 true (iL d)], .sref 3, pastG [] []⟩ else if q = 7 then some ⟨[.box [.t (tInt M.base), .t (tInt M.tracks), .t (tIntss M.next), .t (tBools M.ends)], .box [.sref 2], .row 26 1 true ws, .row 3 1 true (iL d)], [.t (.fn 56 []), .sref 3, .t (tNat k), .lit [tInt (x : Int)]], [.froz (iL y), .box [.t (tInt M.base), .t (tInt M.tracks), .t (tIntss M.next), .t (tBools M.ends)], .box [.sref 3], .row 26 1 true ws], .t (tInts y), fun i => (posIn [3, 0, 1, 2] i).bind (pastG [.row 3 1 true (iL d)] [])⟩ else none) [3, 7] rfl ttR_ok hG htb (t := ?zt) ?topo ?hlk ?hok ?run ?rest
      case topo => kernel_rfl
      case hlk =>
        intro q L h
        by_cases h3 : q = 3
        · subst h3; simp
        · by_cases h7 : q = 7
          · subst h7; simp
          · simp [h3, h7] at h
      case hok =>
        intro q L o hL ho
        by_cases h3 : q = 3
        · subst h3
          rw [if_pos rfl] at hL
          cases hL
          cases ho
          exact LoudOk.call (asl := [.t (tInts d)]) (obs := []) (rst := [.box [.t (tInt M.base), .t (tInt M.tracks), .t (tIntss M.next), .t (tBools M.ends)], .box [.sref 2], .row 26 1 true ws]) (ks := []) (cap := []) rfl rfl rfl c6 rfl rfl
        · rw [if_neg h3] at hL
          by_cases h7 : q = 7
          · subst h7
            rw [if_pos rfl] at hL
            cases hL
            cases ho
            refine LoudOk.perm [3, 0, 1, 2] rfl (LoudOk.call (asl := [.sref 0, .t (tNat k), .lit [tInt (x : Int)]]) (obs := [.row 3 1 true (iL d)]) (rst := [.box [.t (tInt M.base), .t (tInt M.tracks), .t (tIntss M.next), .t (tBools M.ends)], .box [.sref 3], .row 26 1 true ws]) (ks := []) (cap := []) rfl rfl rfl c7 rfl rfl) rfl rfl ?_
            intro v hv
            simp [Op.operands, Call.operands] at hv
          · rw [if_neg h7] at hL
            cases hL
      case run =>
        (simp only [List.range, List.range.loop, List.size_toArray, List.length_cons, List.length_nil, Nat.reduceAdd]; repeat' (first | (with_reducible exact runA_nil) | ((with_reducible apply runA_cons); focus (first | (apply stepS_quietE rfl rfl rfl rfl; (focus (intro H; simp (discharger := omega) only [go_sem, autoP, tErr0, simprocAttr]; with_reducible rfl)); (focus rfl); (focus rfl); (focus (simp only [go_sem, simprocAttr]; with_reducible rfl))) | (apply stepS_loud rfl rfl rfl rfl rfl rfl; (focus (simp only [go_sem, loudSt, St.put, List.map_cons, List.map_nil, SV.ren, renL, pastG, posIn, Option.bind, List.getElem?_cons_zero, List.getElem?_cons_succ, List.getElem?_nil, simprocAttr]; with_reducible rfl)))))))
      case rest =>
        refine HThen_n ?_
        refine HW_norm (Norm.headS (own := []) (keep := [1, 2, 4, 7, 8, 10, 11, 12, 15, 48, 49, 64, 65]) (by refine ⟨?_, ?_⟩; (simp (discharger := omega) only [go_sem, simprocAttr]; with_reducible rfl); refine ⟨?_, ?_, ?_, ?_⟩ <;> (simp only [go_sem, simprocAttr]; with_reducible rfl))) ?_
        obtain ⟨sv, hsv⟩ : ∃ sv, ws[l]! = sv := ⟨_, rfl⟩
        have hhd := hinv.2 l hlt
        dsimp only at hhd
        rw [if_neg (by omega), if_pos rfl, hsv] at hhd
        obtain ⟨ra, rn, rc, rfl⟩ : ∃ ra rn rc, sv = .raw ra rn rc := by rcases hhd with ⟨_, _, h⟩ | ⟨q, _, _, _, _, h⟩ <;> exact ⟨_, _, _, h⟩
        have hcl : ((withR a.base t k l).take x).length ≤ 6 := by rw [List.length_take]; omega
        refine HW_drawH (A := ⟨8, .tmp 85, .tmp 87, .raw ra rn rc, [tInt v], l, 3, 1, iL ((withR a.base t k l).take x), g⟩) 10 rfl ttR_ok hG htb ?topo (t := 26) (i := ⟨.slice 3, 1, 24, [.t (.raw none 0 0)], false⟩) (ie := ⟨.int .i64, 1, 8, [.t (.int .i64 0)], false⟩) ⟨_, rfl, rfl, rfl⟩ rfl rfl (by show ttR 3 = _; rfl) rfl hhd rfl rfl ?hb ?hm rfl ?run2
        case topo => kernel_rfl
        case hb =>
          simp only [iL_length, List.length_cons, List.length_nil]
          show _ * 8 ≤ _
          omega
        case hm =>
          simp only [iL_length, List.length_cons, List.length_nil]
          unfold maxLen
          omega
        case run2 =>
          intro c
          have hst := hinv.step hlt v c (cont' := fun j => if j < l then withR a.base t k j else if j = l then (withR a.base t k l).take (x + 1) else []) (by rw [if_neg (by omega), if_pos rfl, if_neg (by omega), if_pos rfl, withR_take ok.rad hxr, hv]) (fun j h1 h2 => by
            by_cases h : j < l
            · rw [if_pos h, if_pos h]
            · rw [if_neg h, if_neg h, if_neg h1, if_neg h1])
          rw [if_neg (by omega), if_pos rfl] at hst
          refine ⟨?t2, ?r1, ?r2⟩
          case r1 =>
            (simp only [List.range, List.range.loop, List.size_toArray, List.length_cons, List.length_nil, Nat.reduceAdd]; repeat' (first | (with_reducible exact runA_nil) | ((with_reducible apply runA_cons); focus (first | (apply stepH_q rfl (by simp) (by simp) rfl rfl; (focus (simp (discharger := omega) only [go_sem, hsv, simprocAttr]; with_reducible rfl)); (focus (simp only [go_sem, simprocAttr]; with_reducible rfl))) | (apply stepH_a rfl rfl rfl rfl rfl rfl rfl; (focus (simp only [go_sem, simprocAttr]; with_reducible rfl))) | (apply stepH_l rfl (by simp) rfl; (focus (simp (discharger := omega) only [go_sem, hsv, simprocAttr]; with_reducible rfl)))))))
          case r2 =>
            dsimp only
            repeat' (first | (with_reducible first | apply v1 | apply v2 | apply v3 | apply v4 | apply v5 | apply v6 | apply v7 | apply v8 | apply v9 | apply va | apply vb | apply vc) | ((with_reducible apply vd); focus decide) | ((with_reducible apply ve); focus exact rfl) | ((with_reducible apply vf); focus exact rfl) | ((first | (with_reducible apply HW_run ttR_ok hG htb) | ((with_reducible apply HW_draw rfl ttR_ok hG htb); (focus kernel_rfl); focus simp only [List.range, List.range.loop, List.size_toArray, List.length_cons, List.length_nil, Nat.reduceAdd])); focus ((repeat' (first | (with_reducible first | exact wg | exact wh) | ((with_reducible first | apply wi | apply wj); focus (simp (discharger := omega) only [go_sem, simprocAttr]; with_reducible rfl)))); done)))
            exact ⟨r - (x + 1), _, by omega, Norm.headS (own := []) (keep := [1, 2, 4, 7, 8, 10, 11, 12, 48, 49, 64, 65]) (by refine ⟨?_, ?_⟩; (simp (discharger := omega) only [go_sem, simprocAttr]; with_reducible rfl); refine ⟨?_, ?_, ?_, ?_⟩ <;> (simp only [go_sem, simprocAttr]; with_reducible rfl)), x + 1, _, rfl, rfl, by omega, hst⟩
    · obtain rfl : x = r := by omega
      have htk : (withR a.base t k l).take x = withR a.base t k l := List.take_of_length_le (by rw [withR_len ok.rad]; exact Nat.le_refl _)
      repeat' (first | (with_reducible first | apply v1 | apply v2 | apply v3 | apply v4 | apply v5 | apply v6 | apply v7 | apply v8 | apply v9 | apply va | apply vb | apply vc) | ((with_reducible apply vd); focus decide) | ((with_reducible apply ve); focus exact rfl) | ((with_reducible apply vf); focus exact rfl) | ((first | (with_reducible apply HW_run ttR_ok hG htb) | ((with_reducible apply HW_draw rfl ttR_ok hG htb); (focus kernel_rfl); focus simp only [List.range, List.range.loop, List.size_toArray, List.length_cons, List.length_nil, Nat.reduceAdd])); focus ((repeat' (first | (with_reducible first | exact wg | exact wh) | ((with_reducible first | apply wi | apply wj); focus (simp (discharger := omega) only [go_sem, simprocAttr]; with_reducible rfl)))); done)))
      exact ⟨N - (l + 1), _, by omega, Norm.headS (own := []) (keep := [1, 2, 4, 7, 8, 10, 48, 49]) (by refine ⟨?_, ?_⟩; (simp (discharger := omega) only [go_sem, simprocAttr]; with_reducible rfl); refine ⟨?_, ?_, ?_, ?_⟩ <;> (simp only [go_sem, simprocAttr]; with_reducible rfl)), l + 1, _, rfl, rfl, by omega, hinv.congr fun j hj => by
        by_cases h : j < l
        · rw [if_pos (by omega), if_pos h]
        · by_cases h' : j = l
          · subst h'
            rw [if_pos (by omega), if_neg h, if_pos rfl, htk]
          · rw [if_neg (by omega), if_neg h, if_neg h']⟩
  · obtain rfl : l = N := by omega
    have hWl := withW_len ok
    obtain ⟨W, hWe⟩ : ∃ W, withW a.base t k = W := ⟨_, rfl⟩
    rw [hWe] at hWl
    have hWg : ∀ j, j < l → W[j]! = withR a.base t k j := fun j hj => by
      have := withW_get ok hj
      rw [hWe] at this
      obtain ⟨q1, q2⟩ := List.getElem?_eq_some_iff.1 this
      rw [getElem!_pos W j q1, q2]
    have hWr : ∀ w ∈ W, w.length = r ∧ ∀ x ∈ w, 0 ≤ x ∧ x < ((manyOf a.base a.tracks).toNat : Int) := fun w hw => by
      rw [← hWe] at hw
      unfold withW at hw
      obtain ⟨j, _, rfl⟩ := List.mem_map.1 hw
      exact ⟨withR_len ok.rad, withR_bd ok j⟩
    obtain ⟨o1, o2⟩ := (hinv.congr (cont' := fun j => W[j]!) (fun j hj => by rw [if_pos hj]; exact hWg j hj)).opens hWl (fun w hw e => by have := (hWr w hw).1; rw [e] at this; simp at this; omega)
    rw [hWe]
    refine HW_seq ?_
    repeat' (first | (with_reducible first | apply v2 | apply v3 | apply v4 | apply v5 | apply v6 | apply v7 | apply v8 | apply v9 | apply va | apply vb | apply vc) | ((with_reducible apply vd); focus decide) | ((with_reducible apply ve); focus exact rfl) | ((with_reducible apply vf); focus exact rfl) | ((first | (with_reducible apply HW_run ttR_ok hG htb) | ((with_reducible apply HW_draw rfl ttR_ok hG htb); (focus kernel_rfl); focus simp only [List.range, List.range.loop, List.size_toArray, List.length_cons, List.length_nil, Nat.reduceAdd])); focus ((repeat' (first | (with_reducible first | exact wg | exact wh) | ((with_reducible first | apply wi | apply wj); focus (simp (discharger := omega) only [go_sem, simprocAttr]; with_reducible rfl)))); done)))
    refine HW_seq ?_
    repeat' (first | (with_reducible first | apply v2 | apply v3 | apply v4 | apply v5 | apply v6 | apply v7 | apply v8 | apply v9 | apply va | apply vb | apply vc) | ((with_reducible apply vd); focus decide) | ((with_reducible apply ve); focus exact rfl) | ((with_reducible apply vf); focus exact rfl) | ((first | (with_reducible apply HW_run ttR_ok hG htb) | ((with_reducible apply HW_draw rfl ttR_ok hG htb); (focus kernel_rfl); focus simp only [List.range, List.range.loop, List.size_toArray, List.length_cons, List.length_nil, Nat.reduceAdd])); focus ((repeat' (first | (with_reducible first | exact wg | exact wh) | ((with_reducible first | apply wi | apply wj); focus (simp (discharger := omega) only [go_sem, simprocAttr]; with_reducible rfl)))); done)))
    refine HW_norm (Norm.headS (own := []) (keep := [1, 2, 4, 7, 8, 10]) (by refine ⟨?_, ?_⟩; (simp (discharger := omega) only [go_sem, simprocAttr]; with_reducible rfl); refine ⟨?_, ?_, ?_, ?_⟩ <;> (simp only [go_sem, simprocAttr]; with_reducible rfl))) ?_
    refine HW_open (κ' := Nat) (by exact GS_openRow (st := ⟨111, [(1, .t (tNat k)), (2, .t (autoP a)), (4, .bptr 0 0), (7, .t .nilI), (8, .t (tNat l)), (10, .bptr 1 0)], [.box [.t (tInt M.base), .t (tInt M.tracks), .t (tIntss M.next), .t (tBools M.ends)], .box [.sref 2], .row 26 1 true ws]⟩) (j := 2) (W.map tInts) rfl o1 o2) ?_
    clear o1 o2 hinv htb
    have htb : Tab.ok Try.prog G [] := Tab.nil
    refine SW_norm (Norm.frzRow 2 rfl) ?_
    refine SW_norm (Norm.trB 1 0 rfl rfl rfl) ?_
    refine SW_norm (Norm.fixBox 1 rfl rfl) ?_
    refine SW_norm (Norm.tr 10 rfl rfl) ?_
    refine SW_norm (Norm.headS (own := []) (keep := [1, 2, 4, 7, 8, 10]) (by refine ⟨?_, ?_⟩; (simp (discharger := omega) only [go_sem, simprocAttr]; with_reducible rfl); refine ⟨?_, ?_, ?_, ?_⟩ <;> (simp only [go_sem, simprocAttr]; with_reducible rfl))) ?_
    obtain ⟨w0, hw0⟩ : ∃ w0, W[0]! = w0 := ⟨_, rfl⟩
    have hw0W := bang_mem hw0 (by omega)
    have gMr := gM.rows
    have hm0 := gM.m0
    have hm80 := gM.m80
    obtain ⟨m, hm⟩ : ∃ m, M.next.length = m := ⟨_, rfl⟩
    rw [hm] at gMr hm0 hm80
    have c8 := closure_snd hG gMr hm0 hm80 (letters := w0) (hWr w0 hw0W).2
    have hIm : Inm m (closeL M w0) := close_in gMr hm0 (hWr w0 hw0W).2 _
    have hIl : (closeL M w0).length ≤ m := close_len gMr hm0 (hWr w0 hw0W).2 _
    have hWb : ∀ j, j < l → (W[j]!).length ≤ 6 := fun j hj => by
      have := (hWr _ (bang_mem (i := j) rfl (by omega))).1
      omega
    have c9 := GrowN_snd hG hm80 (closeL M w0) l 58 (.ptr [tIntss W]) (tInt M.base) (tInt M.tracks) (tIntss M.next) (tBools M.ends) (stepW M.next W) hIm (by omega) hN36 (fun s j hs hj => stepW_in gMr (fun q hq => (hWr q hq).2) hs (by omega)) (fun s j hs ha hj => by
      have := inm_len hs ha
      have h2 := stepW_len (next := M.next) (s := s) (hWb j hj)
      have h3 : s.length * 6 ≤ 80 * 6 := Nat.mul_le_mul_right _ (by omega)
      omega) (fun s j hs ha hj => LeftStep_snd hG gMr (fun q hq => ⟨by have := (hWr q hq).1; omega, (hWr q hq).2⟩) s hs (by have := inm_len hs ha; omega) j (by omega))
    rw [hw0]
    obtain ⟨R, hR⟩ : ∃ R, iL (closeL M w0) = R := ⟨_, rfl⟩
    rw [hR] at c8 c9
    obtain ⟨S, hS⟩ : ∃ S, growSets (stepW M.next W) l (closeL M w0) = S := ⟨_, rfl⟩
    obtain ⟨D, hD⟩ : ∃ D, growRows (stepW M.next W) l (closeL M w0) = D := ⟨_, rfl⟩
    obtain ⟨gk, hgk⟩ : ∃ gk, growOk (stepW M.next W) l (closeL M w0) = gk := ⟨_, rfl⟩
    rw [hS, hD, hgk] at c9
    rw [hS, hD]
    have hoke : leftOk a (k : Int) = gk := by unfold leftOk; rw [hM, hNe, hFe, hW, hWe, hw0]; exact hgk
    have hWlen : 0 < W.length := by omega
    show SW _ _ _ _ ⟨111, [(1, .t (tNat k)), (2, .t (autoP a)), (4, .bptr 0 0), (7, .t .nilI), (8, .t (tNat l)), (10, .t (.ptr [tIntss W]))], [.box [.t (tInt M.base), .t (tInt M.tracks), .t (tIntss M.next), .t (tBools M.ends)]]⟩
    refine SW_seq ?_
    refine SW_drawM (fun q => if q = 4 then some ⟨[.box [.t (tInt M.base), .t (tInt M.tracks), .t (tIntss M.next), .t (tBools M.ends)]], [.t (.fn 46 []), .t (tAuto M), .t (tInts w0)], [.box [.t (tInt M.base), .t (tInt M.tracks), .t (tIntss M.next), .t (tBools M.ends)], .row 3 1 true R], .sref 1, pastG [] []⟩ else if q = 7 then some ⟨[.box [.t (tInt M.base), .t (tInt M.tracks), .t (tIntss M.next), .t (tBools M.ends)], .row 3 1 true R], [.t (.fn 45 []), .sref 1, .t (tNat l), .fn 58 [.t (.ptr [tIntss W]), .bptr 0 0]], [.hole, .box [.t (tInt M.base), .t (tInt M.tracks), .t (tIntss M.next), .t (tBools M.ends)], .box [.t (tIntss S)]], .t (.tup [tIntss S, tIntss D, .bool gk]), fun i => (posIn [1, 0] i).bind (pastG [.row 3 1 true R, .box [.t (tInt M.base), .t (tInt M.tracks), .t (tIntss M.next), .t (tBools M.ends)]] [])⟩ else none) [4, 7] [4] [0] rfl ttR_ok hG htb (t := ?zt3) ?topo3 ?hlk3 ?hml3 ?hok3 ?run3 ?rest3
    case topo3 => kernel_rfl
    case hlk3 =>
      intro q L h
      by_cases h4 : q = 4
      · subst h4; simp
      · by_cases h7 : q = 7
        · subst h7; simp
        · simp [h4, h7] at h
    case hml3 =>
      intro q L h h4
      obtain rfl : q = 4 := by simpa using h4
      rw [if_pos rfl] at h
      cases h
      exact past_none
    case hok3 =>
      intro q L o hL ho
      by_cases h4 : q = 4
      · subst h4
        rw [if_pos rfl] at hL
        cases hL
        cases ho
        exact LoudOk.call (asl := [.t (tAuto M), .t (tInts w0)]) (obs := []) (rst := [.box [.t (tInt M.base), .t (tInt M.tracks), .t (tIntss M.next), .t (tBools M.ends)]]) (ks := []) (cap := []) rfl rfl rfl c8 rfl rfl
      · rw [if_neg h4] at hL
        by_cases h7 : q = 7
        · subst h7
          rw [if_pos rfl] at hL
          cases hL
          cases ho
          refine LoudOk.perm [1, 0] rfl (LoudOk.call (asl := [.sref 0, .t (tNat l), .fn 58 [.t (.ptr [tIntss W]), .bptr 1 0]]) (obs := [.row 3 1 true R, .box [.t (tInt M.base), .t (tInt M.tracks), .t (tIntss M.next), .t (tBools M.ends)]]) (rst := []) (ks := []) (cap := []) rfl rfl rfl c9 rfl rfl) rfl rfl ?_
          intro v hv
          simp [Op.operands, Call.operands] at hv
        · rw [if_neg h7] at hL
          cases hL
    case run3 =>
      (simp only [List.range, List.range.loop, List.size_toArray, List.length_cons, List.length_nil, Nat.reduceAdd]; repeat' (first | (with_reducible exact runA_nil) | ((with_reducible apply runA_cons); focus (first | (apply stepM_quiet rfl rfl rfl rfl; (focus (intro H; simp (discharger := omega) only [go_sem, tAuto, hw0, simprocAttr]; with_reducible rfl)); (focus (simp only [go_sem, simprocAttr]; with_reducible rfl))) | (apply stepM_own rfl rfl (by decide) rfl rfl; (focus (simp (discharger := omega) only [go_sem, tAuto, hw0, simprocAttr]; with_reducible rfl)); (focus (simp only [go_sem, simprocAttr]; with_reducible rfl))) | (apply stepM_loud rfl rfl rfl rfl rfl rfl; (focus (simp only [go_sem, loudSt, St.put, List.map_cons, List.map_nil, SV.ren, renL, pastG, posIn, Option.bind, List.getElem?_cons_zero, List.getElem?_cons_succ, List.getElem?_nil, simprocAttr]; with_reducible rfl)))))))
    case rest3 =>
      cases gk with
      | false =>
        have he : leftErr a (k : Int) = 3 := by unfold leftErr; rw [if_neg (fun q => q hf), if_neg (by omega), if_pos hoke]
        have hS0 : S = [] := by rw [← hS]; unfold growSets; rw [if_neg (by rw [hgk]; decide)]
        have hD0 : D = [] := by rw [← hD]; unfold growRows; rw [if_neg (by rw [hgk]; decide)]
        rw [he, hS0, hD0]
        repeat' (first | (with_reducible first | apply w1 | apply w2 | apply w3 | apply w4 | apply w5 | apply w6 | apply w7 | apply w8 | apply w9 | apply wa | apply wb | apply wc) | ((with_reducible apply wd); focus decide) | ((with_reducible apply we); focus exact rfl) | ((with_reducible apply wf); focus exact rfl) | ((first | (with_reducible apply SW_run tt_ok hG htb) | ((with_reducible apply SW_draw rfl tt_ok hG htb); (focus kernel_rfl); focus simp only [List.range, List.range.loop, List.size_toArray, List.length_cons, List.length_nil, Nat.reduceAdd])); focus ((repeat' (first | (with_reducible first | exact wg | exact wh) | ((with_reducible first | apply wi | apply wj); focus (simp (discharger := omega) only [go_sem, simprocAttr]; with_reducible rfl)))); done)))
        exact (by simp (discharger := omega) only [go_sem, tAuto, tErr, simprocAttr])
      | true =>
        have he : leftErr a (k : Int) = 0 := by unfold leftErr; rw [if_neg (fun q => q hf), if_neg (by omega), if_neg (by rw [hoke]; decide)]
        rw [he]
        repeat' (first | (with_reducible first | apply w1 | apply w2 | apply w3 | apply w4 | apply w5 | apply w6 | apply w7 | apply w8 | apply w9 | apply wa | apply wb | apply wc) | ((with_reducible apply wd); focus decide) | ((with_reducible apply we); focus exact rfl) | ((with_reducible apply wf); focus exact rfl) | ((first | (with_reducible apply SW_run tt_ok hG htb) | ((with_reducible apply SW_draw rfl tt_ok hG htb); (focus kernel_rfl); focus simp only [List.range, List.range.loop, List.size_toArray, List.length_cons, List.length_nil, Nat.reduceAdd])); focus ((repeat' (first | (with_reducible first | exact wg | exact wh) | ((with_reducible first | apply wi | apply wj); focus (simp (discharger := omega) only [go_sem, simprocAttr]; with_reducible rfl)))); done)))
        exact (by simp (discharger := omega) only [go_sem, tAuto, tErr, simprocAttr])
end
end Go.Proofs.Ythcclcbliedodaa
namespace Go.Proofs.Ythcclcbliedodaa
open Go.RowKit

/-- What is known where nothing is wrong. -/
structure LeftIs (a : GAuto) (k t N nW r m : Nat) : Prop where
  ok : LeftOk a k t N nW r
  M : Good (leastA a) N m
  Wlen : (withW a.base t k).length = nW
  Wrow : ∀ w ∈ withW a.base t k, w.length = r ∧ ∀ x ∈ w, 0 ≤ x ∧ x < (N : Int)
  W : leftW a (k : Int) = withW a.base t k
  n : leftN a = nW
  first : Inm m (closeL (leastA a) ((withW a.base t k)[0]!))
  F : leftF a (k : Int) = closeL (leastA a) ((withW a.base t k)[0]!)
  len : (leftR a k).length = (leftS a k).length
  pos : 0 < (leftS a k).length
  few : (leftS a k).length ≤ 2000
  rows : Rows0 nW (leftS a k).length (leftR a k)
  sets : ∀ s ∈ leftS a k, Inm m s ∧ s.Pairwise (· < ·)
  gok : growOk (stepW (leastA a).next (withW a.base t k)) nW (closeL (leastA a) ((withW a.base t k)[0]!)) = true
  expl : Expl (nextD (stepW (leastA a).next (withW a.base t k))) nW (leftS a k) (leftR a k)
  start : (leftS a k)[0]! = canonL (closeL (leastA a) ((withW a.base t k)[0]!))
theorem leftErr_zero {a : GAuto} {track : Int} (h : leftErr a track = 0) : autoFault a = 0 ∧ 0 ≤ track ∧ track < a.tracks ∧ leftOk a track = true := by
  unfold leftErr at h
  split at h
  · rename_i h1; exact (h1 h).elim
  · rename_i h1
    split at h
    · omega
    · rename_i h2
      split at h
      · omega
      · rename_i h3
        exact ⟨Classical.not_not.1 h1, by omega, by omega, by simpa using h3⟩
theorem left_is {a : GAuto} {k : Nat} (h : leftErr a (k : Int) = 0) : ∃ t N nW r m, LeftIs a k t N nW r m := by
  obtain ⟨hf, _, hkt, hok⟩ := leftErr_zero h
  obtain ⟨t, nW, r, ok⟩ := left_ok hf hkt
  obtain ⟨_, _, gM⟩ := least_again (good_of hf)
  have htt : a.tracks - 1 = ((t : Nat) : Int) := by have := ok.tr; omega
  have hW : leftW a (k : Int) = withW a.base t k := by unfold leftW; rw [htt]; rfl
  have hNe : leftN a = nW := by unfold leftN; rw [htt, Int.toNat_natCast, ok.nWe, Int.toNat_natCast]
  have hFe : leftF a (k : Int) = closeL (leastA a) ((withW a.base t k)[0]!) := by unfold leftF; rw [hW]
  have hb : ¬ leftBad a (k : Int) := fun q => by
    rcases q with q | q | q
    · exact q hf
    · omega
    · omega
  have hS : leftS a (k : Int) = growSets (stepW (leastA a).next (withW a.base t k)) nW (closeL (leastA a) ((withW a.base t k)[0]!)) := by
    unfold leftS; rw [if_neg hb, hW, hNe, hFe]
  have hR : leftR a (k : Int) = growRows (stepW (leastA a).next (withW a.base t k)) nW (closeL (leastA a) ((withW a.base t k)[0]!)) := by
    unfold leftR; rw [if_neg hb, hW, hNe, hFe]
  have hg : growOk (stepW (leastA a).next (withW a.base t k)) nW (closeL (leastA a) ((withW a.base t k)[0]!)) = true := by
    unfold leftOk at hok; rw [hW, hNe, hFe] at hok; exact hok
  have hWl := withW_len ok
  have hWr : ∀ w ∈ withW a.base t k, w.length = r ∧ ∀ x ∈ w, 0 ≤ x ∧ x < ((manyOf a.base a.tracks).toNat : Int) := fun w hw => by
    unfold withW at hw
    obtain ⟨j, _, rfl⟩ := List.mem_map.1 hw
    exact ⟨withR_len ok.rad, withR_bd ok j⟩
  have hn0 := ok.nW0
  have hIm : Inm (leastA a).next.length (closeL (leastA a) ((withW a.base t k)[0]!)) := close_in gM.rows gM.m0 (hWr _ (bang_mem (l := withW a.base t k) (i := 0) rfl (by omega))).2 _
  obtain ⟨f1, f2, f3, f4, f5, f6⟩ := grow_facts hg
  have fS := grow_inm (n := nW) (stp := stepW (leastA a).next (withW a.base t k)) hIm (fun s l hs hl => stepW_in gM.rows (fun q hq => (hWr q hq).2) hs (by rw [hWl]; exact hl))
  rw [← hS] at f1 f2 f3 f4 f5 f6 fS
  rw [← hR] at f1 f4 f6
  exact ⟨t, _, nW, r, _, ok, gM, hWl, hWr, hW, hNe, hIm, hFe, f1, f2, f3, f4, fS, hg, f6, f5⟩
noncomputable def someE (a : GAuto) (track : Int) : List Bool := (leftS a track).map fun s => s.any (endOf (leastA a).ends)
noncomputable def someRE (a : GAuto) (track : Int) : List (List Int) × List Bool := leastRE (leftN a) (leftR a track) (someE a track)
open Classical in
noncomputable def someErr (a : GAuto) (track : Int) : Int := if leftErr a track ≠ 0 then leftErr a track else if (someRE a track).1.length ≤ 80 then 0 else 3
open Classical in
noncomputable def someA (a : GAuto) (track : Int) : GAuto := if someErr a track = 0 then ⟨a.base, a.tracks - 1, (someRE a track).1, (someRE a track).2⟩ else GAuto.zero
section
variable {G : World → Prop} (hG : Lasting G)
include hG
theorem SomeEnd_snd {a : GAuto} {m : Nat} (h : a.ends.length = m) (x : Int) (hx : 0 ≤ x ∧ x < (m : Int)) : Snd Try.prog G 43 ([tInt x] ++ [autoP a]) (.bool (endOf a.ends x)) := by
  have htb : Tab.ok Try.prog G [] := Tab.nil
  refine snd_of_body (n := 9) (tm := [(0, .t (tInt x)), (1, .t (autoP a))]) (rs := [.tmp 3]) tt_ok Try.func43 rfl rfl rfl rfl rfl ?_
  obtain ⟨b, hb⟩ : ∃ b, a.ends[x.toNat]! = b := ⟨_, rfl⟩
  have he : endOf a.ends x = b := by unfold endOf; exact bang_D hb (by omega)
  rw [he]
  repeat' (first | (with_reducible first | apply w1 | apply w2 | apply w3 | apply w4 | apply w5 | apply w6 | apply w7 | apply w8 | apply w9 | apply wa | apply wb | apply wc) | ((with_reducible apply wd); focus decide) | ((with_reducible apply we); focus exact rfl) | ((with_reducible apply wf); focus exact rfl) | ((first | (with_reducible apply SW_run tt_ok hG htb) | ((with_reducible apply SW_draw rfl tt_ok hG htb); (focus kernel_rfl); focus simp only [List.range, List.range.loop, List.size_toArray, List.length_cons, List.length_nil, Nat.reduceAdd])); focus ((repeat' (first | (with_reducible first | exact wg | exact wh) | ((with_reducible first | apply wi | apply wj); focus (simp (discharger := omega) only [go_sem, autoP, hb, simprocAttr]; with_reducible rfl)))); done)))
  exact (by simp (discharger := omega) only [go_sem, simprocAttr])
set_option maxHeartbeats 8000000 in
set_option maxRecDepth 100000 in
theorem Some_snd (a : GAuto) (track : Int) : Snd Try.prog G 20 [tAuto a, tInt track] (.tup [tAuto (someA a track), tErr (someErr a track)]) := by
  have c1 := left_snd hG a track
  refine snd_of_body (n := 42) (tm := [(0, .t (tAuto a)), (1, .t (tInt track))]) (rs := [.cell 4 25, .tmp 5]) tt_ok Try.func20 rfl rfl rfl rfl rfl ?_
  by_cases h0 : leftErr a track = 0
  rotate_left
  · have he : someErr a track = leftErr a track := if_pos h0
    have hz : someA a track = GAuto.zero := by unfold someA; rw [he, if_neg h0]
    rw [he, hz]
    generalize leftErr a track = e at *
    generalize leastOf a = M at *
    generalize leftS a track = S at *
    generalize leftR a track = R at *
    have htb := Tab.cons c1 Tab.nil
    repeat' (first | (with_reducible first | apply w1 | apply w2 | apply w3 | apply w4 | apply w5 | apply w6 | apply w7 | apply w8 | apply w9 | apply wa | apply wb | apply wc) | ((with_reducible apply wd); focus decide) | ((with_reducible apply we); focus exact rfl) | ((with_reducible apply wf); focus exact rfl) | ((first | (with_reducible apply SW_run tt_ok hG htb) | ((with_reducible apply SW_draw rfl tt_ok hG htb); (focus kernel_rfl); focus simp only [List.range, List.range.loop, List.size_toArray, List.length_cons, List.length_nil, Nat.reduceAdd])); focus ((repeat' (first | (with_reducible first | exact wg | exact wh) | ((with_reducible first | apply wi | apply wj); focus (simp (discharger := omega) only [go_sem, tAuto, tErr, h0, simprocAttr]; with_reducible rfl)))); done)))
    exact (by simp (discharger := omega) only [go_sem, tAuto, tErr, h0, GAuto.zero, simprocAttr])
  obtain ⟨hf, hk0, _, _⟩ := leftErr_zero h0
  obtain ⟨k, rfl⟩ : ∃ k : Nat, track = (k : Int) := ⟨track.toNat, by omega⟩
  obtain ⟨t, N, nW, r, m, L⟩ := left_is h0
  have hlA : leastOf a = leastA a := if_pos hf
  have htt : a.tracks - 1 = ((t : Nat) : Int) := by have := L.ok.tr; omega
  have htr := L.ok.tr
  have ht4 := L.ok.t4
  have hne := L.n
  have hpos := L.pos
  have hfew := L.few
  have hrows := L.rows
  have hsets := L.sets
  have gM := L.M
  have hrl := L.len
  have hn36 := L.ok.nW36
  rw [h0, hlA] at c1
  have hsE : someE a (k : Int) = (leftS a (k : Int)).map fun s => s.any (endOf (leastA a).ends) := rfl
  have hRE : someRE a (k : Int) = leastRE nW (leftR a (k : Int)) (someE a (k : Int)) := by unfold someRE; rw [hne]
  have he0 : someErr a (k : Int) = if (someRE a (k : Int)).1.length ≤ 80 then 0 else 3 := by unfold someErr; rw [if_neg (fun q => q h0)]
  have hz0 : someA a (k : Int) = if someErr a (k : Int) = 0 then ⟨a.base, a.tracks - 1, (someRE a (k : Int)).1, (someRE a (k : Int)).2⟩ else GAuto.zero := rfl
  rw [hz0, he0, hRE, htt, hsE]
  clear he0 hz0 hRE hsE
  generalize leastA a = M at *
  generalize leftS a (k : Int) = S at *
  generalize leftR a (k : Int) = R at *
  have htb := Tab.cons c1 Tab.nil
  repeat' (first | (with_reducible first | apply w1 | apply w2 | apply w3 | apply w4 | apply w5 | apply w6 | apply w7 | apply w8 | apply w9 | apply wa | apply wb | apply wc) | ((with_reducible apply wd); focus decide) | ((with_reducible apply we); focus exact rfl) | ((with_reducible apply wf); focus exact rfl) | ((first | (with_reducible apply SW_run tt_ok hG htb) | ((with_reducible apply SW_draw rfl tt_ok hG htb); (focus kernel_rfl); focus simp only [List.range, List.range.loop, List.size_toArray, List.length_cons, List.length_nil, Nat.reduceAdd])); focus ((repeat' (first | (with_reducible first | exact wg | exact wh) | ((with_reducible first | apply wi | apply wj); focus (simp (discharger := omega) only [go_sem, tAuto, tErr0, simprocAttr]; with_reducible rfl)))); done)))
  clear htb
  refine SW_norm (Norm.headS (own := []) (keep := [2, 4, 5, 6, 7, 8, 9]) (by refine ⟨?_, ?_⟩; (simp (discharger := omega) only [go_sem, simprocAttr]; with_reducible rfl); refine ⟨?_, ?_, ?_, ?_⟩ <;> (simp only [go_sem, simprocAttr]; with_reducible rfl))) ?_
  refine SW_norm (Norm.fixBox 0 rfl rfl) ?_
  refine SW_norm (Norm.fixBox 2 rfl rfl) ?_
  refine SW_norm (Norm.tr 2 rfl rfl) ?_
  refine SW_norm (Norm.tr 6 rfl rfl) ?_
  refine SW_norm (Norm.headS (own := []) (keep := [2, 4, 5, 6, 7, 8, 9]) (by refine ⟨?_, ?_⟩; (simp (discharger := omega) only [go_sem, simprocAttr]; with_reducible rfl); refine ⟨?_, ?_, ?_, ?_⟩ <;> (simp only [go_sem, simprocAttr]; with_reducible rfl))) ?_
  have c2 := Ends_snd hG S (by omega) 43 [autoP M] (endOf M.ends) (fun s hs x hx => SomeEnd_snd hG gM.ends x ((hsets s hs).1 x hx))
  obtain ⟨E, hE⟩ : ∃ E, (S.map fun s => s.any (endOf M.ends)) = E := ⟨_, rfl⟩
  rw [hE] at c2
  have hEl : E.length = S.length := by rw [← hE, List.length_map]
  have c3 := Shrink_snd hG a.base (t : Int) hrows hpos (by omega) (ends := E) hEl (by omega)
  rw [hE]
  have hmap : [autoP M] = [.ptr [.int .i64 M.base, .int .i64 M.tracks, tIntss M.next, tBools M.ends]] := rfl
  have htb := Tab.cons c2 (Tab.cons c3 Tab.nil)
  by_cases h80 : (leastRE nW R E).1.length ≤ 80
  · have hsh : shrinkT a.base (t : Int) nW R E = .tup [tAuto ⟨a.base, (t : Int), (leastRE nW R E).1, (leastRE nW R E).2⟩, .bool true] := if_pos h80
    rw [if_pos h80, if_pos rfl]
    rw [hsh] at htb c3
    generalize leastRE nW R E = RE at *
    refine SW_norm (Norm.hole _) ?_
    (with_reducible apply SW_drawA [(13, 1)] rfl tt_ok hG htb)
    · kernel_rfl
    · simp only [List.range, List.range.loop, List.size_toArray, List.length_cons, List.length_nil, Nat.reduceAdd]
      repeat' (first | (with_reducible exact runG_nil) | ((with_reducible apply runG_cons); focus (simp (discharger := omega) only [go_sem, autoP, tAuto, htt, simprocAttr]; with_reducible rfl)))
    repeat' (first | (with_reducible first | apply w1 | apply w2 | apply w3 | apply w4 | apply w5 | apply w6 | apply w7 | apply w8 | apply w9 | apply wa | apply wb | apply wc) | ((with_reducible apply wd); focus decide) | ((with_reducible apply we); focus exact rfl) | ((with_reducible apply wf); focus exact rfl) | ((first | (with_reducible apply SW_run tt_ok hG htb) | ((with_reducible apply SW_draw rfl tt_ok hG htb); (focus kernel_rfl); focus simp only [List.range, List.range.loop, List.size_toArray, List.length_cons, List.length_nil, Nat.reduceAdd])); focus ((repeat' (first | (with_reducible first | exact wg | exact wh) | ((with_reducible first | apply wi | apply wj); focus (simp (discharger := omega) only [go_sem, autoP, tAuto, tErr0, simprocAttr]; with_reducible rfl)))); done)))
    exact (by simp (discharger := omega) only [go_sem, tAuto, tErr0, simprocAttr])
  · have hsh : shrinkT a.base (t : Int) nW R E = .tup [tAuto GAuto.zero, .bool false] := if_neg h80
    rw [if_neg h80, if_neg (by decide)]
    rw [hsh] at htb c3
    refine SW_norm (Norm.hole _) ?_
    (with_reducible apply SW_drawA [(13, 1)] rfl tt_ok hG htb)
    · kernel_rfl
    · simp only [List.range, List.range.loop, List.size_toArray, List.length_cons, List.length_nil, Nat.reduceAdd]
      repeat' (first | (with_reducible exact runG_nil) | ((with_reducible apply runG_cons); focus (simp (discharger := omega) only [go_sem, autoP, tAuto, htt, simprocAttr]; with_reducible rfl)))
    repeat' (first | (with_reducible first | apply w1 | apply w2 | apply w3 | apply w4 | apply w5 | apply w6 | apply w7 | apply w8 | apply w9 | apply wa | apply wb | apply wc) | ((with_reducible apply wd); focus decide) | ((with_reducible apply we); focus exact rfl) | ((with_reducible apply wf); focus exact rfl) | ((first | (with_reducible apply SW_run tt_ok hG htb) | ((with_reducible apply SW_draw rfl tt_ok hG htb); (focus kernel_rfl); focus simp only [List.range, List.range.loop, List.size_toArray, List.length_cons, List.length_nil, Nat.reduceAdd])); focus ((repeat' (first | (with_reducible first | exact wg | exact wh) | ((with_reducible first | apply wi | apply wj); focus (simp (discharger := omega) only [go_sem, autoP, tAuto, simprocAttr]; with_reducible rfl)))); done)))
    exact (by simp (discharger := omega) only [go_sem, tAuto, tErr, GAuto.zero, simprocAttr])
end
end Go.Proofs.Ythcclcbliedodaa
namespace Go.Proofs.Ythcclcbliedodaa
open Go.RowKit

section
variable {G : World → Prop} (hG : Lasting G)
include hG
end
end Go.Proofs.Ythcclcbliedodaa
namespace Go.Proofs.Ythcclcbliedodaa
open Go.RowKit

/-- What words of some letters lead to. -/
inductive Rch (a : GAuto) (letters : List Int) : Int → Prop
  | zero : Rch a letters 0
  | step (s : Int) (j : Nat) (h : Rch a letters s) (hj : j < letters.length) : Rch a letters (closeD a letters s j)
theorem rch_of_closed {a : GAuto} {letters C : List Int} (h0 : (0 : Int) ∈ C) (hc : ∀ s ∈ C, ∀ j, j < letters.length → closeD a letters s j ∈ C) {x : Int} (h : Rch a letters x) : x ∈ C := by
  induction h with
  | zero => exact h0
  | step s j _ hj ih => exact hc s ih j hj
theorem closeL_mem {a : GAuto} {n m : Nat} (h : Rows0 n m a.next) (hm : 0 < m) {letters : List Int} (hl : ∀ l ∈ letters, 0 ≤ l ∧ l < (n : Int)) (x : Int) : x ∈ closeL a letters ↔ Rch a letters x := by
  have hlen := close_len h hm hl a.next.length
  have hfix : (growS (closeD a letters) letters.length 0 a.next.length).length ≤ a.next.length := by rw [h.len] at hlen ⊢; exact hlen
  unfold closeL
  constructor
  · exact growS_in' (p := Rch a letters) .zero (fun s j hj hs => .step s j hs hj) _ x
  · refine rch_of_closed (List.mem_of_getElem? (growS_zero _)) fun s hs j hj => ?_
    obtain ⟨i, hi⟩ := List.mem_iff_getElem?.1 hs
    have := growS_done (δ := closeD a letters) (n := letters.length) (s0 := 0) a.next.length i s (by have := (List.getElem?_eq_some_iff.1 hi).1; omega) hi j hj
    exact this
section
variable {G : World → Prop} (hG : Lasting G)
include hG
end
end Go.Proofs.Ythcclcbliedodaa
namespace Go.Proofs.Ythcclcbliedodaa

def walkOk (c : Nat → Nat → Bool) : Nat → List Nat → Bool
  | _, [] => true
  | s, l :: w => !c s l && walkOk c l w
def chain (c : Nat → Nat → Bool) : List Nat → Bool
  | [] => true
  | x :: w => walkOk c x w
theorem map_range_take {α : Type} (f : Nat → α) {m k : Nat} (h : k < m) : ((List.range m).map f).take (k + 1) = ((List.range m).map f).take k ++ [f k] := by
  rw [List.take_succ_eq_append_getElem (by simpa using h)]; simp
/-- Two letters that have a digit 1 on the same track, in base Fib. -/
def clash (base : Int) (t s l : Nat) : Bool := base == 1 && (List.range t).any fun k => digitAt (radix base) t (s : Int) k == 1 && digitAt (radix base) t (l : Int) k == 1
end Go.Proofs.Ythcclcbliedodaa
namespace Go.Proofs.Ythcclcbliedodaa

/-- The least rows and ends of a language. -/
noncomputable def leastL (n : Nat) (L : List Nat → Bool) : List (List Int) × List Bool := open Classical in if h : ∃ p : List (List Int) × List Bool, Least n p.1 p.2 L then Classical.choose h else ([], [])
theorem leastL_eq {n : Nat} {N : List (List Int)} {E : List Bool} {L : List Nat → Bool} (h : Least n N E L) : leastL n L = (N, E) := by
  have hx : ∃ p : List (List Int) × List Bool, Least n p.1 p.2 L := ⟨(N, E), h⟩
  unfold leastL
  rw [dif_pos hx]
  have := (Classical.choose_spec hx).unique h
  exact Prod.ext this.1 this.2
/-- Some table takes this language. -/
def Regular (n : Nat) (L : List Nat → Bool) : Prop := ∃ N E, Least n N E L
theorem Regular.of {n m : Nat} {next : List (List Int)} {ends : List Bool} {L : List Nat → Bool} (hR : Rows0 n m next) (hm : 0 < m) (h : ∀ w, Ltr n w → lang next ends 0 w = L w) : Regular n L :=
  ⟨_, _, (leastRE_spec (ends := ends) hR hm).1.lang_congr h⟩
theorem Regular.least {n : Nat} {L : List Nat → Bool} (h : Regular n L) : Least n (leastL n L).1 (leastL n L).2 L := by
  obtain ⟨N, E, h⟩ := h
  rw [leastL_eq h]; exact h
/-- A least automaton has no more states than words have kinds. -/
theorem Least.bound {n : Nat} {N : List (List Int)} {E : List Bool} {L : List Nat → Bool} (h : Least n N E L) (K : Nat) (κ : List Nat → Nat) (hκ : ∀ v, Ltr n v → κ v < K)
    (hres : ∀ v w, Ltr n v → Ltr n w → κ v = κ w → ∀ x, Ltr n x → L (v ++ x) = L (w ++ x)) : N.length ≤ K := by
  have hreach : ∀ k s, s ≤ k → s < N.length → ∃ v, Ltr n v ∧ runN (fun k l => ((N.getD k []).getD l 0).toNat) 0 v = s := by
    intro k
    induction k with
    | zero => intro s hs _; exact ⟨[], fun _ h => by simp at h, by rw [show s = 0 by omega]; rfl⟩
    | succ k ih =>
      intro s hs hlt
      by_cases h0 : s = 0
      · subst h0; exact ⟨[], fun _ h => by simp at h, rfl⟩
      · obtain ⟨q, l, hq, hl, e⟩ := h.canon.reach s (by omega) hlt
        obtain ⟨v, hv, ev⟩ := ih q (by omega) (by omega)
        refine ⟨v ++ [l], fun x hx => ?_, ?_⟩
        · rcases List.mem_append.1 hx with hx | hx
          · exact hv x hx
          · simp at hx; subst hx; exact hl
        · unfold runN at ev ⊢
          rw [List.foldl_append, ev]; exact e
  have hr : ∀ s, ∃ v, s < N.length → Ltr n v ∧ runN (fun k l => ((N.getD k []).getD l 0).toNat) 0 v = s := fun s => by
    by_cases hs : s < N.length
    · obtain ⟨v, hv⟩ := hreach s s (Nat.le_refl _) hs
      exact ⟨v, fun _ => hv⟩
    · exact ⟨[], fun h => (hs h).elim⟩
  obtain ⟨f, hf⟩ := Classical.axiomOfChoice hr
  have := nodup_boundN K ((List.range N.length).map fun s => κ (f s)) (by
    refine List.pairwise_map.2 (List.nodup_range.imp_of_mem fun {s q} hs hq hne e => hne ?_)
    have hs := List.mem_range.1 hs
    have hq := List.mem_range.1 hq
    obtain ⟨h1, h2⟩ := hf s hs
    obtain ⟨h3, h4⟩ := hf q hq
    refine h.canon.red s q hs hq fun x hx => ?_
    have := hres _ _ h1 h3 e x hx
    have app : ∀ v, Ltr n v → Ltr n (v ++ x) := fun v hv y hy => by
      rcases List.mem_append.1 hy with hy | hy
      · exact hv y hy
      · exact hx y hy
    rw [← h.canon.lang _ (app _ h1), ← h.canon.lang _ (app _ h3)] at this
    unfold runN at this h2 h4 ⊢
    rw [List.foldl_append, List.foldl_append, h2, h4] at this
    exact this) fun k hk => by
      obtain ⟨s, hs, rfl⟩ := List.mem_map.1 hk
      exact hκ _ (hf s (List.mem_range.1 hs)).1
  simpa using this

section
variable {base : Int} {t n m : Nat} {next : List (List Int)} {ends : List Bool}
end

section
variable {k m : Nat} {next : List (List Int)}
end

section
variable {A B : List (List Int)} {f g : Nat → Nat} {n n1 n2 ma mb : Nat}
end
end Go.Proofs.Ythcclcbliedodaa
namespace Go.Proofs.Ythcclcbliedodaa
open Go.RowKit

section
variable {G : World → Prop} (hG : Lasting G)
include hG
end
end Go.Proofs.Ythcclcbliedodaa
namespace Go.Proofs.Ythcclcbliedodaa
open Go.RowKit

/-- A word of all tracks that reads as one of what is left. -/
inductive Fill (W : List (List Int)) : List Nat → List Nat → Prop
  | nil : Fill W [] []
  | cons {k l : Nat} {v w : List Nat} (h : ((k : Nat) : Int) ∈ W[l]!) (t : Fill W v w) : Fill W (k :: v) (l :: w)
theorem bang_in {W : List (List Int)} {l : Nat} {k : Int} (h : k ∈ W[l]!) : ∃ r ∈ W, k ∈ r ∧ W[l]? = some r := by
  by_cases hl : l < W.length
  · exact ⟨_, bang_mem rfl hl, h, bang_get rfl hl⟩
  · rw [getElem!_neg W l hl] at h
    cases h
theorem Fill.ltr {W : List (List Int)} {N : Nat} (hW : ∀ r ∈ W, ∀ k ∈ r, 0 ≤ k ∧ k < (N : Int)) {v w : List Nat} (h : Fill W v w) : Ltr N v := by
  induction h with
  | nil => intro x hx; cases hx
  | cons h t ih =>
    intro x hx
    rcases List.mem_cons.1 hx with rfl | hx
    · obtain ⟨r, h1, h2, _⟩ := bang_in h
      have := hW r h1 _ h2
      omega
    · exact ih x hx
section
variable {next W : List (List Int)}
theorem stepW_mem (hW : ∀ r ∈ W, ∀ k ∈ r, 0 ≤ k) {s : List Int} {l : Nat} {x : Int} : x ∈ nextD (stepW next W) s l ↔ ∃ y ∈ s, ∃ k : Nat, ((k : Nat) : Int) ∈ W[l]! ∧ nx next y k = x := by
  unfold nextD
  rw [canonL_mem]
  unfold stepW
  rw [List.mem_flatMap]
  constructor
  · rintro ⟨y, hy, hx⟩
    obtain ⟨k, hk, rfl⟩ := List.mem_map.1 hx
    obtain ⟨r, h1, h2, _⟩ := bang_in hk
    have h0 := hW r h1 k h2
    exact ⟨y, hy, k.toNat, by rw [Int.toNat_of_nonneg h0]; exact hk, rfl⟩
  · rintro ⟨y, hy, k, hk, rfl⟩
    exact ⟨y, hy, List.mem_map.2 ⟨_, hk, by simp⟩⟩
theorem stepW_run (hW : ∀ r ∈ W, ∀ k ∈ r, 0 ≤ k) : ∀ (w : List Nat) (s : List Int) (x : Int), x ∈ w.foldl (nextD (stepW next W)) s ↔ ∃ y ∈ s, ∃ v, Fill W v w ∧ runS next y v = x
  | [], s, x => ⟨fun h => ⟨x, h, [], .nil, rfl⟩, fun ⟨y, hy, v, hv, e⟩ => by cases hv; cases e; exact hy⟩
  | l :: w, s, x => by
    rw [List.foldl_cons, stepW_run hW w]
    constructor
    · rintro ⟨y, hy, v, hv, e⟩
      obtain ⟨z, hz, k, hk, rfl⟩ := (stepW_mem hW).1 hy
      exact ⟨z, hz, k :: v, .cons hk hv, e⟩
    · rintro ⟨z, hz, v, hv, e⟩
      cases hv with
      | cons hk ht => exact ⟨_, (stepW_mem hW).2 ⟨z, hz, _, hk, rfl⟩, _, ht, e⟩
theorem runS_append (w v : List Nat) (s : Int) : runS next s (w ++ v) = runS next (runS next s w) v := List.foldl_append
end
theorem rch_words {a : GAuto} {letters : List Int} (hl : ∀ l ∈ letters, 0 ≤ l) {x : Int} : Rch a letters x ↔ ∃ z : List Nat, (∀ k ∈ z, ((k : Nat) : Int) ∈ letters) ∧ runS a.next 0 z = x := by
  constructor
  · intro h
    induction h with
    | zero => exact ⟨[], fun k hk => (by cases hk), rfl⟩
    | step s j _ hj ih =>
      obtain ⟨z, h1, rfl⟩ := ih
      have hm : letters[j]! ∈ letters := bang_mem rfl hj
      refine ⟨z ++ [(letters[j]!).toNat], fun k hk => ?_, ?_⟩
      · rcases List.mem_append.1 hk with hk | hk
        · exact h1 k hk
        · rw [List.mem_singleton] at hk
          subst hk
          rw [Int.toNat_of_nonneg (hl _ hm)]; exact hm
      · rw [runS_append]; rfl
  · rintro ⟨z, h1, rfl⟩
    have : ∀ (z : List Nat) (s : Int), Rch a letters s → (∀ k ∈ z, ((k : Nat) : Int) ∈ letters) → Rch a letters (runS a.next s z) := by
      intro z
      induction z with
      | nil => intro s hs _; exact hs
      | cons k z ih =>
        intro s hs hz
        refine ih _ ?_ fun x hx => hz x (List.mem_cons_of_mem _ hx)
        obtain ⟨j, hj⟩ := List.mem_iff_getElem?.1 (hz k List.mem_cons_self)
        obtain ⟨q1, q2⟩ := List.getElem?_eq_some_iff.1 hj
        have e : nx a.next s k = closeD a letters s j := by
          unfold closeD
          rw [getElem!_pos letters j q1, q2, Int.toNat_natCast]
        rw [e]
        exact .step s j hs q1
    exact this z 0 .zero h1
theorem any_iff {ends : List Bool} {s : List Int} : s.any (endOf ends) = true ↔ ∃ x ∈ s, endOf ends x = true := List.any_eq_true
theorem bool_iff {a b : Bool} (h : a = true ↔ b = true) : a = b := by
  cases a <;> cases b <;> simp_all
open Classical in
/-- With what is left out: some word of all, perhaps with letters ahead that are 0 elsewhere. -/
noncomputable def someL (L : List Nat → Bool) (W : List (List Int)) (w : List Nat) : Bool := decide (∃ z v, (∀ k ∈ z, ((k : Nat) : Int) ∈ W[0]!) ∧ Fill W v w ∧ L (z ++ v) = true)
open Classical in
theorem someL_true {L : List Nat → Bool} {W : List (List Int)} {w : List Nat} : someL L W w = true ↔ ∃ z v, (∀ k ∈ z, ((k : Nat) : Int) ∈ W[0]!) ∧ Fill W v w ∧ L (z ++ v) = true := by
  unfold someL
  exact decide_eq_true_iff
theorem someL_congr {L L' : List Nat → Bool} {N : Nat} (h : ∀ w, Ltr N w → L w = L' w) {W : List (List Int)} (hW : ∀ r ∈ W, ∀ k ∈ r, 0 ≤ k ∧ k < (N : Int)) (w : List Nat) : someL L W w = someL L' W w := by
  have hz : ∀ z v, (∀ k ∈ z, ((k : Nat) : Int) ∈ W[0]!) → Fill W v w → L (z ++ v) = L' (z ++ v) := fun z v hz hv => h _ fun x hx => by
    rcases List.mem_append.1 hx with hx | hx
    · obtain ⟨r, h1, h2, _⟩ := bang_in (hz x hx)
      have := hW r h1 _ h2
      omega
    · exact hv.ltr hW x hx
  refine bool_iff ?_
  rw [someL_true, someL_true]
  exact ⟨fun ⟨z, v, h1, h2, h3⟩ => ⟨z, v, h1, h2, by rw [← hz z v h1 h2]; exact h3⟩, fun ⟨z, v, h1, h2, h3⟩ => ⟨z, v, h1, h2, by rw [hz z v h1 h2]; exact h3⟩⟩
theorem left_lang {a : GAuto} {k t N nW r m : Nat} (h : LeftIs a k t N nW r m) {w : List Nat} (hw : Ltr nW w) : lang (leftR a k) (someE a k) 0 w = someL (lng (leastA a)) (withW a.base t k) w := by
  have hW : ∀ r ∈ withW a.base t k, ∀ x ∈ r, 0 ≤ x ∧ x < (N : Int) := fun q hq => (h.Wrow q hq).2
  have hW0 : ∀ r ∈ withW a.base t k, ∀ x ∈ r, 0 ≤ x := fun q hq x hx => (hW q hq x hx).1
  have hw0 : (withW a.base t k)[0]! ∈ withW a.base t k := bang_mem rfl (by have := h.Wlen; have := h.ok.nW0; omega)
  rw [h.expl.lang (E := fun s => s.any (endOf (leastA a).ends)) h.len (bang_get h.start h.pos) (fun i s hs => by unfold someE; rw [List.getElem?_map, hs]; rfl) hw]
  refine bool_iff ?_
  rw [any_iff, someL_true]
  constructor
  · rintro ⟨x, hx, he⟩
    obtain ⟨y, hy, v, hv, rfl⟩ := (stepW_run hW0 w _ x).1 hx
    rw [canonL_mem, closeL_mem h.M.rows h.M.m0 (hW _ hw0), rch_words (hW0 _ hw0)] at hy
    obtain ⟨z, hz, rfl⟩ := hy
    exact ⟨z, v, hz, hv, by unfold lng lang; rw [runS_append]; exact he⟩
  · rintro ⟨z, v, hz, hv, he⟩
    unfold lng lang at he
    rw [runS_append] at he
    exact ⟨_, (stepW_run hW0 w _ _).2 ⟨_, by rw [canonL_mem, closeL_mem h.M.rows h.M.m0 (hW _ hw0), rch_words (hW0 _ hw0)]; exact ⟨z, hz, rfl⟩, v, hv, rfl⟩, he⟩
theorem someErr_zero {a : GAuto} {track : Int} (h : someErr a track = 0) : leftErr a track = 0 ∧ (someRE a track).1.length ≤ 80 := by
  unfold someErr at h
  split at h
  · rename_i h1; exact (h1 h).elim
  · rename_i h1
    split at h
    · exact ⟨Classical.not_not.1 h1, by assumption⟩
    · omega
/-- What Some gives, if nothing is wrong. -/
theorem some_isLeast {a : GAuto} {k : Nat} (h : someErr a (k : Int) = 0) : ∃ t N nW r m, LeftIs a k t N nW r m ∧ IsLeast (someA a k) nW a.base t (someL (lng a) (withW a.base t k)) ∧ (someA a k).next.length ≤ 80 := by
  obtain ⟨h0, h80⟩ := someErr_zero h
  obtain ⟨t, N, nW, r, m, L⟩ := left_is h0
  have hA : someA a (k : Int) = ⟨a.base, a.tracks - 1, (someRE a k).1, (someRE a k).2⟩ := if_pos h
  have hRE : someRE a (k : Int) = leastRE nW (leftR a (k : Int)) (someE a (k : Int)) := by unfold someRE; rw [L.n]
  have hW : ∀ r ∈ withW a.base t k, ∀ x ∈ r, 0 ≤ x ∧ x < (N : Int) := fun q hq => (L.Wrow q hq).2
  have hs := leastRE_spec (ends := someE a (k : Int)) L.rows L.pos
  have hl : IsLeast (leastA a) N a.base a.tracks (lng a) := (leastA_isLeast L.ok.good).1
  refine ⟨t, N, nW, r, m, L, ?_, ?_⟩
  · rw [hA]
    refine ⟨rfl, by show a.tracks - 1 = _; have := L.ok.tr; omega, ?_⟩
    show Least nW (someRE a k).1 (someRE a k).2 _
    rw [hRE]
    exact hs.1.lang_congr fun w hw => by rw [left_lang L hw]; exact someL_congr (fun u hu => hl.lng hu) hW w
  · rw [hA]; exact h80

end Go.Proofs.Ythcclcbliedodaa
namespace Go.Proofs.Ythcclcbliedodaa
open Go.RowKit

section
variable {base : Int} {t j : Nat}
end
section
variable {a : GAuto} {k t N nW r : Nat}
theorem LeftOk.rad0 (h : LeftOk a k t N nW r) : radix a.base ≠ 0 := by have := h.rad; have := h.r2; omega
end
/-- 0s ahead do not matter. -/
def Closed (n : Nat) (L : List Nat → Bool) : Prop := ∀ w, Ltr n w → L (0 :: w) = L w
theorem Closed.congr {n : Nat} {L L' : List Nat → Bool} (hn : 0 < n) (h : Closed n L) (he : ∀ w, Ltr n w → L w = L' w) : Closed n L' := fun w hw => by
  rw [← he w hw, ← he (0 :: w) (fun x hx => by rcases List.mem_cons.1 hx with rfl | hx; exact hn; exact hw x hx)]
  exact h w hw
end Go.Proofs.Ythcclcbliedodaa
namespace Go.Proofs.Ythcclcbliedodaa
open Go.RowKit

theorem some_sets {a : GAuto} {n m : Nat} (g : Good a n m) {W : List (List Int)} (hW : ∀ r ∈ W, ∀ x ∈ r, 0 ≤ x ∧ x < (n : Int)) (hw0 : W[0]! ∈ W) (w : List Nat) : someL (lng a) W w = (w.foldl (nextD (stepW a.next W)) (closeL a (W[0]!))).any (endOf a.ends) := by
  have hW0 : ∀ r ∈ W, ∀ x ∈ r, 0 ≤ x := fun q hq x hx => (hW q hq x hx).1
  refine bool_iff ?_
  rw [someL_true, any_iff]
  constructor
  · rintro ⟨z, v, hz, hv, he⟩
    unfold lng lang at he
    rw [runS_append] at he
    exact ⟨_, (stepW_run hW0 w _ _).2 ⟨_, by rw [closeL_mem g.rows g.m0 (hW _ hw0), rch_words (hW0 _ hw0)]; exact ⟨z, hz, rfl⟩, v, hv, rfl⟩, he⟩
  · rintro ⟨x, hx, he⟩
    obtain ⟨y, hy, v, hv, rfl⟩ := (stepW_run hW0 w _ x).1 hx
    rw [closeL_mem g.rows g.m0 (hW _ hw0), rch_words (hW0 _ hw0)] at hy
    obtain ⟨z, hz, rfl⟩ := hy
    exact ⟨z, v, hz, hv, by unfold lng lang; rw [runS_append]; exact he⟩
def hb (H : List Bool) (x : Nat) : Bool := H.getD x false
theorem hb_at {H : List Bool} {x : Nat} {b : Bool} (h : H[x]! = b) (hx : x < H.length) : hb H x = b := bang_D h hx
theorem hb_lt {H : List Bool} {x : Nat} (h : hb H x = true) : x < H.length := by
  by_cases hx : x < H.length
  · exact hx
  · unfold hb at h
    rw [List.getD_eq_getElem?_getD, List.getElem?_eq_none (by omega)] at h
    cases h
theorem hb_set {H : List Bool} {x : Nat} (hx : x < H.length) (y : Nat) : hb (H.set x true) y = true ↔ y = x ∨ hb H y = true := by
  unfold hb
  rw [List.getD_eq_getElem?_getD, List.getElem?_set, List.getD_eq_getElem?_getD]
  by_cases e : x = y
  · subst e; simp [hx]
  · rw [if_neg e]
    exact ⟨fun q => .inr q, fun q => by rcases q with q | q; exact absurd q.symm e; exact q⟩
theorem hb_same {H : List Bool} {x : Nat} (h : hb H x = true) : H.set x true = H := by
  have hx := hb_lt h
  unfold hb at h
  rw [getD_lt hx] at h
  apply List.ext_getElem (by simp)
  intro i h1 h2
  rw [List.getElem_set]
  split
  · rename_i e; subst e; exact h.symm
  · rfl
def ClosedH (a : GAuto) (Z : List Int) (H : List Bool) : Prop := ∀ s, hb H s = true → ∀ i, i < Z.length → hb H (closeD a Z ((s : Nat) : Int) i).toNat = true
structure P1 (a : GAuto) (Z : List Int) (m : Nat) (H0 H : List Bool) (s j : Nat) : Prop where
  len : H.length = m
  sound : ∀ x : Nat, hb H x = true → Rch a Z ((x : Nat) : Int)
  zero : hb H 0 = true
  mono : ∀ x, hb H0 x = true → hb H x = true
  keep : ClosedH a Z H0 → H = H0
  done : ∀ s', s' < s → hb H0 s' = true → ∀ i, i < Z.length → hb H (closeD a Z ((s' : Nat) : Int) i).toNat = true
  part : hb H s = true → ∀ i, i < j → hb H (closeD a Z ((s : Nat) : Int) i).toNat = true
structure O1 (a : GAuto) (Z : List Int) (m : Nat) (H : List Bool) (k : Nat) : Prop where
  len : H.length = m
  sound : ∀ x : Nat, hb H x = true → Rch a Z ((x : Nat) : Int)
  zero : hb H 0 = true
  cnt : ClosedH a Z H ∨ k + 1 ≤ H.count true
theorem O1.start {a : GAuto} {Z : List Int} {m : Nat} (hm : 0 < m) : O1 a Z m ((List.replicate m false).set 0 true) 0 := by
  have hs : ∀ x, hb ((List.replicate m false).set 0 true) x = true → x = 0 := fun x hx => by
    rcases (hb_set (by simpa using hm) x).1 hx with h | h
    · exact h
    · unfold hb at h
      rw [List.getD_eq_getElem?_getD, List.getElem?_replicate] at h
      split at h <;> cases h
  have h0 : hb ((List.replicate m false).set 0 true) 0 = true := (hb_set (by simpa using hm) 0).2 (.inl rfl)
  refine ⟨by simp, fun x hx => by rw [hs x hx]; exact .zero, h0, .inr ?_⟩
  have : true ∈ (List.replicate m false).set 0 true := by
    rw [List.mem_iff_getElem?]
    exact ⟨0, by rw [List.getElem?_set]; simp [hm]⟩
  exact List.count_pos_iff.2 this
theorem P1.start {a : GAuto} {Z : List Int} {m : Nat} {H : List Bool} {k : Nat} (h : O1 a Z m H k) : P1 a Z m H H 0 0 :=
  ⟨h.len, h.sound, h.zero, fun _ q => q, fun _ => rfl, fun s' q => by omega, fun _ i hi => by omega⟩
theorem P1.step {a : GAuto} {Z : List Int} {n m : Nat} {H0 H : List Bool} {s j : Nat} (h : P1 a Z m H0 H s j) (hR : Rows0 n m a.next) (hZ : ∀ l ∈ Z, 0 ≤ l ∧ l < (n : Int)) (hs : hb H s = true) (hsm : s < m) (hj : j < Z.length) : P1 a Z m H0 (H.set (closeD a Z ((s : Nat) : Int) j).toNat true) s (j + 1) := by
  have hb0 := closeD_ok hR hZ (s := ((s : Nat) : Int)) (by omega) hj
  have hx : (closeD a Z ((s : Nat) : Int) j).toNat < H.length := by rw [h.len]; omega
  have hm := fun y => hb_set hx y
  refine ⟨by rw [List.length_set]; exact h.len, fun y hy => ?_, (hm 0).2 (.inr h.zero), fun y hy => (hm y).2 (.inr (h.mono y hy)), fun hc => ?_, fun s' h1 h2 i hi => (hm _).2 (.inr (h.done s' h1 h2 i hi)), fun _ i hi => ?_⟩
  · rcases (hm y).1 hy with rfl | hy
    · rw [Int.toNat_of_nonneg hb0.1]
      exact .step _ j (h.sound s hs) hj
    · exact h.sound y hy
  · have e := h.keep hc
    subst e
    exact hb_same (hc s hs j hj)
  · by_cases e : i = j
    · subst e; exact (hm _).2 (.inl rfl)
    · exact (hm _).2 (.inr (h.part hs i (by omega)))
theorem P1.next {a : GAuto} {Z : List Int} {m : Nat} {H0 H : List Bool} {s j : Nat} (h : P1 a Z m H0 H s j) (he : hb H s = false ∨ j = Z.length) : P1 a Z m H0 H (s + 1) 0 :=
  ⟨h.len, h.sound, h.zero, h.mono, h.keep, fun s' h1 h2 i hi => by
    by_cases e : s' = s
    · subst e
      have h3 := h.mono s' h2
      rcases he with he | he
      · rw [he] at h3; cases h3
      · exact h.part h3 i (by omega)
    · exact h.done s' (by omega) h2 i hi, fun _ i hi => by omega⟩
theorem count_lt : ∀ {H0 H : List Bool}, H0.length = H.length → (∀ x, hb H0 x = true → hb H x = true) → H0 ≠ H → H0.count true < H.count true
  | [], [], _, _, hne => absurd rfl hne
  | [], _ :: _, hl, _, _ => by cases hl
  | _ :: _, [], hl, _, _ => by cases hl
  | b0 :: H0, b :: H, hl, hm, hne => by
    have hl' : H0.length = H.length := by simpa using hl
    have hm' : ∀ x, hb H0 x = true → hb H x = true := fun x hx => hm (x + 1) hx
    have h0 : b0 = true → b = true := fun q => hm 0 q
    have hle : H0.count true ≤ H.count true := by
      by_cases e : H0 = H
      · rw [e]; exact Nat.le_refl _
      · exact Nat.le_of_lt (count_lt hl' hm' e)
    rw [List.count_cons, List.count_cons]
    cases b0 <;> cases b
    · have : H0 ≠ H := fun e => hne (by rw [e])
      have := count_lt hl' hm' this
      simpa using this
    · simp; omega
    · exact absurd (h0 rfl) (by decide)
    · have : H0 ≠ H := fun e => hne (by rw [e])
      have := count_lt hl' hm' this
      simpa using this
theorem P1.done' {a : GAuto} {Z : List Int} {m : Nat} {H0 H : List Bool} {k : Nat} (h : P1 a Z m H0 H m 0) (h0 : O1 a Z m H0 k) : O1 a Z m H (k + 1) := by
  refine ⟨h.len, h.sound, h.zero, ?_⟩
  by_cases e : H0 = H
  · subst e
    exact .inl fun s hs i hi => h.done s (by have := hb_lt hs; rw [h.len] at this; exact this) hs i hi
  · have hc := count_lt (by rw [h0.len, h.len]) h.mono e
    rcases h0.cnt with q | q
    · exact absurd (h.keep q).symm e
    · exact .inr (by omega)
theorem O1.fin {a : GAuto} {Z : List Int} {n m : Nat} {H : List Bool} (h : O1 a Z m H m) (hR : Rows0 n m a.next) (hm : 0 < m) (hZ : ∀ l ∈ Z, 0 ≤ l ∧ l < (n : Int)) (x : Nat) : hb H x = true ↔ ((x : Nat) : Int) ∈ closeL a Z := by
  rw [closeL_mem hR hm hZ]
  have hc : ClosedH a Z H := by
    rcases h.cnt with q | q
    · exact q
    · have := List.count_le_length (a := true) (l := H)
      rw [h.len] at this
      omega
  refine ⟨h.sound x, fun hr => ?_⟩
  have key : ∀ y : Int, Rch a Z y → (0 ≤ y ∧ y < (m : Int)) ∧ hb H y.toNat = true := fun y hy => by
    induction hy with
    | zero => exact ⟨⟨by omega, by omega⟩, h.zero⟩
    | step s j _ hj ih =>
      refine ⟨closeD_ok hR hZ ih.1 hj, ?_⟩
      have := hc s.toNat ih.2 j hj
      rwa [Int.toNat_of_nonneg ih.1.1] at this
  have := (key _ hr).2
  rwa [Int.toNat_natCast] at this
/-- One letter further. -/
structure P2 (a : GAuto) (V : List Int) (m : Nat) (H K : List Bool) (s j : Nat) : Prop where
  len : K.length = m
  is : ∀ x : Nat, hb K x = true ↔ (∃ s', s' < s ∧ hb H s' = true ∧ ∃ i, i < V.length ∧ closeD a V ((s' : Nat) : Int) i = ((x : Nat) : Int)) ∨ (hb H s = true ∧ ∃ i, i < j ∧ closeD a V ((s : Nat) : Int) i = ((x : Nat) : Int))
theorem P2.start (a : GAuto) (V : List Int) (m : Nat) (H : List Bool) : P2 a V m H (List.replicate m false) 0 0 := by
  refine ⟨by simp, fun x => ⟨fun h => ?_, fun h => ?_⟩⟩
  · unfold hb at h
    rw [List.getD_eq_getElem?_getD, List.getElem?_replicate] at h
    split at h <;> cases h
  · rcases h with ⟨s', h, _⟩ | ⟨_, i, h, _⟩ <;> omega
theorem P2.step {a : GAuto} {V : List Int} {n m : Nat} {H K : List Bool} {s j : Nat} (h : P2 a V m H K s j) (hR : Rows0 n m a.next) (hV : ∀ l ∈ V, 0 ≤ l ∧ l < (n : Int)) (hs : hb H s = true) (hsm : s < m) (hj : j < V.length) : P2 a V m H (K.set (closeD a V ((s : Nat) : Int) j).toNat true) s (j + 1) := by
  have hb0 := closeD_ok hR hV (s := ((s : Nat) : Int)) (by omega) hj
  have hx : (closeD a V ((s : Nat) : Int) j).toNat < K.length := by rw [h.len]; omega
  refine ⟨by rw [List.length_set]; exact h.len, fun y => ?_⟩
  rw [hb_set hx y, h.is y]
  constructor
  · rintro (rfl | q | ⟨q, i, q1, q2⟩)
    · exact .inr ⟨hs, j, by omega, by rw [Int.toNat_of_nonneg hb0.1]⟩
    · exact .inl q
    · exact .inr ⟨q, i, by omega, q2⟩
  · rintro (q | ⟨q, i, q1, q2⟩)
    · exact .inr (.inl q)
    · by_cases e : i = j
      · subst e; exact .inl (by omega)
      · exact .inr (.inr ⟨q, i, by omega, q2⟩)
theorem P2.next {a : GAuto} {V : List Int} {m : Nat} {H K : List Bool} {s j : Nat} (h : P2 a V m H K s j) (he : hb H s = false ∨ j = V.length) : P2 a V m H K (s + 1) 0 := by
  refine ⟨h.len, fun y => ?_⟩
  rw [h.is y]
  constructor
  · rintro (⟨s', q1, q2⟩ | ⟨q, i, q1, q2⟩)
    · exact .inl ⟨s', by omega, q2⟩
    · refine .inl ⟨s, by omega, q, i, ?_, q2⟩
      rcases he with he | he
      · rw [q] at he; cases he
      · omega
  · rintro (⟨s', q1, q2, i, q3, q4⟩ | ⟨q, i, q1, q2⟩)
    · by_cases e : s' = s
      · subst e
        refine .inr ⟨q2, i, ?_, q4⟩
        rcases he with he | he
        · rw [q2] at he; cases he
        · omega
      · exact .inl ⟨s', by omega, q2, i, q3, q4⟩
    · omega
theorem P2.fin {a : GAuto} {W : List (List Int)} {l m : Nat} {H K : List Bool} {D : List Int} (h : P2 a (W[l]!) m H K m 0) (hH : H.length = m) (hD : ∀ x : Nat, hb H x = true ↔ ((x : Nat) : Int) ∈ D) (hDm : Inm m D) (hW : ∀ r ∈ W, ∀ k ∈ r, 0 ≤ k) (x : Nat) : hb K x = true ↔ ((x : Nat) : Int) ∈ nextD (stepW a.next W) D l := by
  rw [h.is x, stepW_mem hW]
  constructor
  · rintro (⟨s', q1, q2, i, q3, q4⟩ | ⟨_, i, q1, _⟩)
    · have hm : (W[l]!)[i]! ∈ W[l]! := bang_mem rfl q3
      obtain ⟨r, r1, r2, _⟩ := bang_in hm
      have := hW r r1 _ r2
      exact ⟨_, (hD s').1 q2, ((W[l]!)[i]!).toNat, by rw [Int.toNat_of_nonneg this]; exact hm, q4⟩
    · omega
  · rintro ⟨y, hy, k, hk, e⟩
    have hyb := hDm y hy
    obtain ⟨i, hi⟩ := List.mem_iff_getElem?.1 hk
    obtain ⟨q1, q2⟩ := List.getElem?_eq_some_iff.1 hi
    refine .inl ⟨y.toNat, by omega, (hD _).2 (by rw [Int.toNat_of_nonneg hyb.1]; exact hy), i, q1, ?_⟩
    unfold closeD
    rw [getElem!_pos _ i q1, q2, Int.toNat_natCast, Int.toNat_of_nonneg hyb.1]; exact e
end Go.Proofs.Ythcclcbliedodaa
namespace Go.Proofs.Ythcclcbliedodaa
open Go.RowKit

/-- The states that lead to one at a letter. -/
def fromL (next : List (List Int)) (m : Nat) (t : Int) (l : Nat) : List Int := ((List.range m).filter fun x : Nat => decide (nx next ((x : Nat) : Int) l = t)).map fun x : Nat => ((x : Nat) : Int)
def stepT (next : List (List Int)) (m : Nat) (s : List Int) (l : Nat) : List Int := s.flatMap fun t => fromL next m t l
/-- The states with an end. -/
def endsF (ends : List Bool) (m : Nat) : List Int := ((List.range m).filter fun x : Nat => endOf ends ((x : Nat) : Int)).map fun x : Nat => ((x : Nat) : Int)
noncomputable def turnN (a : GAuto) : Nat := (manyOf a.base a.tracks).toNat
noncomputable def turnF (a : GAuto) : List Int := endsF (leastA a).ends (leastA a).next.length
noncomputable def turnD (a : GAuto) : List Int → Nat → List Int := stepT (leastA a).next (leastA a).next.length
noncomputable def turnS (a : GAuto) : List (List Int) := if autoFault a ≠ 0 then [] else growSets (turnD a) (turnN a) (turnF a)
noncomputable def turnR (a : GAuto) : List (List Int) := if autoFault a ≠ 0 then [] else growRows (turnD a) (turnN a) (turnF a)
/-- What is known where nothing is wrong. -/
structure TurnIs (a : GAuto) (n m : Nat) : Prop where
  ok : Good a n a.next.length
  M : Good (leastA a) n m
  nE : turnN a = n
  mE : (leastA a).next.length = m
  D : turnD a = stepT (leastA a).next m
  F : turnF a = endsF (leastA a).ends m
  len : (turnR a).length = (turnS a).length
  pos : 0 < (turnS a).length
  few : (turnS a).length ≤ 2000
  rows : Rows0 n (turnS a).length (turnR a)
  sets : ∀ s ∈ turnS a, Inm m s ∧ s.Pairwise (· < ·)
  gok : growOk (stepT (leastA a).next m) n (endsF (leastA a).ends m) = true
  Se : turnS a = growSets (stepT (leastA a).next m) n (endsF (leastA a).ends m)
  Re : turnR a = growRows (stepT (leastA a).next m) n (endsF (leastA a).ends m)
  expl : Expl (nextD (stepT (leastA a).next m)) n (turnS a) (turnR a)
  start : (turnS a)[0]! = canonL (endsF (leastA a).ends m)
/-- Each state of a least automaton is reached. -/
theorem Least.word {n : Nat} {N : List (List Int)} {E : List Bool} {L : List Nat → Bool} (h : Least n N E L) : ∀ k, k < N.length → ∃ u, Ltr n u ∧ Go.Proofs.Ythcclcbliedodaa.runS N 0 u = ((k : Nat) : Int) := by
  intro k
  induction k using Nat.strongRecOn with
  | ind k ih =>
    intro hk
    by_cases h0 : k = 0
    · subst h0; exact ⟨[], fun x hx => by (cases hx), rfl⟩
    · obtain ⟨s, l, hs, hl, e⟩ := h.canon.reach k (by omega) hk
      obtain ⟨u, hu, eu⟩ := ih s hs (by omega)
      refine ⟨u ++ [l], fun x hx => ?_, ?_⟩
      · rcases List.mem_append.1 hx with hx | hx
        · exact hu x hx
        · rw [List.mem_singleton] at hx; subst hx; exact hl
      · rw [runS_append, eu]
        have hr := h.rows
        have hb := nx_ok hr (s := ((s : Nat) : Int)) (by omega) hl
        show nx N ((s : Nat) : Int) l = _
        have e2 : (nx N ((s : Nat) : Int) l).toNat = k := by rw [← e]; rfl
        omega
end Go.Proofs.Ythcclcbliedodaa
namespace Go.Proofs.Ythcclcbliedodaa
open Go.RowKit

/-- The facts' automaton: two tracks with the same digits. -/
def sameA : GAuto := ⟨2, 2, [[0, 1, 1, 0], [1, 1, 1, 1]], [true, false]⟩
theorem same_good : Good sameA 4 2 := ⟨by decide, by decide, by decide, by decide, by decide, by decide, rfl, ⟨rfl, by decide, by decide⟩⟩
theorem same_least : leastA sameA = sameA := by
  have h : leastRE 4 sameA.next sameA.ends = (sameA.next, sameA.ends) := leastRE_chk (m := 2) [[]] (by decide +kernel) same_good.rows (by decide) fun w _ => rfl
  have hn : (manyOf sameA.base sameA.tracks).toNat = 4 := by rw [same_good.n_eq]; rfl
  unfold leastA
  rw [hn, h]
theorem same_fault : autoFault sameA = 0 := by decide
end Go.Proofs.Ythcclcbliedodaa
namespace Go.Proofs.Ythcclcbliedodaa
open Go.RowKit

end Go.Proofs.Ythcclcbliedodaa
namespace Go.Proofs.Ythcclcbliedodaa
open Go.RowKit

section
variable {G : World → Prop} (hG : Lasting G)
include hG
end
end Go.Proofs.Ythcclcbliedodaa
namespace Go.Proofs.Ythcclcbliedodaa
open Go.RowKit

theorem partS_stay {σ : Type} [DecidableEq σ] {δ : σ → Nat → σ} {s0 : σ} : ∀ l, (∀ j, j < l → δ s0 j = s0) → partS δ [s0] s0 l = [s0]
  | 0, _ => rfl
  | l + 1, h => by
    show addS (partS δ [s0] s0 l) (δ s0 l) = [s0]
    rw [partS_stay l fun j hj => h j (by omega), h l (by omega)]
    simp [addS]
/-- One set alone comes up. -/
theorem sets_one {σ : Type} [DecidableEq σ] {δ : σ → Nat → σ} {n : Nat} {s0 : σ} (h : ∀ l, l < n → δ s0 l = s0) : setsOf δ n s0 = [s0] ∧ rowsOf δ n s0 = [List.replicate n 0] := by
  have hg : ∀ k, growS δ n s0 k = [s0] := fun k => by
    induction k with
    | zero => rfl
    | succ k ih =>
      cases k with
      | zero =>
        rw [growS_some (s := s0) (by rw [ih]; rfl), ih]
        exact partS_stay n h
      | succ k => rw [growS_none (by rw [ih]; simp), ih]
  have hs : setsOf δ n s0 = [s0] := hg _
  refine ⟨hs, ?_⟩
  unfold rowsOf
  rw [hs]
  have hr : ((List.range n).map fun j => ((idxS [s0] (δ s0 j) : Nat) : Int)) = List.replicate n 0 := by
    clear hg hs
    apply List.ext_getElem
    · simp
    · intro i h1 h2
      simp at h1
      simp [h i h1, idxS]
  show [(List.range n).map fun j => ((idxS [s0] (δ s0 j) : Nat) : Int)] = _
  rw [hr]
theorem canon01 {l : List Int} (h : ∀ x, x ∈ l ↔ x = 0 ∨ x = 1) : canonL l = [0, 1] := by
  rw [canonL_eq (l' := [0, 1]) fun x => by rw [h]; simp]
  exact canonL_self (by simp)
set_option maxRecDepth 100000 in
theorem same_left (k : Nat) (hk : k < 2) : leftErr sameA (k : Int) = 0 ∧ leftS sameA (k : Int) = [[0, 1]] ∧ leftR sameA (k : Int) = [[0, 0]] := by
  have hNe : leftN sameA = 2 := by decide +kernel
  have hS : canonL (leftF sameA (k : Int)) = [0, 1] := by
    unfold leftF
    rw [same_least]
    refine canon01 fun x => ?_
    match k, hk with
    | 0, _ => rw [show closeL sameA ((leftW sameA ((0 : Nat) : Int))[0]!) = [0, 1] by decide +kernel]; simp
    | 1, _ => rw [show closeL sameA ((leftW sameA ((1 : Nat) : Int))[0]!) = [0, 1] by decide +kernel]; simp
  have hstep : ∀ l, l < 2 → nextD (stepW (leastA sameA).next (leftW sameA (k : Int))) [0, 1] l = [0, 1] := fun l hl => by
    unfold nextD
    rw [same_least]
    refine canon01 fun x => ?_
    match k, hk, l, hl with
    | 0, _, 0, _ => rw [show stepW sameA.next (leftW sameA ((0 : Nat) : Int)) [0, 1] 0 = [0, 1, 1, 1] by decide +kernel]; simp
    | 0, _, 1, _ => rw [show stepW sameA.next (leftW sameA ((0 : Nat) : Int)) [0, 1] 1 = [1, 0, 1, 1] by decide +kernel]; simp; omega
    | 1, _, 0, _ => rw [show stepW sameA.next (leftW sameA ((1 : Nat) : Int)) [0, 1] 0 = [0, 1, 1, 1] by decide +kernel]; simp
    | 1, _, 1, _ => rw [show stepW sameA.next (leftW sameA ((1 : Nat) : Int)) [0, 1] 1 = [1, 0, 1, 1] by decide +kernel]; simp; omega
  obtain ⟨o1, o2⟩ := sets_one (n := 2) hstep
  have hok : leftOk sameA (k : Int) = true := by
    unfold leftOk growOk setsOk
    rw [hNe, hS, o1]
    rfl
  have hnb : ¬ leftBad sameA (k : Int) := fun q => by
    rcases q with q | q | q
    · exact q same_fault
    · omega
    · have : sameA.tracks = 2 := rfl
      omega
  have hgk : growOk (stepW (leastA sameA).next (leftW sameA (k : Int))) (leftN sameA) (leftF sameA (k : Int)) = true := hok
  refine ⟨?_, ?_, ?_⟩
  · unfold leftErr
    rw [if_neg (fun q => q same_fault), if_neg (fun q => hnb (.inr q)), if_neg (by rw [hok]; decide)]
  · unfold leftS
    rw [if_neg hnb]
    unfold growSets
    rw [if_pos hgk, hNe, hS, o1]
  · unfold leftR
    rw [if_neg hnb]
    unfold growRows
    rw [if_pos hgk, hNe, hS, o2]
    rfl
theorem same_some : someErr sameA 0 = 0 ∧ someA sameA 0 = ⟨2, 1, [[0, 0]], [true]⟩ := by
  obtain ⟨h1, h2, h3⟩ := same_left 0 (by decide)
  rw [show ((0 : Nat) : Int) = 0 from rfl] at h1 h2 h3
  have hE : someE sameA 0 = [true] := by
    unfold someE
    rw [h2, same_least]
    rfl
  have hRE : someRE sameA 0 = ([[0, 0]], [true]) := by
    unfold someRE
    rw [h3, hE, show leftN sameA = 2 by decide +kernel]
    exact leastRE_chk (m := 1) [[]] (by decide +kernel) ⟨rfl, by decide, by decide⟩ (by decide) fun w _ => rfl
  have he : someErr sameA 0 = 0 := by
    unfold someErr
    rw [if_neg (by rw [h1]; decide), hRE, if_pos (by decide)]
  refine ⟨he, ?_⟩
  unfold someA
  rw [if_pos he, hRE]
  rfl
section
variable {G : World → Prop} (hG : Lasting G)
include hG
theorem same_snd : Snd Try.prog G 21 [] (tAuto sameA) := by
  have htb : Tab.ok Try.prog G [] := Tab.nil
  refine snd_of_body (n := 6) (tm := []) (rs := [.cell 0 25]) tt_ok Try.func21 rfl rfl rfl rfl rfl ?_
  repeat' (first | (with_reducible first | apply w1 | apply w2 | apply w3 | apply w4 | apply w5 | apply w6 | apply w7 | apply w8 | apply w9 | apply wa | apply wb | apply wc) | ((with_reducible apply wd); focus decide) | ((with_reducible apply we); focus exact rfl) | ((with_reducible apply wf); focus exact rfl) | ((first | (with_reducible apply SW_run tt_ok hG htb) | ((with_reducible apply SW_draw rfl tt_ok hG htb); (focus kernel_rfl); focus simp only [List.range, List.range.loop, List.size_toArray, List.length_cons, List.length_nil, Nat.reduceAdd])); focus ((repeat' (first | (with_reducible first | exact wg | exact wh) | ((with_reducible first | apply wi | apply wj); focus (simp (discharger := omega) only [go_sem, simprocAttr]; with_reducible rfl)))); done)))
  exact (by simp (discharger := omega) only [go_sem, tAuto, sameA, simprocAttr])
end
end Go.Proofs.Ythcclcbliedodaa
namespace Go.Proofs.Ythcclcbliedodaa
open Go.RowKit

section
variable {G : World → Prop} (hG : Lasting G)
include hG
theorem RRadix_snd (base : Int) : Snd Try.prog G 12 [tInt base] (tInt (radix base)) := by
  have htb : Tab.ok Try.prog G [] := Tab.nil
  refine snd_of_body (n := 12) (tm := [(0, .t (tInt base))]) (rs := [.tmp 2]) tt_ok Try.func12 rfl rfl rfl rfl rfl ?_
  unfold radix
  by_cases h1 : base = 1
  · repeat' (first | (with_reducible first | apply w1 | apply w2 | apply w3 | apply w4 | apply w5 | apply w6 | apply w7 | apply w8 | apply w9 | apply wa | apply wb | apply wc) | ((with_reducible apply wd); focus decide) | ((with_reducible apply we); focus exact rfl) | ((with_reducible apply wf); focus exact rfl) | ((first | (with_reducible apply SW_run tt_ok hG htb) | ((with_reducible apply SW_draw rfl tt_ok hG htb); (focus kernel_rfl); focus simp only [List.range, List.range.loop, List.size_toArray, List.length_cons, List.length_nil, Nat.reduceAdd])); focus ((repeat' (first | (with_reducible first | exact wg | exact wh) | ((with_reducible first | apply wi | apply wj); focus (simp (discharger := omega) only [go_sem, h1, simprocAttr]; with_reducible rfl)))); done)))
    exact (by simp (discharger := omega) only [go_sem, h1, simprocAttr])
  · by_cases h2 : 2 ≤ base
    · by_cases h3 : base ≤ 6
      · repeat' (first | (with_reducible first | apply w1 | apply w2 | apply w3 | apply w4 | apply w5 | apply w6 | apply w7 | apply w8 | apply w9 | apply wa | apply wb | apply wc) | ((with_reducible apply wd); focus decide) | ((with_reducible apply we); focus exact rfl) | ((with_reducible apply wf); focus exact rfl) | ((first | (with_reducible apply SW_run tt_ok hG htb) | ((with_reducible apply SW_draw rfl tt_ok hG htb); (focus kernel_rfl); focus simp only [List.range, List.range.loop, List.size_toArray, List.length_cons, List.length_nil, Nat.reduceAdd])); focus ((repeat' (first | (with_reducible first | exact wg | exact wh) | ((with_reducible first | apply wi | apply wj); focus (simp (discharger := omega) only [go_sem, simprocAttr]; with_reducible rfl)))); done)))
        exact (by simp (discharger := omega) only [go_sem, simprocAttr])
      · repeat' (first | (with_reducible first | apply w1 | apply w2 | apply w3 | apply w4 | apply w5 | apply w6 | apply w7 | apply w8 | apply w9 | apply wa | apply wb | apply wc) | ((with_reducible apply wd); focus decide) | ((with_reducible apply we); focus exact rfl) | ((with_reducible apply wf); focus exact rfl) | ((first | (with_reducible apply SW_run tt_ok hG htb) | ((with_reducible apply SW_draw rfl tt_ok hG htb); (focus kernel_rfl); focus simp only [List.range, List.range.loop, List.size_toArray, List.length_cons, List.length_nil, Nat.reduceAdd])); focus ((repeat' (first | (with_reducible first | exact wg | exact wh) | ((with_reducible first | apply wi | apply wj); focus (simp (discharger := omega) only [go_sem, simprocAttr]; with_reducible rfl)))); done)))
        exact (by simp (discharger := omega) only [go_sem, simprocAttr])
    · repeat' (first | (with_reducible first | apply w1 | apply w2 | apply w3 | apply w4 | apply w5 | apply w6 | apply w7 | apply w8 | apply w9 | apply wa | apply wb | apply wc) | ((with_reducible apply wd); focus decide) | ((with_reducible apply we); focus exact rfl) | ((with_reducible apply wf); focus exact rfl) | ((first | (with_reducible apply SW_run tt_ok hG htb) | ((with_reducible apply SW_draw rfl tt_ok hG htb); (focus kernel_rfl); focus simp only [List.range, List.range.loop, List.size_toArray, List.length_cons, List.length_nil, Nat.reduceAdd])); focus ((repeat' (first | (with_reducible first | exact wg | exact wh) | ((with_reducible first | apply wi | apply wj); focus (simp (discharger := omega) only [go_sem, simprocAttr]; with_reducible rfl)))); done)))
      exact (by simp (discharger := omega) only [go_sem, simprocAttr])
theorem RDigitOf_snd (base : Int) (t : Nat) (l : Int) (i : Nat) (hr : radix base ≠ 0) (ht : t ≤ 5) (hl0 : 0 ≤ l) (hl1 : l ≤ 7776) (hi : i < t) :
    Snd Try.prog G 34 [tInt base, tInt t, tInt l, tInt i] (tInt (digitAt (radix base) t l i)) := by
  have htb := Tab.cons (RRadix_snd hG base) Tab.nil
  refine snd_of_body (n := 26) (tm := [(0, .t (tInt base)), (1, .t (tInt t)), (2, .t (tInt l)), (3, .t (tInt i))]) (rs := [.tmp 8]) tt_ok Try.func34 rfl rfl rfl rfl rfl ?_
  obtain ⟨r2, r6⟩ := radix_two hr
  unfold digitAt
  generalize radix base = k at *
  repeat' (first | (with_reducible first | apply w1 | apply w2 | apply w3 | apply w4 | apply w5 | apply w6 | apply w7 | apply w8 | apply w9 | apply wa | apply wb | apply wc) | ((with_reducible apply wd); focus decide) | ((with_reducible apply we); focus exact rfl) | ((with_reducible apply wf); focus exact rfl) | ((first | (with_reducible apply SW_run tt_ok hG htb) | ((with_reducible apply SW_draw rfl tt_ok hG htb); (focus kernel_rfl); focus simp only [List.range, List.range.loop, List.size_toArray, List.length_cons, List.length_nil, Nat.reduceAdd])); focus ((repeat' (first | (with_reducible first | exact wg | exact wh) | ((with_reducible first | apply wi | apply wj); focus (simp (discharger := omega) only [go_sem, simprocAttr]; with_reducible rfl)))); done)))
  refine SW_loop (fun m s => ∃ (j : Nat) (q : Int), m = j ∧ s = ⟨26, [(2, .t (tInt q)), (3, .t (tInt i)), (9, .t (tInt k)), (10, .t (tInt (i + j : Nat)))], []⟩ ∧ i + j < t ∧ 0 ≤ q ∧ q ≤ 7776 ∧ (unpack k t l).getD i 0 = (unpack k (i + j + 1) q).getD i 0) (t - 1 - i) ⟨_, Norm.headS (own := []) (keep := [2, 3, 9, 10]) (by refine ⟨?_, ?_⟩; (simp (discharger := omega) only [go_sem, simprocAttr]; with_reducible rfl); refine ⟨?_, ?_, ?_, ?_⟩ <;> (simp only [go_sem, simprocAttr]; with_reducible rfl)), t - 1 - i, l, rfl, by rw [show i + (t - 1 - i) = t - 1 by omega, show ((t - 1 : Nat) : Int) = (t : Int) - 1 by omega]; rfl, by omega, hl0, hl1, by rw [show i + (t - 1 - i) + 1 = t by omega]⟩ ?_
  rintro m s ⟨j, q, rfl, rfl, hj, q0, q1, hU⟩
  have e1 : q.tmod k = q % k := Int.tmod_eq_emod_of_nonneg q0
  have e2 : q.tdiv k = q / k := Int.tdiv_eq_ediv_of_nonneg q0
  have q2 : 0 ≤ q % k := Int.emod_nonneg _ (by omega)
  have q3 : 0 ≤ q / k := Int.ediv_nonneg q0 (by omega)
  have q4 : q / k ≤ q := Int.ediv_le_self _ q0
  by_cases hlt : 0 < m
  · obtain ⟨j, rfl⟩ : ∃ j, m = j + 1 := ⟨m - 1, by omega⟩
    have e3 : ((i + (j + 1) : Nat) : Int) - 1 = ((i + j : Nat) : Int) := by omega
    repeat' (first | (with_reducible first | apply w1 | apply w2 | apply w3 | apply w4 | apply w5 | apply w6 | apply w7 | apply w8 | apply w9 | apply wa | apply wb | apply wc) | ((with_reducible apply wd); focus decide) | ((with_reducible apply we); focus exact rfl) | ((with_reducible apply wf); focus exact rfl) | ((first | (with_reducible apply SW_run tt_ok hG htb) | ((with_reducible apply SW_draw rfl tt_ok hG htb); (focus kernel_rfl); focus simp only [List.range, List.range.loop, List.size_toArray, List.length_cons, List.length_nil, Nat.reduceAdd])); focus ((repeat' (first | (with_reducible first | exact wg | exact wh) | ((with_reducible first | apply wi | apply wj); focus (simp (discharger := omega) only [go_sem, e2, e3, simprocAttr]; with_reducible rfl)))); done)))
    exact ⟨j, _, by omega, Norm.headS (own := []) (keep := [2, 3, 9, 10]) (by refine ⟨?_, ?_⟩; (simp (discharger := omega) only [go_sem, simprocAttr]; with_reducible rfl); refine ⟨?_, ?_, ?_, ?_⟩ <;> (simp only [go_sem, simprocAttr]; with_reducible rfl)), j, q / k, rfl, rfl, by omega, q3, by omega, by rw [hU]; exact unpack_pre k (i + j + 1) q i (by omega)⟩
  · obtain rfl : m = 0 := by omega
    rw [hU, Nat.add_zero, unpack_last]
    repeat' (first | (with_reducible first | apply w1 | apply w2 | apply w3 | apply w4 | apply w5 | apply w6 | apply w7 | apply w8 | apply w9 | apply wa | apply wb | apply wc) | ((with_reducible apply wd); focus decide) | ((with_reducible apply we); focus exact rfl) | ((with_reducible apply wf); focus exact rfl) | ((first | (with_reducible apply SW_run tt_ok hG htb) | ((with_reducible apply SW_draw rfl tt_ok hG htb); (focus kernel_rfl); focus simp only [List.range, List.range.loop, List.size_toArray, List.length_cons, List.length_nil, Nat.reduceAdd])); focus ((repeat' (first | (with_reducible first | exact wg | exact wh) | ((with_reducible first | apply wi | apply wj); focus (simp (discharger := omega) only [go_sem, e1, simprocAttr]; with_reducible rfl)))); done)))
    exact (by simp (discharger := omega) only [go_sem, simprocAttr])
end
end Go.Proofs.Ythcclcbliedodaa
namespace Go.Proofs.Ythcclcbliedodaa
open Go.RowKit

section
variable {G : World → Prop} (hG : Lasting G)
include hG
theorem RPackOf_snd (base : Int) (d : List Int) (hr : radix base ≠ 0) (hl : d.length ≤ 5) (hok : ∀ x ∈ d, 0 ≤ x ∧ x < radix base) : Snd Try.prog G 35 [tInt base, tInts d] (tInt (pack (radix base) d)) := by
  have htb := Tab.cons (RRadix_snd hG base) Tab.nil
  refine snd_of_body (n := 23) (tm := [(0, .t (tInt base)), (1, .t (tInts d))]) (rs := [.tmp 4]) tt_ok Try.func35 rfl rfl rfl rfl rfl ?_
  obtain ⟨r2, r6⟩ := radix_two hr
  generalize radix base = k at *
  repeat' (first | (with_reducible first | apply w1 | apply w2 | apply w3 | apply w4 | apply w5 | apply w6 | apply w7 | apply w8 | apply w9 | apply wa | apply wb | apply wc) | ((with_reducible apply wd); focus decide) | ((with_reducible apply we); focus exact rfl) | ((with_reducible apply wf); focus exact rfl) | ((first | (with_reducible apply SW_run tt_ok hG htb) | ((with_reducible apply SW_draw rfl tt_ok hG htb); (focus kernel_rfl); focus simp only [List.range, List.range.loop, List.size_toArray, List.length_cons, List.length_nil, Nat.reduceAdd])); focus ((repeat' (first | (with_reducible first | exact wg | exact wh) | ((with_reducible first | apply wi | apply wj); focus (simp (discharger := omega) only [go_sem, simprocAttr]; with_reducible rfl)))); done)))
  refine SW_loop (fun m s => ∃ i : Nat, m = d.length - i ∧ s = ⟨23, [(0, .t (tInt base)), (1, .t (tInts d)), (5, .t (tInt (pack k (d.take i)))), (6, .t (tInt i))], []⟩ ∧ i ≤ d.length) d.length ⟨_, Norm.headS (own := []) (keep := [0, 1, 5, 6]) (by refine ⟨?_, ?_⟩; (simp (discharger := omega) only [go_sem, simprocAttr]; with_reducible rfl); refine ⟨?_, ?_, ?_, ?_⟩ <;> (simp only [go_sem, simprocAttr]; with_reducible rfl)), 0, rfl, rfl, Nat.zero_le _⟩ ?_
  rintro m s ⟨i, rfl, rfl, hi⟩
  have hb := pack_bd r2 (d.take i) fun x hx => hok x (List.mem_of_mem_take hx)
  have hb2 := powW_bd r2 r6 (j := (d.take i).length) (by simp; omega)
  by_cases hlt : i < d.length
  · obtain ⟨x, hx⟩ : ∃ x, d[i]! = x := ⟨_, rfl⟩
    have hxk := hok x (bang_mem hx hlt)
    have hpk : pack k (d.take (i + 1)) = pack k (d.take i) * k + x := by rw [take_next hx hlt, pack_snoc]
    have hm1 : 0 ≤ pack k (d.take i) * k := Int.mul_nonneg hb.1 (by omega)
    have hm2 : pack k (d.take i) * k ≤ 7776 * 6 := Int.mul_le_mul (by omega) r6 (by omega) (by omega)
    repeat' (first | (with_reducible first | apply w1 | apply w2 | apply w3 | apply w4 | apply w5 | apply w6 | apply w7 | apply w8 | apply w9 | apply wa | apply wb | apply wc) | ((with_reducible apply wd); focus decide) | ((with_reducible apply we); focus exact rfl) | ((with_reducible apply wf); focus exact rfl) | ((first | (with_reducible apply SW_run tt_ok hG htb) | ((with_reducible apply SW_draw rfl tt_ok hG htb); (focus kernel_rfl); focus simp only [List.range, List.range.loop, List.size_toArray, List.length_cons, List.length_nil, Nat.reduceAdd])); focus ((repeat' (first | (with_reducible first | exact wg | exact wh) | ((with_reducible first | apply wi | apply wj); focus (simp (discharger := omega) only [go_sem, hx, simprocAttr]; with_reducible rfl)))); done)))
    exact ⟨d.length - (i + 1), _, by omega, Norm.headS (own := []) (keep := [0, 1, 5, 6]) (by refine ⟨?_, ?_⟩; (simp (discharger := omega) only [go_sem, simprocAttr]; with_reducible rfl); refine ⟨?_, ?_, ?_, ?_⟩ <;> (simp only [go_sem, simprocAttr]; with_reducible rfl)), i + 1, rfl, by rw [hpk]; rfl, by omega⟩
  · obtain rfl : i = d.length := by omega
    rw [List.take_length] at hb ⊢
    repeat' (first | (with_reducible first | apply w1 | apply w2 | apply w3 | apply w4 | apply w5 | apply w6 | apply w7 | apply w8 | apply w9 | apply wa | apply wb | apply wc) | ((with_reducible apply wd); focus decide) | ((with_reducible apply we); focus exact rfl) | ((with_reducible apply wf); focus exact rfl) | ((first | (with_reducible apply SW_run tt_ok hG htb) | ((with_reducible apply SW_draw rfl tt_ok hG htb); (focus kernel_rfl); focus simp only [List.range, List.range.loop, List.size_toArray, List.length_cons, List.length_nil, Nat.reduceAdd])); focus ((repeat' (first | (with_reducible first | exact wg | exact wh) | ((with_reducible first | apply wi | apply wj); focus (simp (discharger := omega) only [go_sem, simprocAttr]; with_reducible rfl)))); done)))
    exact (by simp (discharger := omega) only [go_sem, simprocAttr])
end
end Go.Proofs.Ythcclcbliedodaa
namespace Go.Proofs.Ythcclcbliedodaa
open Go.RowKit

section
variable {G : World → Prop} (hG : Lasting G)
include hG
set_option maxHeartbeats 4000000 in
theorem Without_snd (base : Int) (t k : Nat) (l : Nat) (hr : radix base ≠ 0) (ht : t ≤ 4) (hk : k ≤ t) (hl : l ≤ 7776) :
    Snd Try.prog G 13 [tInt base, tInt ((t + 1 : Nat) : Int), tInt k, tInt l] (tInts ((List.range (radix base).toNat).map fun x : Nat => fixL base t k x l)) := by
  obtain ⟨r2, r6⟩ := radix_two hr
  have cR := RRadix_snd hG base
  have htb : Tab.ok Try.prog G [] := Tab.nil
  refine snd_of_body (n := 56) (tm := [(0, .t (tInt base)), (1, .t (tInt ((t + 1 : Nat) : Int))), (2, .t (tInt k)), (3, .t (tInt l))]) (rs := [.tmp 8]) tt_ok Try.func13 rfl rfl rfl rfl rfl ?_
  have et : ((t + 1 : Nat) : Int) - 1 = (t : Nat) := by omega
  repeat' (first | (with_reducible first | apply w1 | apply w2 | apply w3 | apply w4 | apply w5 | apply w6 | apply w7 | apply w8 | apply w9 | apply wa | apply wb | apply wc) | ((with_reducible apply wd); focus decide) | ((with_reducible apply we); focus exact rfl) | ((with_reducible apply wf); focus exact rfl) | ((first | (with_reducible apply SW_run tt_ok hG htb) | ((with_reducible apply SW_draw rfl tt_ok hG htb); (focus kernel_rfl); focus simp only [List.range, List.range.loop, List.size_toArray, List.length_cons, List.length_nil, Nat.reduceAdd])); focus ((repeat' (first | (with_reducible first | exact wg | exact wh) | ((with_reducible first | apply wi | apply wj); focus (simp (discharger := omega) only [go_sem, simprocAttr]; with_reducible rfl)))); done)))
  clear htb
  refine SW_loop (fun m s => ∃ (i : Nat) (dt : List T), m = t - i ∧ s = ⟨56, [(0, .t (tInt base)), (1, .t (tInt ((t + 1 : Nat) : Int))), (2, .t (tInt k)), (3, .t (tInt l)), (9, .sref 0), (10, .t (tInt i))], [.row 3 1 false dt]⟩ ∧ i ≤ t ∧ dt = ((unpack (radix base) t (l : Int)).take i).map tInt) t
    ⟨_, Norm.headS (own := [(9, 3, 1, false)]) (keep := [0, 1, 2, 3, 9, 10]) (by refine ⟨?_, ?_⟩; (simp (discharger := omega) only [go_sem, simprocAttr]; with_reducible rfl); refine ⟨?_, ?_, ?_, ?_⟩ <;> (simp only [go_sem, simprocAttr]; with_reducible rfl)), 0, _, rfl, rfl, Nat.zero_le _, by simp⟩ ?_
  rintro m s ⟨i, dt, rfl, rfl, hi, hdt⟩
  have hul := unpack_length (radix base) t (l : Int)
  have hdl : dt.length = i := by rw [hdt]; simp; omega
  by_cases hlt : i < t
  · have c1 := RDigitOf_snd hG base t (l : Int) i hr (by omega) (by omega) (by omega) hlt
    have htk : (unpack (radix base) t (l : Int)).take (i + 1) = (unpack (radix base) t (l : Int)).take i ++ [digitAt (radix base) t (l : Int) i] := by
      rw [List.take_succ_eq_append_getElem (by omega)]
      unfold digitAt
      rw [getD_lt (by omega)]
    generalize digitAt (radix base) t (l : Int) i = y at *
    have htb := Tab.cons c1 Tab.nil
    repeat' (first | (with_reducible first | apply w1 | apply w2 | apply w3 | apply w4 | apply w5 | apply w6 | apply w7 | apply w8 | apply w9 | apply wa | apply wb | apply wc) | ((with_reducible apply wd); focus decide) | ((with_reducible apply we); focus exact rfl) | ((with_reducible apply wf); focus exact rfl) | ((first | (with_reducible apply SW_run tt_ok hG htb) | ((with_reducible apply SW_draw rfl tt_ok hG htb); (focus kernel_rfl); focus simp only [List.range, List.range.loop, List.size_toArray, List.length_cons, List.length_nil, Nat.reduceAdd])); focus ((repeat' (first | (with_reducible first | exact wg | exact wh) | ((with_reducible first | apply wi | apply wj); focus (simp (discharger := omega) only [go_sem, et, simprocAttr]; with_reducible rfl)))); done)))
    exact ⟨t - (i + 1), _, by omega, Norm.headS (own := [(9, 3, 1, false)]) (keep := [0, 1, 2, 3, 9, 10]) (by refine ⟨?_, ?_⟩; (simp (discharger := omega) only [go_sem, simprocAttr]; with_reducible rfl); refine ⟨?_, ?_, ?_, ?_⟩ <;> (simp only [go_sem, simprocAttr]; with_reducible rfl)), i + 1, _, rfl, rfl, by omega, by rw [htk, List.map_append, ← hdt]; rfl⟩
  · obtain rfl : i = t := by omega
    rw [List.take_of_length_le (by omega)] at hdt
    obtain ⟨d, hd⟩ : ∃ d, unpack (radix base) i (l : Int) = d := ⟨_, rfl⟩
    have hdok := unpack_ok r2 i (l : Int)
    rw [hd] at hul hdt hdok
    have htb := Tab.cons cR Tab.nil
    subst hdt
    refine SW_norm (Norm.frz 9 rfl rfl) ?_
    repeat' (first | (with_reducible first | apply w1 | apply w2 | apply w3 | apply w4 | apply w5 | apply w6 | apply w7 | apply w8 | apply w9 | apply wa | apply wb | apply wc) | ((with_reducible apply wd); focus decide) | ((with_reducible apply we); focus exact rfl) | ((with_reducible apply wf); focus exact rfl) | ((first | (with_reducible apply SW_run tt_ok hG htb) | ((with_reducible apply SW_draw rfl tt_ok hG htb); (focus kernel_rfl); focus simp only [List.range, List.range.loop, List.size_toArray, List.length_cons, List.length_nil, Nat.reduceAdd])); focus ((repeat' (first | (with_reducible first | exact wg | exact wh) | ((with_reducible first | apply wi | apply wj); focus (simp (discharger := omega) only [go_sem, et, simprocAttr]; with_reducible rfl)))); done)))
    refine SW_loop (fun m s => ∃ (x : Nat) (ot : List T), m = (radix base).toNat - x ∧ s = ⟨56, [(0, .t (tInt base)), (2, .t (tInt k)), (9, .sref 0), (11, .sref 1), (12, .t (tInt x))], [.froz (d.map tInt), .row 3 1 false ot]⟩ ∧ x ≤ (radix base).toNat ∧ ot = (((List.range (radix base).toNat).map fun x : Nat => fixL base i k x l).take x).map tInt) (radix base).toNat
      ⟨_, Norm.headS (own := [(11, 3, 1, false)]) (keep := [0, 2, 9, 11, 12]) (by refine ⟨?_, ?_⟩; (simp (discharger := omega) only [go_sem, simprocAttr]; with_reducible rfl); refine ⟨?_, ?_, ?_, ?_⟩ <;> (simp only [go_sem, simprocAttr]; with_reducible rfl)), 0, _, rfl, rfl, Nat.zero_le _, by simp⟩ ?_
    rintro m s ⟨x, ot, rfl, rfl, hx, hot⟩
    have hol : ot.length = x := by rw [hot]; simp; omega
    by_cases hlt2 : x < (radix base).toNat
    · have hall : ∀ l : List Int, (l.all fun _ => true) = true := fun l => by simp
      obtain ⟨d1, e1⟩ : ∃ d1, d.take k = d1 := ⟨_, rfl⟩
      obtain ⟨d2, e2⟩ : ∃ d2, d.drop k = d2 := ⟨_, rfl⟩
      have l1 : d1.length = k := by rw [← e1]; simp; omega
      have l2 : d2.length = i - k := by rw [← e2]; simp; omega
      have m1 : (d.map tInt).take k = d1.map tInt := by rw [← e1, List.map_take]
      have m2 : (d.map tInt).drop k = d2.map tInt := by rw [← e2, List.map_drop]
      have m3 : (d.map tInt).take d.length = d.map tInt := List.take_of_length_le (by simp)
      have hD : fixD base i k x l = d1 ++ [(x : Int)] ++ d2 := by unfold fixD; rw [hd, e1, e2]
      have hok := fixD_ok hr (t := i) (k := k) (x := (x : Int)) (by omega) l
      rw [hD] at hok
      have c2 := RPackOf_snd hG base (d1 ++ [(x : Int)] ++ d2) hr (by simp; omega) hok
      have htk := map_range_take (fun x : Nat => fixL base i k x l) hlt2
      have hv : fixL base i k x l = pack (radix base) (d1 ++ [(x : Int)] ++ d2) := by unfold fixL; rw [hD]
      rw [hv] at htk
      clear hv hD hok
      generalize pack (radix base) (d1 ++ [(x : Int)] ++ d2) = v at *
      generalize radix base = r at *
      clear htb
      have htb := Tab.cons cR (Tab.cons c2 Tab.nil)
      repeat' (first | (with_reducible first | apply w1 | apply w2 | apply w3 | apply w4 | apply w5 | apply w6 | apply w7 | apply w8 | apply w9 | apply wa | apply wb | apply wc) | ((with_reducible apply wd); focus decide) | ((with_reducible apply we); focus exact rfl) | ((with_reducible apply wf); focus exact rfl) | ((first | (with_reducible apply SW_run tt_ok hG htb) | ((with_reducible apply SW_draw rfl tt_ok hG htb); (focus kernel_rfl); focus simp only [List.range, List.range.loop, List.size_toArray, List.length_cons, List.length_nil, Nat.reduceAdd])); focus ((repeat' (first | (with_reducible first | exact wg | exact wh) | ((with_reducible first | apply wi | apply wj); focus (simp (discharger := omega) only [go_sem, Function.comp_def, hall, m1, m2, m3, List.length_append, List.map_append, simprocAttr]; with_reducible rfl)))); done)))
      exact ⟨r.toNat - (x + 1), _, by omega, Norm.headS (own := [(11, 3, 1, false)]) (keep := [0, 2, 9, 11, 12]) (by refine ⟨?_, ?_⟩; (simp (discharger := omega) only [go_sem, simprocAttr]; with_reducible rfl); refine ⟨?_, ?_, ?_, ?_⟩ <;> (simp only [go_sem, simprocAttr]; with_reducible rfl)), x + 1, _, rfl, rfl, by omega, by rw [htk, List.map_append, ← hot]; rfl⟩
    · obtain rfl : x = (radix base).toNat := by omega
      rw [List.take_of_length_le (by simp)] at hot
      subst hot
      generalize radix base = r at *
      repeat' (first | (with_reducible first | apply w1 | apply w2 | apply w3 | apply w4 | apply w5 | apply w6 | apply w7 | apply w8 | apply w9 | apply wa | apply wb | apply wc) | ((with_reducible apply wd); focus decide) | ((with_reducible apply we); focus exact rfl) | ((with_reducible apply wf); focus exact rfl) | ((first | (with_reducible apply SW_run tt_ok hG htb) | ((with_reducible apply SW_draw rfl tt_ok hG htb); (focus kernel_rfl); focus simp only [List.range, List.range.loop, List.size_toArray, List.length_cons, List.length_nil, Nat.reduceAdd])); focus ((repeat' (first | (with_reducible first | exact wg | exact wh) | ((with_reducible first | apply wi | apply wj); focus (simp (discharger := omega) only [go_sem, simprocAttr]; with_reducible rfl)))); done)))
      exact (by simp (discharger := omega) only [go_sem, simprocAttr])
end
end Go.Proofs.Ythcclcbliedodaa
namespace Go.Proofs.Ythcclcbliedodaa
open Go.ChangeShapes Go.WideShapes Go.ChangeAt Go.RowKit Go.Joins Go.Deep

section
variable {H : Type} {enc : TypeId × Value → H} {w : World} {sp : Nat → Bool} {held : Bool}
/-- One cell that reads as a datum. -/
def OpensT (enc : TypeId × Value → H) (w : World) (sp : Nat → Bool) (held : Bool) (T : TypeId) (Q : Go.Proofs.Ythcclcbliedodaa.T → Prop) : Prop :=
  ∀ n v y, DataW.trod enc Try.prog w 0 sp held n T [v] = some y → v.oneCell' = true ∧ ∃ x, Q x ∧ x.cells = [x] ∧ RepT (· < w.heap.size) w x v
theorem flat_cells : ∀ {l : List Go.Proofs.Ythcclcbliedodaa.T}, (∀ x ∈ l, x.cells = [x]) → Go.Proofs.Ythcclcbliedodaa.flat l = l
  | [], _ => rfl
  | a :: t, h => by
    have := flat_cells fun x hx => h x (List.mem_cons_of_mem a hx)
    simp only [Go.Proofs.Ythcclcbliedodaa.flat, List.flatMap_cons] at this ⊢
    rw [this, h a List.mem_cons_self]; rfl
theorem opensT_int {T : TypeId} (ht : Try.prog.underlying T = some (.int .i64)) : OpensT enc w sp held T fun x => ∃ n, x = tInt n ∧ I64 n := by
  intro n v y h
  obtain ⟨a, rfl, h2⟩ := opens_int ht n v y h
  exact ⟨rfl, _, ⟨a, rfl, h2⟩, rfl, .int _ _⟩
theorem opensT_bool {T : TypeId} (ht : Try.prog.underlying T = some .bool) : OpensT enc w sp held T fun x => ∃ b, x = .bool b := by
  intro n v y h
  obtain ⟨a, rfl⟩ := opens_bool ht n v y h
  exact ⟨rfl, _, ⟨a, rfl⟩, rfl, .bool _⟩
theorem opensT_slice {T e : TypeId} {Q : Go.Proofs.Ythcclcbliedodaa.T → Prop} (ht : Try.prog.underlying T = some (.slice e)) (hc : Try.prog.cellsOf e = 1) (hE : OpensT enc w sp held e Q) :
    OpensT enc w sp held T fun x => ∃ l, x = .list l ∧ ∀ y ∈ l, Q y := by
  intro n v y h
  rcases open_slice1 ht hc h with ⟨hcs, _⟩ | ⟨a, len, cap, m, n', V, D, Pl, hcs, _, hl, hcap, hm, _, hx⟩
  · obtain rfl : v = .slice none 0 0 := by simpa using hcs
    exact ⟨rfl, _, ⟨[], rfl, fun y hy => by simp at hy⟩, rfl, .list [] none 0 1 (fun _ => undef) (Nat.zero_le _) Nat.one_pos (fun x hx => by simp at hx) (fun h => (h rfl).elim) (fun k hk => by simp at hk) (fun k y hy => by simp [Go.Proofs.Ythcclcbliedodaa.flat] at hy) (Nat.le_refl _)⟩
  · obtain rfl : v = .slice (some a) len cap := by simpa using hcs
    have hlm : len ≤ m := by rw [hm]; split <;> omega
    have hall : ∀ i, i < len → (V i).oneCell' = true ∧ ∃ b, Q b ∧ b.cells = [b] ∧ RepT (· < w.heap.size) w b (V i) := fun i hi => hE _ _ _ (hx i (by omega)).2
    have key : ∀ k, k ≤ len → ∃ l : List Go.Proofs.Ythcclcbliedodaa.T, l.length = k ∧ ∀ i (hi : i < l.length), Q l[i] ∧ l[i].cells = [l[i]] ∧ RepT (· < w.heap.size) w l[i] (V i) := by
      intro k
      induction k with
      | zero => intro _; exact ⟨[], rfl, fun i hi => absurd hi (by simp)⟩
      | succ k ih =>
        intro hk
        obtain ⟨l, hl1, hl2⟩ := ih (by omega)
        obtain ⟨_, b, hb⟩ := hall k (by omega)
        refine ⟨l ++ [b], by simp [hl1], fun i hi => ?_⟩
        rw [List.getElem_append]
        split
        · exact hl2 i ‹_›
        · obtain rfl : i = k := by simp at hi; omega
          simpa using hb
    obtain ⟨l, hl1, hl2⟩ := key len (Nat.le_refl _)
    subst hl1
    have hcells : ∀ x ∈ l, x.cells = [x] := fun x hx => by obtain ⟨i, hi, rfl⟩ := List.mem_iff_getElem.1 hx; exact (hl2 i hi).2.1
    have hfl := flat_cells hcells
    refine ⟨rfl, _, ⟨l, rfl, fun y hy => by obtain ⟨i, hi, rfl⟩ := List.mem_iff_getElem.1 hy; exact (hl2 i hi).1⟩, rfl, ?_⟩
    refine .list l (some a) cap 1 V (by simp only [maxLen] at hcap ⊢; omega) Nat.one_pos (fun x hx => by rw [hcells x hx]; rfl) (fun hne => ?_) (fun k hk => (hall k (by omega)).1) (fun k y hy => ?_) (by omega)
    · obtain ⟨b, off, spot⟩ := a
      have hpos : 0 < l.length := List.length_pos_iff.2 hne
      have hc1 := (hx 0 (by omega)).1
      have hspot : spot = none := by simpa [Addr.add] using World.cell?_spot hc1
      subst hspot
      have hadd : ∀ i, (⟨b, off, none⟩ : Addr).add i = ⟨b, off + i, none⟩ := fun i => by unfold Addr.add; split <;> simp_all
      refine ⟨b, off, rfl, ?_, fun k hk => ?_⟩
      · rw [hadd] at hc1; exact cell_lt hc1
      · have := (hx k (by omega)).1
        rw [hadd] at this; exact this
    · rw [hfl] at hy
      obtain ⟨hk, rfl⟩ := List.getElem?_eq_some_iff.1 hy
      exact (hl2 k hk).2.2
theorem allMap {α : Type} {f : α → Go.Proofs.Ythcclcbliedodaa.T} {Q : α → Prop} : ∀ {l : List Go.Proofs.Ythcclcbliedodaa.T}, (∀ y ∈ l, ∃ a, y = f a ∧ Q a) → ∃ q : List α, l = q.map f ∧ ∀ a ∈ q, Q a
  | [], _ => ⟨[], rfl, fun a ha => by simp at ha⟩
  | x :: t, h => by
    obtain ⟨a, rfl, ha⟩ := h x List.mem_cons_self
    obtain ⟨q, rfl, hq⟩ := allMap fun y hy => h y (List.mem_cons_of_mem _ hy)
    exact ⟨a :: q, rfl, fun b hb => by
      rcases List.mem_cons.1 hb with rfl | hb
      · exact ha
      · exact hq b hb⟩
theorem opensT_ints {T : TypeId} (h : OpensT enc w sp held T fun x => ∃ l, x = .list l ∧ ∀ y ∈ l, ∃ n, y = tInt n ∧ I64 n) : OpensT enc w sp held T fun x => ∃ l, x = tInts l ∧ I64s l := fun n v y hy => by
  obtain ⟨h1, x, ⟨l, rfl, hl⟩, h2, h3⟩ := h n v y hy
  obtain ⟨q, rfl, hq⟩ := allMap hl
  exact ⟨h1, _, ⟨q, rfl, hq⟩, rfl, h3⟩
theorem opensIntsT : OpensT enc w sp held 26 fun x => ∃ l, x = tInts l ∧ I64s l := opensT_ints (opensT_slice Try.underlying26 (by kernel_rfl) (opensT_int Try.underlying3))
theorem opensIntssT : OpensT enc w sp held 22 fun x => ∃ l, x = tIntss l ∧ ∀ r ∈ l, I64s r := fun n v y hy => by
  obtain ⟨h1, x, ⟨l, rfl, hl⟩, h2, h3⟩ := opensT_slice Try.underlying22 (by kernel_rfl) opensIntsT n v y hy
  obtain ⟨q, rfl, hq⟩ := allMap hl
  exact ⟨h1, _, ⟨q, rfl, hq⟩, rfl, h3⟩
theorem opensBoolsT : OpensT enc w sp held 23 fun x => ∃ l, x = tBools l := fun n v y hy => by
  obtain ⟨h1, x, ⟨l, rfl, hl⟩, h2, h3⟩ := opensT_slice Try.underlying23 (by kernel_rfl) (opensT_bool Try.underlying4) n v y hy
  obtain ⟨q, rfl, hq⟩ := allMap (Q := fun _ => True) fun y hy => by obtain ⟨b, hb⟩ := hl y hy; exact ⟨b, hb, trivial⟩
  exact ⟨h1, _, ⟨q, rfl⟩, rfl, h3⟩
/-- An argument that reads as a list of numbers. -/
def ReadsInts (w : World) (v : Value) (l : List Int) : Prop := I64s l ∧ RepT (· < w.heap.size) w (tInts l) v
def ReadsAuto (w : World) (v : Value) (a : GAuto) : Prop := I64A a ∧ RepT (· < w.heap.size) w (tAuto a) v
theorem openIntsT {v : Value} (hv : v.cells = #[v]) {d : DataW H} {p : List MemPlace} (hd : DataW.Trod enc Try.prog w 0 sp held 26 v d p) : ∃ l, ReadsInts w v l := by
  obtain ⟨n, hn⟩ := hd
  rw [hv] at hn
  obtain ⟨_, x, ⟨l, rfl, hl⟩, _, h3⟩ := opensIntsT n v _ hn
  exact ⟨l, hl, h3⟩
set_option maxRecDepth 100000 in
theorem openAutoT {base : Nat} {v : Value} {d : DataW H} {p : List MemPlace} (hv : Value.okWide Try.prog w .any base 25 v) (h : DataW.Trod enc Try.prog w 0 sp held 25 v d p) :
    ∃ a : GAuto, ReadsAuto w v a := by
  obtain ⟨v0, v1, v2, v3, y0, y1, y2, y3, n, rfl, _, _, h0, h1, h2, h3⟩ := open_agg4 Try.underlying25 (by kernel_rfl) (by kernel_rfl) hv h
  obtain ⟨a0, rfl, i0⟩ := opens_int Try.underlying3 _ _ _ h0
  obtain ⟨a1, rfl, i1⟩ := opens_int Try.underlying3 _ _ _ h1
  obtain ⟨o2, x2, ⟨a2, rfl, i2⟩, _, hn⟩ := opensIntssT _ _ _ h2
  obtain ⟨o3, x3, ⟨a3, rfl⟩, _, he⟩ := opensBoolsT _ _ _ h3
  refine ⟨⟨a0, a1, a2, a3⟩, ⟨i0, i1, i2⟩, .agg _ _ rfl (fun k v hk => ?_) fun k y v hy hk => ?_⟩
  · match k, hk with
    | 0, hk => cases hk; rfl
    | 1, hk => cases hk; rfl
    | 2, hk => cases hk; exact o2
    | 3, hk => cases hk; exact o3
  · match k, hy, hk with
    | 0, hy, hk => cases hy; cases hk; exact .int _ _
    | 1, hy, hk => cases hy; cases hk; exact .int _ _
    | 2, hy, hk => cases hy; cases hk; exact hn
    | 3, hy, hk => cases hy; cases hk; exact he
end
theorem walkN {P : Program} {G : World → Prop} {f : Nat} {xs : List T} {w : World} {vs : Array Value} (h : Snd P G f xs (.bool true)) (hG : G w) (hl : vs.size = xs.length) (hx : ∀ (k : Nat) (y : T) (v : Value), xs[k]? = some y → vs[k]? = some v → RepT (· < w.heap.size) w y v) : Calls P f vs w (Ret (.bool true) w) :=
  (h.calls (· < w.heap.size) w vs hG hl hx).mono fun e w' hq => by obtain ⟨u, h1, h2, h3⟩ := hq; cases h2; exact ⟨h1, h3⟩
end Go.Proofs.Ythcclcbliedodaa
namespace Go.Proofs.Ythcclcbliedodaa
open Go.RowKit

section
variable {G : World → Prop} (hG : Lasting G)
include hG
set_option maxHeartbeats 16000000 in
set_option maxRecDepth 100000 in
theorem SomeTakes_snd (a : GAuto) (track : Int) (w : List Int) : Snd Try.prog G 5 [tAuto a, tInt track, tInts w] (.bool true) := by
  have c0 := same_snd hG
  have cS := Some_snd hG sameA 0
  rw [same_some.1, same_some.2] at cS
  have c1 := Some_snd hG a track
  refine snd_of_body (n := 189) (tm := [(0, .t (tAuto a)), (1, .t (tInt track)), (2, .t (tInts w))]) (rs := [.tmp 6]) tt_ok Try.func5 rfl rfl rfl rfl rfl ?_
  have htb := Tab.cons c0 (Tab.cons cS Tab.nil)
  repeat' (first | (with_reducible first | apply w1 | apply w2 | apply w3 | apply w4 | apply w5 | apply w6 | apply w7 | apply w8 | apply w9 | apply wa | apply wb | apply wc) | ((with_reducible apply wd); focus decide) | ((with_reducible apply we); focus exact rfl) | ((with_reducible apply wf); focus exact rfl) | ((first | (with_reducible apply SW_run tt_ok hG htb) | ((with_reducible apply SW_draw rfl tt_ok hG htb); (focus kernel_rfl); focus simp only [List.range, List.range.loop, List.size_toArray, List.length_cons, List.length_nil, Nat.reduceAdd])); focus ((repeat' (first | (with_reducible first | exact wg | exact wh) | ((with_reducible first | apply wi | apply wj); focus (simp (discharger := omega) only [go_sem, tAuto, tErr0, simprocAttr]; with_reducible rfl)))); done)))
  clear htb c0 cS
  by_cases he : someErr a track = 0
  rotate_left
  · generalize someErr a track = e at *
    generalize someA a track = A at *
    have htb := Tab.cons c1 Tab.nil
    repeat' (first | (with_reducible first | apply w1 | apply w2 | apply w3 | apply w4 | apply w5 | apply w6 | apply w7 | apply w8 | apply w9 | apply wa | apply wb | apply wc) | ((with_reducible apply wd); focus decide) | ((with_reducible apply we); focus exact rfl) | ((with_reducible apply wf); focus exact rfl) | ((first | (with_reducible apply SW_run tt_ok hG htb) | ((with_reducible apply SW_draw rfl tt_ok hG htb); (focus kernel_rfl); focus simp only [List.range, List.range.loop, List.size_toArray, List.length_cons, List.length_nil, Nat.reduceAdd])); focus ((repeat' (first | (with_reducible first | exact wg | exact wh) | ((with_reducible first | apply wi | apply wj); focus (simp (discharger := omega) only [go_sem, tAuto, tErr, he, simprocAttr]; with_reducible rfl)))); done)))
    exact (by simp (discharger := omega) only [go_sem, simprocAttr])
  obtain ⟨hle, _⟩ := someErr_zero he
  obtain ⟨_, ht0, _, _⟩ := leftErr_zero hle
  obtain ⟨k, rfl⟩ := Int.eq_ofNat_of_zero_le ht0
  obtain ⟨t, N, nW, r, m', L, I, l8⟩ := some_isLeast he
  have gS : Good (someA a (k : Int)) nW (someA a (k : Int)).next.length := ⟨by rw [I.base, I.tracks]; exact L.ok.many, by rw [I.base, I.tracks]; exact L.ok.nWe, L.ok.nW0, L.ok.nW36, I.least.length_pos, l8, I.least.len, I.least.rows⟩
  have hr1 := runErr_good gS w
  have c2 := Takes_snd hG (someA a (k : Int)) w
  have g := L.ok.good
  have hll := L.ok
  have htr := L.ok.tr
  have ht4 := L.ok.t4
  have hkt := L.ok.kt
  have hn36 := L.ok.nW36
  have hn0 := L.ok.nW0
  have hrad0 := L.ok.rad0
  rw [he] at c1
  by_cases hr : runErr (someA a (k : Int)) w = 0
  rotate_left
  · generalize runErr (someA a (k : Int)) w = e at *
    generalize takesOf (someA a (k : Int)) w = is at *
    generalize someA a (k : Int) = A at *
    have htb := Tab.cons c1 (Tab.cons c2 Tab.nil)
    repeat' (first | (with_reducible first | apply w1 | apply w2 | apply w3 | apply w4 | apply w5 | apply w6 | apply w7 | apply w8 | apply w9 | apply wa | apply wb | apply wc) | ((with_reducible apply wd); focus decide) | ((with_reducible apply we); focus exact rfl) | ((with_reducible apply wf); focus exact rfl) | ((first | (with_reducible apply SW_run tt_ok hG htb) | ((with_reducible apply SW_draw rfl tt_ok hG htb); (focus kernel_rfl); focus simp only [List.range, List.range.loop, List.size_toArray, List.length_cons, List.length_nil, Nat.reduceAdd])); focus ((repeat' (first | (with_reducible first | exact wg | exact wh) | ((with_reducible first | apply wi | apply wj); focus (simp (discharger := omega) only [go_sem, tAuto, tErr, hr, tErr0, simprocAttr]; with_reducible rfl)))); done)))
    exact (by simp (discharger := omega) only [go_sem, simprocAttr])
  have hwr := hr1.1 hr
  obtain ⟨W, hWe⟩ : ∃ W, withW a.base t k = W := ⟨_, rfl⟩
  have hWl := L.Wlen
  have hWr := L.Wrow
  have hWat : ∀ l, l < nW → (withW a.base t k)[l]? = some (withR a.base t k l) := fun l hl => withW_get L.ok hl
  rw [hWe] at hWl hWr hWat I
  have hW2 : ∀ q ∈ W, ∀ x ∈ q, 0 ≤ x ∧ x < (N : Int) := fun q hq => (hWr q hq).2
  have hW0 : ∀ q ∈ W, ∀ x ∈ q, 0 ≤ x := fun q hq x hx => (hW2 q hq x hx).1
  obtain ⟨Z, hZ⟩ : ∃ Z, W[0]! = Z := ⟨_, rfl⟩
  have hZW : Z ∈ W := bang_mem hZ (by omega)
  have hZ2 := hW2 Z hZW
  have hZl := (hWr Z hZW).1
  have hr6 := L.ok.r6
  obtain ⟨D, hD⟩ : ∃ D : Nat → List Int, ∀ i, D i = ((w.map Int.toNat).take i).foldl (nextD (stepW a.next W)) (closeL a Z) := ⟨_, fun _ => rfl⟩
  have his : takesOf (someA a (k : Int)) w = (D w.length).any (endOf a.ends) := by
    rw [takes_lng' gS hwr, I.lng (ltr_toNat' hwr.2), some_sets g hW2 (by rw [hZ]; exact hZW), hZ, hD, List.take_of_length_le (by simp)]
  have cW : ∀ l : Nat, l < nW → Snd Try.prog G 13 [tInt a.base, tInt a.tracks, tInt k, tInt l] (tInts (W[l]!)) := fun l hl => by
    have h1 := Without_snd hG a.base t k l hrad0 ht4 hkt (by omega)
    rw [← htr] at h1
    have h2 : W[l]! = withR a.base t k l := by
      obtain ⟨q1, q2⟩ := List.getElem?_eq_some_iff.1 (hWat l hl)
      rw [getElem!_pos W l q1, q2]
    rw [h2]
    exact h1
  have c3 : Snd Try.prog G 13 [tInt a.base, tInt a.tracks, tInt k, tInt 0] (tInts Z) := by
    have := cW 0 hn0
    rw [hZ] at this
    exact this
  rw [hr] at c2
  generalize takesOf (someA a (k : Int)) w = is at *
  clear I gS hr1 hr l8 L he hle
  generalize someA a (k : Int) = A at *
  obtain ⟨m, hm⟩ : ∃ m, a.next.length = m := ⟨_, rfl⟩
  rw [hm] at g
  have gR := g.rows
  have hm0 := g.m0
  have hm80 := g.m80
  have hmE := g.ends
  have hDm : ∀ i, Inm m (D i) := fun i => by
    rw [hD]
    have key : ∀ (u : List Nat) (s : List Int), Inm m s → Ltr nW u → Inm m (u.foldl (nextD (stepW a.next W)) s) := fun u => by
      induction u with
      | nil => intro s hs _; exact hs
      | cons l u ih =>
        intro s hs hu
        exact ih _ (stepW_in gR hW2 hs (by rw [hWl]; exact hu l List.mem_cons_self)).canon fun x hx => hu x (List.mem_cons_of_mem _ hx)
    exact key _ _ (close_in gR hm0 hZ2 _) fun x hx => ltr_toNat' hwr.2 x (List.mem_of_mem_take hx)
  have hDs : ∀ i l, w[i]! = ((l : Nat) : Int) → i < w.length → D (i + 1) = nextD (stepW a.next W) (D i) l := fun i l hl hi => by
    rw [hD, hD, List.take_succ_eq_append_getElem (by simpa using hi), List.foldl_append]
    have : (w.map Int.toNat)[i]'(by simpa using hi) = l := by rw [List.getElem_map, bang_at hl hi, Int.toNat_natCast]
    rw [this]; rfl
  have htb := Tab.cons c1 (Tab.cons c2 (Tab.cons c3 Tab.nil))
  repeat' (first | (with_reducible first | apply w1 | apply w2 | apply w3 | apply w4 | apply w5 | apply w6 | apply w7 | apply w8 | apply w9 | apply wa | apply wb | apply wc) | ((with_reducible apply wd); focus decide) | ((with_reducible apply we); focus exact rfl) | ((with_reducible apply wf); focus exact rfl) | ((first | (with_reducible apply SW_run tt_ok hG htb) | ((with_reducible apply SW_draw rfl tt_ok hG htb); (focus kernel_rfl); focus simp only [List.range, List.range.loop, List.size_toArray, List.length_cons, List.length_nil, Nat.reduceAdd])); focus ((repeat' (first | (with_reducible first | exact wg | exact wh) | ((with_reducible first | apply wi | apply wj); focus (simp (discharger := omega) only [go_sem, tAuto, tErr0, hm, simprocAttr]; with_reducible rfl)))); done)))
  clear htb c1 c2 c3
  have htb : Tab.ok Try.prog G [] := Tab.nil
  -- the states that letters ahead lead to
  refine SW_loop (fun mm st => ∃ (p : Nat) (H : List Bool), mm = m - p ∧ st = ⟨189, [(1, .t (tInt k)), (2, .t (tInts w)), (3, .bptr 0 0), (11, .t (.bool is)), (13, .sref 1), (14, .t (tInts Z)), (15, .t (tNat p))], [.box [.t (tInt a.base), .t (tInt a.tracks), .t (tIntss a.next), .t (tBools a.ends)], .row 4 1 true (H.map T.bool)]⟩ ∧ p ≤ m ∧ O1 a Z m H p) m
    ⟨_, Norm.headS (own := []) (keep := [1, 2, 3, 11, 13, 14, 15]) (by refine ⟨?_, ?_⟩; (simp (discharger := omega) only [go_sem, simprocAttr]; with_reducible rfl); refine ⟨?_, ?_, ?_, ?_⟩ <;> (simp only [go_sem, simprocAttr]; with_reducible rfl)), 0, (List.replicate m false).set 0 true, rfl, by rw [List.map_set, List.map_replicate]; rfl, Nat.zero_le _, O1.start hm0⟩ ?_
  rintro mm st ⟨p, H, rfl, rfl, hp, hO⟩
  have hHl := hO.len
  by_cases hlt : p < m
  · have hlt2 : ((p : Nat) : Int) < ((m : Nat) : Int) := by omega
    repeat' (first | (with_reducible first | apply w1 | apply w2 | apply w3 | apply w4 | apply w5 | apply w6 | apply w7 | apply w8 | apply w9 | apply wa | apply wb | apply wc) | ((with_reducible apply wd); focus decide) | ((with_reducible apply we); focus exact rfl) | ((with_reducible apply wf); focus exact rfl) | ((first | (with_reducible apply SW_run tt_ok hG htb) | ((with_reducible apply SW_draw rfl tt_ok hG htb); (focus kernel_rfl); focus simp only [List.range, List.range.loop, List.size_toArray, List.length_cons, List.length_nil, Nat.reduceAdd])); focus ((repeat' (first | (with_reducible first | exact wg | exact wh) | ((with_reducible first | apply wi | apply wj); focus (simp (discharger := omega) only [go_sem, hlt2, hm, simprocAttr]; with_reducible rfl)))); done)))
    refine SW_loop (fun mm st => ∃ (s : Nat) (H' : List Bool), mm = m - s ∧ st = ⟨189, [(1, .t (tInt k)), (2, .t (tInts w)), (3, .bptr 0 0), (11, .t (.bool is)), (13, .sref 1), (14, .t (tInts Z)), (15, .t (tNat p)), (16, .t (tNat s))], [.box [.t (tInt a.base), .t (tInt a.tracks), .t (tIntss a.next), .t (tBools a.ends)], .row 4 1 true (H'.map T.bool)]⟩ ∧ s ≤ m ∧ P1 a Z m H H' s 0) m
      ⟨_, Norm.headS (own := []) (keep := [1, 2, 3, 11, 13, 14, 15, 16]) (by refine ⟨?_, ?_⟩; (simp (discharger := omega) only [go_sem, simprocAttr]; with_reducible rfl); refine ⟨?_, ?_, ?_, ?_⟩ <;> (simp only [go_sem, simprocAttr]; with_reducible rfl)), 0, H, rfl, rfl, Nat.zero_le _, P1.start hO⟩ ?_
    rintro mm st ⟨s, H', rfl, rfl, hs, hP⟩
    have hHl' := hP.len
    by_cases hsm : s < m
    · have hlt3 : ((s : Nat) : Int) < ((m : Nat) : Int) := by omega
      obtain ⟨row, hrow⟩ : ∃ row, a.next[s]! = row := ⟨_, rfl⟩
      have hrl := gR.row row (bang_mem hrow (by omega))
      have hro : rowOf a.next ((s : Nat) : Int) = row := by unfold rowOf; exact bang_D hrow (by simpa [hm] using hsm)
      repeat' (first | (with_reducible first | apply w1 | apply w2 | apply w3 | apply w4 | apply w5 | apply w6 | apply w7 | apply w8 | apply w9 | apply wa | apply wb | apply wc) | ((with_reducible apply wd); focus decide) | ((with_reducible apply we); focus exact rfl) | ((with_reducible apply wf); focus exact rfl) | ((first | (with_reducible apply SW_run tt_ok hG htb) | ((with_reducible apply SW_draw rfl tt_ok hG htb); (focus kernel_rfl); focus simp only [List.range, List.range.loop, List.size_toArray, List.length_cons, List.length_nil, Nat.reduceAdd])); focus ((repeat' (first | (with_reducible first | exact wg | exact wh) | ((with_reducible first | apply wi | apply wj); focus (simp (discharger := omega) only [go_sem, hlt3, hm, simprocAttr]; with_reducible rfl)))); done)))
      refine SW_loop (fun mm st => ∃ (j : Nat) (H' : List Bool), mm = r - j ∧ st = ⟨189, [(1, .t (tInt k)), (2, .t (tInts w)), (3, .bptr 0 0), (11, .t (.bool is)), (13, .sref 1), (14, .t (tInts Z)), (15, .t (tNat p)), (16, .t (tNat s)), (17, .t (tNat j))], [.box [.t (tInt a.base), .t (tInt a.tracks), .t (tIntss a.next), .t (tBools a.ends)], .row 4 1 true (H'.map T.bool)]⟩ ∧ j ≤ r ∧ P1 a Z m H H' s j) r
        ⟨_, Norm.headS (own := []) (keep := [1, 2, 3, 11, 13, 14, 15, 16, 17]) (by refine ⟨?_, ?_⟩; (simp (discharger := omega) only [go_sem, simprocAttr]; with_reducible rfl); refine ⟨?_, ?_, ?_, ?_⟩ <;> (simp only [go_sem, simprocAttr]; with_reducible rfl)), 0, H', rfl, rfl, Nat.zero_le _, hP⟩ ?_
      clear hP hHl' H'
      rintro mm st ⟨j, H', rfl, rfl, hj, hP⟩
      have hHl' := hP.len
      by_cases hjr : j < r
      · have hlt4 : ((j : Nat) : Int) < ((Z.length : Nat) : Int) := by omega
        obtain ⟨b, hb'⟩ : ∃ b, H'[s]! = b := ⟨_, rfl⟩
        have hbs : hb H' s = b := hb_at hb' (by omega)
        cases b with
        | false =>
          repeat' (first | (with_reducible first | apply w1 | apply w2 | apply w3 | apply w4 | apply w5 | apply w6 | apply w7 | apply w8 | apply w9 | apply wa | apply wb | apply wc) | ((with_reducible apply wd); focus decide) | ((with_reducible apply we); focus exact rfl) | ((with_reducible apply wf); focus exact rfl) | ((first | (with_reducible apply SW_run tt_ok hG htb) | ((with_reducible apply SW_draw rfl tt_ok hG htb); (focus kernel_rfl); focus simp only [List.range, List.range.loop, List.size_toArray, List.length_cons, List.length_nil, Nat.reduceAdd])); focus ((repeat' (first | (with_reducible first | exact wg | exact wh) | ((with_reducible first | apply wi | apply wj); focus (simp (discharger := omega) only [go_sem, hlt4, hb', simprocAttr]; with_reducible rfl)))); done)))
          exact ⟨m - (s + 1), _, by omega, Norm.headS (own := []) (keep := [1, 2, 3, 11, 13, 14, 15, 16]) (by refine ⟨?_, ?_⟩; (simp (discharger := omega) only [go_sem, simprocAttr]; with_reducible rfl); refine ⟨?_, ?_, ?_, ?_⟩ <;> (simp only [go_sem, simprocAttr]; with_reducible rfl)), s + 1, H', rfl, rfl, by omega, hP.next (.inl hbs)⟩
        | true =>
          obtain ⟨u, hu⟩ : ∃ u, Z[j]! = u := ⟨_, rfl⟩
          have hub := hZ2 u (bang_mem hu (by omega))
          obtain ⟨v, hv⟩ : ∃ v, row[u.toNat]! = v := ⟨_, rfl⟩
          have hvb := gR.ok row (bang_mem hrow (by omega)) v (bang_mem hv (by omega))
          have hcd : closeD a Z ((s : Nat) : Int) j = v := by unfold closeD nx; rw [hro, hu]; exact bang_D hv (by omega)
          have hst := hP.step gR hZ2 hbs hsm (j := j) (by omega)
          rw [hcd] at hst
          repeat' (first | (with_reducible first | apply w1 | apply w2 | apply w3 | apply w4 | apply w5 | apply w6 | apply w7 | apply w8 | apply w9 | apply wa | apply wb | apply wc) | ((with_reducible apply wd); focus decide) | ((with_reducible apply we); focus exact rfl) | ((with_reducible apply wf); focus exact rfl) | ((first | (with_reducible apply SW_run tt_ok hG htb) | ((with_reducible apply SW_draw rfl tt_ok hG htb); (focus kernel_rfl); focus simp only [List.range, List.range.loop, List.size_toArray, List.length_cons, List.length_nil, Nat.reduceAdd])); focus ((repeat' (first | (with_reducible first | exact wg | exact wh) | ((with_reducible first | apply wi | apply wj); focus (simp (discharger := omega) only [go_sem, hlt4, hb', hu, hv, hrow, hrl, hm, simprocAttr]; with_reducible rfl)))); done)))
          exact ⟨r - (j + 1), _, by omega, Norm.headS (own := []) (keep := [1, 2, 3, 11, 13, 14, 15, 16, 17]) (by refine ⟨?_, ?_⟩; (simp (discharger := omega) only [go_sem, simprocAttr]; with_reducible rfl); refine ⟨?_, ?_, ?_, ?_⟩ <;> (simp only [go_sem, simprocAttr]; with_reducible rfl)), j + 1, H'.set v.toNat true, rfl, by rw [List.map_set]; rfl, by omega, hst⟩
      · obtain rfl : j = r := by omega
        have hlt4 : ¬ ((j : Nat) : Int) < ((Z.length : Nat) : Int) := by omega
        repeat' (first | (with_reducible first | apply w1 | apply w2 | apply w3 | apply w4 | apply w5 | apply w6 | apply w7 | apply w8 | apply w9 | apply wa | apply wb | apply wc) | ((with_reducible apply wd); focus decide) | ((with_reducible apply we); focus exact rfl) | ((with_reducible apply wf); focus exact rfl) | ((first | (with_reducible apply SW_run tt_ok hG htb) | ((with_reducible apply SW_draw rfl tt_ok hG htb); (focus kernel_rfl); focus simp only [List.range, List.range.loop, List.size_toArray, List.length_cons, List.length_nil, Nat.reduceAdd])); focus ((repeat' (first | (with_reducible first | exact wg | exact wh) | ((with_reducible first | apply wi | apply wj); focus (simp (discharger := omega) only [go_sem, hlt4, simprocAttr]; with_reducible rfl)))); done)))
        exact ⟨m - (s + 1), _, by omega, Norm.headS (own := []) (keep := [1, 2, 3, 11, 13, 14, 15, 16]) (by refine ⟨?_, ?_⟩; (simp (discharger := omega) only [go_sem, simprocAttr]; with_reducible rfl); refine ⟨?_, ?_, ?_, ?_⟩ <;> (simp only [go_sem, simprocAttr]; with_reducible rfl)), s + 1, H', rfl, rfl, by omega, hP.next (.inr hZl.symm)⟩
    · obtain rfl : s = m := by omega
      have hlt3 : ¬ ((s : Nat) : Int) < ((s : Nat) : Int) := by omega
      repeat' (first | (with_reducible first | apply w1 | apply w2 | apply w3 | apply w4 | apply w5 | apply w6 | apply w7 | apply w8 | apply w9 | apply wa | apply wb | apply wc) | ((with_reducible apply wd); focus decide) | ((with_reducible apply we); focus exact rfl) | ((with_reducible apply wf); focus exact rfl) | ((first | (with_reducible apply SW_run tt_ok hG htb) | ((with_reducible apply SW_draw rfl tt_ok hG htb); (focus kernel_rfl); focus simp only [List.range, List.range.loop, List.size_toArray, List.length_cons, List.length_nil, Nat.reduceAdd])); focus ((repeat' (first | (with_reducible first | exact wg | exact wh) | ((with_reducible first | apply wi | apply wj); focus (simp (discharger := omega) only [go_sem, hlt3, hm, simprocAttr]; with_reducible rfl)))); done)))
      exact ⟨s - (p + 1), _, by omega, Norm.headS (own := []) (keep := [1, 2, 3, 11, 13, 14, 15]) (by refine ⟨?_, ?_⟩; (simp (discharger := omega) only [go_sem, simprocAttr]; with_reducible rfl); refine ⟨?_, ?_, ?_, ?_⟩ <;> (simp only [go_sem, simprocAttr]; with_reducible rfl)), p + 1, H', rfl, rfl, by omega, hP.done' hO⟩
  obtain rfl : p = m := by omega
  have hH0 : ∀ x : Nat, hb H x = true ↔ ((x : Nat) : Int) ∈ D 0 := fun x => by
    rw [hO.fin gR hm0 hZ2 x, hD]; rfl
  have hlt2 : ¬ ((p : Nat) : Int) < ((p : Nat) : Int) := by omega
  repeat' (first | (with_reducible first | apply w1 | apply w2 | apply w3 | apply w4 | apply w5 | apply w6 | apply w7 | apply w8 | apply w9 | apply wa | apply wb | apply wc) | ((with_reducible apply wd); focus decide) | ((with_reducible apply we); focus exact rfl) | ((with_reducible apply wf); focus exact rfl) | ((first | (with_reducible apply SW_run tt_ok hG htb) | ((with_reducible apply SW_draw rfl tt_ok hG htb); (focus kernel_rfl); focus simp only [List.range, List.range.loop, List.size_toArray, List.length_cons, List.length_nil, Nat.reduceAdd])); focus ((repeat' (first | (with_reducible first | exact wg | exact wh) | ((with_reducible first | apply wi | apply wj); focus (simp (discharger := omega) only [go_sem, hlt2, hm, simprocAttr]; with_reducible rfl)))); done)))
  -- letter by letter
  refine SW_loop (fun mm st => ∃ (i : Nat) (H : List Bool), mm = w.length - i ∧ st = ⟨189, [(1, .t (tInt k)), (2, .t (tInts w)), (3, .bptr 0 0), (11, .t (.bool is)), (13, .sref 1), (18, .t (tNat i))], [.box [.t (tInt a.base), .t (tInt a.tracks), .t (tIntss a.next), .t (tBools a.ends)], .row 4 1 true (H.map T.bool)]⟩ ∧ i ≤ w.length ∧ H.length = p ∧ ∀ x : Nat, hb H x = true ↔ ((x : Nat) : Int) ∈ D i) w.length
    ⟨_, Norm.headS (own := []) (keep := [1, 2, 3, 11, 13, 18]) (by refine ⟨?_, ?_⟩; (simp (discharger := omega) only [go_sem, simprocAttr]; with_reducible rfl); refine ⟨?_, ?_, ?_, ?_⟩ <;> (simp only [go_sem, simprocAttr]; with_reducible rfl)), 0, H, rfl, rfl, Nat.zero_le _, hHl, hH0⟩ ?_
  clear hO hHl hH0 H
  rintro mm st ⟨i, H, rfl, rfl, hi, hHl, hHD⟩
  by_cases hiw : i < w.length
  · obtain ⟨x, hx⟩ : ∃ x, w[i]! = x := ⟨_, rfl⟩
    have hxb := hwr.2 x (bang_mem hx hiw)
    obtain ⟨l, rfl⟩ := Int.eq_ofNat_of_zero_le hxb.1
    have hln : l < nW := by omega
    have hDn := hDs i l hx hiw
    obtain ⟨V, hV⟩ : ∃ V, W[l]! = V := ⟨_, rfl⟩
    have hVW : V ∈ W := bang_mem hV (by omega)
    have hV2 := hW2 V hVW
    have hVl := (hWr V hVW).1
    have c4 := cW l hln
    rw [hV] at c4
    clear htb
    have htb := Tab.cons c4 Tab.nil
    repeat' (first | (with_reducible first | apply w1 | apply w2 | apply w3 | apply w4 | apply w5 | apply w6 | apply w7 | apply w8 | apply w9 | apply wa | apply wb | apply wc) | ((with_reducible apply wd); focus decide) | ((with_reducible apply we); focus exact rfl) | ((with_reducible apply wf); focus exact rfl) | ((first | (with_reducible apply SW_run tt_ok hG htb) | ((with_reducible apply SW_draw rfl tt_ok hG htb); (focus kernel_rfl); focus simp only [List.range, List.range.loop, List.size_toArray, List.length_cons, List.length_nil, Nat.reduceAdd])); focus ((repeat' (first | (with_reducible first | exact wg | exact wh) | ((with_reducible first | apply wi | apply wj); focus (simp (discharger := omega) only [go_sem, hx, hm, simprocAttr]; with_reducible rfl)))); done)))
    clear htb
    have htb : Tab.ok Try.prog G [] := Tab.nil
    refine SW_loop (fun mm st => ∃ (s : Nat) (K : List Bool), mm = p - s ∧ st = ⟨189, [(1, .t (tInt k)), (2, .t (tInts w)), (3, .bptr 0 0), (11, .t (.bool is)), (13, .sref 1), (18, .t (tNat i)), (19, .t (tInts V)), (20, .sref 2), (21, .t (tNat s))], [.box [.t (tInt a.base), .t (tInt a.tracks), .t (tIntss a.next), .t (tBools a.ends)], .row 4 1 true (H.map T.bool), .row 4 1 true (K.map T.bool)]⟩ ∧ s ≤ p ∧ P2 a V p H K s 0) p
      ⟨_, Norm.headS (own := []) (keep := [1, 2, 3, 11, 13, 18, 19, 20, 21]) (by refine ⟨?_, ?_⟩; (simp (discharger := omega) only [go_sem, simprocAttr]; with_reducible rfl); refine ⟨?_, ?_, ?_, ?_⟩ <;> (simp only [go_sem, simprocAttr]; with_reducible rfl)), 0, _, rfl, by rw [← List.map_replicate]; rfl, Nat.zero_le _, P2.start a V p H⟩ ?_
    rintro mm st ⟨s, K, rfl, rfl, hs, hP⟩
    have hKl := hP.len
    by_cases hsm : s < p
    · have hlt3 : ((s : Nat) : Int) < ((p : Nat) : Int) := by omega
      obtain ⟨row, hrow⟩ : ∃ row, a.next[s]! = row := ⟨_, rfl⟩
      have hrl := gR.row row (bang_mem hrow (by omega))
      have hro : rowOf a.next ((s : Nat) : Int) = row := by unfold rowOf; exact bang_D hrow (by simpa [hm] using hsm)
      obtain ⟨b, hb'⟩ : ∃ b, H[s]! = b := ⟨_, rfl⟩
      have hbs : hb H s = b := hb_at hb' (by omega)
      repeat' (first | (with_reducible first | apply w1 | apply w2 | apply w3 | apply w4 | apply w5 | apply w6 | apply w7 | apply w8 | apply w9 | apply wa | apply wb | apply wc) | ((with_reducible apply wd); focus decide) | ((with_reducible apply we); focus exact rfl) | ((with_reducible apply wf); focus exact rfl) | ((first | (with_reducible apply SW_run tt_ok hG htb) | ((with_reducible apply SW_draw rfl tt_ok hG htb); (focus kernel_rfl); focus simp only [List.range, List.range.loop, List.size_toArray, List.length_cons, List.length_nil, Nat.reduceAdd])); focus ((repeat' (first | (with_reducible first | exact wg | exact wh) | ((with_reducible first | apply wi | apply wj); focus (simp (discharger := omega) only [go_sem, hlt3, hm, simprocAttr]; with_reducible rfl)))); done)))
      refine SW_loop (fun mm st => ∃ (j : Nat) (K : List Bool), mm = r - j ∧ st = ⟨189, [(1, .t (tInt k)), (2, .t (tInts w)), (3, .bptr 0 0), (11, .t (.bool is)), (13, .sref 1), (18, .t (tNat i)), (19, .t (tInts V)), (20, .sref 2), (21, .t (tNat s)), (22, .t (tNat j))], [.box [.t (tInt a.base), .t (tInt a.tracks), .t (tIntss a.next), .t (tBools a.ends)], .row 4 1 true (H.map T.bool), .row 4 1 true (K.map T.bool)]⟩ ∧ j ≤ r ∧ P2 a V p H K s j) r
        ⟨_, Norm.headS (own := []) (keep := [1, 2, 3, 11, 13, 18, 19, 20, 21, 22]) (by refine ⟨?_, ?_⟩; (simp (discharger := omega) only [go_sem, simprocAttr]; with_reducible rfl); refine ⟨?_, ?_, ?_, ?_⟩ <;> (simp only [go_sem, simprocAttr]; with_reducible rfl)), 0, K, rfl, rfl, Nat.zero_le _, hP⟩ ?_
      clear hP hKl K
      rintro mm st ⟨j, K, rfl, rfl, hj, hP⟩
      have hKl := hP.len
      by_cases hjr : j < r
      · have hlt4 : ((j : Nat) : Int) < ((V.length : Nat) : Int) := by omega
        cases b with
        | false =>
          repeat' (first | (with_reducible first | apply w1 | apply w2 | apply w3 | apply w4 | apply w5 | apply w6 | apply w7 | apply w8 | apply w9 | apply wa | apply wb | apply wc) | ((with_reducible apply wd); focus decide) | ((with_reducible apply we); focus exact rfl) | ((with_reducible apply wf); focus exact rfl) | ((first | (with_reducible apply SW_run tt_ok hG htb) | ((with_reducible apply SW_draw rfl tt_ok hG htb); (focus kernel_rfl); focus simp only [List.range, List.range.loop, List.size_toArray, List.length_cons, List.length_nil, Nat.reduceAdd])); focus ((repeat' (first | (with_reducible first | exact wg | exact wh) | ((with_reducible first | apply wi | apply wj); focus (simp (discharger := omega) only [go_sem, hlt4, hb', simprocAttr]; with_reducible rfl)))); done)))
          exact ⟨p - (s + 1), _, by omega, Norm.headS (own := []) (keep := [1, 2, 3, 11, 13, 18, 19, 20, 21]) (by refine ⟨?_, ?_⟩; (simp (discharger := omega) only [go_sem, simprocAttr]; with_reducible rfl); refine ⟨?_, ?_, ?_, ?_⟩ <;> (simp only [go_sem, simprocAttr]; with_reducible rfl)), s + 1, K, rfl, rfl, by omega, hP.next (.inl hbs)⟩
        | true =>
          obtain ⟨u, hu⟩ : ∃ u, V[j]! = u := ⟨_, rfl⟩
          have hub := hV2 u (bang_mem hu (by omega))
          obtain ⟨v, hv⟩ : ∃ v, row[u.toNat]! = v := ⟨_, rfl⟩
          have hvb := gR.ok row (bang_mem hrow (by omega)) v (bang_mem hv (by omega))
          have hcd : closeD a V ((s : Nat) : Int) j = v := by unfold closeD nx; rw [hro, hu]; exact bang_D hv (by omega)
          have hst := hP.step gR hV2 hbs hsm (j := j) (by omega)
          rw [hcd] at hst
          repeat' (first | (with_reducible first | apply w1 | apply w2 | apply w3 | apply w4 | apply w5 | apply w6 | apply w7 | apply w8 | apply w9 | apply wa | apply wb | apply wc) | ((with_reducible apply wd); focus decide) | ((with_reducible apply we); focus exact rfl) | ((with_reducible apply wf); focus exact rfl) | ((first | (with_reducible apply SW_run tt_ok hG htb) | ((with_reducible apply SW_draw rfl tt_ok hG htb); (focus kernel_rfl); focus simp only [List.range, List.range.loop, List.size_toArray, List.length_cons, List.length_nil, Nat.reduceAdd])); focus ((repeat' (first | (with_reducible first | exact wg | exact wh) | ((with_reducible first | apply wi | apply wj); focus (simp (discharger := omega) only [go_sem, hlt4, hb', hu, hv, hrow, hrl, hm, simprocAttr]; with_reducible rfl)))); done)))
          exact ⟨r - (j + 1), _, by omega, Norm.headS (own := []) (keep := [1, 2, 3, 11, 13, 18, 19, 20, 21, 22]) (by refine ⟨?_, ?_⟩; (simp (discharger := omega) only [go_sem, simprocAttr]; with_reducible rfl); refine ⟨?_, ?_, ?_, ?_⟩ <;> (simp only [go_sem, simprocAttr]; with_reducible rfl)), j + 1, K.set v.toNat true, rfl, by rw [List.map_set]; rfl, by omega, hst⟩
      · obtain rfl : j = r := by omega
        have hlt4 : ¬ ((j : Nat) : Int) < ((V.length : Nat) : Int) := by omega
        repeat' (first | (with_reducible first | apply w1 | apply w2 | apply w3 | apply w4 | apply w5 | apply w6 | apply w7 | apply w8 | apply w9 | apply wa | apply wb | apply wc) | ((with_reducible apply wd); focus decide) | ((with_reducible apply we); focus exact rfl) | ((with_reducible apply wf); focus exact rfl) | ((first | (with_reducible apply SW_run tt_ok hG htb) | ((with_reducible apply SW_draw rfl tt_ok hG htb); (focus kernel_rfl); focus simp only [List.range, List.range.loop, List.size_toArray, List.length_cons, List.length_nil, Nat.reduceAdd])); focus ((repeat' (first | (with_reducible first | exact wg | exact wh) | ((with_reducible first | apply wi | apply wj); focus (simp (discharger := omega) only [go_sem, hlt4, simprocAttr]; with_reducible rfl)))); done)))
        exact ⟨p - (s + 1), _, by omega, Norm.headS (own := []) (keep := [1, 2, 3, 11, 13, 18, 19, 20, 21]) (by refine ⟨?_, ?_⟩; (simp (discharger := omega) only [go_sem, simprocAttr]; with_reducible rfl); refine ⟨?_, ?_, ?_, ?_⟩ <;> (simp only [go_sem, simprocAttr]; with_reducible rfl)), s + 1, K, rfl, rfl, by omega, hP.next (.inr hVl.symm)⟩
    · obtain rfl : s = p := by omega
      have hlt3 : ¬ ((s : Nat) : Int) < ((s : Nat) : Int) := by omega
      rw [← hV] at hP
      have hfin := hP.fin hHl hHD (hDm i) hW0
      rw [← hDn] at hfin
      repeat' (first | (with_reducible first | apply w1 | apply w2 | apply w3 | apply w4 | apply w5 | apply w6 | apply w7 | apply w8 | apply w9 | apply wa | apply wb | apply wc) | ((with_reducible apply wd); focus decide) | ((with_reducible apply we); focus exact rfl) | ((with_reducible apply wf); focus exact rfl) | ((first | (with_reducible apply SW_run tt_ok hG htb) | ((with_reducible apply SW_draw rfl tt_ok hG htb); (focus kernel_rfl); focus simp only [List.range, List.range.loop, List.size_toArray, List.length_cons, List.length_nil, Nat.reduceAdd])); focus ((repeat' (first | (with_reducible first | exact wg | exact wh) | ((with_reducible first | apply wi | apply wj); focus (simp (discharger := omega) only [go_sem, hlt3, hm, simprocAttr]; with_reducible rfl)))); done)))
      exact ⟨w.length - (i + 1), _, by omega, Norm.headS (own := []) (keep := [1, 2, 3, 11, 13, 18]) (by refine ⟨?_, ?_⟩; (simp (discharger := omega) only [go_sem, simprocAttr]; with_reducible rfl); refine ⟨?_, ?_, ?_, ?_⟩ <;> (simp only [go_sem, simprocAttr]; with_reducible rfl)), i + 1, K, rfl, rfl, by omega, hKl, hfin⟩
  obtain rfl : i = w.length := by omega
  repeat' (first | (with_reducible first | apply w1 | apply w2 | apply w3 | apply w4 | apply w5 | apply w6 | apply w7 | apply w8 | apply w9 | apply wa | apply wb | apply wc) | ((with_reducible apply wd); focus decide) | ((with_reducible apply we); focus exact rfl) | ((with_reducible apply wf); focus exact rfl) | ((first | (with_reducible apply SW_run tt_ok hG htb) | ((with_reducible apply SW_draw rfl tt_ok hG htb); (focus kernel_rfl); focus simp only [List.range, List.range.loop, List.size_toArray, List.length_cons, List.length_nil, Nat.reduceAdd])); focus ((repeat' (first | (with_reducible first | exact wg | exact wh) | ((with_reducible first | apply wi | apply wj); focus (simp (discharger := omega) only [go_sem, simprocAttr]; with_reducible rfl)))); done)))
  -- is there one with an end?
  refine SW_loop (fun mm st => ∃ (s : Nat) (b : Bool), mm = p - s ∧ st = ⟨189, [(3, .bptr 0 0), (11, .t (.bool is)), (13, .sref 1), (23, .t (.bool b)), (24, .t (tNat s))], [.box [.t (tInt a.base), .t (tInt a.tracks), .t (tIntss a.next), .t (tBools a.ends)], .row 4 1 true (H.map T.bool)]⟩ ∧ s ≤ p ∧ (b = true ↔ ∃ x : Nat, x < s ∧ hb H x = true ∧ endOf a.ends ((x : Nat) : Int) = true)) p
    ⟨_, Norm.headS (own := []) (keep := [3, 11, 13, 23, 24]) (by refine ⟨?_, ?_⟩; (simp (discharger := omega) only [go_sem, simprocAttr]; with_reducible rfl); refine ⟨?_, ?_, ?_, ?_⟩ <;> (simp only [go_sem, simprocAttr]; with_reducible rfl)), 0, false, rfl, rfl, Nat.zero_le _, by simp⟩ ?_
  rintro mm st ⟨s, b, rfl, rfl, hs, hbI⟩
  by_cases hsm : s < p
  · have hlt3 : ((s : Nat) : Int) < ((p : Nat) : Int) := by omega
    obtain ⟨c, hc⟩ : ∃ c, H[s]! = c := ⟨_, rfl⟩
    have hcs : hb H s = c := hb_at hc (by omega)
    obtain ⟨e, he⟩ : ∃ e, a.ends[s]! = e := ⟨_, rfl⟩
    have hes : endOf a.ends ((s : Nat) : Int) = e := by unfold endOf; exact bang_D he (by rw [hmE]; simpa using hsm)
    have hnew : (b || (c && e)) = true ↔ ∃ x : Nat, x < s + 1 ∧ hb H x = true ∧ endOf a.ends ((x : Nat) : Int) = true := by
      rw [Bool.or_eq_true, Bool.and_eq_true, hbI]
      constructor
      · rintro (⟨x, q1, q2⟩ | ⟨q1, q2⟩)
        · exact ⟨x, by omega, q2⟩
        · exact ⟨s, by omega, by rw [hcs, q1], by rw [hes, q2]⟩
      · rintro ⟨x, q1, q2, q3⟩
        by_cases ex : x = s
        · subst ex
          exact .inr ⟨by rw [← hcs]; exact q2, by rw [← hes]; exact q3⟩
        · exact .inl ⟨x, by omega, q2, q3⟩
    cases b with
    | true =>
      repeat' (first | (with_reducible first | apply w1 | apply w2 | apply w3 | apply w4 | apply w5 | apply w6 | apply w7 | apply w8 | apply w9 | apply wa | apply wb | apply wc) | ((with_reducible apply wd); focus decide) | ((with_reducible apply we); focus exact rfl) | ((with_reducible apply wf); focus exact rfl) | ((first | (with_reducible apply SW_run tt_ok hG htb) | ((with_reducible apply SW_draw rfl tt_ok hG htb); (focus kernel_rfl); focus simp only [List.range, List.range.loop, List.size_toArray, List.length_cons, List.length_nil, Nat.reduceAdd])); focus ((repeat' (first | (with_reducible first | exact wg | exact wh) | ((with_reducible first | apply wi | apply wj); focus (simp (discharger := omega) only [go_sem, hlt3, hm, simprocAttr]; with_reducible rfl)))); done)))
      exact ⟨p - (s + 1), _, by omega, Norm.headS (own := []) (keep := [3, 11, 13, 23, 24]) (by refine ⟨?_, ?_⟩; (simp (discharger := omega) only [go_sem, simprocAttr]; with_reducible rfl); refine ⟨?_, ?_, ?_, ?_⟩ <;> (simp only [go_sem, simprocAttr]; with_reducible rfl)), s + 1, _, rfl, rfl, by omega, hnew⟩
    | false =>
      cases c with
      | false =>
        repeat' (first | (with_reducible first | apply w1 | apply w2 | apply w3 | apply w4 | apply w5 | apply w6 | apply w7 | apply w8 | apply w9 | apply wa | apply wb | apply wc) | ((with_reducible apply wd); focus decide) | ((with_reducible apply we); focus exact rfl) | ((with_reducible apply wf); focus exact rfl) | ((first | (with_reducible apply SW_run tt_ok hG htb) | ((with_reducible apply SW_draw rfl tt_ok hG htb); (focus kernel_rfl); focus simp only [List.range, List.range.loop, List.size_toArray, List.length_cons, List.length_nil, Nat.reduceAdd])); focus ((repeat' (first | (with_reducible first | exact wg | exact wh) | ((with_reducible first | apply wi | apply wj); focus (simp (discharger := omega) only [go_sem, hlt3, hm, hc, simprocAttr]; with_reducible rfl)))); done)))
        exact ⟨p - (s + 1), _, by omega, Norm.headS (own := []) (keep := [3, 11, 13, 23, 24]) (by refine ⟨?_, ?_⟩; (simp (discharger := omega) only [go_sem, simprocAttr]; with_reducible rfl); refine ⟨?_, ?_, ?_, ?_⟩ <;> (simp only [go_sem, simprocAttr]; with_reducible rfl)), s + 1, _, rfl, rfl, by omega, hnew⟩
      | true =>
        repeat' (first | (with_reducible first | apply w1 | apply w2 | apply w3 | apply w4 | apply w5 | apply w6 | apply w7 | apply w8 | apply w9 | apply wa | apply wb | apply wc) | ((with_reducible apply wd); focus decide) | ((with_reducible apply we); focus exact rfl) | ((with_reducible apply wf); focus exact rfl) | ((first | (with_reducible apply SW_run tt_ok hG htb) | ((with_reducible apply SW_draw rfl tt_ok hG htb); (focus kernel_rfl); focus simp only [List.range, List.range.loop, List.size_toArray, List.length_cons, List.length_nil, Nat.reduceAdd])); focus ((repeat' (first | (with_reducible first | exact wg | exact wh) | ((with_reducible first | apply wi | apply wj); focus (simp (discharger := omega) only [go_sem, hlt3, hm, hc, he, hmE, simprocAttr]; with_reducible rfl)))); done)))
        exact ⟨p - (s + 1), _, by omega, Norm.headS (own := []) (keep := [3, 11, 13, 23, 24]) (by refine ⟨?_, ?_⟩; (simp (discharger := omega) only [go_sem, simprocAttr]; with_reducible rfl); refine ⟨?_, ?_, ?_, ?_⟩ <;> (simp only [go_sem, simprocAttr]; with_reducible rfl)), s + 1, _, rfl, rfl, by omega, hnew⟩
  obtain rfl : s = p := by omega
  have hlt3 : ¬ ((s : Nat) : Int) < ((s : Nat) : Int) := by omega
  have hbis : b = is := by
    rw [his]
    refine bool_iff ?_
    rw [hbI, any_iff]
    constructor
    · rintro ⟨x, _, q2, q3⟩
      exact ⟨_, (hHD x).1 q2, q3⟩
    · rintro ⟨x, q1, q2⟩
      have hxb := hDm w.length x q1
      refine ⟨x.toNat, by omega, (hHD _).2 (by rw [Int.toNat_of_nonneg hxb.1]; exact q1), by rw [Int.toNat_of_nonneg hxb.1]; exact q2⟩
  clear his
  subst hbis
  cases b with
  | true =>
    repeat' (first | (with_reducible first | apply w1 | apply w2 | apply w3 | apply w4 | apply w5 | apply w6 | apply w7 | apply w8 | apply w9 | apply wa | apply wb | apply wc) | ((with_reducible apply wd); focus decide) | ((with_reducible apply we); focus exact rfl) | ((with_reducible apply wf); focus exact rfl) | ((first | (with_reducible apply SW_run tt_ok hG htb) | ((with_reducible apply SW_draw rfl tt_ok hG htb); (focus kernel_rfl); focus simp only [List.range, List.range.loop, List.size_toArray, List.length_cons, List.length_nil, Nat.reduceAdd])); focus ((repeat' (first | (with_reducible first | exact wg | exact wh) | ((with_reducible first | apply wi | apply wj); focus (simp (discharger := omega) only [go_sem, hlt3, hm, simprocAttr]; with_reducible rfl)))); done)))
    exact (by simp (discharger := omega) only [go_sem, simprocAttr])
  | false =>
    repeat' (first | (with_reducible first | apply w1 | apply w2 | apply w3 | apply w4 | apply w5 | apply w6 | apply w7 | apply w8 | apply w9 | apply wa | apply wb | apply wc) | ((with_reducible apply wd); focus decide) | ((with_reducible apply we); focus exact rfl) | ((with_reducible apply wf); focus exact rfl) | ((first | (with_reducible apply SW_run tt_ok hG htb) | ((with_reducible apply SW_draw rfl tt_ok hG htb); (focus kernel_rfl); focus simp only [List.range, List.range.loop, List.size_toArray, List.length_cons, List.length_nil, Nat.reduceAdd])); focus ((repeat' (first | (with_reducible first | exact wg | exact wh) | ((with_reducible first | apply wi | apply wj); focus (simp (discharger := omega) only [go_sem, hlt3, hm, simprocAttr]; with_reducible rfl)))); done)))
    exact (by simp (discharger := omega) only [go_sem, simprocAttr])
end
theorem SomeTakes_walk (v : Value) (a : GAuto) (t : Int) (u : Value) (l : List Int) (w : World) (h : ReadsAuto w v a) (_ : I64 t) (h' : ReadsInts w u l) : Calls Try.prog 5 #[v, .int .i64 t, u] w (Ret (.bool true) w) :=
  walkN (SomeTakes_snd (G := fun _ => True) (fun _ _ _ _ => trivial) a t l) trivial rfl fun k y z p q => by
    match k, p, q with
    | 0, p, q => cases p; cases q; exact h.2
    | 1, p, q => cases p; cases q; exact .int _ _
    | 2, p, q => cases p; cases q; exact h'.2
end Go.Proofs.Ythcclcbliedodaa
namespace Go.Proofs.Ythcclcbliedodaa.someTakes
open Go.ChangeShapes Go.WideShapes Go.ChangeAt Go.RowKit

set_option maxRecDepth 100000 in
theorem lifted (os : Os) (started : os.Started) (H : Type) (enc : TypeId × Value → H) :
    ReturnsInHanded {} Try.checked os 5 .any (Rows.someTakesSpec.pre6 enc Try.prog Try.f5 Rows.someTakesRow.domain false) (Rows.someTakesSpec.post enc Try.prog Try.f5 false true false false) := by
  refine returnsInHanded_of_change (C := Try.checked) own started (by kernel_rfl) Try.func5
    (ChangeSpec.witness6 (enc := enc) (C := Try.checked) false ⟨#[], #[.agg #[.int .i64 0, .int .i64 0, .slice none 0 0, .slice none 0 0], .int .i64 0, .slice none 0 0], []⟩ 8 (by kernel_rfl) (by kernel_rfl) (by kernel_rfl) (by kernel_rfl)) ?_
  intro W base args ds gs before hval0 hW hcnd _
  have hval : ∀ (j : Nat) t v, Try.f5.params[j]? = some t → args[j]? = some v → Value.okWide Try.prog W .any base t v := hval0
  have hW' := hW
  obtain ⟨p, q, hA0, hV, rfl, hfz, hnd⟩ := hW
  have hA : DataW.TrodAll enc Try.prog W 0 (fun _ => true) true Try.f5.params.toList args.toList ds p := hA0
  rw [Try.params5] at hA hval
  obtain ⟨v0, vs0, d0, ds0, p0, q0, hargs, rfl, rfl, h0, r0⟩ := trodAll_cons hA
  obtain ⟨v1, vs1, d1, ds1, p1, q1, rfl, rfl, rfl, h1, r1⟩ := trodAll_cons r0
  obtain ⟨v2, vs2, d2, ds2, p2, q2, rfl, rfl, rfl, h2, r2⟩ := trodAll_cons r1
  obtain ⟨rfl, rfl, rfl⟩ := trodAll_nil r2
  obtain rfl : args = #[v0, v1, v2] := by cases args; simp_all
  obtain ⟨rfl, rfl⟩ := trodVars_none hV
  have k0 := h0
  have lt0 : ∀ x ∈ p0, x.block < W.heap.size := by obtain ⟨m, hm⟩ := k0; exact DataW.trod_lt m _ _ _ hm
  obtain ⟨a0, w0⟩ := openAutoT (hval 0 25 v0 rfl rfl) h0
  obtain ⟨a1, rfl, rfl, rfl, w1⟩ := open_int Try.underlying3 (hval 1 3 v1 rfl rfl) h1
  obtain ⟨b2, len2, cap2, rfl⟩ := okWide_slice Try.underlying26 (hval 2 26 v2 rfl rfl)
  have k2 := h2
  have lt2 : ∀ x ∈ p2, x.block < W.heap.size := by obtain ⟨m, hm⟩ := k2; exact DataW.trod_lt m _ _ _ hm
  obtain ⟨a2, w2⟩ := openIntsT rfl h2
  clear hA0 hval0
  refine (SomeTakes_walk _ a0 a1 _ a2 W w0 (i64_of_wf w1) w2).mono fun e W' ⟨he, bel⟩ => ?_
  subst he
  exact ⟨_, rfl, _, _, _, [], _, [], hW', trodAll_mk1 (shut_bool Try.underlying4 _), (trodAll_cons_mk (Below.trod laidOut (by kernel_rfl) (of_decide_eq_true (by kernel_rfl)) k0 bel lt0) (trodAll_cons_mk (shut_int Try.underlying3 w1) (trodAll_cons_mk (Below.trod laidOut (by kernel_rfl) (of_decide_eq_true (by kernel_rfl)) k2 bel lt2) trodAll_mk0))), rfl, bel.frame _, fun h => by cases h⟩

theorem over : Rows.someTakesRow.holds Try.pinned (OpenSpec.ofChange Rows.someTakesSpec) :=
  OpenClaim.holds_of_wide 5 Try.f5 rfl rfl rfl rfl rfl rfl rfl ⟨rfl, rfl, rfl, rfl, rfl⟩ rfl rfl rfl rfl rfl (by kernel_rfl) Try.func5 (by kernel_rfl)
    (of_decide_eq_true (by kernel_rfl)) (by unfold Func.isWrapper; first | (rw [if_pos (by decide +kernel)]; kernel_rfl) | (rw [if_neg (by decide +kernel)]; exact ⟨rfl, rfl⟩))
    (fun os started H enc _ => lifted os started H enc)

/-- THE STATEMENT. -/
theorem proved : Rows.SomeTakesSaid := over
#print axioms proved
end Go.Proofs.Ythcclcbliedodaa.someTakes
