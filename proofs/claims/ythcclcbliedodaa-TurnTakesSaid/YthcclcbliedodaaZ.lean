/- The law TurnTakes returns true at every input and leaves its arguments as they read. No conditions. -/
import Derived.Test.YthcclcbliedodaaM5
set_option linter.unusedSimpArgs false
set_option linter.unusedVariables false
set_option linter.unnecessarySimpa false
set_option linter.unusedSectionVars false
namespace Go.Proofs.Ythcclcbliedodaa
open Go.RowKit

section
variable {G : World → Prop} (hG : Lasting G)
include hG
set_option maxHeartbeats 16000000 in
set_option maxRecDepth 100000 in
theorem turned_snd (a : GAuto) : Snd Try.prog G 36 [tAuto a] (.tup [tIntss (turnS a), tIntss (turnR a), tErr (turnErr0 a)]) := by
  have c1 := Least_snd hG a
  refine sndH_of_body (κ := Nat × Nat) (n := 77) (tm := [(0, .t (tAuto a))]) (rs := [.tmp 2, .tmp 3, .tmp 4]) ttR_ok Try.func36 rfl rfl rfl rfl rfl ?_
  by_cases hf : autoFault a = 0
  rotate_left
  · have he : turnErr0 a = autoFault a := if_pos hf
    have hS : turnS a = [] := if_pos hf
    have hR : turnR a = [] := if_pos hf
    have hl0 : leastOf a = GAuto.zero := if_neg hf
    rw [he, hS, hR]
    rw [hl0] at c1
    generalize autoFault a = e at *
    have htb := Tab.cons c1 Tab.nil
    repeat' (first | (with_reducible first | apply v1 | apply v2 | apply v3 | apply v4 | apply v5 | apply v6 | apply v7 | apply v8 | apply v9 | apply va | apply vb | apply vc) | ((with_reducible apply vd); focus decide) | ((with_reducible apply ve); focus exact rfl) | ((with_reducible apply vf); focus exact rfl) | ((first | (with_reducible apply HW_run ttR_ok hG htb) | ((with_reducible apply HW_draw rfl ttR_ok hG htb); (focus kernel_rfl); focus simp only [List.range, List.range.loop, List.size_toArray, List.length_cons, List.length_nil, Nat.reduceAdd])); focus ((repeat' (first | (with_reducible first | exact wg | exact wh) | ((with_reducible first | apply wi | apply wj); focus (simp (discharger := omega) only [go_sem, tAuto, tErr, hf, simprocAttr]; with_reducible rfl)))); done)))
    exact (by simp (discharger := omega) only [go_sem, tAuto, tErr, hf, simprocAttr])
  have hlA : leastOf a = leastA a := if_pos hf
  have g0 := good_of hf
  obtain ⟨n, hn⟩ : ∃ n, (manyOf a.base a.tracks).toNat = n := ⟨_, rfl⟩
  rw [hn] at g0
  obtain ⟨_, _, gM⟩ := least_again g0
  have hSe : turnS a = growSets (stepT (leastA a).next (leastA a).next.length) n (endsF (leastA a).ends (leastA a).next.length) := by
    have : turnS a = growSets (turnD a) (turnN a) (turnF a) := if_neg fun q => q hf
    rw [this, show turnN a = n from hn]; rfl
  have hRe : turnR a = growRows (stepT (leastA a).next (leastA a).next.length) n (endsF (leastA a).ends (leastA a).next.length) := by
    have : turnR a = growRows (turnD a) (turnN a) (turnF a) := if_neg fun q => q hf
    rw [this, show turnN a = n from hn]; rfl
  have hoke : turnOk a = growOk (stepT (leastA a).next (leastA a).next.length) n (endsF (leastA a).ends (leastA a).next.length) := by
    unfold turnOk; rw [show turnN a = n from hn]; rfl
  have hErr : turnErr0 a = if turnOk a = false then 3 else 0 := by unfold turnErr0; rw [if_neg (fun q => q hf)]
  rw [hoke] at hErr
  rw [hErr, hSe, hRe]
  clear hErr hSe hRe hoke
  obtain ⟨M, hM⟩ : ∃ M, leastA a = M := ⟨_, rfl⟩
  rw [hlA, hf, hM] at c1
  rw [hM] at gM ⊢
  obtain ⟨m, hm⟩ : ∃ m, M.next.length = m := ⟨_, rfl⟩
  rw [hm] at gM ⊢
  have hm80 := gM.m80
  have hn36 := gM.n36
  have hn0 := gM.n0
  have hm0 := gM.m0
  have hmE := gM.ends
  have gMr := gM.rows
  have htb := Tab.cons c1 Tab.nil
  repeat' (first | (with_reducible first | apply v1 | apply v2 | apply v3 | apply v4 | apply v5 | apply v6 | apply v7 | apply v8 | apply v9 | apply va | apply vb | apply vc) | ((with_reducible apply vd); focus decide) | ((with_reducible apply ve); focus exact rfl) | ((with_reducible apply vf); focus exact rfl) | ((first | (with_reducible apply HW_run ttR_ok hG htb) | ((with_reducible apply HW_draw rfl ttR_ok hG htb); (focus kernel_rfl); focus simp only [List.range, List.range.loop, List.size_toArray, List.length_cons, List.length_nil, Nat.reduceAdd])); focus ((repeat' (first | (with_reducible first | exact wg | exact wh) | ((with_reducible first | apply wi | apply wj); focus (simp (discharger := omega) only [go_sem, tErr0, tAuto, simprocAttr]; with_reducible rfl)))); done)))
  clear htb
  have htb : Tab.ok Try.prog G [] := Tab.nil
  refine HW_loop (fun mm st g => ∃ (s : Nat) (fs : List T) (es : List (T × T)), mm = m - s ∧ st = ⟨77, [(5, .bptr 0 0), (6, .bptr 1 0), (7, .sref 2), (23, .t (tIntss M.next)), (24, .t (tNat m)), (25, .t (tNat s))], [.box [.t (tInt M.base), .t (tInt M.tracks), .t (tIntss M.next), .t (tBools M.ends)], .box [.map 3], .row 3 1 true fs, .map (.ints 2) es]⟩ ∧ s ≤ m ∧ fs = iL (endsF M.ends s) ∧ MapInv g es m n (fun t l => fromL M.next s ((t : Nat) : Int) l)) m
    ⟨_, Norm.headS (own := [(7, 3, 1, true)]) (keep := [5, 6, 7, 23, 24, 25]) (by refine ⟨?_, ?_⟩; (simp (discharger := omega) only [go_sem, simprocAttr]; with_reducible rfl); refine ⟨?_, ?_, ?_, ?_⟩ <;> (simp only [go_sem, simprocAttr]; with_reducible rfl)), 0, _, _, rfl, by rw [hm]; rfl, Nat.zero_le _, rfl, (MapInv.init m n).congr fun t l _ _ => rfl⟩ ?_
  rintro mm st g ⟨s, fs, es, rfl, rfl, hs, hfs, hinv⟩
  have hfsl : fs.length ≤ 80 := by rw [hfs, iL_length]; exact Nat.le_trans (endsF_len _ _) (by omega)
  by_cases hlt : s < m
  · obtain ⟨b, hb⟩ : ∃ b, M.ends[s]! = b := ⟨_, rfl⟩
    have heb : endOf M.ends ((s : Nat) : Int) = b := by unfold endOf; exact bang_D hb (by rw [hmE]; simpa using hlt)
    obtain ⟨row, hrow⟩ : ∃ row, M.next[s]! = row := ⟨_, rfl⟩
    have hrl := gMr.row row (bang_mem hrow (by omega))
    have hro : rowOf M.next ((s : Nat) : Int) = row := by unfold rowOf; exact bang_D hrow (by simpa [hm] using hlt)
    have hend : endsF M.ends (s + 1) = endsF M.ends s ++ if b = true then [((s : Nat) : Int)] else [] := by
      unfold endsF
      rw [List.range_succ, List.filter_append, List.map_append]
      congr 1
      cases b with
      | false => rw [List.filter_cons_of_neg (by rw [heb]; decide)]; rfl
      | true => rw [List.filter_cons_of_pos (by rw [heb])]; rfl
    obtain ⟨fs2, hfs2⟩ : ∃ fs2, iL (endsF M.ends (s + 1)) = fs2 := ⟨_, rfl⟩
    have hcase : (b = false ∧ fs2 = fs) ∨ (b = true ∧ fs2 = fs ++ [.int .i64 ((s : Nat) : Int)]) := by
      rw [hend] at hfs2
      cases b with
      | false => exact .inl ⟨rfl, by rw [← hfs2, hfs]; simp⟩
      | true => exact .inr ⟨rfl, by rw [← hfs2, hfs]; simp [iL]⟩
    rcases hcase with ⟨hbb, hfe⟩ | ⟨hbb, hfe⟩
    · rw [hbb] at hb
      repeat' (first | (with_reducible first | apply v1 | apply v2 | apply v3 | apply v4 | apply v5 | apply v6 | apply v7 | apply v8 | apply v9 | apply va | apply vb | apply vc) | ((with_reducible apply vd); focus decide) | ((with_reducible apply ve); focus exact rfl) | ((with_reducible apply vf); focus exact rfl) | ((first | (with_reducible apply HW_run ttR_ok hG htb) | ((with_reducible apply HW_draw rfl ttR_ok hG htb); (focus kernel_rfl); focus simp only [List.range, List.range.loop, List.size_toArray, List.length_cons, List.length_nil, Nat.reduceAdd])); focus ((repeat' (first | (with_reducible first | exact wg | exact wh) | ((with_reducible first | apply wi | apply wj); focus (simp (discharger := omega) only [go_sem, hb, hmE, hrow, hrl, simprocAttr]; with_reducible rfl)))); done)))
      refine HW_loop (fun mm st g => ∃ (l : Nat) (es : List (T × T)), mm = n - l ∧ st = ⟨77, [(5, .bptr 0 0), (6, .bptr 1 0), (7, .sref 2), (8, .t (tNat s)), (23, .t (tIntss M.next)), (24, .t (tNat m)), (25, .t (tNat s)), (39, .t (tInts row)), (40, .t (tNat n)), (41, .t (tNat l))], [.box [.t (tInt M.base), .t (tInt M.tracks), .t (tIntss M.next), .t (tBools M.ends)], .box [.map 3], .row 3 1 true fs2, .map (.ints 2) es]⟩ ∧ l ≤ n ∧ MapInv g es m n (contS M.next s l)) n
        ⟨_, Norm.headS (own := []) (keep := [5, 6, 7, 8, 23, 24, 25, 39, 40, 41]) (by refine ⟨?_, ?_⟩; (simp (discharger := omega) only [go_sem, simprocAttr]; with_reducible rfl); refine ⟨?_, ?_, ?_, ?_⟩ <;> (simp only [go_sem, simprocAttr]; with_reducible rfl)), 0, _, rfl, by rw [hfe]; rfl, Nat.zero_le _, hinv.congr fun t l _ _ => contS_zero _ _ _ _⟩ ?_
      clear hinv
      rintro mm st g ⟨l, es, rfl, rfl, hl, hinv⟩
      by_cases hll : l < n
      · obtain ⟨t, ht⟩ : ∃ t, row[l]! = t := ⟨_, rfl⟩
        have htb2 := gMr.ok row (bang_mem hrow (by omega)) t (bang_mem ht (by omega))
        have hnx : nx M.next ((s : Nat) : Int) l = t := by unfold nx; rw [hro]; exact bang_D ht (by omega)
        obtain ⟨t, rfl⟩ := Int.eq_ofNat_of_zero_le htb2.1
        have hcl := contS_len M.next s l t l
        repeat' (first | (with_reducible first | apply v1 | apply v2 | apply v3 | apply v4 | apply v5 | apply v6 | apply v7 | apply v8 | apply v9 | apply va | apply vb | apply vc) | ((with_reducible apply vd); focus decide) | ((with_reducible apply ve); focus exact rfl) | ((with_reducible apply vf); focus exact rfl) | ((first | (with_reducible apply HW_run ttR_ok hG htb) | ((with_reducible apply HW_draw rfl ttR_ok hG htb); (focus kernel_rfl); focus simp only [List.range, List.range.loop, List.size_toArray, List.length_cons, List.length_nil, Nat.reduceAdd])); focus ((repeat' (first | (with_reducible first | exact wg | exact wh) | ((with_reducible first | apply wi | apply wj); focus (simp (discharger := omega) only [go_sem, ht, simprocAttr]; with_reducible rfl)))); done)))
        refine HW_norm (Norm.headS (own := []) (keep := [5, 6, 7, 8, 10, 11, 23, 24, 25, 39, 40, 41]) (by refine ⟨?_, ?_⟩; (simp (discharger := omega) only [go_sem, simprocAttr]; with_reducible rfl); refine ⟨?_, ?_, ?_, ?_⟩ <;> (simp only [go_sem, simprocAttr]; with_reducible rfl))) ?_
        rcases hinv.hdr (t := t) (l := l) (by omega) hll with ⟨hhd, hget⟩ | ⟨ra, rn, rc, hhd, hget⟩
        · unfold keyT at hget
          refine HW_drawH (A := ⟨11, .tmp 54, .tmp 56, .raw none 0 0, [tNat s], (t, l), 3, 1, iL (contS M.next s l t l), g⟩) 12 rfl ttR_ok hG htb ?topon0 (t := 26) (i := ⟨.slice 3, 1, 24, [.t (.raw none 0 0)], false⟩) (ie := ⟨.int .i64, 1, 8, [.t (.int .i64 0)], false⟩) ⟨_, rfl, rfl, rfl⟩ rfl rfl (by show ttR 3 = _; rfl) rfl hhd rfl rfl ?hbn0 ?hmn0 rfl ?runn0
          case topon0 => kernel_rfl
          case hbn0 =>
            simp only [iL_length, List.length_cons, List.length_nil]
            show _ * 8 ≤ _
            omega
          case hmn0 =>
            simp only [iL_length, List.length_cons, List.length_nil]
            unfold maxLen
            omega
          case runn0 =>
            intro c
            have hst := hinv.step (by omega) hll ((s : Nat) : Int) c (cont' := contS M.next s (l + 1)) (contS_at hnx) (fun t' l' hne => contS_other hnx hne)
            refine ⟨?tn0, ?r1n0, ?r2n0⟩
            case r1n0 =>
              (simp only [List.range, List.range.loop, List.size_toArray, List.length_cons, List.length_nil, Nat.reduceAdd]; repeat' (first | (with_reducible exact runA_nil) | ((with_reducible apply runA_cons); focus (first | (apply stepH_q rfl (by simp) (by simp) rfl rfl; (focus (simp (discharger := omega) only [go_sem, hget, simprocAttr]; with_reducible rfl)); (focus (simp only [go_sem, simprocAttr]; with_reducible rfl))) | (apply stepH_a rfl rfl rfl rfl rfl rfl rfl; (focus (simp only [go_sem, simprocAttr]; with_reducible rfl))) | (apply stepH_l rfl (by simp) rfl; (focus (simp (discharger := omega) only [go_sem, hget, simprocAttr]; with_reducible rfl)))))))
            case r2n0 =>
              dsimp only
              repeat' (first | (with_reducible first | apply v1 | apply v2 | apply v3 | apply v4 | apply v5 | apply v6 | apply v7 | apply v8 | apply v9 | apply va | apply vb | apply vc) | ((with_reducible apply vd); focus decide) | ((with_reducible apply ve); focus exact rfl) | ((with_reducible apply vf); focus exact rfl) | ((first | (with_reducible apply HW_run ttR_ok hG htb) | ((with_reducible apply HW_draw rfl ttR_ok hG htb); (focus kernel_rfl); focus simp only [List.range, List.range.loop, List.size_toArray, List.length_cons, List.length_nil, Nat.reduceAdd])); focus ((repeat' (first | (with_reducible first | exact wg | exact wh) | ((with_reducible first | apply wi | apply wj); focus (simp (discharger := omega) only [go_sem, simprocAttr]; with_reducible rfl)))); done)))
              exact ⟨n - (l + 1), _, by omega, Norm.headS (own := []) (keep := [5, 6, 7, 8, 23, 24, 25, 39, 40, 41]) (by refine ⟨?_, ?_⟩; (simp (discharger := omega) only [go_sem, simprocAttr]; with_reducible rfl); refine ⟨?_, ?_, ?_, ?_⟩ <;> (simp only [go_sem, simprocAttr]; with_reducible rfl)), l + 1, _, rfl, rfl, by omega, hst⟩
        · unfold keyT at hget
          refine HW_drawH (A := ⟨11, .tmp 54, .tmp 56, .raw ra rn rc, [tNat s], (t, l), 3, 1, iL (contS M.next s l t l), g⟩) 12 rfl ttR_ok hG htb ?topos0 (t := 26) (i := ⟨.slice 3, 1, 24, [.t (.raw none 0 0)], false⟩) (ie := ⟨.int .i64, 1, 8, [.t (.int .i64 0)], false⟩) ⟨_, rfl, rfl, rfl⟩ rfl rfl (by show ttR 3 = _; rfl) rfl hhd rfl rfl ?hbs0 ?hms0 rfl ?runs0
          case topos0 => kernel_rfl
          case hbs0 =>
            simp only [iL_length, List.length_cons, List.length_nil]
            show _ * 8 ≤ _
            omega
          case hms0 =>
            simp only [iL_length, List.length_cons, List.length_nil]
            unfold maxLen
            omega
          case runs0 =>
            intro c
            have hst := hinv.step (by omega) hll ((s : Nat) : Int) c (cont' := contS M.next s (l + 1)) (contS_at hnx) (fun t' l' hne => contS_other hnx hne)
            refine ⟨?ts0, ?r1s0, ?r2s0⟩
            case r1s0 =>
              (simp only [List.range, List.range.loop, List.size_toArray, List.length_cons, List.length_nil, Nat.reduceAdd]; repeat' (first | (with_reducible exact runA_nil) | ((with_reducible apply runA_cons); focus (first | (apply stepH_q rfl (by simp) (by simp) rfl rfl; (focus (simp (discharger := omega) only [go_sem, hget, simprocAttr]; with_reducible rfl)); (focus (simp only [go_sem, simprocAttr]; with_reducible rfl))) | (apply stepH_a rfl rfl rfl rfl rfl rfl rfl; (focus (simp only [go_sem, simprocAttr]; with_reducible rfl))) | (apply stepH_l rfl (by simp) rfl; (focus (simp (discharger := omega) only [go_sem, hget, simprocAttr]; with_reducible rfl)))))))
            case r2s0 =>
              dsimp only
              repeat' (first | (with_reducible first | apply v1 | apply v2 | apply v3 | apply v4 | apply v5 | apply v6 | apply v7 | apply v8 | apply v9 | apply va | apply vb | apply vc) | ((with_reducible apply vd); focus decide) | ((with_reducible apply ve); focus exact rfl) | ((with_reducible apply vf); focus exact rfl) | ((first | (with_reducible apply HW_run ttR_ok hG htb) | ((with_reducible apply HW_draw rfl ttR_ok hG htb); (focus kernel_rfl); focus simp only [List.range, List.range.loop, List.size_toArray, List.length_cons, List.length_nil, Nat.reduceAdd])); focus ((repeat' (first | (with_reducible first | exact wg | exact wh) | ((with_reducible first | apply wi | apply wj); focus (simp (discharger := omega) only [go_sem, simprocAttr]; with_reducible rfl)))); done)))
              exact ⟨n - (l + 1), _, by omega, Norm.headS (own := []) (keep := [5, 6, 7, 8, 23, 24, 25, 39, 40, 41]) (by refine ⟨?_, ?_⟩; (simp (discharger := omega) only [go_sem, simprocAttr]; with_reducible rfl); refine ⟨?_, ?_, ?_, ?_⟩ <;> (simp only [go_sem, simprocAttr]; with_reducible rfl)), l + 1, _, rfl, rfl, by omega, hst⟩
      · obtain rfl : l = n := by omega
        repeat' (first | (with_reducible first | apply v1 | apply v2 | apply v3 | apply v4 | apply v5 | apply v6 | apply v7 | apply v8 | apply v9 | apply va | apply vb | apply vc) | ((with_reducible apply vd); focus decide) | ((with_reducible apply ve); focus exact rfl) | ((with_reducible apply vf); focus exact rfl) | ((first | (with_reducible apply HW_run ttR_ok hG htb) | ((with_reducible apply HW_draw rfl ttR_ok hG htb); (focus kernel_rfl); focus simp only [List.range, List.range.loop, List.size_toArray, List.length_cons, List.length_nil, Nat.reduceAdd])); focus ((repeat' (first | (with_reducible first | exact wg | exact wh) | ((with_reducible first | apply wi | apply wj); focus (simp (discharger := omega) only [go_sem, simprocAttr]; with_reducible rfl)))); done)))
        exact ⟨m - (s + 1), _, by omega, Norm.headS (own := []) (keep := [5, 6, 7, 23, 24, 25]) (by refine ⟨?_, ?_⟩; (simp (discharger := omega) only [go_sem, simprocAttr]; with_reducible rfl); refine ⟨?_, ?_, ?_, ?_⟩ <;> (simp only [go_sem, simprocAttr]; with_reducible rfl)), s + 1, _, _, rfl, rfl, by omega, hfs2.symm, hinv.congr fun t q _ hq => contS_end M.next s t hq⟩
    · rw [hbb] at hb
      repeat' (first | (with_reducible first | apply v1 | apply v2 | apply v3 | apply v4 | apply v5 | apply v6 | apply v7 | apply v8 | apply v9 | apply va | apply vb | apply vc) | ((with_reducible apply vd); focus decide) | ((with_reducible apply ve); focus exact rfl) | ((with_reducible apply vf); focus exact rfl) | ((first | (with_reducible apply HW_run ttR_ok hG htb) | ((with_reducible apply HW_draw rfl ttR_ok hG htb); (focus kernel_rfl); focus simp only [List.range, List.range.loop, List.size_toArray, List.length_cons, List.length_nil, Nat.reduceAdd])); focus ((repeat' (first | (with_reducible first | exact wg | exact wh) | ((with_reducible first | apply wi | apply wj); focus (simp (discharger := omega) only [go_sem, hb, hmE, hrow, hrl, simprocAttr]; with_reducible rfl)))); done)))
      refine HW_loop (fun mm st g => ∃ (l : Nat) (es : List (T × T)), mm = n - l ∧ st = ⟨77, [(5, .bptr 0 0), (6, .bptr 1 0), (7, .sref 2), (8, .t (tNat s)), (23, .t (tIntss M.next)), (24, .t (tNat m)), (25, .t (tNat s)), (39, .t (tInts row)), (40, .t (tNat n)), (41, .t (tNat l))], [.box [.t (tInt M.base), .t (tInt M.tracks), .t (tIntss M.next), .t (tBools M.ends)], .box [.map 3], .row 3 1 true fs2, .map (.ints 2) es]⟩ ∧ l ≤ n ∧ MapInv g es m n (contS M.next s l)) n
        ⟨_, Norm.headS (own := []) (keep := [5, 6, 7, 8, 23, 24, 25, 39, 40, 41]) (by refine ⟨?_, ?_⟩; (simp (discharger := omega) only [go_sem, simprocAttr]; with_reducible rfl); refine ⟨?_, ?_, ?_, ?_⟩ <;> (simp only [go_sem, simprocAttr]; with_reducible rfl)), 0, _, rfl, by rw [hfe]; rfl, Nat.zero_le _, hinv.congr fun t l _ _ => contS_zero _ _ _ _⟩ ?_
      clear hinv
      rintro mm st g ⟨l, es, rfl, rfl, hl, hinv⟩
      by_cases hll : l < n
      · obtain ⟨t, ht⟩ : ∃ t, row[l]! = t := ⟨_, rfl⟩
        have htb2 := gMr.ok row (bang_mem hrow (by omega)) t (bang_mem ht (by omega))
        have hnx : nx M.next ((s : Nat) : Int) l = t := by unfold nx; rw [hro]; exact bang_D ht (by omega)
        obtain ⟨t, rfl⟩ := Int.eq_ofNat_of_zero_le htb2.1
        have hcl := contS_len M.next s l t l
        repeat' (first | (with_reducible first | apply v1 | apply v2 | apply v3 | apply v4 | apply v5 | apply v6 | apply v7 | apply v8 | apply v9 | apply va | apply vb | apply vc) | ((with_reducible apply vd); focus decide) | ((with_reducible apply ve); focus exact rfl) | ((with_reducible apply vf); focus exact rfl) | ((first | (with_reducible apply HW_run ttR_ok hG htb) | ((with_reducible apply HW_draw rfl ttR_ok hG htb); (focus kernel_rfl); focus simp only [List.range, List.range.loop, List.size_toArray, List.length_cons, List.length_nil, Nat.reduceAdd])); focus ((repeat' (first | (with_reducible first | exact wg | exact wh) | ((with_reducible first | apply wi | apply wj); focus (simp (discharger := omega) only [go_sem, ht, simprocAttr]; with_reducible rfl)))); done)))
        refine HW_norm (Norm.headS (own := []) (keep := [5, 6, 7, 8, 10, 11, 23, 24, 25, 39, 40, 41]) (by refine ⟨?_, ?_⟩; (simp (discharger := omega) only [go_sem, simprocAttr]; with_reducible rfl); refine ⟨?_, ?_, ?_, ?_⟩ <;> (simp only [go_sem, simprocAttr]; with_reducible rfl))) ?_
        rcases hinv.hdr (t := t) (l := l) (by omega) hll with ⟨hhd, hget⟩ | ⟨ra, rn, rc, hhd, hget⟩
        · unfold keyT at hget
          refine HW_drawH (A := ⟨11, .tmp 54, .tmp 56, .raw none 0 0, [tNat s], (t, l), 3, 1, iL (contS M.next s l t l), g⟩) 12 rfl ttR_ok hG htb ?topon1 (t := 26) (i := ⟨.slice 3, 1, 24, [.t (.raw none 0 0)], false⟩) (ie := ⟨.int .i64, 1, 8, [.t (.int .i64 0)], false⟩) ⟨_, rfl, rfl, rfl⟩ rfl rfl (by show ttR 3 = _; rfl) rfl hhd rfl rfl ?hbn1 ?hmn1 rfl ?runn1
          case topon1 => kernel_rfl
          case hbn1 =>
            simp only [iL_length, List.length_cons, List.length_nil]
            show _ * 8 ≤ _
            omega
          case hmn1 =>
            simp only [iL_length, List.length_cons, List.length_nil]
            unfold maxLen
            omega
          case runn1 =>
            intro c
            have hst := hinv.step (by omega) hll ((s : Nat) : Int) c (cont' := contS M.next s (l + 1)) (contS_at hnx) (fun t' l' hne => contS_other hnx hne)
            refine ⟨?tn1, ?r1n1, ?r2n1⟩
            case r1n1 =>
              (simp only [List.range, List.range.loop, List.size_toArray, List.length_cons, List.length_nil, Nat.reduceAdd]; repeat' (first | (with_reducible exact runA_nil) | ((with_reducible apply runA_cons); focus (first | (apply stepH_q rfl (by simp) (by simp) rfl rfl; (focus (simp (discharger := omega) only [go_sem, hget, simprocAttr]; with_reducible rfl)); (focus (simp only [go_sem, simprocAttr]; with_reducible rfl))) | (apply stepH_a rfl rfl rfl rfl rfl rfl rfl; (focus (simp only [go_sem, simprocAttr]; with_reducible rfl))) | (apply stepH_l rfl (by simp) rfl; (focus (simp (discharger := omega) only [go_sem, hget, simprocAttr]; with_reducible rfl)))))))
            case r2n1 =>
              dsimp only
              repeat' (first | (with_reducible first | apply v1 | apply v2 | apply v3 | apply v4 | apply v5 | apply v6 | apply v7 | apply v8 | apply v9 | apply va | apply vb | apply vc) | ((with_reducible apply vd); focus decide) | ((with_reducible apply ve); focus exact rfl) | ((with_reducible apply vf); focus exact rfl) | ((first | (with_reducible apply HW_run ttR_ok hG htb) | ((with_reducible apply HW_draw rfl ttR_ok hG htb); (focus kernel_rfl); focus simp only [List.range, List.range.loop, List.size_toArray, List.length_cons, List.length_nil, Nat.reduceAdd])); focus ((repeat' (first | (with_reducible first | exact wg | exact wh) | ((with_reducible first | apply wi | apply wj); focus (simp (discharger := omega) only [go_sem, simprocAttr]; with_reducible rfl)))); done)))
              exact ⟨n - (l + 1), _, by omega, Norm.headS (own := []) (keep := [5, 6, 7, 8, 23, 24, 25, 39, 40, 41]) (by refine ⟨?_, ?_⟩; (simp (discharger := omega) only [go_sem, simprocAttr]; with_reducible rfl); refine ⟨?_, ?_, ?_, ?_⟩ <;> (simp only [go_sem, simprocAttr]; with_reducible rfl)), l + 1, _, rfl, rfl, by omega, hst⟩
        · unfold keyT at hget
          refine HW_drawH (A := ⟨11, .tmp 54, .tmp 56, .raw ra rn rc, [tNat s], (t, l), 3, 1, iL (contS M.next s l t l), g⟩) 12 rfl ttR_ok hG htb ?topos1 (t := 26) (i := ⟨.slice 3, 1, 24, [.t (.raw none 0 0)], false⟩) (ie := ⟨.int .i64, 1, 8, [.t (.int .i64 0)], false⟩) ⟨_, rfl, rfl, rfl⟩ rfl rfl (by show ttR 3 = _; rfl) rfl hhd rfl rfl ?hbs1 ?hms1 rfl ?runs1
          case topos1 => kernel_rfl
          case hbs1 =>
            simp only [iL_length, List.length_cons, List.length_nil]
            show _ * 8 ≤ _
            omega
          case hms1 =>
            simp only [iL_length, List.length_cons, List.length_nil]
            unfold maxLen
            omega
          case runs1 =>
            intro c
            have hst := hinv.step (by omega) hll ((s : Nat) : Int) c (cont' := contS M.next s (l + 1)) (contS_at hnx) (fun t' l' hne => contS_other hnx hne)
            refine ⟨?ts1, ?r1s1, ?r2s1⟩
            case r1s1 =>
              (simp only [List.range, List.range.loop, List.size_toArray, List.length_cons, List.length_nil, Nat.reduceAdd]; repeat' (first | (with_reducible exact runA_nil) | ((with_reducible apply runA_cons); focus (first | (apply stepH_q rfl (by simp) (by simp) rfl rfl; (focus (simp (discharger := omega) only [go_sem, hget, simprocAttr]; with_reducible rfl)); (focus (simp only [go_sem, simprocAttr]; with_reducible rfl))) | (apply stepH_a rfl rfl rfl rfl rfl rfl rfl; (focus (simp only [go_sem, simprocAttr]; with_reducible rfl))) | (apply stepH_l rfl (by simp) rfl; (focus (simp (discharger := omega) only [go_sem, hget, simprocAttr]; with_reducible rfl)))))))
            case r2s1 =>
              dsimp only
              repeat' (first | (with_reducible first | apply v1 | apply v2 | apply v3 | apply v4 | apply v5 | apply v6 | apply v7 | apply v8 | apply v9 | apply va | apply vb | apply vc) | ((with_reducible apply vd); focus decide) | ((with_reducible apply ve); focus exact rfl) | ((with_reducible apply vf); focus exact rfl) | ((first | (with_reducible apply HW_run ttR_ok hG htb) | ((with_reducible apply HW_draw rfl ttR_ok hG htb); (focus kernel_rfl); focus simp only [List.range, List.range.loop, List.size_toArray, List.length_cons, List.length_nil, Nat.reduceAdd])); focus ((repeat' (first | (with_reducible first | exact wg | exact wh) | ((with_reducible first | apply wi | apply wj); focus (simp (discharger := omega) only [go_sem, simprocAttr]; with_reducible rfl)))); done)))
              exact ⟨n - (l + 1), _, by omega, Norm.headS (own := []) (keep := [5, 6, 7, 8, 23, 24, 25, 39, 40, 41]) (by refine ⟨?_, ?_⟩; (simp (discharger := omega) only [go_sem, simprocAttr]; with_reducible rfl); refine ⟨?_, ?_, ?_, ?_⟩ <;> (simp only [go_sem, simprocAttr]; with_reducible rfl)), l + 1, _, rfl, rfl, by omega, hst⟩
      · obtain rfl : l = n := by omega
        repeat' (first | (with_reducible first | apply v1 | apply v2 | apply v3 | apply v4 | apply v5 | apply v6 | apply v7 | apply v8 | apply v9 | apply va | apply vb | apply vc) | ((with_reducible apply vd); focus decide) | ((with_reducible apply ve); focus exact rfl) | ((with_reducible apply vf); focus exact rfl) | ((first | (with_reducible apply HW_run ttR_ok hG htb) | ((with_reducible apply HW_draw rfl ttR_ok hG htb); (focus kernel_rfl); focus simp only [List.range, List.range.loop, List.size_toArray, List.length_cons, List.length_nil, Nat.reduceAdd])); focus ((repeat' (first | (with_reducible first | exact wg | exact wh) | ((with_reducible first | apply wi | apply wj); focus (simp (discharger := omega) only [go_sem, simprocAttr]; with_reducible rfl)))); done)))
        exact ⟨m - (s + 1), _, by omega, Norm.headS (own := []) (keep := [5, 6, 7, 23, 24, 25]) (by refine ⟨?_, ?_⟩; (simp (discharger := omega) only [go_sem, simprocAttr]; with_reducible rfl); refine ⟨?_, ?_, ?_, ?_⟩ <;> (simp only [go_sem, simprocAttr]; with_reducible rfl)), s + 1, _, _, rfl, rfl, by omega, hfs2.symm, hinv.congr fun t q _ hq => contS_end M.next s t hq⟩
  · obtain rfl : s = m := by omega
    obtain ⟨o1, o2⟩ := hinv.opens
    have hsays := hinv.says
    obtain ⟨mes, hmes⟩ : ∃ mes, openM (fun t l => fromL M.next s ((t : Nat) : Int) l) es = mes := ⟨_, rfl⟩
    rw [hmes] at o1 o2 hsays
    refine HW_seq ?_
    repeat' (first | (with_reducible first | apply v2 | apply v3 | apply v4 | apply v5 | apply v6 | apply v7 | apply v8 | apply v9 | apply va | apply vb | apply vc) | ((with_reducible apply vd); focus decide) | ((with_reducible apply ve); focus exact rfl) | ((with_reducible apply vf); focus exact rfl) | ((first | (with_reducible apply HW_run ttR_ok hG htb) | ((with_reducible apply HW_draw rfl ttR_ok hG htb); (focus kernel_rfl); focus simp only [List.range, List.range.loop, List.size_toArray, List.length_cons, List.length_nil, Nat.reduceAdd])); focus ((repeat' (first | (with_reducible first | exact wg | exact wh) | ((with_reducible first | apply wi | apply wj); focus (simp (discharger := omega) only [go_sem, simprocAttr]; with_reducible rfl)))); done)))
    refine HW_seq ?_
    repeat' (first | (with_reducible first | apply v2 | apply v3 | apply v4 | apply v5 | apply v6 | apply v7 | apply v8 | apply v9 | apply va | apply vb | apply vc) | ((with_reducible apply vd); focus decide) | ((with_reducible apply ve); focus exact rfl) | ((with_reducible apply vf); focus exact rfl) | ((first | (with_reducible apply HW_run ttR_ok hG htb) | ((with_reducible apply HW_draw rfl ttR_ok hG htb); (focus kernel_rfl); focus simp only [List.range, List.range.loop, List.size_toArray, List.length_cons, List.length_nil, Nat.reduceAdd])); focus ((repeat' (first | (with_reducible first | exact wg | exact wh) | ((with_reducible first | apply wi | apply wj); focus (simp (discharger := omega) only [go_sem, simprocAttr]; with_reducible rfl)))); done)))
    refine HW_norm (Norm.headS (own := []) (keep := [5, 6, 7]) (by refine ⟨?_, ?_⟩; (simp (discharger := omega) only [go_sem, simprocAttr]; with_reducible rfl); refine ⟨?_, ?_, ?_, ?_⟩ <;> (simp only [go_sem, simprocAttr]; with_reducible rfl))) ?_
    refine HW_open (κ' := Nat) (by exact GS_openMap (st := ⟨77, [(5, .bptr 0 0), (6, .bptr 1 0), (7, .sref 2)], [.box [.t (tInt M.base), .t (tInt M.tracks), .t (tIntss M.next), .t (tBools M.ends)], .box [.map 3], .row 3 1 true fs, .map (.ints 2) es]⟩) (j := 3) mes rfl o1 o2) ?_
    clear o1 o2 hinv hmes
    obtain ⟨r0, hr0⟩ : ∃ r0, M.next[0]! = r0 := ⟨_, rfl⟩
    have hrl := gMr.row r0 (bang_mem hr0 (by omega))
    have hIm : Inm s (endsF M.ends s) := fun x hx => (endsF_mem.1 hx).1
    have hFl := endsF_len M.ends s
    have c9 := GrowM_snd hG hm80 (endsF M.ends s) n 53 mes (stepT M.next s) hIm (by omega) hn36 (fun q l _ _ => stepT_in) (fun q l hq ha _ => by
      have := inm_len hq ha
      have h2 := stepT_len M.next s q l
      have h3 : q.length * s ≤ 80 * 80 := Nat.mul_le_mul (by omega) (by omega)
      omega) (fun q l hq ha hl => TurnStep_snd hG hm80 hn36 hsays q hq (by have := inm_len hq ha; omega) l hl)
    rw [← hfs] at c9
    obtain ⟨S, hS⟩ : ∃ S, growSets (stepT M.next s) n (endsF M.ends s) = S := ⟨_, rfl⟩
    obtain ⟨D, hD⟩ : ∃ D, growRows (stepT M.next s) n (endsF M.ends s) = D := ⟨_, rfl⟩
    obtain ⟨gk, hgk⟩ : ∃ gk, growOk (stepT M.next s) n (endsF M.ends s) = gk := ⟨_, rfl⟩
    rw [hS, hD, hgk] at c9
    rw [hS, hD, hgk]
    show SW _ _ _ _ ⟨77, [(5, .bptr 0 0), (6, .bptr 1 0), (7, .sref 2)], [.box [.t (tInt M.base), .t (tInt M.tracks), .t (tIntss M.next), .t (tBools M.ends)], .box [.map 3], .row 3 1 true fs, .map (.ints 2) mes]⟩
    refine SW_seq ?_
    refine SW_region ?_
    refine SL_k ttR_ok hG htb 7 (by simp only [List.take_succ_cons, List.take_zero]; rfl) (by simp only [List.drop_succ_cons, List.drop_zero, Nat.reduceAdd]; rfl) (by (repeat' (first | (with_reducible exact runX_nil) | ((with_reducible apply runX_cons); focus (simp (discharger := omega) only [go_sem, hr0, hrl, hm, simprocAttr]; with_reducible rfl))))) ?_
    refine SL_norm (Norm.headP [2, 1, 3] rfl (own := []) (keep := [5, 61, 66, 67]) (by refine ⟨?_, ?_⟩; (simp (discharger := omega) only [go_sem, simprocAttr]; with_reducible rfl); refine ⟨?_, ?_, ?_, ?_⟩ <;> (simp only [go_sem, simprocAttr]; with_reducible rfl))) ?_
    refine SL_callH (g := 45) (cap := []) (obs := [.row 3 1 true fs, .box [.map 2], .map (.ints 2) mes]) (ks := []) (obs' := [.hole, .box [.map 2], .map (.ints 2) mes, .box [.t (tIntss S)]]) (rst := ?zrb) (r := .t (.tup [tIntss S, tIntss D, .bool gk])) (s3 := ?zub) rfl rfl ?q1b ?q2b ?q3b ?q4b ?q5b ?q6b ?q7b ?q8b ?q9b
    case q5b => exact c9
    case q1b => rfl
    case q2b => rfl
    case q3b => rfl
    case q4b => rfl
    case q6b => rfl
    case q7b => rfl
    case q8b =>
      simp only [go_sem, St.back, List.map_cons, List.map_nil, SV.ren, Ob.ren, renL, pastG, lateG, List.length_cons, List.length_nil, List.take_succ_cons, List.take_zero, List.drop_succ_cons, List.drop_zero, List.getElem?_cons_zero, List.getElem?_cons_succ, List.getElem?_nil, List.cons_append, List.nil_append, simprocAttr]
      rfl
    refine SL_done ttR_ok hG htb (by (repeat' (first | (with_reducible exact runX_nil) | ((with_reducible apply runX_cons); focus (simp (discharger := omega) only [go_sem, simprocAttr]; with_reducible rfl))))) ?_
    cases gk with
    | false =>
      have hS0 : S = [] := by rw [← hS]; unfold growSets; rw [if_neg (by rw [hgk]; decide)]
      have hD0 : D = [] := by rw [← hD]; unfold growRows; rw [if_neg (by rw [hgk]; decide)]
      rw [if_pos rfl, hS0, hD0]
      repeat' (first | (with_reducible first | apply w1 | apply w2 | apply w3 | apply w4 | apply w5 | apply w6 | apply w7 | apply w8 | apply w9 | apply wa | apply wb | apply wc) | ((with_reducible apply wd); focus decide) | ((with_reducible apply we); focus exact rfl) | ((with_reducible apply wf); focus exact rfl) | ((first | (with_reducible apply SW_run tt_ok hG htb) | ((with_reducible apply SW_draw rfl tt_ok hG htb); (focus kernel_rfl); focus simp only [List.range, List.range.loop, List.size_toArray, List.length_cons, List.length_nil, Nat.reduceAdd])); focus ((repeat' (first | (with_reducible first | exact wg | exact wh) | ((with_reducible first | apply wi | apply wj); focus (simp (discharger := omega) only [go_sem, simprocAttr]; with_reducible rfl)))); done)))
      exact (by simp (discharger := omega) only [go_sem, tErr, simprocAttr])
    | true =>
      rw [if_neg (by decide)]
      repeat' (first | (with_reducible first | apply w1 | apply w2 | apply w3 | apply w4 | apply w5 | apply w6 | apply w7 | apply w8 | apply w9 | apply wa | apply wb | apply wc) | ((with_reducible apply wd); focus decide) | ((with_reducible apply we); focus exact rfl) | ((with_reducible apply wf); focus exact rfl) | ((first | (with_reducible apply SW_run tt_ok hG htb) | ((with_reducible apply SW_draw rfl tt_ok hG htb); (focus kernel_rfl); focus simp only [List.range, List.range.loop, List.size_toArray, List.length_cons, List.length_nil, Nat.reduceAdd])); focus ((repeat' (first | (with_reducible first | exact wg | exact wh) | ((with_reducible first | apply wi | apply wj); focus (simp (discharger := omega) only [go_sem, simprocAttr]; with_reducible rfl)))); done)))
      exact (by simp (discharger := omega) only [go_sem, tErr, simprocAttr])
end
end Go.Proofs.Ythcclcbliedodaa
namespace Go.Proofs.Ythcclcbliedodaa
open Go.RowKit

section
variable {G : World → Prop} (hG : Lasting G)
include hG
theorem TurnEnd_snd (x : Int) : Snd Try.prog G 39 ([tInt x] ++ []) (.bool (isZ x)) := by
  have htb : Tab.ok Try.prog G [] := Tab.nil
  refine snd_of_body (n := 5) (tm := [(0, .t (tInt x))]) (rs := [.tmp 2]) tt_ok Try.func39 rfl rfl rfl rfl rfl ?_
  unfold isZ
  repeat' (first | (with_reducible first | apply w1 | apply w2 | apply w3 | apply w4 | apply w5 | apply w6 | apply w7 | apply w8 | apply w9 | apply wa | apply wb | apply wc) | ((with_reducible apply wd); focus decide) | ((with_reducible apply we); focus exact rfl) | ((with_reducible apply wf); focus exact rfl) | ((first | (with_reducible apply SW_run tt_ok hG htb) | ((with_reducible apply SW_draw rfl tt_ok hG htb); (focus kernel_rfl); focus simp only [List.range, List.range.loop, List.size_toArray, List.length_cons, List.length_nil, Nat.reduceAdd])); focus ((repeat' (first | (with_reducible first | exact wg | exact wh) | ((with_reducible first | apply wi | apply wj); focus (simp (discharger := omega) only [go_sem, simprocAttr]; with_reducible rfl)))); done)))
  exact (by simp (discharger := omega) only [go_sem, simprocAttr])
set_option maxHeartbeats 8000000 in
set_option maxRecDepth 100000 in
theorem Turn_snd (a : GAuto) : Snd Try.prog G 16 [tAuto a] (.tup [tAuto (turnA a), tErr (turnErr a)]) := by
  have c1 := turned_snd hG a
  refine snd_of_body (n := 35) (tm := [(0, .t (tAuto a))]) (rs := [.cell 2 25, .tmp 3]) tt_ok Try.func16 rfl rfl rfl rfl rfl ?_
  by_cases h0 : turnErr0 a = 0
  rotate_left
  · have he : turnErr a = turnErr0 a := if_pos h0
    have hz : turnA a = GAuto.zero := by unfold turnA; rw [he, if_neg h0]
    rw [he, hz]
    generalize turnErr0 a = e at *
    generalize turnS a = S at *
    generalize turnR a = R at *
    have htb := Tab.cons c1 Tab.nil
    repeat' (first | (with_reducible first | apply w1 | apply w2 | apply w3 | apply w4 | apply w5 | apply w6 | apply w7 | apply w8 | apply w9 | apply wa | apply wb | apply wc) | ((with_reducible apply wd); focus decide) | ((with_reducible apply we); focus exact rfl) | ((with_reducible apply wf); focus exact rfl) | ((first | (with_reducible apply SW_run tt_ok hG htb) | ((with_reducible apply SW_draw rfl tt_ok hG htb); (focus kernel_rfl); focus simp only [List.range, List.range.loop, List.size_toArray, List.length_cons, List.length_nil, Nat.reduceAdd])); focus ((repeat' (first | (with_reducible first | exact wg | exact wh) | ((with_reducible first | apply wi | apply wj); focus (simp (discharger := omega) only [go_sem, tAuto, tErr, h0, simprocAttr]; with_reducible rfl)))); done)))
    exact (by simp (discharger := omega) only [go_sem, tAuto, tErr, h0, GAuto.zero, simprocAttr])
  obtain ⟨n, m, L⟩ := turn_is h0
  have hpos := L.pos
  have hfew := L.few
  have hrows := L.rows
  have hsets := L.sets
  have hn36 := L.ok.n36
  have hrl := L.len
  have hRE : turnRE a = leastRE n (turnR a) (turnE a) := by unfold turnRE; rw [L.nE]
  have hsE : turnE a = (turnS a).map fun s => s.any isZ := rfl
  have he0 : turnErr a = if (turnRE a).1.length ≤ 80 then 0 else 3 := by unfold turnErr; rw [if_neg (fun q => q h0)]
  have hz0 : turnA a = if turnErr a = 0 then ⟨a.base, a.tracks, (turnRE a).1, (turnRE a).2⟩ else GAuto.zero := rfl
  rw [hz0, he0, hRE, hsE]
  clear he0 hz0 hRE hsE L
  rw [h0] at c1
  generalize turnS a = S at *
  generalize turnR a = R at *
  have c2 := Ends_snd hG S (by omega) 39 [] isZ (fun s hs x hx => TurnEnd_snd hG x)
  obtain ⟨E, hE⟩ : ∃ E, (S.map fun s => s.any isZ) = E := ⟨_, rfl⟩
  rw [hE] at c2
  have hEl : E.length = S.length := by rw [← hE, List.length_map]
  have c3 := Shrink_snd hG a.base a.tracks hrows hpos (by omega) (ends := E) hEl (by omega)
  rw [hE]
  have htb := Tab.cons c1 Tab.nil
  repeat' (first | (with_reducible first | apply w1 | apply w2 | apply w3 | apply w4 | apply w5 | apply w6 | apply w7 | apply w8 | apply w9 | apply wa | apply wb | apply wc) | ((with_reducible apply wd); focus decide) | ((with_reducible apply we); focus exact rfl) | ((with_reducible apply wf); focus exact rfl) | ((first | (with_reducible apply SW_run tt_ok hG htb) | ((with_reducible apply SW_draw rfl tt_ok hG htb); (focus kernel_rfl); focus simp only [List.range, List.range.loop, List.size_toArray, List.length_cons, List.length_nil, Nat.reduceAdd])); focus ((repeat' (first | (with_reducible first | exact wg | exact wh) | ((with_reducible first | apply wi | apply wj); focus (simp (discharger := omega) only [go_sem, tAuto, tErr0, simprocAttr]; with_reducible rfl)))); done)))
  clear htb
  refine SW_norm (Norm.headS (own := []) (keep := [1, 2, 4, 5]) (by refine ⟨?_, ?_⟩; (simp (discharger := omega) only [go_sem, simprocAttr]; with_reducible rfl); refine ⟨?_, ?_, ?_, ?_⟩ <;> (simp only [go_sem, simprocAttr]; with_reducible rfl))) ?_
  refine SW_norm (Norm.fixBox 0 rfl rfl) ?_
  have htb := Tab.cons c2 (Tab.cons c3 Tab.nil)
  by_cases h80 : (leastRE n R E).1.length ≤ 80
  · have hsh : shrinkT a.base a.tracks n R E = .tup [tAuto ⟨a.base, a.tracks, (leastRE n R E).1, (leastRE n R E).2⟩, .bool true] := if_pos h80
    rw [if_pos h80, if_pos rfl]
    rw [hsh] at htb c3
    generalize leastRE n R E = RE at *
    refine SW_norm (Norm.hole _) ?_
    (with_reducible apply SW_drawA [(11, 2)] rfl tt_ok hG htb)
    · kernel_rfl
    · simp only [List.range, List.range.loop, List.size_toArray, List.length_cons, List.length_nil, Nat.reduceAdd]
      repeat' (first | (with_reducible exact runG_nil) | ((with_reducible apply runG_cons); focus (simp (discharger := omega) only [go_sem, tAuto, simprocAttr]; with_reducible rfl)))
    repeat' (first | (with_reducible first | apply w1 | apply w2 | apply w3 | apply w4 | apply w5 | apply w6 | apply w7 | apply w8 | apply w9 | apply wa | apply wb | apply wc) | ((with_reducible apply wd); focus decide) | ((with_reducible apply we); focus exact rfl) | ((with_reducible apply wf); focus exact rfl) | ((first | (with_reducible apply SW_run tt_ok hG htb) | ((with_reducible apply SW_draw rfl tt_ok hG htb); (focus kernel_rfl); focus simp only [List.range, List.range.loop, List.size_toArray, List.length_cons, List.length_nil, Nat.reduceAdd])); focus ((repeat' (first | (with_reducible first | exact wg | exact wh) | ((with_reducible first | apply wi | apply wj); focus (simp (discharger := omega) only [go_sem, tAuto, tErr0, simprocAttr]; with_reducible rfl)))); done)))
    exact (by simp (discharger := omega) only [go_sem, tAuto, tErr0, simprocAttr])
  · have hsh : shrinkT a.base a.tracks n R E = .tup [tAuto GAuto.zero, .bool false] := if_neg h80
    rw [if_neg h80, if_neg (by decide)]
    rw [hsh] at htb c3
    refine SW_norm (Norm.hole _) ?_
    (with_reducible apply SW_drawA [(11, 2)] rfl tt_ok hG htb)
    · kernel_rfl
    · simp only [List.range, List.range.loop, List.size_toArray, List.length_cons, List.length_nil, Nat.reduceAdd]
      repeat' (first | (with_reducible exact runG_nil) | ((with_reducible apply runG_cons); focus (simp (discharger := omega) only [go_sem, tAuto, simprocAttr]; with_reducible rfl)))
    repeat' (first | (with_reducible first | apply w1 | apply w2 | apply w3 | apply w4 | apply w5 | apply w6 | apply w7 | apply w8 | apply w9 | apply wa | apply wb | apply wc) | ((with_reducible apply wd); focus decide) | ((with_reducible apply we); focus exact rfl) | ((with_reducible apply wf); focus exact rfl) | ((first | (with_reducible apply SW_run tt_ok hG htb) | ((with_reducible apply SW_draw rfl tt_ok hG htb); (focus kernel_rfl); focus simp only [List.range, List.range.loop, List.size_toArray, List.length_cons, List.length_nil, Nat.reduceAdd])); focus ((repeat' (first | (with_reducible first | exact wg | exact wh) | ((with_reducible first | apply wi | apply wj); focus (simp (discharger := omega) only [go_sem, tAuto, simprocAttr]; with_reducible rfl)))); done)))
    exact (by simp (discharger := omega) only [go_sem, tAuto, tErr, GAuto.zero, simprocAttr])
end
end Go.Proofs.Ythcclcbliedodaa
namespace Go.Proofs.Ythcclcbliedodaa
open Go.RowKit

end Go.Proofs.Ythcclcbliedodaa
namespace Go.Proofs.Ythcclcbliedodaa
open Go.RowKit

theorem growOk_small {stp : List Int → Nat → List Int} {n m : Nat} {first : List Int} (hm : m ≤ 10) (hf : Inm m first) (hs : ∀ s l, Inm m s → l < n → Inm m (stp s l)) : growOk stp n first = true := by
  unfold growOk
  refine sets_few (p := fun s => Inm m s ∧ s.Pairwise (· < ·)) (fun s => bitsN (fun i => decide (((i : Nat) : Int) ∈ s)) m) (K := 2 ^ m) ⟨hf.canon, (canonL_spec _).1⟩ (fun s l hl h => ⟨(hs s l h.1 hl).canon, (canonL_spec _).1⟩) (fun s _ => bitsN_lt _ _) (fun s t h1 h2 e => ?_) ?_
  · refine asc_eq h1.2 h2.2 fun x => ?_
    have key : ∀ i, i < m → (((i : Nat) : Int) ∈ s ↔ ((i : Nat) : Int) ∈ t) := fun i hi => by
      have := bitsN_inj e hi
      simpa using this
    constructor
    · intro hx
      have hb := h1.1 x hx
      have := key x.toNat (by omega)
      rw [Int.toNat_of_nonneg hb.1] at this
      exact this.1 hx
    · intro hx
      have hb := h2.1 x hx
      have := key x.toNat (by omega)
      rw [Int.toNat_of_nonneg hb.1] at this
      exact this.2 hx
  · have := Nat.pow_le_pow_right (n := 2) (by decide) hm
    omega
/-- The last digit is 1. -/
def lastA : GAuto := ⟨2, 1, [[0, 1], [0, 1]], [false, true]⟩
theorem last_good : Good lastA 2 2 := ⟨by decide, by decide, by decide, by decide, by decide, by decide, rfl, ⟨rfl, by decide, by decide⟩⟩
theorem last_fault : autoFault lastA = 0 := by decide
theorem last_least : leastA lastA = lastA := by
  have h : leastRE 2 lastA.next lastA.ends = (lastA.next, lastA.ends) := leastRE_chk (m := 2) [[]] (by decide +kernel) last_good.rows (by decide) fun w _ => rfl
  have hn : (manyOf lastA.base lastA.tracks).toNat = 2 := by rw [last_good.n_eq]; rfl
  unfold leastA
  rw [hn, h]
def firstN : List (List Int) := [[1, 2], [1, 1], [2, 2]]
def firstE : List Bool := [false, false, true]
theorem first_stay : ∀ (w : List Nat), Ltr 2 w → runS firstN 1 w = 1 ∧ runS firstN 2 w = 2
  | [], _ => ⟨rfl, rfl⟩
  | l :: w, h => by
    have hl := h l List.mem_cons_self
    have hw := first_stay w fun x hx => h x (List.mem_cons_of_mem _ hx)
    have e1 : nx firstN 1 l = 1 := by
      match l, hl with
      | 0, _ => rfl
      | 1, _ => rfl
    have e2 : nx firstN 2 l = 2 := by
      match l, hl with
      | 0, _ => rfl
      | 1, _ => rfl
    exact ⟨by show runS firstN (nx firstN 1 l) w = 1; rw [e1]; exact hw.1, by show runS firstN (nx firstN 2 l) w = 2; rw [e2]; exact hw.2⟩
theorem last_lng (w : List Nat) (hw : Ltr 2 w) : lang firstN firstE 0 w = lng lastA w.reverse := by
  cases w with
  | nil => rfl
  | cons l w =>
    have hl := hw l List.mem_cons_self
    have hw' : Ltr 2 w := fun x hx => hw x (List.mem_cons_of_mem _ hx)
    obtain ⟨f1, f2⟩ := first_stay w hw'
    have hb := runS_ok last_good.rows w.reverse 0 (by omega) fun x hx => hw' x (List.mem_reverse.1 hx)
    unfold lng lang
    rw [List.reverse_cons, runS_append]
    generalize runS lastA.next 0 w.reverse = s at *
    show endOf firstE (runS firstN (nx firstN 0 l) w) = endOf lastA.ends (nx lastA.next s l)
    have hs : s = 0 ∨ s = 1 := by omega
    match l, hl with
    | 0, _ =>
      show endOf firstE (runS firstN 1 w) = _
      rw [f1]
      rcases hs with rfl | rfl <;> rfl
    | 1, _ =>
      show endOf firstE (runS firstN 2 w) = _
      rw [f2]
      rcases hs with rfl | rfl <;> rfl
theorem last_turn : turnErr lastA = 0 ∧ turnA lastA = ⟨2, 1, firstN, firstE⟩ := by
  have hn : turnN lastA = 2 := by unfold turnN; rw [last_good.n_eq]; rfl
  have hok : turnOk lastA = true := by
    unfold turnOk turnD turnF
    rw [last_least]
    exact growOk_small (m := 2) (by decide) (fun x hx => (endsF_mem.1 hx).1) fun s l _ _ => stepT_in
  have he0 : turnErr0 lastA = 0 := by unfold turnErr0; rw [if_neg (fun q => q last_fault), if_neg (by rw [hok]; decide)]
  obtain ⟨n, m, t⟩ := turn_is he0
  have hn2 : n = 2 := by rw [← t.nE, hn]
  subst hn2
  have hL : Least 2 firstN firstE (lang firstN firstE 0) := least_chk [[], [0], [1]] (by decide +kernel)
  have hRE : turnRE lastA = (firstN, firstE) := by
    have : turnRE lastA = leastRE 2 (turnR lastA) (turnE lastA) := by unfold turnRE; rw [hn]
    rw [this]
    refine leastRE_eq t.rows t.pos (hL.lang_congr fun w hw => ?_)
    rw [turn_lang t hw, last_least, last_lng w hw]
  have he : turnErr lastA = 0 := by
    unfold turnErr
    rw [if_neg (by rw [he0]; decide), hRE, if_pos (by decide)]
  refine ⟨he, ?_⟩
  unfold turnA
  rw [if_pos he, hRE]
  rfl
end Go.Proofs.Ythcclcbliedodaa
namespace Go.Proofs.Ythcclcbliedodaa
open Go.RowKit

theorem list_same {α : Type} [Inhabited α] {l l' : List α} (hl : l.length = l'.length) (h : ∀ j, j < l.length → l[j]! = l'[j]!) : l = l' := by
  refine List.ext_getElem hl fun i h1 h2 => ?_
  have := h i h1
  rwa [getElem!_pos l i h1, getElem!_pos l' i h2] at this
section
variable {G : World → Prop} (hG : Lasting G)
include hG
set_option maxHeartbeats 4000000 in
theorem SInts_snd (d d' : List Int) : Snd Try.prog G 55 [tInts d, tInts d'] (.bool (decide (d = d'))) := by
  have htb : Tab.ok Try.prog G [] := Tab.nil
  refine snd_of_body (n := 26) (tm := [(0, .t (tInts d)), (1, .t (tInts d'))]) (rs := [.tmp 4]) tt_ok Try.func55 rfl rfl rfl rfl rfl ?_
  refine SW_len (t := 0) (l := _) rfl fun hlen => ?_
  simp only [List.length_map] at hlen
  by_cases hl : d.length = d'.length
  · repeat' (first | (with_reducible first | apply w1 | apply w2 | apply w3 | apply w4 | apply w5 | apply w6 | apply w7 | apply w8 | apply w9 | apply wa | apply wb | apply wc) | ((with_reducible apply wd); focus decide) | ((with_reducible apply we); focus exact rfl) | ((with_reducible apply wf); focus exact rfl) | ((first | (with_reducible apply SW_run tt_ok hG htb) | ((with_reducible apply SW_draw rfl tt_ok hG htb); (focus kernel_rfl); focus simp only [List.range, List.range.loop, List.size_toArray, List.length_cons, List.length_nil, Nat.reduceAdd])); focus ((repeat' (first | (with_reducible first | exact wg | exact wh) | ((with_reducible first | apply wi | apply wj); focus (simp (discharger := omega) only [go_sem, hl, simprocAttr]; with_reducible rfl)))); done)))
    refine SW_loop (fun n s => ∃ k : Nat, n = d.length - k ∧ s = ⟨26, [(0, .t (tInts d)), (1, .t (tInts d')), (5, .t (tInt k))], []⟩ ∧ k ≤ d.length ∧ ∀ j, j < k → d[j]! = d'[j]!) d.length ⟨_, Norm.headS (own := []) (keep := [0, 1, 5]) (by refine ⟨?_, ?_⟩; (simp (discharger := omega) only [go_sem, simprocAttr]; with_reducible rfl); refine ⟨?_, ?_, ?_, ?_⟩ <;> (simp only [go_sem, simprocAttr]; with_reducible rfl)), 0, rfl, rfl, Nat.zero_le _, fun j hj => by omega⟩ ?_
    rintro n s ⟨k, rfl, rfl, hk, hA⟩
    by_cases hlt : k < d.length
    · by_cases h : d[k]! = d'[k]!
      · repeat' (first | (with_reducible first | apply w1 | apply w2 | apply w3 | apply w4 | apply w5 | apply w6 | apply w7 | apply w8 | apply w9 | apply wa | apply wb | apply wc) | ((with_reducible apply wd); focus decide) | ((with_reducible apply we); focus exact rfl) | ((with_reducible apply wf); focus exact rfl) | ((first | (with_reducible apply SW_run tt_ok hG htb) | ((with_reducible apply SW_draw rfl tt_ok hG htb); (focus kernel_rfl); focus simp only [List.range, List.range.loop, List.size_toArray, List.length_cons, List.length_nil, Nat.reduceAdd])); focus ((repeat' (first | (with_reducible first | exact wg | exact wh) | ((with_reducible first | apply wi | apply wj); focus (simp (discharger := omega) only [go_sem, h, simprocAttr]; with_reducible rfl)))); done)))
        exact ⟨d.length - (k + 1), _, by omega, Norm.headS (own := []) (keep := [0, 1, 5]) (by refine ⟨?_, ?_⟩; (simp (discharger := omega) only [go_sem, simprocAttr]; with_reducible rfl); refine ⟨?_, ?_, ?_, ?_⟩ <;> (simp only [go_sem, simprocAttr]; with_reducible rfl)), k + 1, rfl, rfl, by omega, fun j hj => by
          by_cases e : j = k
          · subst e; exact h
          · exact hA j (by omega)⟩
      · rw [decide_eq_false (fun e => h (by rw [e]))]
        repeat' (first | (with_reducible first | apply w1 | apply w2 | apply w3 | apply w4 | apply w5 | apply w6 | apply w7 | apply w8 | apply w9 | apply wa | apply wb | apply wc) | ((with_reducible apply wd); focus decide) | ((with_reducible apply we); focus exact rfl) | ((with_reducible apply wf); focus exact rfl) | ((first | (with_reducible apply SW_run tt_ok hG htb) | ((with_reducible apply SW_draw rfl tt_ok hG htb); (focus kernel_rfl); focus simp only [List.range, List.range.loop, List.size_toArray, List.length_cons, List.length_nil, Nat.reduceAdd])); focus ((repeat' (first | (with_reducible first | exact wg | exact wh) | ((with_reducible first | apply wi | apply wj); focus (simp (discharger := omega) only [go_sem, h, simprocAttr]; with_reducible rfl)))); done)))
        exact (by simp (discharger := omega) only [go_sem, simprocAttr])
    · rw [decide_eq_true (list_same hl fun j hj => hA j (by omega))]
      repeat' (first | (with_reducible first | apply w1 | apply w2 | apply w3 | apply w4 | apply w5 | apply w6 | apply w7 | apply w8 | apply w9 | apply wa | apply wb | apply wc) | ((with_reducible apply wd); focus decide) | ((with_reducible apply we); focus exact rfl) | ((with_reducible apply wf); focus exact rfl) | ((first | (with_reducible apply SW_run tt_ok hG htb) | ((with_reducible apply SW_draw rfl tt_ok hG htb); (focus kernel_rfl); focus simp only [List.range, List.range.loop, List.size_toArray, List.length_cons, List.length_nil, Nat.reduceAdd])); focus ((repeat' (first | (with_reducible first | exact wg | exact wh) | ((with_reducible first | apply wi | apply wj); focus (simp (discharger := omega) only [go_sem, simprocAttr]; with_reducible rfl)))); done)))
      exact (by simp (discharger := omega) only [go_sem, simprocAttr])
  · rw [decide_eq_false (fun e => hl (by rw [e]))]
    repeat' (first | (with_reducible first | apply w1 | apply w2 | apply w3 | apply w4 | apply w5 | apply w6 | apply w7 | apply w8 | apply w9 | apply wa | apply wb | apply wc) | ((with_reducible apply wd); focus decide) | ((with_reducible apply we); focus exact rfl) | ((with_reducible apply wf); focus exact rfl) | ((first | (with_reducible apply SW_run tt_ok hG htb) | ((with_reducible apply SW_draw rfl tt_ok hG htb); (focus kernel_rfl); focus simp only [List.range, List.range.loop, List.size_toArray, List.length_cons, List.length_nil, Nat.reduceAdd])); focus ((repeat' (first | (with_reducible first | exact wg | exact wh) | ((with_reducible first | apply wi | apply wj); focus (simp (discharger := omega) only [go_sem, hl, simprocAttr]; with_reducible rfl)))); done)))
    exact (by simp (discharger := omega) only [go_sem, simprocAttr])
set_option maxHeartbeats 4000000 in
theorem Lists_snd (d d' : List (List Int)) : Snd Try.prog G 41 [tIntss d, tIntss d'] (.bool (decide (d = d'))) := by
  have htb : Tab.ok Try.prog G [] := Tab.nil
  refine snd_of_body (n := 29) (tm := [(0, .t (tIntss d)), (1, .t (tIntss d'))]) (rs := [.tmp 4]) tt_ok Try.func41 rfl rfl rfl rfl rfl ?_
  refine SW_len (t := 0) (l := _) rfl fun hlen => ?_
  simp only [List.length_map] at hlen
  by_cases hl : d.length = d'.length
  · repeat' (first | (with_reducible first | apply w1 | apply w2 | apply w3 | apply w4 | apply w5 | apply w6 | apply w7 | apply w8 | apply w9 | apply wa | apply wb | apply wc) | ((with_reducible apply wd); focus decide) | ((with_reducible apply we); focus exact rfl) | ((with_reducible apply wf); focus exact rfl) | ((first | (with_reducible apply SW_run tt_ok hG htb) | ((with_reducible apply SW_draw rfl tt_ok hG htb); (focus kernel_rfl); focus simp only [List.range, List.range.loop, List.size_toArray, List.length_cons, List.length_nil, Nat.reduceAdd])); focus ((repeat' (first | (with_reducible first | exact wg | exact wh) | ((with_reducible first | apply wi | apply wj); focus (simp (discharger := omega) only [go_sem, hl, simprocAttr]; with_reducible rfl)))); done)))
    refine SW_loop (fun n s => ∃ k : Nat, n = d.length - k ∧ s = ⟨29, [(0, .t (tIntss d)), (1, .t (tIntss d')), (5, .t (tInt k))], []⟩ ∧ k ≤ d.length ∧ ∀ j, j < k → d[j]! = d'[j]!) d.length ⟨_, Norm.headS (own := []) (keep := [0, 1, 5]) (by refine ⟨?_, ?_⟩; (simp (discharger := omega) only [go_sem, simprocAttr]; with_reducible rfl); refine ⟨?_, ?_, ?_, ?_⟩ <;> (simp only [go_sem, simprocAttr]; with_reducible rfl)), 0, rfl, rfl, Nat.zero_le _, fun j hj => by omega⟩ ?_
    rintro n s ⟨k, rfl, rfl, hk, hA⟩
    by_cases hlt : k < d.length
    · have htb := Tab.cons (SInts_snd hG d[k]! d'[k]!) Tab.nil
      by_cases h : d[k]! = d'[k]!
      · rw [decide_eq_true h] at htb
        repeat' (first | (with_reducible first | apply w1 | apply w2 | apply w3 | apply w4 | apply w5 | apply w6 | apply w7 | apply w8 | apply w9 | apply wa | apply wb | apply wc) | ((with_reducible apply wd); focus decide) | ((with_reducible apply we); focus exact rfl) | ((with_reducible apply wf); focus exact rfl) | ((first | (with_reducible apply SW_run tt_ok hG htb) | ((with_reducible apply SW_draw rfl tt_ok hG htb); (focus kernel_rfl); focus simp only [List.range, List.range.loop, List.size_toArray, List.length_cons, List.length_nil, Nat.reduceAdd])); focus ((repeat' (first | (with_reducible first | exact wg | exact wh) | ((with_reducible first | apply wi | apply wj); focus (simp (discharger := omega) only [go_sem, simprocAttr]; with_reducible rfl)))); done)))
        exact ⟨d.length - (k + 1), _, by omega, Norm.headS (own := []) (keep := [0, 1, 5]) (by refine ⟨?_, ?_⟩; (simp (discharger := omega) only [go_sem, simprocAttr]; with_reducible rfl); refine ⟨?_, ?_, ?_, ?_⟩ <;> (simp only [go_sem, simprocAttr]; with_reducible rfl)), k + 1, rfl, rfl, by omega, fun j hj => by
          by_cases e : j = k
          · subst e; exact h
          · exact hA j (by omega)⟩
      · rw [decide_eq_false (fun e => h (by rw [e]))]
        rw [decide_eq_false h] at htb
        repeat' (first | (with_reducible first | apply w1 | apply w2 | apply w3 | apply w4 | apply w5 | apply w6 | apply w7 | apply w8 | apply w9 | apply wa | apply wb | apply wc) | ((with_reducible apply wd); focus decide) | ((with_reducible apply we); focus exact rfl) | ((with_reducible apply wf); focus exact rfl) | ((first | (with_reducible apply SW_run tt_ok hG htb) | ((with_reducible apply SW_draw rfl tt_ok hG htb); (focus kernel_rfl); focus simp only [List.range, List.range.loop, List.size_toArray, List.length_cons, List.length_nil, Nat.reduceAdd])); focus ((repeat' (first | (with_reducible first | exact wg | exact wh) | ((with_reducible first | apply wi | apply wj); focus (simp (discharger := omega) only [go_sem, simprocAttr]; with_reducible rfl)))); done)))
        exact (by simp (discharger := omega) only [go_sem, simprocAttr])
    · rw [decide_eq_true (list_same hl fun j hj => hA j (by omega))]
      repeat' (first | (with_reducible first | apply w1 | apply w2 | apply w3 | apply w4 | apply w5 | apply w6 | apply w7 | apply w8 | apply w9 | apply wa | apply wb | apply wc) | ((with_reducible apply wd); focus decide) | ((with_reducible apply we); focus exact rfl) | ((with_reducible apply wf); focus exact rfl) | ((first | (with_reducible apply SW_run tt_ok hG htb) | ((with_reducible apply SW_draw rfl tt_ok hG htb); (focus kernel_rfl); focus simp only [List.range, List.range.loop, List.size_toArray, List.length_cons, List.length_nil, Nat.reduceAdd])); focus ((repeat' (first | (with_reducible first | exact wg | exact wh) | ((with_reducible first | apply wi | apply wj); focus (simp (discharger := omega) only [go_sem, simprocAttr]; with_reducible rfl)))); done)))
      exact (by simp (discharger := omega) only [go_sem, simprocAttr])
  · rw [decide_eq_false (fun e => hl (by rw [e]))]
    repeat' (first | (with_reducible first | apply w1 | apply w2 | apply w3 | apply w4 | apply w5 | apply w6 | apply w7 | apply w8 | apply w9 | apply wa | apply wb | apply wc) | ((with_reducible apply wd); focus decide) | ((with_reducible apply we); focus exact rfl) | ((with_reducible apply wf); focus exact rfl) | ((first | (with_reducible apply SW_run tt_ok hG htb) | ((with_reducible apply SW_draw rfl tt_ok hG htb); (focus kernel_rfl); focus simp only [List.range, List.range.loop, List.size_toArray, List.length_cons, List.length_nil, Nat.reduceAdd])); focus ((repeat' (first | (with_reducible first | exact wg | exact wh) | ((with_reducible first | apply wi | apply wj); focus (simp (discharger := omega) only [go_sem, hl, simprocAttr]; with_reducible rfl)))); done)))
    exact (by simp (discharger := omega) only [go_sem, simprocAttr])
def autoSame (a b : GAuto) : Bool := decide (a.base = b.base ∧ a.tracks = b.tracks ∧ a.next = b.next ∧ a.ends = b.ends)
omit hG in
theorem autoSame_self (a : GAuto) : autoSame a a = true := by simp [autoSame]
set_option maxHeartbeats 4000000 in
theorem Autos_snd (a b : GAuto) : Snd Try.prog G 19 [tAuto a, tAuto b] (.bool (autoSame a b)) := by
  have htb := Tab.cons (Lists_snd hG a.next b.next) Tab.nil
  refine snd_of_body (n := 55) (tm := [(0, .t (tAuto a)), (1, .t (tAuto b))]) (rs := [.tmp 4]) tt_ok Try.func19 rfl rfl rfl rfl rfl ?_
  unfold autoSame
  refine SW_lenA (t := 0) (i := 3) (l := a.ends.map T.bool) rfl rfl fun hlen => ?_
  simp only [List.length_map] at hlen
  by_cases h1 : a.base = b.base
  · by_cases h2 : a.tracks = b.tracks
    · by_cases h3 : a.next = b.next
      · rw [decide_eq_true h3] at htb
        by_cases h4 : a.ends.length = b.ends.length
        · repeat' (first | (with_reducible first | apply w1 | apply w2 | apply w3 | apply w4 | apply w5 | apply w6 | apply w7 | apply w8 | apply w9 | apply wa | apply wb | apply wc) | ((with_reducible apply wd); focus decide) | ((with_reducible apply we); focus exact rfl) | ((with_reducible apply wf); focus exact rfl) | ((first | (with_reducible apply SW_run tt_ok hG htb) | ((with_reducible apply SW_draw rfl tt_ok hG htb); (focus kernel_rfl); focus simp only [List.range, List.range.loop, List.size_toArray, List.length_cons, List.length_nil, Nat.reduceAdd])); focus ((repeat' (first | (with_reducible first | exact wg | exact wh) | ((with_reducible first | apply wi | apply wj); focus (simp (discharger := omega) only [go_sem, tAuto, h1, h2, h4, simprocAttr]; with_reducible rfl)))); done)))
          refine SW_loop (fun n s => ∃ k : Nat, n = a.ends.length - k ∧ s = ⟨55, [(2, .bptr 0 0), (3, .bptr 1 0), (6, .t (tInt k))], [.box [.t (tInt a.base), .t (tInt a.tracks), .t (tIntss a.next), .t (tBools a.ends)], .box [.t (tInt b.base), .t (tInt b.tracks), .t (tIntss b.next), .t (tBools b.ends)]]⟩ ∧ k ≤ a.ends.length ∧ ∀ j, j < k → a.ends[j]! = b.ends[j]!) a.ends.length
            ⟨_, Norm.headS (own := []) (keep := [2, 3, 6]) (by refine ⟨?_, ?_⟩; (simp (discharger := omega) only [go_sem, simprocAttr]; with_reducible rfl); refine ⟨?_, ?_, ?_, ?_⟩ <;> (simp only [go_sem, simprocAttr]; with_reducible rfl)), 0, rfl, by rw [← h1, ← h2]; rfl, Nat.zero_le _, fun j hj => by omega⟩ ?_
          rintro n s ⟨k, rfl, rfl, hk, hA⟩
          by_cases hlt : k < a.ends.length
          · by_cases h : a.ends[k]! = b.ends[k]!
            · have hb : (a.ends[k]! == b.ends[k]!) = true := by rw [h]; simp
              repeat' (first | (with_reducible first | apply w1 | apply w2 | apply w3 | apply w4 | apply w5 | apply w6 | apply w7 | apply w8 | apply w9 | apply wa | apply wb | apply wc) | ((with_reducible apply wd); focus decide) | ((with_reducible apply we); focus exact rfl) | ((with_reducible apply wf); focus exact rfl) | ((first | (with_reducible apply SW_run tt_ok hG htb) | ((with_reducible apply SW_draw rfl tt_ok hG htb); (focus kernel_rfl); focus simp only [List.range, List.range.loop, List.size_toArray, List.length_cons, List.length_nil, Nat.reduceAdd])); focus ((repeat' (first | (with_reducible first | exact wg | exact wh) | ((with_reducible first | apply wi | apply wj); focus (simp (discharger := omega) only [go_sem, hb, simprocAttr]; with_reducible rfl)))); done)))
              exact ⟨a.ends.length - (k + 1), _, by omega, Norm.headS (own := []) (keep := [2, 3, 6]) (by refine ⟨?_, ?_⟩; (simp (discharger := omega) only [go_sem, simprocAttr]; with_reducible rfl); refine ⟨?_, ?_, ?_, ?_⟩ <;> (simp only [go_sem, simprocAttr]; with_reducible rfl)), k + 1, rfl, rfl, by omega, fun j hj => by
                by_cases e : j = k
                · subst e; exact h
                · exact hA j (by omega)⟩
            · have hb : (a.ends[k]! == b.ends[k]!) = false := by simpa using h
              rw [decide_eq_false (fun e => h (by rw [e.2.2.2]))]
              repeat' (first | (with_reducible first | apply w1 | apply w2 | apply w3 | apply w4 | apply w5 | apply w6 | apply w7 | apply w8 | apply w9 | apply wa | apply wb | apply wc) | ((with_reducible apply wd); focus decide) | ((with_reducible apply we); focus exact rfl) | ((with_reducible apply wf); focus exact rfl) | ((first | (with_reducible apply SW_run tt_ok hG htb) | ((with_reducible apply SW_draw rfl tt_ok hG htb); (focus kernel_rfl); focus simp only [List.range, List.range.loop, List.size_toArray, List.length_cons, List.length_nil, Nat.reduceAdd])); focus ((repeat' (first | (with_reducible first | exact wg | exact wh) | ((with_reducible first | apply wi | apply wj); focus (simp (discharger := omega) only [go_sem, hb, simprocAttr]; with_reducible rfl)))); done)))
              exact (by simp (discharger := omega) only [go_sem, simprocAttr])
          · rw [decide_eq_true ⟨h1, h2, h3, list_same h4 fun j hj => hA j (by omega)⟩]
            repeat' (first | (with_reducible first | apply w1 | apply w2 | apply w3 | apply w4 | apply w5 | apply w6 | apply w7 | apply w8 | apply w9 | apply wa | apply wb | apply wc) | ((with_reducible apply wd); focus decide) | ((with_reducible apply we); focus exact rfl) | ((with_reducible apply wf); focus exact rfl) | ((first | (with_reducible apply SW_run tt_ok hG htb) | ((with_reducible apply SW_draw rfl tt_ok hG htb); (focus kernel_rfl); focus simp only [List.range, List.range.loop, List.size_toArray, List.length_cons, List.length_nil, Nat.reduceAdd])); focus ((repeat' (first | (with_reducible first | exact wg | exact wh) | ((with_reducible first | apply wi | apply wj); focus (simp (discharger := omega) only [go_sem, simprocAttr]; with_reducible rfl)))); done)))
            exact (by simp (discharger := omega) only [go_sem, simprocAttr])
        · rw [decide_eq_false (fun e => h4 (by rw [e.2.2.2]))]
          repeat' (first | (with_reducible first | apply w1 | apply w2 | apply w3 | apply w4 | apply w5 | apply w6 | apply w7 | apply w8 | apply w9 | apply wa | apply wb | apply wc) | ((with_reducible apply wd); focus decide) | ((with_reducible apply we); focus exact rfl) | ((with_reducible apply wf); focus exact rfl) | ((first | (with_reducible apply SW_run tt_ok hG htb) | ((with_reducible apply SW_draw rfl tt_ok hG htb); (focus kernel_rfl); focus simp only [List.range, List.range.loop, List.size_toArray, List.length_cons, List.length_nil, Nat.reduceAdd])); focus ((repeat' (first | (with_reducible first | exact wg | exact wh) | ((with_reducible first | apply wi | apply wj); focus (simp (discharger := omega) only [go_sem, tAuto, h1, h2, h4, simprocAttr]; with_reducible rfl)))); done)))
          exact (by simp (discharger := omega) only [go_sem, simprocAttr])
      · rw [decide_eq_false h3] at htb
        rw [decide_eq_false (fun e => h3 e.2.2.1)]
        repeat' (first | (with_reducible first | apply w1 | apply w2 | apply w3 | apply w4 | apply w5 | apply w6 | apply w7 | apply w8 | apply w9 | apply wa | apply wb | apply wc) | ((with_reducible apply wd); focus decide) | ((with_reducible apply we); focus exact rfl) | ((with_reducible apply wf); focus exact rfl) | ((first | (with_reducible apply SW_run tt_ok hG htb) | ((with_reducible apply SW_draw rfl tt_ok hG htb); (focus kernel_rfl); focus simp only [List.range, List.range.loop, List.size_toArray, List.length_cons, List.length_nil, Nat.reduceAdd])); focus ((repeat' (first | (with_reducible first | exact wg | exact wh) | ((with_reducible first | apply wi | apply wj); focus (simp (discharger := omega) only [go_sem, tAuto, h1, h2, simprocAttr]; with_reducible rfl)))); done)))
        exact (by simp (discharger := omega) only [go_sem, simprocAttr])
    · rw [decide_eq_false (fun e => h2 e.2.1)]
      repeat' (first | (with_reducible first | apply w1 | apply w2 | apply w3 | apply w4 | apply w5 | apply w6 | apply w7 | apply w8 | apply w9 | apply wa | apply wb | apply wc) | ((with_reducible apply wd); focus decide) | ((with_reducible apply we); focus exact rfl) | ((with_reducible apply wf); focus exact rfl) | ((first | (with_reducible apply SW_run tt_ok hG htb) | ((with_reducible apply SW_draw rfl tt_ok hG htb); (focus kernel_rfl); focus simp only [List.range, List.range.loop, List.size_toArray, List.length_cons, List.length_nil, Nat.reduceAdd])); focus ((repeat' (first | (with_reducible first | exact wg | exact wh) | ((with_reducible first | apply wi | apply wj); focus (simp (discharger := omega) only [go_sem, tAuto, h1, h2, simprocAttr]; with_reducible rfl)))); done)))
      exact (by simp (discharger := omega) only [go_sem, simprocAttr])
  · rw [decide_eq_false (fun e => h1 e.1)]
    repeat' (first | (with_reducible first | apply w1 | apply w2 | apply w3 | apply w4 | apply w5 | apply w6 | apply w7 | apply w8 | apply w9 | apply wa | apply wb | apply wc) | ((with_reducible apply wd); focus decide) | ((with_reducible apply we); focus exact rfl) | ((with_reducible apply wf); focus exact rfl) | ((first | (with_reducible apply SW_run tt_ok hG htb) | ((with_reducible apply SW_draw rfl tt_ok hG htb); (focus kernel_rfl); focus simp only [List.range, List.range.loop, List.size_toArray, List.length_cons, List.length_nil, Nat.reduceAdd])); focus ((repeat' (first | (with_reducible first | exact wg | exact wh) | ((with_reducible first | apply wi | apply wj); focus (simp (discharger := omega) only [go_sem, tAuto, h1, simprocAttr]; with_reducible rfl)))); done)))
    exact (by simp (discharger := omega) only [go_sem, simprocAttr])
end
end Go.Proofs.Ythcclcbliedodaa
namespace Go.Proofs.Ythcclcbliedodaa
open Go.RowKit

section
variable {G : World → Prop} (hG : Lasting G)
include hG
set_option maxHeartbeats 8000000 in
set_option maxRecDepth 100000 in
theorem TurnTakes_snd (a : GAuto) (w : List Int) (hz : w.length * 8 ≤ 140737488351232) : Snd Try.prog G 4 [tAuto a, tInts w] (.bool true) := by
  have c1 := Turn_snd hG lastA
  rw [last_turn.1, last_turn.2] at c1
  have c2 := Turn_snd hG a
  refine snd_of_body (n := 121) (tm := [(0, .t (tAuto a)), (1, .t (tInts w))]) (rs := [.tmp 4]) tt_ok Try.func4 rfl rfl rfl rfl rfl ?_
  have htb := Tab.cons c1 Tab.nil
  repeat' (first | (with_reducible first | apply w1 | apply w2 | apply w3 | apply w4 | apply w5 | apply w6 | apply w7 | apply w8 | apply w9 | apply wa | apply wb | apply wc) | ((with_reducible apply wd); focus decide) | ((with_reducible apply we); focus exact rfl) | ((with_reducible apply wf); focus exact rfl) | ((first | (with_reducible apply SW_run tt_ok hG htb) | ((with_reducible apply SW_draw rfl tt_ok hG htb); (focus kernel_rfl); focus simp only [List.range, List.range.loop, List.size_toArray, List.length_cons, List.length_nil, Nat.reduceAdd])); focus ((repeat' (first | (with_reducible first | exact wg | exact wh) | ((with_reducible first | apply wi | apply wj); focus (simp (discharger := omega) only [go_sem, tAuto, tErr0, lastA, firstN, firstE, simprocAttr]; with_reducible rfl)))); done)))
  clear htb c1
  by_cases he : turnErr a = 0
  rotate_left
  · have hz : turnA a = GAuto.zero := by unfold turnA; rw [if_neg he]
    rw [hz] at c2
    generalize turnErr a = e at *
    have htb := Tab.cons c2 Tab.nil
    repeat' (first | (with_reducible first | apply w1 | apply w2 | apply w3 | apply w4 | apply w5 | apply w6 | apply w7 | apply w8 | apply w9 | apply wa | apply wb | apply wc) | ((with_reducible apply wd); focus decide) | ((with_reducible apply we); focus exact rfl) | ((with_reducible apply wf); focus exact rfl) | ((first | (with_reducible apply SW_run tt_ok hG htb) | ((with_reducible apply SW_draw rfl tt_ok hG htb); (focus kernel_rfl); focus simp only [List.range, List.range.loop, List.size_toArray, List.length_cons, List.length_nil, Nat.reduceAdd])); focus ((repeat' (first | (with_reducible first | exact wg | exact wh) | ((with_reducible first | apply wi | apply wj); focus (simp (discharger := omega) only [go_sem, tAuto, tErr, he, GAuto.zero, simprocAttr]; with_reducible rfl)))); done)))
    exact (by simp (discharger := omega) only [go_sem, simprocAttr])
  obtain ⟨n, m, g, t, hl, h80⟩ := turn_isLeast he
  obtain ⟨he2, hA2⟩ := turn_again he
  have hla : leastOf a = leastA a := if_pos g.fault
  have gB := hl.good g h80
  rw [he] at c2
  obtain ⟨b, hb⟩ : ∃ b, turnA a = b := ⟨_, rfl⟩
  rw [hb] at c2 hl gB he2 hA2
  have c3 := Takes_snd hG b w
  have c4 := Takes_snd hG a w.reverse
  have c5 := Turn_snd hG b
  rw [he2, hA2] at c5
  have c6 := Least_snd hG a
  rw [g.fault, hla] at c6
  have c7 := Autos_snd hG (leastA a) (leastA a)
  rw [autoSame_self] at c7
  have hr1 := runErr_good gB w
  have hr2 := runErr_good g w.reverse
  have hiff : runErr b w = 0 ↔ runErr a w.reverse = 0 := by
    rw [hr1, hr2]
    simp
  have htk : takesOf b w = takesOf a w.reverse := by
    by_cases h : runErr b w = 0
    · have h1 := hr1.1 h
      have h2 := hr2.1 (hiff.1 h)
      rw [takes_lng' gB h1, takes_lng' g h2, hl.lng (ltr_toNat' h1.2), List.map_reverse]
    · have h2 : ¬ runErr a w.reverse = 0 := fun q => h (hiff.2 q)
      unfold takesOf
      rw [decide_eq_false h, decide_eq_false h2]; rfl
  rw [htk] at c3
  generalize takesOf a w.reverse = is at *
  generalize runErr b w = e at *
  generalize runErr a w.reverse = f at *
  generalize leastA a = l at *
  have hvl : w.reverse.length = w.length := List.length_reverse
  have hvat : ∀ i, i < w.length → w.reverse[i]? = some (w[w.length - 1 - i]!) := fun i hi => by
    rw [List.getElem?_reverse hi, getElem!_pos w _ (by omega)]
    exact List.getElem?_eq_getElem (by omega)
  obtain ⟨v, hv⟩ : ∃ v, w.reverse = v := ⟨_, rfl⟩
  rw [hv] at c4 hvl hvat
  have htb := Tab.cons c2 Tab.nil
  repeat' (first | (with_reducible first | apply w1 | apply w2 | apply w3 | apply w4 | apply w5 | apply w6 | apply w7 | apply w8 | apply w9 | apply wa | apply wb | apply wc) | ((with_reducible apply wd); focus decide) | ((with_reducible apply we); focus exact rfl) | ((with_reducible apply wf); focus exact rfl) | ((first | (with_reducible apply SW_run tt_ok hG htb) | ((with_reducible apply SW_draw rfl tt_ok hG htb); (focus kernel_rfl); focus simp only [List.range, List.range.loop, List.size_toArray, List.length_cons, List.length_nil, Nat.reduceAdd])); focus ((repeat' (first | (with_reducible first | exact wg | exact wh) | ((with_reducible first | apply wi | apply wj); focus (simp (discharger := omega) only [go_sem, tAuto, tErr0, simprocAttr]; with_reducible rfl)))); done)))
  clear htb
  have htb : Tab.ok Try.prog G [] := Tab.nil
  refine SW_loop (fun mm st => ∃ (i : Nat) (vs : List T) (z : Int), mm = w.length - i ∧ st = ⟨121, [(1, .t (tInts w)), (2, .bptr 0 0), (8, .bptr 1 0), (10, .sref 2), (11, .t (tInt z))], [.box [.t (tInt a.base), .t (tInt a.tracks), .t (tIntss a.next), .t (tBools a.ends)], .box [.t (tInt b.base), .t (tInt b.tracks), .t (tIntss b.next), .t (tBools b.ends)], .row 3 1 true vs]⟩ ∧ i ≤ w.length ∧ z = (w.length : Int) - 1 - (i : Int) ∧ vs = (v.take i).map tInt) w.length
    ⟨_, Norm.headS (own := [(10, 3, 1, true)]) (keep := [1, 2, 8, 10, 11]) (by refine ⟨?_, ?_⟩; (simp (discharger := omega) only [go_sem, simprocAttr]; with_reducible rfl); refine ⟨?_, ?_, ?_, ?_⟩ <;> (simp only [go_sem, simprocAttr]; with_reducible rfl)), 0, _, _, rfl, rfl, Nat.zero_le _, by omega, by rw [List.take_zero]; rfl⟩ ?_
  rintro mm st ⟨i, vs, z, rfl, rfl, hi, hzz, hvs⟩
  have hvsl : vs.length = i := by rw [hvs, List.length_map, List.length_take]; omega
  by_cases hlt : i < w.length
  · obtain ⟨j, hj⟩ : ∃ j, w.length - 1 - i = j := ⟨_, rfl⟩
    obtain ⟨x, hx⟩ : ∃ x, w[j]! = x := ⟨_, rfl⟩
    have hz2 : z = ((j : Nat) : Int) := by omega
    subst hz2
    have htk2 : v.take (i + 1) = v.take i ++ [x] := by
      have := hvat i hlt
      rw [hj, hx] at this
      obtain ⟨q1, q2⟩ := List.getElem?_eq_some_iff.1 this
      rw [List.take_succ_eq_append_getElem q1, q2]
    have hjl : j < w.length := by omega
    repeat' (first | (with_reducible first | apply w1 | apply w2 | apply w3 | apply w4 | apply w5 | apply w6 | apply w7 | apply w8 | apply w9 | apply wa | apply wb | apply wc) | ((with_reducible apply wd); focus decide) | ((with_reducible apply we); focus exact rfl) | ((with_reducible apply wf); focus exact rfl) | ((first | (with_reducible apply SW_run tt_ok hG htb) | ((with_reducible apply SW_draw rfl tt_ok hG htb); (focus kernel_rfl); focus simp only [List.range, List.range.loop, List.size_toArray, List.length_cons, List.length_nil, Nat.reduceAdd])); focus ((repeat' (first | (with_reducible first | exact wg | exact wh) | ((with_reducible first | apply wi | apply wj); focus (simp (discharger := omega) only [go_sem, hx, hvsl, simprocAttr]; with_reducible rfl)))); done)))
    exact ⟨w.length - (i + 1), _, by omega, Norm.headS (own := []) (keep := [1, 2, 8, 10, 11]) (by refine ⟨?_, ?_⟩; (simp (discharger := omega) only [go_sem, simprocAttr]; with_reducible rfl); refine ⟨?_, ?_, ?_, ?_⟩ <;> (simp only [go_sem, simprocAttr]; with_reducible rfl)), i + 1, _, _, rfl, rfl, by omega, by omega, by rw [htk2, List.map_append, ← hvs]; rfl⟩
  obtain rfl : i = w.length := by omega
  have hvs2 : vs = v.map tInt := by rw [hvs, List.take_of_length_le (by omega)]
  clear hvs
  subst hvs2
  have hz3 : ¬ z ≥ 0 := by omega
  refine SW_norm (Norm.frz 10 rfl rfl) ?_
  clear htb
  have htb := Tab.cons c3 Tab.nil
  by_cases h : e = 0
  · have h2 := hiff.1 h
    subst h h2
    repeat' (first | (with_reducible first | apply w1 | apply w2 | apply w3 | apply w4 | apply w5 | apply w6 | apply w7 | apply w8 | apply w9 | apply wa | apply wb | apply wc) | ((with_reducible apply wd); focus decide) | ((with_reducible apply we); focus exact rfl) | ((with_reducible apply wf); focus exact rfl) | ((first | (with_reducible apply SW_run tt_ok hG htb) | ((with_reducible apply SW_draw rfl tt_ok hG htb); (focus kernel_rfl); focus simp only [List.range, List.range.loop, List.size_toArray, List.length_cons, List.length_nil, Nat.reduceAdd])); focus ((repeat' (first | (with_reducible first | exact wg | exact wh) | ((with_reducible first | apply wi | apply wj); focus (simp (discharger := omega) only [go_sem, hz3, tAuto, tErr0, simprocAttr]; with_reducible rfl)))); done)))
    clear htb
    have htb := Tab.cons c4 (Tab.cons c5 (Tab.cons c6 (Tab.cons c7 Tab.nil)))
    repeat' (first | (with_reducible first | apply w1 | apply w2 | apply w3 | apply w4 | apply w5 | apply w6 | apply w7 | apply w8 | apply w9 | apply wa | apply wb | apply wc) | ((with_reducible apply wd); focus decide) | ((with_reducible apply we); focus exact rfl) | ((with_reducible apply wf); focus exact rfl) | ((first | (with_reducible apply SW_run tt_ok hG htb) | ((with_reducible apply SW_draw rfl tt_ok hG htb); (focus kernel_rfl); focus simp only [List.range, List.range.loop, List.size_toArray, List.length_cons, List.length_nil, Nat.reduceAdd])); focus ((repeat' (first | (with_reducible first | exact wg | exact wh) | ((with_reducible first | apply wi | apply wj); focus (simp (discharger := omega) only [go_sem, tAuto, tErr0, simprocAttr]; with_reducible rfl)))); done)))
    exact (by simp (discharger := omega) only [go_sem, simprocAttr])
  · have h2 : ¬ f = 0 := fun q => h (hiff.2 q)
    repeat' (first | (with_reducible first | apply w1 | apply w2 | apply w3 | apply w4 | apply w5 | apply w6 | apply w7 | apply w8 | apply w9 | apply wa | apply wb | apply wc) | ((with_reducible apply wd); focus decide) | ((with_reducible apply we); focus exact rfl) | ((with_reducible apply wf); focus exact rfl) | ((first | (with_reducible apply SW_run tt_ok hG htb) | ((with_reducible apply SW_draw rfl tt_ok hG htb); (focus kernel_rfl); focus simp only [List.range, List.range.loop, List.size_toArray, List.length_cons, List.length_nil, Nat.reduceAdd])); focus ((repeat' (first | (with_reducible first | exact wg | exact wh) | ((with_reducible first | apply wi | apply wj); focus (simp (discharger := omega) only [go_sem, hz3, tAuto, tErr0, tErr, h, h2, simprocAttr]; with_reducible rfl)))); done)))
    clear htb
    have htb := Tab.cons c4 (Tab.cons c5 (Tab.cons c6 (Tab.cons c7 Tab.nil)))
    repeat' (first | (with_reducible first | apply w1 | apply w2 | apply w3 | apply w4 | apply w5 | apply w6 | apply w7 | apply w8 | apply w9 | apply wa | apply wb | apply wc) | ((with_reducible apply wd); focus decide) | ((with_reducible apply we); focus exact rfl) | ((with_reducible apply wf); focus exact rfl) | ((first | (with_reducible apply SW_run tt_ok hG htb) | ((with_reducible apply SW_draw rfl tt_ok hG htb); (focus kernel_rfl); focus simp only [List.range, List.range.loop, List.size_toArray, List.length_cons, List.length_nil, Nat.reduceAdd])); focus ((repeat' (first | (with_reducible first | exact wg | exact wh) | ((with_reducible first | apply wi | apply wj); focus (simp (discharger := omega) only [go_sem, tAuto, tErr0, tErr, h, h2, simprocAttr]; with_reducible rfl)))); done)))
    exact (by simp (discharger := omega) only [go_sem, simprocAttr])
end
theorem TurnTakes_walk (v : Value) (a : GAuto) (u : Value) (l : List Int) (w : World) (h : ReadsAuto w v a) (h' : ReadsInts w u l) (hz : l.length * 8 ≤ 140737488351232) : Calls Try.prog 4 #[v, u] w (Ret (.bool true) w) :=
  walkN (TurnTakes_snd (G := fun _ => True) (fun _ _ _ _ => trivial) a l hz) trivial rfl fun k y z p q => by
    match k, p, q with
    | 0, p, q => cases p; cases q; exact h.2
    | 1, p, q => cases p; cases q; exact h'.2
end Go.Proofs.Ythcclcbliedodaa
namespace Go.Proofs.Ythcclcbliedodaa.turnTakes
open Go.ChangeShapes Go.WideShapes Go.ChangeAt Go.RowKit

set_option maxRecDepth 100000 in
theorem lifted (os : Os) (started : os.Started) (H : Type) (enc : TypeId × Value → H) :
    ReturnsInHanded {} Try.checked os 4 .any (Rows.turnTakesSpec.pre6 enc Try.prog Try.f4 Rows.turnTakesRow.domain false) (Rows.turnTakesSpec.post enc Try.prog Try.f4 false true false false) := by
  refine returnsInHanded_of_change_sized (C := Try.checked) own started (by kernel_rfl) Try.func4
    (ChangeSpec.witness6 (enc := enc) (C := Try.checked) false ⟨#[], #[.agg #[.int .i64 0, .int .i64 0, .slice none 0 0, .slice none 0 0], .slice none 0 0], []⟩ 8 (by kernel_rfl) (by kernel_rfl) (by kernel_rfl) (by kernel_rfl)) ?_
  intro W base args ds gs before hval0 hW hcnd hsz _
  have hval : ∀ (j : Nat) t v, Try.f4.params[j]? = some t → args[j]? = some v → Value.okWide Try.prog W .any base t v := hval0
  have hW' := hW
  obtain ⟨p, q, hA0, hV, rfl, hfz, hnd⟩ := hW
  have hA : DataW.TrodAll enc Try.prog W 0 (fun _ => true) true Try.f4.params.toList args.toList ds p := hA0
  rw [Try.params4] at hA hval
  obtain ⟨v0, vs0, d0, ds0, p0, q0, hargs, rfl, rfl, h0, r0⟩ := trodAll_cons hA
  obtain ⟨v1, vs1, d1, ds1, p1, q1, rfl, rfl, rfl, h1, r1⟩ := trodAll_cons r0
  obtain ⟨rfl, rfl, rfl⟩ := trodAll_nil r1
  obtain rfl : args = #[v0, v1] := by cases args; simp_all
  obtain ⟨rfl, rfl⟩ := trodVars_none hV
  have k0 := h0
  have lt0 : ∀ x ∈ p0, x.block < W.heap.size := by obtain ⟨m, hm⟩ := k0; exact DataW.trod_lt m _ _ _ hm
  obtain ⟨a0, w0⟩ := openAutoT (hval 0 25 v0 rfl rfl) h0
  obtain ⟨b1, len1, cap1, rfl⟩ := okWide_slice Try.underlying26 (hval 1 26 v1 rfl rfl)
  have k1 := h1
  have lt1 : ∀ x ∈ p1, x.block < W.heap.size := by obtain ⟨m, hm⟩ := k1; exact DataW.trod_lt m _ _ _ hm
  obtain ⟨a1, w1⟩ := openIntsT rfl h1
  have sz1 := sized_ints k1 rfl (j := 1) hsz rfl rfl w1
  clear hA0 hval0
  refine (TurnTakes_walk _ a0 _ a1 W w0 w1 sz1).mono fun e W' ⟨he, bel⟩ => ?_
  subst he
  exact ⟨_, rfl, _, _, _, [], _, [], hW', trodAll_mk1 (shut_bool Try.underlying4 _), (trodAll_cons_mk (Below.trod laidOut (by kernel_rfl) (of_decide_eq_true (by kernel_rfl)) k0 bel lt0) (trodAll_cons_mk (Below.trod laidOut (by kernel_rfl) (of_decide_eq_true (by kernel_rfl)) k1 bel lt1) trodAll_mk0)), rfl, bel.frame _, fun h => by cases h⟩

theorem over : Rows.turnTakesRow.holds Try.pinned (OpenSpec.ofChange Rows.turnTakesSpec) :=
  OpenClaim.holds_of_wide 4 Try.f4 rfl rfl rfl rfl rfl rfl rfl ⟨rfl, rfl, rfl, rfl, rfl⟩ rfl rfl rfl rfl rfl (by kernel_rfl) Try.func4 (by kernel_rfl)
    (of_decide_eq_true (by kernel_rfl)) (by unfold Func.isWrapper; first | (rw [if_pos (by decide +kernel)]; kernel_rfl) | (rw [if_neg (by decide +kernel)]; exact ⟨rfl, rfl⟩))
    (fun os started H enc _ => lifted os started H enc)

/-- THE STATEMENT. -/
theorem proved : Rows.TurnTakesSaid := over
#print axioms proved
end Go.Proofs.Ythcclcbliedodaa.turnTakes
