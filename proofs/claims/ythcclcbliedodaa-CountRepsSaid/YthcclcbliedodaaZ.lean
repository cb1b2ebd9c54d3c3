/- The law CountReps returns true at every input and leaves its arguments as they read. No conditions. -/
import Derived.Test.YthcclcbliedodaaM5
set_option linter.unusedSimpArgs false
set_option linter.unusedVariables false
set_option linter.unnecessarySimpa false
set_option linter.unusedSectionVars false
namespace Go.Proofs.Ythcclcbliedodaa
open Go.RowKit

def GRep.zero : GRep := ⟨0, 0, [], [], []⟩
open Classical in
noncomputable def repE (a : GAuto) (track : Int) : Int := if autoFault a ≠ 0 then autoFault a else if track < 0 ∨ a.tracks ≤ track then 1 else 0
noncomputable def repO (a : GAuto) (track : Int) : GRep := if repE a track = 0 then repA a track.toNat else GRep.zero
section
variable {G : World → Prop} (hG : Lasting G)
include hG
set_option maxHeartbeats 32000000 in
set_option maxRecDepth 100000 in
theorem Rep_snd (a : GAuto) (track : Int) : Snd Try.prog G 9 [tAuto a, tInt track] (.tup [tRep (repO a track), tErr (repE a track)]) := by
  have c1 := Check_snd hG a
  refine sndH_of_body (κ := Nat × Nat) (n := 149) (tm := [(0, .t (tAuto a)), (1, .t (tInt track))]) (rs := [.cell 4 29, .tmp 5]) ttR_ok Try.func9 rfl rfl rfl rfl rfl ?_
  have hbad : repE a track ≠ 0 → repO a track = GRep.zero := fun h => if_neg h
  by_cases hf : autoFault a = 0
  rotate_left
  · have he : repE a track = autoFault a := if_pos hf
    rw [hbad (by rw [he]; exact hf), he]
    generalize autoFault a = e at *
    have htb := Tab.cons c1 Tab.nil
    repeat' (first | (with_reducible first | apply v1 | apply v2 | apply v3 | apply v4 | apply v5 | apply v6 | apply v7 | apply v8 | apply v9 | apply va | apply vb | apply vc) | ((with_reducible apply vd); focus decide) | ((with_reducible apply ve); focus exact rfl) | ((with_reducible apply vf); focus exact rfl) | ((first | (with_reducible apply HW_run ttR_ok hG htb) | ((with_reducible apply HW_draw rfl ttR_ok hG htb); (focus kernel_rfl); focus simp only [List.range, List.range.loop, List.size_toArray, List.length_cons, List.length_nil, Nat.reduceAdd])); focus ((repeat' (first | (with_reducible first | exact wg | exact wh) | ((with_reducible first | apply wi | apply wj); focus (simp (discharger := omega) only [go_sem, tAuto, tErr, hf, simprocAttr]; with_reducible rfl)))); done)))
    exact (by simp (discharger := omega) only [go_sem, tRep, tErr, hf, GRep.zero, simprocAttr])
  rw [hf] at c1
  have htb := Tab.cons c1 Tab.nil
  by_cases hk0 : track < 0
  · have he : repE a track = 1 := by unfold repE; rw [if_neg (fun q => q hf), if_pos (.inl hk0)]
    rw [hbad (by rw [he]; decide), he]
    have h1 := eq_true hk0
    repeat' (first | (with_reducible first | apply v1 | apply v2 | apply v3 | apply v4 | apply v5 | apply v6 | apply v7 | apply v8 | apply v9 | apply va | apply vb | apply vc) | ((with_reducible apply vd); focus decide) | ((with_reducible apply ve); focus exact rfl) | ((with_reducible apply vf); focus exact rfl) | ((first | (with_reducible apply HW_run ttR_ok hG htb) | ((with_reducible apply HW_draw rfl ttR_ok hG htb); (focus kernel_rfl); focus simp only [List.range, List.range.loop, List.size_toArray, List.length_cons, List.length_nil, Nat.reduceAdd])); focus ((repeat' (first | (with_reducible first | exact wg | exact wh) | ((with_reducible first | apply wi | apply wj); focus (simp (discharger := omega) only [go_sem, tAuto, tErr0, h1, simprocAttr]; with_reducible rfl)))); done)))
    exact (by simp (discharger := omega) only [go_sem, tRep, tErr, GRep.zero, simprocAttr])
  by_cases hkt : a.tracks ≤ track
  · have he : repE a track = 1 := by unfold repE; rw [if_neg (fun q => q hf), if_pos (.inr hkt)]
    rw [hbad (by rw [he]; decide), he]
    have hk1 : track ≥ a.tracks := hkt
    have hk2 := eq_true hk1
    repeat' (first | (with_reducible first | apply v1 | apply v2 | apply v3 | apply v4 | apply v5 | apply v6 | apply v7 | apply v8 | apply v9 | apply va | apply vb | apply vc) | ((with_reducible apply vd); focus decide) | ((with_reducible apply ve); focus exact rfl) | ((with_reducible apply vf); focus exact rfl) | ((first | (with_reducible apply HW_run ttR_ok hG htb) | ((with_reducible apply HW_draw rfl ttR_ok hG htb); (focus kernel_rfl); focus simp only [List.range, List.range.loop, List.size_toArray, List.length_cons, List.length_nil, Nat.reduceAdd])); focus ((repeat' (first | (with_reducible first | exact wg | exact wh) | ((with_reducible first | apply wi | apply wj); focus (simp (discharger := omega) only [go_sem, tAuto, tErr0, hk0, hk2, simprocAttr]; with_reducible rfl)))); done)))
    exact (by simp (discharger := omega) only [go_sem, tRep, tErr, GRep.zero, simprocAttr])
  obtain ⟨k, rfl⟩ : ∃ k : Nat, track = (k : Int) := ⟨track.toNat, by omega⟩
  have he : repE a (k : Int) = 0 := by unfold repE; rw [if_neg (fun q => q hf), if_neg (by omega)]
  have hO : repO a (k : Int) = repA a k := by unfold repO; rw [if_pos he, Int.toNat_natCast]
  rw [hO, he]
  clear hbad hO he
  repeat' (first | (with_reducible first | apply v1 | apply v2 | apply v3 | apply v4 | apply v5 | apply v6 | apply v7 | apply v8 | apply v9 | apply va | apply vb | apply vc) | ((with_reducible apply vd); focus decide) | ((with_reducible apply ve); focus exact rfl) | ((with_reducible apply vf); focus exact rfl) | ((first | (with_reducible apply HW_run ttR_ok hG htb) | ((with_reducible apply HW_draw rfl ttR_ok hG htb); (focus kernel_rfl); focus simp only [List.range, List.range.loop, List.size_toArray, List.length_cons, List.length_nil, Nat.reduceAdd])); focus ((repeat' (first | (with_reducible first | exact wg | exact wh) | ((with_reducible first | apply wi | apply wj); focus (simp (discharger := omega) only [go_sem, tAuto, tErr0, hk0, hkt, simprocAttr]; with_reducible rfl)))); done)))
  clear htb
  refine HW_norm (Norm.headS (own := []) (keep := [1, 2, 4, 7]) (by refine ⟨?_, ?_⟩; (simp (discharger := omega) only [go_sem, simprocAttr]; with_reducible rfl); refine ⟨?_, ?_, ?_, ?_⟩ <;> (simp only [go_sem, simprocAttr]; with_reducible rfl))) ?_
  refine HW_norm (Norm.fixBox 0 rfl rfl) ?_
  refine HW_norm (Norm.tr 2 rfl rfl) ?_
  refine HW_norm (Norm.headS (own := []) (keep := [1, 2, 4, 7]) (by refine ⟨?_, ?_⟩; (simp (discharger := omega) only [go_sem, simprocAttr]; with_reducible rfl); refine ⟨?_, ?_, ?_, ?_⟩ <;> (simp only [go_sem, simprocAttr]; with_reducible rfl))) ?_
  obtain ⟨t, nW, r, ok⟩ := left_ok hf (k := k) (by omega)
  have g0 := ok.good
  have htt : a.tracks - 1 = ((t : Nat) : Int) := by have := ok.tr; omega
  have htr := ok.tr
  have ht4 := ok.t4
  have hkt2 := ok.kt
  have hn36 := ok.nW36
  have hn0 := ok.nW0
  have hrad0 := ok.rad0
  have hmany := ok.many
  have hdlt := ok.drop_lt
  have cM := Many_snd hG a.base (t : Int)
  rw [ok.nWe, ok.many] at cM
  have cU := fun L : Nat => Unpack_snd hG a.base a.tracks (L : Int)
  have hWl := withW_len ok
  have hWat : ∀ l, l < nW → (withW a.base t k)[l]? = some (withR a.base t k l) := fun l hl => withW_get ok hl
  obtain ⟨N, hN⟩ : ∃ N, (manyOf a.base a.tracks).toNat = N := ⟨_, rfl⟩
  have hsel := fun (l : Nat) (hl : l < nW) (m s : Nat) => cntRow_sel ok hl a.next m s
  rw [hN] at g0 hsel
  obtain ⟨m, hm⟩ : ∃ m, a.next.length = m := ⟨_, rfl⟩
  rw [hm] at g0
  have gR := g0.rows
  have hm0 := g0.m0
  have hm80 := g0.m80
  have hN36 := g0.n36
  have hmE := g0.ends
  have hNe := g0.n_eq
  have hgm := g0.many
  have hrep : repA a k = ⟨a.base, (t : Int), firstV m, (withW a.base t k).map (matM a.next m), lastV a.ends⟩ := by unfold repA; rw [hm, htt, Int.toNat_natCast]
  rw [hrep]
  obtain ⟨W, hW⟩ : ∃ W, withW a.base t k = W := ⟨_, rfl⟩
  rw [hW] at hWl hWat ⊢
  obtain ⟨F, hF⟩ : ∃ F, firstV m = F := ⟨_, rfl⟩
  obtain ⟨Lv, hL⟩ : ∃ Lv, lastV a.ends = Lv := ⟨_, rfl⟩
  have hFl : F.length = m := by rw [← hF]; simp [firstV]
  have hLl : Lv.length = m := by rw [← hL]; simp [lastV, hmE]
  have hF0 : F = (List.replicate m 0).set 0 1 := by
    rw [← hF]
    apply List.ext_getElem
    · simp [firstV]
    · intro i h1 h2
      simp only [firstV, List.getElem_map, List.getElem_range, List.getElem_set, List.getElem_replicate]
      by_cases e : i = 0
      · rw [if_pos e, if_pos e.symm]
      · rw [if_neg e, if_neg fun q => e q.symm]
  rw [hF, hL]
  have htb := Tab.cons cM Tab.nil
  rw [hm]
  refine HW_norm (Norm.hole _) ?_
  refine HW_norm (Norm.hole _) ?_
  refine HW_norm (Norm.hole _) ?_
  refine HW_sw ?_
  (with_reducible apply SW_drawB [(6, 1), (8, 2), (10, 3)] rfl ttR_ok hG htb)
  · kernel_rfl
  · simp only [List.range, List.range.loop, List.size_toArray, List.length_cons, List.length_nil, Nat.reduceAdd]
    repeat' (first | (with_reducible exact runG_nil) | ((with_reducible apply runG_cons); focus (simp (discharger := omega) only [go_sem, stepB, allocB, newOb, refOb, htt, hm, simprocAttr]; with_reducible rfl)))
  refine HThen_n ?_
  repeat' (first | (with_reducible first | apply v1 | apply v2 | apply v3 | apply v4 | apply v5 | apply v6 | apply v7 | apply v8 | apply v9 | apply va | apply vb | apply vc) | ((with_reducible apply vd); focus decide) | ((with_reducible apply ve); focus exact rfl) | ((with_reducible apply vf); focus exact rfl) | ((first | (with_reducible apply HW_run ttR_ok hG htb) | ((with_reducible apply HW_draw rfl ttR_ok hG htb); (focus kernel_rfl); focus simp only [List.range, List.range.loop, List.size_toArray, List.length_cons, List.length_nil, Nat.reduceAdd])); focus ((repeat' (first | (with_reducible first | exact wg | exact wh) | ((with_reducible first | apply wi | apply wj); focus (simp (discharger := omega) only [go_sem, tErr0, simprocAttr]; with_reducible rfl)))); done)))
  clear htb
  have htb : Tab.ok Try.prog G [] := Tab.nil
  have hall : ∀ l : List Int, (l.all fun _ => true) = true := fun l => by simp
  refine HW_loop (fun mm st g => ∃ (l : Nat) (tops : List T), mm = nW - l ∧ st = ⟨149, [(1, .t (tInt k)), (2, .t (autoP a)), (4, .bptr 0 0), (7, .t (tNat m)), (8, .bptr 1 0), (61, .t (tNat nW)), (62, .t (tNat l))], [.box [.t (tInt 0), .t (tInt 0), .nil, .nil, .nil], .box [.t (tInt a.base), .t (tNat t), .sref 2, .sref 3, .sref 4], .row 3 1 true (F.map (T.int .i64)), .row 22 1 true tops, .row 3 1 true (List.replicate m (T.int .i64 0))]⟩ ∧ l ≤ nW ∧ RepInv g tops l m (fun _ _ => List.replicate m 0)) nW
    ⟨_, ((Norm.headS (own := []) (keep := [1, 2, 4, 7, 8, 61, 62]) (by refine ⟨?_, ?_⟩; (simp (discharger := omega) only [go_sem, simprocAttr]; with_reducible rfl); refine ⟨?_, ?_, ?_, ?_⟩ <;> (simp only [go_sem, simprocAttr]; with_reducible rfl))).trans (Norm.ownB (j := 1) (off := 3) (e := 22) (sz := 1) rfl rfl (by decide))).trans (Norm.headS (own := []) (keep := [1, 2, 4, 7, 8, 61, 62]) (by refine ⟨?_, ?_⟩; (simp (discharger := omega) only [go_sem, simprocAttr]; with_reducible rfl); refine ⟨?_, ?_, ?_, ?_⟩ <;> (simp only [go_sem, simprocAttr]; with_reducible rfl))), 0, [], rfl, by rw [hF0, List.map_set, List.map_replicate]; rfl, Nat.zero_le _, RepInv.start m _⟩ ?_
  rintro mm st g ⟨l, tops, rfl, rfl, hl, hinv⟩
  have htl := hinv.len
  by_cases hlt : l < nW
  · repeat' (first | (with_reducible first | apply v1 | apply v2 | apply v3 | apply v4 | apply v5 | apply v6 | apply v7 | apply v8 | apply v9 | apply va | apply vb | apply vc) | ((with_reducible apply vd); focus decide) | ((with_reducible apply ve); focus exact rfl) | ((with_reducible apply vf); focus exact rfl) | ((first | (with_reducible apply HW_run ttR_ok hG htb) | ((with_reducible apply HW_draw rfl ttR_ok hG htb); (focus kernel_rfl); focus simp only [List.range, List.range.loop, List.size_toArray, List.length_cons, List.length_nil, Nat.reduceAdd])); focus ((repeat' (first | (with_reducible first | exact wg | exact wh) | ((with_reducible first | apply wi | apply wj); focus (simp (discharger := omega) only [go_sem, simprocAttr]; with_reducible rfl)))); done)))
    refine HW_loop (fun mm st g' => ∃ (s : Nat) (ms : List T), mm = m - s ∧ st = ⟨149, [(1, .t (tInt k)), (2, .t (autoP a)), (4, .bptr 0 0), (7, .t (tNat m)), (8, .bptr 1 0), (11, .sref 2), (61, .t (tNat nW)), (62, .t (tNat l)), (67, .t (tNat m)), (68, .t (tNat s))], [.box [.t (tInt 0), .t (tInt 0), .nil, .nil, .nil], .box [.t (tInt a.base), .t (tNat t), .sref 3, .sref 4, .sref 5], .row 26 1 true ms, .row 3 1 true (F.map (T.int .i64)), .row 22 1 true tops, .row 3 1 true (List.replicate m (T.int .i64 0))]⟩ ∧ s ≤ m ∧ MatInv g' g ms l m s) m
      ⟨_, Norm.headS (own := []) (keep := [1, 2, 4, 7, 8, 11, 61, 62, 67, 68]) (by refine ⟨?_, ?_⟩; (simp (discharger := omega) only [go_sem, simprocAttr]; with_reducible rfl); refine ⟨?_, ?_, ?_, ?_⟩ <;> (simp only [go_sem, simprocAttr]; with_reducible rfl)), 0, _, rfl, rfl, Nat.zero_le _, MatInv.start fun q => hinv.out l q (Nat.le_refl _)⟩ ?_
    rintro mm st g' ⟨s, ms, rfl, rfl, hs, hmat⟩
    have hmsl := hmat.len
    by_cases hsm : s < m
    · refine HW_seq ?_
      repeat' (first | (with_reducible first | apply v2 | apply v3 | apply v4 | apply v5 | apply v6 | apply v7 | apply v8 | apply v9 | apply va | apply vb | apply vc) | ((with_reducible apply vd); focus decide) | ((with_reducible apply ve); focus exact rfl) | ((with_reducible apply vf); focus exact rfl) | ((first | (with_reducible apply HW_run ttR_ok hG htb) | ((with_reducible apply HW_draw rfl ttR_ok hG htb); (focus kernel_rfl); focus simp only [List.range, List.range.loop, List.size_toArray, List.length_cons, List.length_nil, Nat.reduceAdd])); focus ((repeat' (first | (with_reducible first | exact wg | exact wh) | ((with_reducible first | apply wi | apply wj); focus (simp (discharger := omega) only [go_sem, simprocAttr]; with_reducible rfl)))); done)))
      refine HW_seq ?_
      repeat' (first | (with_reducible first | apply v2 | apply v3 | apply v4 | apply v5 | apply v6 | apply v7 | apply v8 | apply v9 | apply va | apply vb | apply vc) | ((with_reducible apply vd); focus decide) | ((with_reducible apply ve); focus exact rfl) | ((with_reducible apply vf); focus exact rfl) | ((first | (with_reducible apply HW_run ttR_ok hG htb) | ((with_reducible apply HW_draw rfl ttR_ok hG htb); (focus kernel_rfl); focus simp only [List.range, List.range.loop, List.size_toArray, List.length_cons, List.length_nil, Nat.reduceAdd])); focus ((repeat' (first | (with_reducible first | exact wg | exact wh) | ((with_reducible first | apply wi | apply wj); focus (simp (discharger := omega) only [go_sem, simprocAttr]; with_reducible rfl)))); done)))
      refine HW_seq ?_
      refine HW_block ?_
      refine HW_seq ?_
      refine HW_run ttR_ok hG htb (by (repeat' (first | (with_reducible exact runX_nil) | ((with_reducible apply runX_cons); focus (simp (discharger := omega) only [go_sem, simprocAttr]; with_reducible rfl))))) ?_
      refine HThen_n ?_
      refine HW_region ?_
      refine HL_run ttR_ok hG htb 4 (by simp only [List.take_succ_cons, List.take_zero]; rfl) (by simp only [List.drop_succ_cons, List.drop_zero, Nat.reduceAdd]; rfl) (by (repeat' (first | (with_reducible exact runX_nil) | ((with_reducible apply runX_cons); focus (simp (discharger := omega) only [go_sem, simprocAttr]; with_reducible rfl))))) ?_
      refine HL_gs (GS_hide 74 (l, s + 1) (hmat.out (s + 1) (by omega)) rfl rfl (by simp [T.flatData])) fun c => ?_
      refine HL_run ttR_ok hG htb 2 (by simp only [List.take_succ_cons, List.take_zero]; rfl) (by simp only [List.drop_succ_cons, List.drop_zero, Nat.reduceAdd]; rfl) (by (repeat' (first | (with_reducible exact runX_nil) | ((with_reducible apply runX_cons); focus (simp (discharger := omega) only [go_sem, simprocAttr]; with_reducible rfl))))) ?_
      refine HL_nil ?_
      have hst := hmat.step hsm c
      repeat' (first | (with_reducible first | apply v1 | apply v2 | apply v3 | apply v4 | apply v5 | apply v6 | apply v7 | apply v8 | apply v9 | apply va | apply vb | apply vc) | ((with_reducible apply vd); focus decide) | ((with_reducible apply ve); focus exact rfl) | ((with_reducible apply vf); focus exact rfl) | ((first | (with_reducible apply HW_run ttR_ok hG htb) | ((with_reducible apply HW_draw rfl ttR_ok hG htb); (focus kernel_rfl); focus simp only [List.range, List.range.loop, List.size_toArray, List.length_cons, List.length_nil, Nat.reduceAdd])); focus ((repeat' (first | (with_reducible first | exact wg | exact wh) | ((with_reducible first | apply wi | apply wj); focus (simp (discharger := omega) only [go_sem, simprocAttr]; with_reducible rfl)))); done)))
      exact ⟨m - (s + 1), _, by omega, Norm.headS (own := []) (keep := [1, 2, 4, 7, 8, 11, 61, 62, 67, 68]) (by refine ⟨?_, ?_⟩; (simp (discharger := omega) only [go_sem, simprocAttr]; with_reducible rfl); refine ⟨?_, ?_, ?_, ?_⟩ <;> (simp only [go_sem, simprocAttr]; with_reducible rfl)), s + 1, _, rfl, rfl, by omega, by simpa [iL] using hst⟩
    · obtain rfl : s = m := by omega
      refine HW_gs (GS_hide 11 (l, 0) (hmat.out 0 (.inl rfl)) rfl rfl (List.all_eq_true.2 fun x hx => by obtain ⟨_, _, _, rfl⟩ := hmat.raws x hx; rfl)) fun c => ?_
      repeat' (first | (with_reducible first | apply v1 | apply v2 | apply v3 | apply v4 | apply v5 | apply v6 | apply v7 | apply v8 | apply v9 | apply va | apply vb | apply vc) | ((with_reducible apply vd); focus decide) | ((with_reducible apply ve); focus exact rfl) | ((with_reducible apply vf); focus exact rfl) | ((first | (with_reducible apply HW_run ttR_ok hG htb) | ((with_reducible apply HW_draw rfl ttR_ok hG htb); (focus kernel_rfl); focus simp only [List.range, List.range.loop, List.size_toArray, List.length_cons, List.length_nil, Nat.reduceAdd])); focus ((repeat' (first | (with_reducible first | exact wg | exact wh) | ((with_reducible first | apply wi | apply wj); focus (simp (discharger := omega) only [go_sem, htl, simprocAttr]; with_reducible rfl)))); done)))
      exact ⟨nW - (l + 1), _, by omega, Norm.headS (own := []) (keep := [1, 2, 4, 7, 8, 61, 62]) (by refine ⟨?_, ?_⟩; (simp (discharger := omega) only [go_sem, simprocAttr]; with_reducible rfl); refine ⟨?_, ?_, ?_, ?_⟩ <;> (simp only [go_sem, simprocAttr]; with_reducible rfl)), l + 1, _, rfl, rfl, by omega, hinv.snoc hmat c fun _ => rfl⟩
  obtain rfl : l = nW := by omega
  have hLat : ∀ i (b : Bool), a.ends[i]! = b → i < m → Lv[i]? = some (if b = true then 1 else 0) := fun i b hb hi => by
    rw [← hL]
    show (a.ends.map _)[i]? = _
    rw [List.getElem?_map, bang_get hb (by omega)]; rfl
  repeat' (first | (with_reducible first | apply v1 | apply v2 | apply v3 | apply v4 | apply v5 | apply v6 | apply v7 | apply v8 | apply v9 | apply va | apply vb | apply vc) | ((with_reducible apply vd); focus decide) | ((with_reducible apply ve); focus exact rfl) | ((with_reducible apply vf); focus exact rfl) | ((first | (with_reducible apply HW_run ttR_ok hG htb) | ((with_reducible apply HW_draw rfl ttR_ok hG htb); (focus kernel_rfl); focus simp only [List.range, List.range.loop, List.size_toArray, List.length_cons, List.length_nil, Nat.reduceAdd])); focus ((repeat' (first | (with_reducible first | exact wg | exact wh) | ((with_reducible first | apply wi | apply wj); focus (simp (discharger := omega) only [go_sem, autoP, hm, simprocAttr]; with_reducible rfl)))); done)))
  refine HW_loop (fun mm st g => ∃ (s : Nat), mm = m - s ∧ st = ⟨149, [(1, .t (tInt k)), (2, .t (autoP a)), (4, .bptr 0 0), (7, .t (tNat m)), (8, .bptr 1 0), (85, .t (tIntss a.next)), (86, .t (tNat m)), (87, .t (tNat s))], [.box [.t (tInt 0), .t (tInt 0), .nil, .nil, .nil], .box [.t (tInt a.base), .t (tNat t), .sref 2, .sref 3, .sref 4], .row 3 1 true (F.map (T.int .i64)), .row 22 1 true tops, .row 3 1 true ((fillB Lv s).map (T.int .i64))]⟩ ∧ s ≤ m ∧ RepInv g tops l m (cntC a t k m N s 0)) m
    ⟨_, Norm.headS (own := []) (keep := [1, 2, 4, 7, 8, 85, 86, 87]) (by refine ⟨?_, ?_⟩; (simp (discharger := omega) only [go_sem, simprocAttr]; with_reducible rfl); refine ⟨?_, ?_, ?_, ?_⟩ <;> (simp only [go_sem, simprocAttr]; with_reducible rfl)), 0, rfl, by rw [fillB_zero, List.map_replicate, hLl]; rfl, Nat.zero_le _, hinv.congr fun _ _ _ _ => cntC_start⟩ ?_
  clear hinv
  rintro mm st g ⟨s, rfl, rfl, hs, hinv⟩
  have hll := fillB_len (s := Lv) (i := s) (by omega)
  by_cases hsm : s < m
  · obtain ⟨row, hrow⟩ : ∃ row, a.next[s]! = row := ⟨_, rfl⟩
    have hrl := gR.row row (bang_mem hrow (by omega))
    have hro : rowOf a.next ((s : Nat) : Int) = row := by unfold rowOf; exact bang_D hrow (by simpa [hm] using hsm)
    obtain ⟨b, hb⟩ : ∃ b, a.ends[s]! = b := ⟨_, rfl⟩
    have hLb := hLat s b hb hsm
    obtain ⟨Q, hQ⟩ : ∃ Q, fillB Lv (s + 1) = Q := ⟨_, rfl⟩
    have hQb : (b = false ∧ (fillB Lv s).map (T.int .i64) = Q.map (T.int .i64)) ∨ (b = true ∧ ((fillB Lv s).map (T.int .i64)).set s (T.int .i64 1) = Q.map (T.int .i64)) := by
      cases b with
      | false => exact .inl ⟨rfl, by rw [fill_skip (N := Lv) (s := s) hLb, hQ]⟩
      | true => exact .inr ⟨rfl, by rw [← hQ, ← fillB_set (s := Lv) (i := s) hLb, List.map_set]; rfl⟩
    rcases hQb with ⟨rfl, hQ2⟩ | ⟨rfl, hQ2⟩
    all_goals
      repeat' (first | (with_reducible first | apply v1 | apply v2 | apply v3 | apply v4 | apply v5 | apply v6 | apply v7 | apply v8 | apply v9 | apply va | apply vb | apply vc) | ((with_reducible apply vd); focus decide) | ((with_reducible apply ve); focus exact rfl) | ((with_reducible apply vf); focus exact rfl) | ((first | (with_reducible apply HW_run ttR_ok hG htb) | ((with_reducible apply HW_draw rfl ttR_ok hG htb); (focus kernel_rfl); focus simp only [List.range, List.range.loop, List.size_toArray, List.length_cons, List.length_nil, Nat.reduceAdd])); focus ((repeat' (first | (with_reducible first | exact wg | exact wh) | ((with_reducible first | apply wi | apply wj); focus (simp (discharger := omega) only [go_sem, hrow, hb, autoP, hmE, hll, hrl, simprocAttr]; with_reducible rfl)))); done)))
      refine HW_loop (fun mm st g => ∃ (L : Nat), mm = N - L ∧ st = ⟨149, [(1, .t (tInt k)), (2, .t (autoP a)), (4, .bptr 0 0), (7, .t (tNat m)), (8, .bptr 1 0), (13, .t (tNat s)), (85, .t (tIntss a.next)), (86, .t (tNat m)), (87, .t (tNat s)), (101, .t (tInts row)), (102, .t (tNat N)), (103, .t (tNat L))], [.box [.t (tInt 0), .t (tInt 0), .nil, .nil, .nil], .box [.t (tInt a.base), .t (tNat t), .sref 2, .sref 3, .sref 4], .row 3 1 true (F.map (T.int .i64)), .row 22 1 true tops, .row 3 1 true (Q.map (T.int .i64))]⟩ ∧ L ≤ N ∧ RepInv g tops l m (cntC a t k m N s L)) N
        ⟨_, Norm.headS (own := []) (keep := [1, 2, 4, 7, 8, 13, 85, 86, 87, 101, 102, 103]) (by refine ⟨?_, ?_⟩; (simp (discharger := omega) only [go_sem, simprocAttr]; with_reducible rfl); refine ⟨?_, ?_, ?_, ?_⟩ <;> (simp only [go_sem, simprocAttr]; with_reducible rfl)), 0, rfl, by rw [← hQ2]; rfl, Nat.zero_le _, hinv⟩ ?_
      clear hinv
      rintro mm st g ⟨L, rfl, rfl, hLN, hinv⟩
      by_cases hLN2 : L < N
      · obtain ⟨y, hy⟩ : ∃ y, row[L]! = y := ⟨_, rfl⟩
        have hyb := gR.ok row (bang_mem hrow (by omega)) y (bang_mem hy (by omega))
        obtain ⟨x, rfl⟩ := Int.eq_ofNat_of_zero_le hyb.1
        have hnx : nx a.next ((s : Nat) : Int) L = ((x : Nat) : Int) := by unfold nx; rw [hro]; exact bang_D hy (by omega)
        have cu := cU L
        obtain ⟨u1, u2⟩ := unpackErr_ok (base := a.base) (t := a.tracks) (l := (L : Int)) hgm (by rw [hNe]; omega)
        rw [u1, u2, htr, Int.toNat_natCast, ← htr] at cu
        obtain ⟨D, hD⟩ : ∃ D, unpack (radix a.base) (t + 1) (L : Int) = D := ⟨_, rfl⟩
        have hDl : D.length = t + 1 := by rw [← hD]; exact unpack_length _ _ _
        have hDo : ∀ z ∈ D, 0 ≤ z ∧ z < radix a.base := by rw [← hD]; exact unpack_ok (radix_two hrad0).1 _ _
        obtain ⟨kk, hkk⟩ : ∃ kk, dropL a.base t k L = kk := ⟨_, rfl⟩
        have hkl : kk < l := by rw [← hkk]; exact hdlt L
        obtain ⟨d1, e1⟩ : ∃ d1, D.take k = d1 := ⟨_, rfl⟩
        obtain ⟨d2, e2⟩ : ∃ d2, D.drop (k + 1) = d2 := ⟨_, rfl⟩
        have l1 : d1.length = k := by rw [← e1, List.length_take]; omega
        have l2 : d2.length = t - k := by rw [← e2, List.length_drop]; omega
        have m1 : (D.map tInt).take k = d1.map tInt := by rw [← e1, List.map_take]
        have m2 : (D.map tInt).drop (k + 1) = d2.map tInt := by rw [← e2, List.map_drop]
        have m3 : (D.map tInt).take D.length = D.map tInt := List.take_of_length_le (by simp)
        have hk1 : (((k : Nat) : Int) + 1).toNat = k + 1 := by omega
        have cp := Pack_snd hG a.base (d1 ++ d2)
        have hdd : d1 ++ d2 = D.eraseIdx k := by rw [List.eraseIdx_eq_take_drop_succ, e1, e2]
        obtain ⟨p1, p2⟩ := packErr_ok (base := a.base) (d := d1 ++ d2) (by rw [List.length_append, l1, l2, show ((k + (t - k) : Nat) : Int) = (t : Int) by omega]; exact hmany) (fun z hz => hDo z (by rw [hdd] at hz; exact List.mem_of_mem_eraseIdx hz))
        have p3 : pack (radix a.base) (d1 ++ d2) = ((kk : Nat) : Int) := by rw [hdd, ← hkk, dropL_int hrad0, hD]
        rw [p1, p2, p3] at cp
        rw [hD] at cu
        clear htb
        have htb := Tab.cons cu Tab.nil
        repeat' (first | (with_reducible first | apply v1 | apply v2 | apply v3 | apply v4 | apply v5 | apply v6 | apply v7 | apply v8 | apply v9 | apply va | apply vb | apply vc) | ((with_reducible apply vd); focus decide) | ((with_reducible apply ve); focus exact rfl) | ((with_reducible apply vf); focus exact rfl) | ((first | (with_reducible apply HW_run ttR_ok hG htb) | ((with_reducible apply HW_draw rfl ttR_ok hG htb); (focus kernel_rfl); focus simp only [List.range, List.range.loop, List.size_toArray, List.length_cons, List.length_nil, Nat.reduceAdd])); focus ((repeat' (first | (with_reducible first | exact wg | exact wh) | ((with_reducible first | apply wi | apply wj); focus (simp (discharger := omega) only [go_sem, hy, tErr0, autoP, simprocAttr]; with_reducible rfl)))); done)))
        clear htb
        have htb := Tab.cons cp Tab.nil
        refine HW_norm (Norm.headS (own := []) (keep := [1, 2, 4, 7, 8, 13, 15, 16, 17, 85, 86, 87, 101, 102, 103]) (by refine ⟨?_, ?_⟩; (simp (discharger := omega) only [go_sem, simprocAttr]; with_reducible rfl); refine ⟨?_, ?_, ?_, ?_⟩ <;> (simp only [go_sem, simprocAttr]; with_reducible rfl))) ?_
        refine HW_sw ?_
        (with_reducible apply SW_drawL [0, 1, 7, 8, 9, 10] rfl ttR_ok hG htb)
        · kernel_rfl
        · simp only [List.range, List.range.loop, List.size_toArray, List.length_cons, List.length_nil, Nat.reduceAdd]
          repeat' (first | (with_reducible exact runG_nil) | ((with_reducible apply runG_cons); focus (simp (discharger := omega) only [go_sem, stepL, isT, dsE, opsE, Option.toList_some, Option.toList_none, Option.all_some, loadT, autoP, tErr0, Function.comp_def, hall, m1, m2, m3, hk1, List.length_append, List.map_append, simprocAttr]; with_reducible rfl)))
        refine HThen_n ?_
        refine HW_norm (Norm.headS (own := []) (keep := [1, 2, 4, 7, 8, 13, 16, 19, 85, 86, 87, 101, 102, 103]) (by refine ⟨?_, ?_⟩; (simp (discharger := omega) only [go_sem, simprocAttr]; with_reducible rfl); refine ⟨?_, ?_, ?_, ?_⟩ <;> (simp only [go_sem, simprocAttr]; with_reducible rfl))) ?_
        obtain ⟨⟨ma, mn, mc, me, msz, ml⟩, q1, q2, q3, q4, q5, q6⟩ := hinv.mid kk hkl
        obtain ⟨⟨ia, inn, ic, ie, isz, il⟩, r1, r2, r3, r4, r5⟩ := q6 s hsm
        simp only at q2 q3 q5 r2 r3 r4 r5
        subst q2 q3 r2 r3
        obtain ⟨X, hX⟩ : ∃ X, cntC a t k m N s L kk s = X := ⟨_, rfl⟩
        have hXl : X.length = m := by rw [← hX]; exact cntC_len
        have hXb := cntC_bd (a := a) (t := t) (k := k) (m := m) (N := N) (s := s) (L := L) (l := kk) (q := s) hLN
        rw [hX] at hXb r4
        have r4' : il = X.map (T.int .i64) := r4
        clear r4
        subst r4'
        obtain ⟨c, hc⟩ : ∃ c, X[x]! = c := ⟨_, rfl⟩
        have hcb := hXb c (bang_mem hc (by omega))
        have hwr : IntKind.i64.wrap (c + 1) = c + 1 := wrap_i64 _ (by omega)
        have hX' : cntC a t k m N s (L + 1) kk s = X.set x (c + 1) := by
          rw [← hkk]
          rw [cntC_at hnx (by omega) (c := c) (by rw [hkk, hX]; exact hc), hkk, hX]
        have hput := hinv.put hkl hsm (C' := cntC a t k m N s (L + 1)) q1 r1 (fun k' s' hne => cntC_other (by rw [hkk]; exact hne))
        rw [hX'] at hput
        have hset : (X.map (T.int .i64)).set x (T.int .i64 (c + 1)) = (X.set x (c + 1)).map (T.int .i64) := (List.map_set ..).symm
        have q4' : tops[kk]! = T.raw ma mn mc := q4
        have r5' : ml[s]! = T.raw ia inn ic := r5
        refine HW_region ?_
        refine HL_run ttR_ok hG htb 5 (by simp only [List.take_succ_cons, List.take_zero]; rfl) (by simp only [List.drop_succ_cons, List.drop_zero, Nat.reduceAdd]; rfl) (by (repeat' (first | (with_reducible exact runX_nil) | ((with_reducible apply runX_cons); focus (simp (discharger := omega) only [go_sem, q4', htl, simprocAttr]; with_reducible rfl))))) ?_
        refine HL_gs (GS_show (x := (kk, 0)) (t := 137) 149 q1 rfl (Nat.le_refl _)) fun _ => ?_
        refine HL_run ttR_ok hG htb 3 (by simp only [List.take_succ_cons, List.take_zero]; rfl) (by simp only [List.drop_succ_cons, List.drop_zero, Nat.reduceAdd]; rfl) (by (repeat' (first | (with_reducible exact runX_nil) | ((with_reducible apply runX_cons); focus (simp (discharger := omega) only [go_sem, r5', q5, simprocAttr]; with_reducible rfl))))) ?_
        refine HL_gs (GS_show (x := (kk, s + 1)) (t := 140) 150 (by simp only [upd]; rw [if_neg (by simp)]; exact r1) rfl (by show 149 ≤ 150; omega)) fun _ => ?_
        refine HL_run ttR_ok hG htb 6 (by simp only [List.take_succ_cons, List.take_zero]; rfl) (by simp only [List.drop_succ_cons, List.drop_zero, Nat.reduceAdd]; rfl) (by (repeat' (first | (with_reducible exact runX_nil) | ((with_reducible apply runX_cons); focus (simp (discharger := omega) only [go_sem, hc, hXl, hwr, hset, simprocAttr]; with_reducible rfl))))) ?_
        have hfl : ((X.set x (c + 1)).map (T.int .i64)).all T.flatData = true := by rw [List.all_map]; exact List.all_eq_true.2 fun _ _ => rfl
        have hmlf : ml.all T.flatData = true := List.all_eq_true.2 fun y hy => by
          obtain ⟨i, hi, rfl⟩ := List.getElem_of_mem hy
          obtain ⟨h', _, _, _, _, e⟩ := q6 i (by rw [← q5]; exact hi)
          have e' : ml[i]! = h'.raw := e
          rw [getElem!_pos ml i hi] at e'
          rw [e']; rfl
        refine HL_gs (GS_back (j := 6) 150 (kk, s + 1) (by simp [upd]) rfl rfl hfl) fun _ => ?_
        refine HL_gs (GS_back (j := 5) 149 (kk, 0) (by simp [upd]) rfl rfl hmlf) fun _ => ?_
        refine HL_nil ?_
        repeat' (first | (with_reducible first | apply v1 | apply v2 | apply v3 | apply v4 | apply v5 | apply v6 | apply v7 | apply v8 | apply v9 | apply va | apply vb | apply vc) | ((with_reducible apply vd); focus decide) | ((with_reducible apply ve); focus exact rfl) | ((with_reducible apply vf); focus exact rfl) | ((first | (with_reducible apply HW_run ttR_ok hG htb) | ((with_reducible apply HW_draw rfl ttR_ok hG htb); (focus kernel_rfl); focus simp only [List.range, List.range.loop, List.size_toArray, List.length_cons, List.length_nil, Nat.reduceAdd])); focus ((repeat' (first | (with_reducible first | exact wg | exact wh) | ((with_reducible first | apply wi | apply wj); focus (simp (discharger := omega) only [go_sem, simprocAttr]; with_reducible rfl)))); done)))
        exact ⟨N - (L + 1), _, by omega, Norm.headS (own := []) (keep := [1, 2, 4, 7, 8, 13, 85, 86, 87, 101, 102, 103]) (by refine ⟨?_, ?_⟩; (simp (discharger := omega) only [go_sem, simprocAttr]; with_reducible rfl); refine ⟨?_, ?_, ?_, ?_⟩ <;> (simp only [go_sem, simprocAttr]; with_reducible rfl)), L + 1, rfl, rfl, by omega, hput⟩
      · obtain rfl : L = N := by omega
        repeat' (first | (with_reducible first | apply v1 | apply v2 | apply v3 | apply v4 | apply v5 | apply v6 | apply v7 | apply v8 | apply v9 | apply va | apply vb | apply vc) | ((with_reducible apply vd); focus decide) | ((with_reducible apply ve); focus exact rfl) | ((with_reducible apply vf); focus exact rfl) | ((first | (with_reducible apply HW_run ttR_ok hG htb) | ((with_reducible apply HW_draw rfl ttR_ok hG htb); (focus kernel_rfl); focus simp only [List.range, List.range.loop, List.size_toArray, List.length_cons, List.length_nil, Nat.reduceAdd])); focus ((repeat' (first | (with_reducible first | exact wg | exact wh) | ((with_reducible first | apply wi | apply wj); focus (simp (discharger := omega) only [go_sem, simprocAttr]; with_reducible rfl)))); done)))
        exact ⟨m - (s + 1), _, by omega, Norm.headS (own := []) (keep := [1, 2, 4, 7, 8, 85, 86, 87]) (by refine ⟨?_, ?_⟩; (simp (discharger := omega) only [go_sem, simprocAttr]; with_reducible rfl); refine ⟨?_, ?_, ?_, ?_⟩ <;> (simp only [go_sem, simprocAttr]; with_reducible rfl)), s + 1, rfl, by rw [hQ]; rfl, by omega, hinv.congr fun _ _ _ _ => cntC_line⟩
  · obtain rfl : s = m := by omega
    have hLf : fillB Lv s = Lv := by rw [← hLl]; exact fillB_all Lv
    rw [hLf]
    have hop := RepInv.opens (V := W.map (matM a.next s)) (by rw [List.length_map, hWl]; exact hinv) (fun k' M hM => by
      rw [List.getElem?_map, Option.map_eq_some_iff] at hM
      obtain ⟨v, hv, rfl⟩ := hM
      have hk' : k' < l := by have := (List.getElem?_eq_some_iff.1 hv).1; omega
      refine ⟨by simp [matM], fun q z hz => ?_⟩
      unfold matM at hz
      rw [List.getElem?_map, Option.map_eq_some_iff] at hz
      obtain ⟨q', hq', rfl⟩ := hz
      obtain ⟨h1, h2⟩ := List.getElem?_eq_some_iff.1 hq'
      rw [List.length_range] at h1
      rw [List.getElem_range] at h2
      subst h2
      have hv2 := hWat k' hk'
      rw [hv] at hv2
      cases hv2
      unfold cntC
      rw [if_pos h1]
      exact hsel k' hk' s q)
    refine HW_seq ?_
    repeat' (first | (with_reducible first | apply v2 | apply v3 | apply v4 | apply v5 | apply v6 | apply v7 | apply v8 | apply v9 | apply va | apply vb | apply vc) | ((with_reducible apply vd); focus decide) | ((with_reducible apply ve); focus exact rfl) | ((with_reducible apply vf); focus exact rfl) | ((first | (with_reducible apply HW_run ttR_ok hG htb) | ((with_reducible apply HW_draw rfl ttR_ok hG htb); (focus kernel_rfl); focus simp only [List.range, List.range.loop, List.size_toArray, List.length_cons, List.length_nil, Nat.reduceAdd])); focus ((repeat' (first | (with_reducible first | exact wg | exact wh) | ((with_reducible first | apply wi | apply wj); focus (simp (discharger := omega) only [go_sem, simprocAttr]; with_reducible rfl)))); done)))
    refine HW_seq ?_
    repeat' (first | (with_reducible first | apply v2 | apply v3 | apply v4 | apply v5 | apply v6 | apply v7 | apply v8 | apply v9 | apply va | apply vb | apply vc) | ((with_reducible apply vd); focus decide) | ((with_reducible apply ve); focus exact rfl) | ((with_reducible apply vf); focus exact rfl) | ((first | (with_reducible apply HW_run ttR_ok hG htb) | ((with_reducible apply HW_draw rfl ttR_ok hG htb); (focus kernel_rfl); focus simp only [List.range, List.range.loop, List.size_toArray, List.length_cons, List.length_nil, Nat.reduceAdd])); focus ((repeat' (first | (with_reducible first | exact wg | exact wh) | ((with_reducible first | apply wi | apply wj); focus (simp (discharger := omega) only [go_sem, simprocAttr]; with_reducible rfl)))); done)))
    refine HW_norm (Norm.headS (own := []) (keep := [1, 2, 4, 7, 8]) (by refine ⟨?_, ?_⟩; (simp (discharger := omega) only [go_sem, simprocAttr]; with_reducible rfl); refine ⟨?_, ?_, ?_, ?_⟩ <;> (simp only [go_sem, simprocAttr]; with_reducible rfl))) ?_
    refine HW_open (κ' := Nat) (by exact GS_openRow (st := ⟨149, [(1, .t (tInt k)), (2, .t (autoP a)), (4, .bptr 0 0), (7, .t (tNat s)), (8, .bptr 1 0)], [.box [.t (tInt 0), .t (tInt 0), .nil, .nil, .nil], .box [.t (tInt a.base), .t (tNat t), .sref 2, .sref 3, .sref 4], .row 3 1 true (F.map (T.int .i64)), .row 22 1 true tops, .row 3 1 true (Lv.map (T.int .i64))]⟩) (j := 3) _ rfl hop.1 hop.2) ?_
    clear hop hinv htb
    have htb : Tab.ok Try.prog G [] := Tab.nil
    refine SW_norm (Norm.frzRow 2 rfl) ?_
    refine SW_norm (Norm.frzRow 3 rfl) ?_
    refine SW_norm (Norm.frzRow 4 rfl) ?_
    refine SW_norm (Norm.trB 1 2 rfl rfl rfl) ?_
    refine SW_norm (Norm.trB 1 3 rfl rfl rfl) ?_
    refine SW_norm (Norm.trB 1 4 rfl rfl rfl) ?_
    repeat' (first | (with_reducible first | apply w1 | apply w2 | apply w3 | apply w4 | apply w5 | apply w6 | apply w7 | apply w8 | apply w9 | apply wa | apply wb | apply wc) | ((with_reducible apply wd); focus decide) | ((with_reducible apply we); focus exact rfl) | ((with_reducible apply wf); focus exact rfl) | ((first | (with_reducible apply SW_run tt_ok hG htb) | ((with_reducible apply SW_draw rfl tt_ok hG htb); (focus kernel_rfl); focus simp only [List.range, List.range.loop, List.size_toArray, List.length_cons, List.length_nil, Nat.reduceAdd])); focus ((repeat' (first | (with_reducible first | exact wg | exact wh) | ((with_reducible first | apply wi | apply wj); focus (simp (discharger := omega) only [go_sem, tErr0, simprocAttr]; with_reducible rfl)))); done)))
    exact (by simp (discharger := omega) only [go_sem, tRep, tErr0, simprocAttr]; rfl)
end
end Go.Proofs.Ythcclcbliedodaa
namespace Go.Proofs.Ythcclcbliedodaa
open Go.RowKit
section
variable {G : World → Prop} (hG : Lasting G)
include hG
theorem Behind_snd (a : GAuto) (w : List Int) {n m : Nat} (g : Good a n m) (hw : ∀ x ∈ w, 0 ≤ x ∧ x < (n : Int)) : Snd Try.prog G 14 [tAuto a, tInts w] (tInt (runFrom a.next 0 w)) := by
  have htb : Tab.ok Try.prog G [] := Tab.nil
  refine snd_of_body (n := 25) (tm := [(0, .t (tAuto a)), (1, .t (tInts w))]) (rs := [.tmp 4]) tt_ok Try.func14 rfl rfl rfl rfl rfl ?_
  have hm0 := g.m0
  have hm80 := g.m80
  have hn36 := g.n36
  have hlen := g.rows.len
  refine SW_len (t := 1) (l := w.map tInt) rfl fun hwl => ?_
  simp only [List.length_map] at hwl
  repeat' (first | (with_reducible first | apply w1 | apply w2 | apply w3 | apply w4 | apply w5 | apply w6 | apply w7 | apply w8 | apply w9 | apply wa | apply wb | apply wc) | ((with_reducible apply wd); focus decide) | ((with_reducible apply we); focus exact rfl) | ((with_reducible apply wf); focus exact rfl) | ((first | (with_reducible apply SW_run tt_ok hG htb) | ((with_reducible apply SW_draw rfl tt_ok hG htb); (focus kernel_rfl); focus simp only [List.range, List.range.loop, List.size_toArray, List.length_cons, List.length_nil, Nat.reduceAdd])); focus ((repeat' (first | (with_reducible first | exact wg | exact wh) | ((with_reducible first | apply wi | apply wj); focus (simp (discharger := omega) only [go_sem, tAuto, simprocAttr]; with_reducible rfl)))); done)))
  refine SW_loop (fun k s => ∃ (i : Nat) (q : Int), k = w.length - i ∧ s = ⟨25, [(1, .t (tInts w)), (2, .bptr 0 0), (5, .t (tInt q)), (6, .t (tInt i))], [.box [.t (tInt a.base), .t (tInt a.tracks), .t (tIntss a.next), .t (tBools a.ends)]]⟩ ∧ i ≤ w.length ∧ q = runFrom a.next 0 (w.take i)) w.length
    ⟨_, Norm.headS (own := []) (keep := [1, 2, 5, 6]) (by refine ⟨?_, ?_⟩; (simp (discharger := omega) only [go_sem, simprocAttr]; with_reducible rfl); refine ⟨?_, ?_, ?_, ?_⟩ <;> (simp only [go_sem, simprocAttr]; with_reducible rfl)), 0, 0, rfl, rfl, Nat.zero_le _, rfl⟩ ?_
  rintro k s ⟨i, q, rfl, rfl, hi, hq⟩
  have hqm : 0 ≤ q ∧ q < (m : Int) := by rw [hq]; exact runFrom_ok g.rows _ 0 (by omega) fun x hx => hw x (List.mem_of_mem_take hx)
  by_cases hlt : i < w.length
  · obtain ⟨x, hx⟩ : ∃ x, w[i]! = x := ⟨_, rfl⟩
    have hxn := hw x (bang_mem hx hlt)
    obtain ⟨row, hrow⟩ : ∃ row, a.next[q.toNat]! = row := ⟨_, rfl⟩
    have hrl : row.length = n := g.rows.row _ (bang_mem hrow (by omega))
    obtain ⟨u, hu⟩ : ∃ u, row[x.toNat]! = u := ⟨_, rfl⟩
    have hstep := runFrom_take a.next hx hlt 0
    rw [← hq, nextOf_bang hrow (by omega) hu (by omega)] at hstep
    repeat' (first | (with_reducible first | apply w1 | apply w2 | apply w3 | apply w4 | apply w5 | apply w6 | apply w7 | apply w8 | apply w9 | apply wa | apply wb | apply wc) | ((with_reducible apply wd); focus decide) | ((with_reducible apply we); focus exact rfl) | ((with_reducible apply wf); focus exact rfl) | ((first | (with_reducible apply SW_run tt_ok hG htb) | ((with_reducible apply SW_draw rfl tt_ok hG htb); (focus kernel_rfl); focus simp only [List.range, List.range.loop, List.size_toArray, List.length_cons, List.length_nil, Nat.reduceAdd])); focus ((repeat' (first | (with_reducible first | exact wg | exact wh) | ((with_reducible first | apply wi | apply wj); focus (simp (discharger := omega) only [go_sem, hx, hrow, hu, simprocAttr]; with_reducible rfl)))); done)))
    exact ⟨w.length - (i + 1), _, by omega, Norm.headS (own := []) (keep := [1, 2, 5, 6]) (by refine ⟨?_, ?_⟩; (simp (discharger := omega) only [go_sem, simprocAttr]; with_reducible rfl); refine ⟨?_, ?_, ?_, ?_⟩ <;> (simp only [go_sem, simprocAttr]; with_reducible rfl)), i + 1, u, rfl, rfl, by omega, hstep.symm⟩
  · obtain rfl : i = w.length := by omega
    rw [List.take_length] at hq
    rw [← hq]
    repeat' (first | (with_reducible first | apply w1 | apply w2 | apply w3 | apply w4 | apply w5 | apply w6 | apply w7 | apply w8 | apply w9 | apply wa | apply wb | apply wc) | ((with_reducible apply wd); focus decide) | ((with_reducible apply we); focus exact rfl) | ((with_reducible apply wf); focus exact rfl) | ((first | (with_reducible apply SW_run tt_ok hG htb) | ((with_reducible apply SW_draw rfl tt_ok hG htb); (focus kernel_rfl); focus simp only [List.range, List.range.loop, List.size_toArray, List.length_cons, List.length_nil, Nat.reduceAdd])); focus ((repeat' (first | (with_reducible first | exact wg | exact wh) | ((with_reducible first | apply wi | apply wj); focus (simp (discharger := omega) only [go_sem, simprocAttr]; with_reducible rfl)))); done)))
    exact (by simp (discharger := omega) only [go_sem, simprocAttr])
end
end Go.Proofs.Ythcclcbliedodaa
namespace Go.Proofs.Ythcclcbliedodaa
open Go.RowKit

def cap (x : Int) : Int := if 1152921504606846976 < x then 1152921504606846977 else x
structure RowOk (n : Nat) (row : List Int) : Prop where
  len : row.length = n
  ok : ∀ x ∈ row, 0 ≤ x ∧ x ≤ 1152921504606846976
def prt (row : List Int) (m : List (List Int)) (n s t : Nat) : List Int := (List.range n).map fun t' => psum (ent row m t') (if t' < t then s + 1 else s)
theorem prt_zero (row : List Int) (m : List (List Int)) (n : Nat) : prt row m n 0 0 = List.replicate n 0 := by
  unfold prt
  apply List.ext_getElem (by simp)
  intro i h1 h2
  simp [psum]
theorem prt_end (row : List Int) (m : List (List Int)) (n s : Nat) : prt row m n s n = prt row m n (s + 1) 0 := by
  unfold prt
  apply List.map_congr_left
  intro t ht
  rw [if_pos (List.mem_range.1 ht), if_neg (by omega)]
theorem prt_full (row : List Int) (m : List (List Int)) (n : Nat) : prt row m n n 0 = mulRow n row m := by
  unfold prt mulRow
  apply List.map_congr_left
  intro t _
  rw [if_neg (by omega)]
theorem prt_set (row : List Int) (m : List (List Int)) {n s t : Nat} (h : t < n) : (prt row m n s t).set t (psum (ent row m t) (s + 1)) = prt row m n s (t + 1) := by
  unfold prt
  apply List.ext_getElem (by simp)
  intro i h1 h2
  simp only [List.length_map, List.length_range] at h2
  rw [List.getElem_set]
  by_cases e : t = i
  · subst e; simp
  · rw [if_neg e]
    simp only [List.getElem_map, List.getElem_range]
    by_cases h3 : i < t
    · rw [if_pos h3, if_pos (by omega)]
    · rw [if_neg h3, if_neg (by omega)]
theorem prt_at (row : List Int) (m : List (List Int)) {n s t : Nat} (h : t < n) : (prt row m n s t)[t]? = some (psum (ent row m t) s) := by
  unfold prt; simp [h]
theorem ent_nonneg {row : List Int} {m : List (List Int)} {n : Nat} (h : RowOk n row) (hm : ∀ q ∈ m, ∀ x ∈ q, 0 ≤ x ∧ x ≤ 1152921504606846976) (t : Nat) (k : Nat) : 0 ≤ ent row m t k := by
  unfold ent
  refine Int.mul_nonneg ?_ ?_
  · rw [List.getD_eq_getElem?_getD]
    cases e : row[k]? with
    | none => simp
    | some x => exact (h.ok x (List.mem_of_getElem? e)).1
  · rw [List.getD_eq_getElem?_getD, List.getD_eq_getElem?_getD]
    cases e : m[k]? with
    | none => simp
    | some q =>
      simp only [Option.getD_some]
      cases e2 : q[t]? with
      | none => simp
      | some x => exact (hm q (List.mem_of_getElem? e) x (List.mem_of_getElem? e2)).1
theorem dot_nonneg {row last : List Int} {n : Nat} (h : RowOk n row) (hl : ∀ x ∈ last, 0 ≤ x ∧ x ≤ 1152921504606846976) (k : Nat) : 0 ≤ dotE row last k := by
  unfold dotE
  refine Int.mul_nonneg ?_ ?_
  · rw [List.getD_eq_getElem?_getD]
    cases e : row[k]? with
    | none => simp
    | some x => exact (h.ok x (List.mem_of_getElem? e)).1
  · rw [List.getD_eq_getElem?_getD]
    cases e : last[k]? with
    | none => simp
    | some x => exact (hl x (List.mem_of_getElem? e)).1
theorem mulRow_at (row : List Int) (m : List (List Int)) {n t : Nat} (h : t < n) : psum (ent row m t) n ∈ mulRow n row m := List.mem_map.2 ⟨t, List.mem_range.2 h, rfl⟩
theorem mulRow_ok {row : List Int} {m : List (List Int)} {n : Nat} (hr : RowOk n row) (hm : ∀ q ∈ m, ∀ x ∈ q, 0 ≤ x ∧ x ≤ 1152921504606846976) (h : ∀ t, t < n → psum (ent row m t) n ≤ 1152921504606846976) : RowOk n (mulRow n row m) :=
  ⟨by simp [mulRow], fun x hx => by
    obtain ⟨t, ht, rfl⟩ := List.mem_map.1 hx
    exact ⟨psum_nonneg (ent_nonneg hr hm t) n, h t (List.mem_range.1 ht)⟩⟩
theorem eval_over {steps : List (List (List Int))} {row : List Int} {n : Nat} {l : Int} {w : List Int} {m : List (List Int)} (hm : steps.getD l.toNat [] = m) {t : Nat} (ht : t < n) (h : 1152921504606846976 < psum (ent row m t) n) : evalGo n steps row (l :: w) = none := by
  unfold evalGo
  rw [hm, if_neg]
  intro e
  have h2 : psum (ent row m t) n ≤ 1152921504606846976 := of_decide_eq_true (List.all_eq_true.1 e _ (mulRow_at row m ht))
  omega
theorem eval_next {steps : List (List (List Int))} {row : List Int} {n : Nat} {l : Int} {w : List Int} {m : List (List Int)} (hm : steps.getD l.toNat [] = m) (h : ∀ t, t < n → psum (ent row m t) n ≤ 1152921504606846976) : evalGo n steps row (l :: w) = evalGo n steps (mulRow n row m) w := by
  rw [evalGo, hm, if_pos]
  rw [List.all_eq_true]
  intro x hx
  obtain ⟨t, ht, rfl⟩ := List.mem_map.1 hx
  exact decide_eq_true (h t (List.mem_range.1 ht))
theorem drop_next {w : List Int} {k : Nat} {l : Int} (h : w[k]! = l) (hk : k < w.length) : w.drop k = l :: w.drop (k + 1) := by
  rw [List.drop_eq_getElem_cons hk, bang_at h hk]
section
variable {G : World → Prop} (hG : Lasting G)
include hG
set_option maxHeartbeats 16000000 in
theorem Eval_snd (r : GRep) (w : List Int) : Snd Try.prog G 11 [tRep r, tInts w] (.tup [tInt (evVal r w), tErr (evErr r w)]) := by
  have c1 := RepCheck_snd hG r
  refine snd_of_body (n := 127) (tm := [(0, .t (tRep r)), (1, .t (tInts w))]) (rs := [.tmp 4, .tmp 5]) tt_ok Try.func11 rfl rfl rfl rfl rfl ?_
  refine SW_len (t := 1) (l := _) rfl fun hwl => ?_
  simp only [List.length_map] at hwl
  have bad : ∀ e, evErr r w = e → e ≠ 0 → evVal r w = 0 := fun e h1 h2 => by unfold evVal; rw [if_pos (by omega)]
  by_cases h0 : repErr r = 0
  · rw [h0] at c1
    have g := rep_ok h0
    have hn0 := g.n0
    have hn80 := g.n80
    have hL36 := g.L36
    have hlast := g.last
    have htb := Tab.cons c1 Tab.nil
    by_cases h4 : 400 < w.length
    · have e : evErr r w = 3 := by unfold evErr longFault; rw [if_neg (by omega), if_pos (by rw [if_pos h4]; decide), if_pos h4]
      rw [bad 3 e (by decide), e]
      repeat' (first | (with_reducible first | apply w1 | apply w2 | apply w3 | apply w4 | apply w5 | apply w6 | apply w7 | apply w8 | apply w9 | apply wa | apply wb | apply wc) | ((with_reducible apply wd); focus decide) | ((with_reducible apply we); focus exact rfl) | ((with_reducible apply wf); focus exact rfl) | ((first | (with_reducible apply SW_run tt_ok hG htb) | ((with_reducible apply SW_draw rfl tt_ok hG htb); (focus kernel_rfl); focus simp only [List.range, List.range.loop, List.size_toArray, List.length_cons, List.length_nil, Nat.reduceAdd])); focus ((repeat' (first | (with_reducible first | exact wg | exact wh) | ((with_reducible first | apply wi | apply wj); focus (simp (discharger := omega) only [go_sem, tRep, tErr, simprocAttr]; with_reducible rfl)))); done)))
      exact (by simp (discharger := omega) only [go_sem, tErr, simprocAttr])
    · repeat' (first | (with_reducible first | apply w1 | apply w2 | apply w3 | apply w4 | apply w5 | apply w6 | apply w7 | apply w8 | apply w9 | apply wa | apply wb | apply wc) | ((with_reducible apply wd); focus decide) | ((with_reducible apply we); focus exact rfl) | ((with_reducible apply wf); focus exact rfl) | ((first | (with_reducible apply SW_run tt_ok hG htb) | ((with_reducible apply SW_draw rfl tt_ok hG htb); (focus kernel_rfl); focus simp only [List.range, List.range.loop, List.size_toArray, List.length_cons, List.length_nil, Nat.reduceAdd])); focus ((repeat' (first | (with_reducible first | exact wg | exact wh) | ((with_reducible first | apply wi | apply wj); focus (simp (discharger := omega) only [go_sem, tRep, tErr, simprocAttr]; with_reducible rfl)))); done)))
      clear htb
      have htb : Tab.ok Try.prog G [] := Tab.nil
      refine SW_loop (fun mm s => ∃ i : Nat, mm = w.length - i ∧ s = ⟨127, [(1, .t (tInts w)), (2, .bptr 0 0), (33, .t (tInts w)), (34, .t (tInt w.length)), (35, .t (tInt i))], [.box [.t (tInt r.base), .t (tInt r.tracks), .t (tInts r.first), .t (.list (r.steps.map tIntss)), .t (tInts r.last)]]⟩ ∧ i ≤ w.length ∧ ∀ x ∈ w.take i, 0 ≤ x ∧ x < (r.steps.length : Int)) (w.length)
        ⟨_, Norm.headS (own := []) (keep := [1, 2, 33, 34, 35]) (by refine ⟨?_, ?_⟩; (simp (discharger := omega) only [go_sem, simprocAttr]; with_reducible rfl); refine ⟨?_, ?_, ?_, ?_⟩ <;> (simp only [go_sem, simprocAttr]; with_reducible rfl)), 0, rfl, rfl, Nat.zero_le _, fun x hx => by simp at hx⟩ ?_
      rintro mm s ⟨i, rfl, rfl, hi, hA⟩
      by_cases hlt : i < w.length
      · obtain ⟨l, hl⟩ : ∃ l, w[i]! = l := ⟨_, rfl⟩
        have e : ¬ (0 ≤ l ∧ l < (r.steps.length : Int)) → evErr r w = 1 := fun h => by
          unfold evErr longFault
          rw [if_neg (by omega), if_pos]
          · rw [if_neg h4, if_neg]
            intro e; exact h (by simpa using List.all_eq_true.1 e l (bang_mem hl hlt))
          · rw [if_neg h4, if_neg]
            · decide
            · intro e; exact h (by simpa using List.all_eq_true.1 e l (bang_mem hl hlt))
        by_cases hl0 : l < 0
        · rw [bad 1 (e (by omega)) (by decide), e (by omega)]
          repeat' (first | (with_reducible first | apply w1 | apply w2 | apply w3 | apply w4 | apply w5 | apply w6 | apply w7 | apply w8 | apply w9 | apply wa | apply wb | apply wc) | ((with_reducible apply wd); focus decide) | ((with_reducible apply we); focus exact rfl) | ((with_reducible apply wf); focus exact rfl) | ((first | (with_reducible apply SW_run tt_ok hG htb) | ((with_reducible apply SW_draw rfl tt_ok hG htb); (focus kernel_rfl); focus simp only [List.range, List.range.loop, List.size_toArray, List.length_cons, List.length_nil, Nat.reduceAdd])); focus ((repeat' (first | (with_reducible first | exact wg | exact wh) | ((with_reducible first | apply wi | apply wj); focus (simp (discharger := omega) only [go_sem, hl, simprocAttr]; with_reducible rfl)))); done)))
          exact (by simp (discharger := omega) only [go_sem, tErr, simprocAttr])
        · by_cases hl1 : (r.steps.length : Int) ≤ l
          · rw [bad 1 (e (by omega)) (by decide), e (by omega)]
            repeat' (first | (with_reducible first | apply w1 | apply w2 | apply w3 | apply w4 | apply w5 | apply w6 | apply w7 | apply w8 | apply w9 | apply wa | apply wb | apply wc) | ((with_reducible apply wd); focus decide) | ((with_reducible apply we); focus exact rfl) | ((with_reducible apply wf); focus exact rfl) | ((first | (with_reducible apply SW_run tt_ok hG htb) | ((with_reducible apply SW_draw rfl tt_ok hG htb); (focus kernel_rfl); focus simp only [List.range, List.range.loop, List.size_toArray, List.length_cons, List.length_nil, Nat.reduceAdd])); focus ((repeat' (first | (with_reducible first | exact wg | exact wh) | ((with_reducible first | apply wi | apply wj); focus (simp (discharger := omega) only [go_sem, hl, simprocAttr]; with_reducible rfl)))); done)))
            exact (by simp (discharger := omega) only [go_sem, tErr, simprocAttr])
          · repeat' (first | (with_reducible first | apply w1 | apply w2 | apply w3 | apply w4 | apply w5 | apply w6 | apply w7 | apply w8 | apply w9 | apply wa | apply wb | apply wc) | ((with_reducible apply wd); focus decide) | ((with_reducible apply we); focus exact rfl) | ((with_reducible apply wf); focus exact rfl) | ((first | (with_reducible apply SW_run tt_ok hG htb) | ((with_reducible apply SW_draw rfl tt_ok hG htb); (focus kernel_rfl); focus simp only [List.range, List.range.loop, List.size_toArray, List.length_cons, List.length_nil, Nat.reduceAdd])); focus ((repeat' (first | (with_reducible first | exact wg | exact wh) | ((with_reducible first | apply wi | apply wj); focus (simp (discharger := omega) only [go_sem, hl, simprocAttr]; with_reducible rfl)))); done)))
            exact ⟨w.length - (i + 1), _, by omega, Norm.headS (own := []) (keep := [1, 2, 33, 34, 35]) (by refine ⟨?_, ?_⟩; (simp (discharger := omega) only [go_sem, simprocAttr]; with_reducible rfl); refine ⟨?_, ?_, ?_, ?_⟩ <;> (simp only [go_sem, simprocAttr]; with_reducible rfl)), i + 1, rfl, rfl, by omega, take_all hA hl hlt (by omega)⟩
      · obtain rfl : i = w.length := by omega
        rw [List.take_length] at hA
        have hlf : longFault r.steps.length w = 0 := longFault_zero.2 ⟨by omega, hA⟩
        have hev : evErr r w = (match evalGo r.first.length r.steps r.first w with
            | none => 3
            | some row => if maxC < psum (dotE row r.last) r.first.length then 3 else 0) := by unfold evErr; rw [if_neg (by omega), if_neg (by omega)]; rfl
        clear hlt hi
        obtain ⟨n, hnn⟩ : ∃ n, r.first.length = n := ⟨_, rfl⟩
        rw [hnn] at hev hn0 hn80 hlast
        repeat' (first | (with_reducible first | apply w1 | apply w2 | apply w3 | apply w4 | apply w5 | apply w6 | apply w7 | apply w8 | apply w9 | apply wa | apply wb | apply wc) | ((with_reducible apply wd); focus decide) | ((with_reducible apply we); focus exact rfl) | ((with_reducible apply wf); focus exact rfl) | ((first | (with_reducible apply SW_run tt_ok hG htb) | ((with_reducible apply SW_draw rfl tt_ok hG htb); (focus kernel_rfl); focus simp only [List.range, List.range.loop, List.size_toArray, List.length_cons, List.length_nil, Nat.reduceAdd])); focus ((repeat' (first | (with_reducible first | exact wg | exact wh) | ((with_reducible first | apply wi | apply wj); focus (simp (discharger := omega) only [go_sem, simprocAttr]; with_reducible rfl)))); done)))
        refine SW_loop (fun mm s => ∃ (k : Nat) (row : List Int), mm = w.length - k ∧ s = ⟨127, [(2, .bptr 0 0), (9, .t (tInts row)), (52, .t (tInts w)), (53, .t (tInt w.length)), (54, .t (tInt k))], [.box [.t (tInt r.base), .t (tInt r.tracks), .t (tInts r.first), .t (.list (r.steps.map tIntss)), .t (tInts r.last)]]⟩ ∧ k ≤ w.length ∧ RowOk n row ∧ evalGo n r.steps r.first w = evalGo n r.steps row (w.drop k)) (w.length)
          ⟨_, Norm.headS (own := []) (keep := [2, 9, 52, 53, 54]) (by refine ⟨?_, ?_⟩; (simp (discharger := omega) only [go_sem, simprocAttr]; with_reducible rfl); refine ⟨?_, ?_, ?_, ?_⟩ <;> (simp only [go_sem, simprocAttr]; with_reducible rfl)), 0, r.first, rfl, rfl, Nat.zero_le _, ⟨hnn, g.first⟩, by rw [List.drop_zero]⟩ ?_
        rintro mm s ⟨k, row, rfl, rfl, hk, hrow, hgo⟩
        have hrl := hrow.len
        by_cases hlt : k < w.length
        · obtain ⟨l, hl⟩ : ∃ l, w[k]! = l := ⟨_, rfl⟩
          have hlb := hA l (bang_mem hl hlt)
          obtain ⟨m, hm⟩ : ∃ m, r.steps[l.toNat]! = m := ⟨_, rfl⟩
          have hmm := bang_mem hm (by omega)
          have hmD : r.steps.getD l.toNat [] = m := bang_D hm (by omega)
          have hsh := g.shape m hmm
          rw [hnn] at hsh
          have hst := g.stepa m hmm
          rw [drop_next hl hlt] at hgo
          repeat' (first | (with_reducible first | apply w1 | apply w2 | apply w3 | apply w4 | apply w5 | apply w6 | apply w7 | apply w8 | apply w9 | apply wa | apply wb | apply wc) | ((with_reducible apply wd); focus decide) | ((with_reducible apply we); focus exact rfl) | ((with_reducible apply wf); focus exact rfl) | ((first | (with_reducible apply SW_run tt_ok hG htb) | ((with_reducible apply SW_draw rfl tt_ok hG htb); (focus kernel_rfl); focus simp only [List.range, List.range.loop, List.size_toArray, List.length_cons, List.length_nil, Nat.reduceAdd])); focus ((repeat' (first | (with_reducible first | exact wg | exact wh) | ((with_reducible first | apply wi | apply wj); focus (simp (discharger := omega) only [go_sem, hl, hrl, simprocAttr]; with_reducible rfl)))); done)))
          refine SW_loop (fun mm s => ∃ (s0 : Nat) (nt : List T), mm = n - s0 ∧ s = ⟨127, [(2, .bptr 0 0), (11, .t (tInt l)), (12, .sref 1), (52, .t (tInts w)), (53, .t (tInt w.length)), (54, .t (tInt k)), (61, .t (tInts row)), (62, .t (tInt n)), (63, .t (tInt s0))], [.box [.t (tInt r.base), .t (tInt r.tracks), .t (tInts r.first), .t (.list (r.steps.map tIntss)), .t (tInts r.last)], .row 3 1 true nt]⟩ ∧ nt = (prt row m n s0 0).map tInt ∧ s0 ≤ n ∧ ∀ t, t < n → psum (ent row m t) s0 ≤ 1152921504606846976) (n)
            ⟨_, Norm.headS (own := [(12, 3, 1, true)]) (keep := [2, 11, 12, 52, 53, 54, 61, 62, 63]) (by refine ⟨?_, ?_⟩; (simp (discharger := omega) only [go_sem, simprocAttr]; with_reducible rfl); refine ⟨?_, ?_, ?_, ?_⟩ <;> (simp only [go_sem, simprocAttr]; with_reducible rfl)), 0, _, rfl, rfl, by rw [prt_zero]; simp [tInt], Nat.zero_le _, fun t ht => by show (0 : Int) ≤ _; omega⟩ ?_
          rintro mm s ⟨s0, nt, rfl, rfl, hnt, hs0, hB⟩
          have hntl : nt.length = n := by rw [hnt]; simp [prt]
          by_cases hlt2 : s0 < n
          · obtain ⟨x, hx⟩ : ∃ x, row[s0]! = x := ⟨_, rfl⟩
            have hxb := hrow.ok x (bang_mem hx (by omega))
            obtain ⟨q, hq⟩ : ∃ q, m[s0]! = q := ⟨_, rfl⟩
            have hqm := bang_mem hq (by omega)
            have hql := hsh.2 q hqm
            have hqb := hst q hqm
            repeat' (first | (with_reducible first | apply w1 | apply w2 | apply w3 | apply w4 | apply w5 | apply w6 | apply w7 | apply w8 | apply w9 | apply wa | apply wb | apply wc) | ((with_reducible apply wd); focus decide) | ((with_reducible apply we); focus exact rfl) | ((with_reducible apply wf); focus exact rfl) | ((first | (with_reducible apply SW_run tt_ok hG htb) | ((with_reducible apply SW_draw rfl tt_ok hG htb); (focus kernel_rfl); focus simp only [List.range, List.range.loop, List.size_toArray, List.length_cons, List.length_nil, Nat.reduceAdd])); focus ((repeat' (first | (with_reducible first | exact wg | exact wh) | ((with_reducible first | apply wi | apply wj); focus (simp (discharger := omega) only [go_sem, hx, hm, hq, hql, simprocAttr]; with_reducible rfl)))); done)))
            refine SW_loop (fun mm s => ∃ (t : Nat) (nt : List T), mm = n - t ∧ s = ⟨127, [(2, .bptr 0 0), (11, .t (tInt l)), (12, .sref 1), (13, .t (tInt s0)), (14, .t (tInt x)), (52, .t (tInts w)), (53, .t (tInt w.length)), (54, .t (tInt k)), (61, .t (tInts row)), (62, .t (tInt n)), (63, .t (tInt s0)), (75, .t (tInts q)), (76, .t (tInt n)), (77, .t (tInt t))], [.box [.t (tInt r.base), .t (tInt r.tracks), .t (tInts r.first), .t (.list (r.steps.map tIntss)), .t (tInts r.last)], .row 3 1 true nt]⟩ ∧ nt = (prt row m n s0 t).map tInt ∧ t ≤ n ∧ ∀ t', t' < t → psum (ent row m t') (s0 + 1) ≤ 1152921504606846976) (n)
              ⟨_, Norm.headS (own := [(12, 3, 1, true)]) (keep := [2, 11, 12, 13, 14, 52, 53, 54, 61, 62, 63, 75, 76, 77]) (by refine ⟨?_, ?_⟩; (simp (discharger := omega) only [go_sem, simprocAttr]; with_reducible rfl); refine ⟨?_, ?_, ?_, ?_⟩ <;> (simp only [go_sem, simprocAttr]; with_reducible rfl)), 0, _, rfl, rfl, hnt, Nat.zero_le _, fun t ht => by omega⟩ ?_
            rintro mm s ⟨t, nt, rfl, rfl, hnt, ht, hC⟩
            have hntl : nt.length = n := by rw [hnt]; simp [prt]
            by_cases hlt3 : t < n
            · obtain ⟨y, hy⟩ : ∃ y, q[t]! = y := ⟨_, rfl⟩
              have hyb := hqb y (bang_mem hy (by omega))
              obtain ⟨p, hp⟩ : ∃ p, psum (ent row m t) s0 = p := ⟨_, rfl⟩
              have hp0 : 0 ≤ p := by rw [← hp]; exact psum_nonneg (ent_nonneg hrow hst t) s0
              have hp1 : p ≤ 1152921504606846976 := by rw [← hp]; exact hB t hlt3
              have hcur : nt[t]! = .int .i64 p := by
                rw [hnt, getElem!_pos _ t (by simp [prt]; omega)]
                have := prt_at row m (s := s0) hlt3
                rw [List.getElem?_eq_getElem (by simp [prt]; omega)] at this
                simp only [List.getElem_map]
                rw [Option.some.inj this, hp]; rfl
              have hps : psum (ent row m t) (s0 + 1) = p + x * y := by
                show psum (ent row m t) s0 + ent row m t s0 = _
                rw [hp]
                unfold ent
                rw [bang_D hx (by omega), bang_D hq (by omega), bang_D hy (by omega)]
              have c2 := plus_snd hG p x y ⟨hp0, hp1⟩ hxb hyb
              by_cases hov : 1152921504606846976 < p + x * y
              · have hmono := psum_mono (ent_nonneg hrow hst t) (show s0 + 1 ≤ n by omega)
                have hgn := eval_over (w := w.drop (k + 1)) hmD hlt3 (show 1152921504606846976 < psum (ent row m t) n by omega)
                rw [hgn] at hgo
                rw [hgo] at hev
                have e : evErr r w = 3 := hev
                rw [bad 3 e (by decide), e]
                rw [if_pos hov] at c2
                clear htb
                have htb := Tab.cons c2 Tab.nil
                repeat' (first | (with_reducible first | apply w1 | apply w2 | apply w3 | apply w4 | apply w5 | apply w6 | apply w7 | apply w8 | apply w9 | apply wa | apply wb | apply wc) | ((with_reducible apply wd); focus decide) | ((with_reducible apply we); focus exact rfl) | ((with_reducible apply wf); focus exact rfl) | ((first | (with_reducible apply SW_run tt_ok hG htb) | ((with_reducible apply SW_draw rfl tt_ok hG htb); (focus kernel_rfl); focus simp only [List.range, List.range.loop, List.size_toArray, List.length_cons, List.length_nil, Nat.reduceAdd])); focus ((repeat' (first | (with_reducible first | exact wg | exact wh) | ((with_reducible first | apply wi | apply wj); focus (simp (discharger := omega) only [go_sem, hy, hcur, simprocAttr]; with_reducible rfl)))); done)))
                exact (by simp (discharger := omega) only [go_sem, tErr, simprocAttr])
              · rw [if_neg hov] at c2
                have hset := prt_set row m (s := s0) hlt3
                rw [hps] at hset
                generalize p + x * y = pv at *
                clear htb
                have htb := Tab.cons c2 Tab.nil
                repeat' (first | (with_reducible first | apply w1 | apply w2 | apply w3 | apply w4 | apply w5 | apply w6 | apply w7 | apply w8 | apply w9 | apply wa | apply wb | apply wc) | ((with_reducible apply wd); focus decide) | ((with_reducible apply we); focus exact rfl) | ((with_reducible apply wf); focus exact rfl) | ((first | (with_reducible apply SW_run tt_ok hG htb) | ((with_reducible apply SW_draw rfl tt_ok hG htb); (focus kernel_rfl); focus simp only [List.range, List.range.loop, List.size_toArray, List.length_cons, List.length_nil, Nat.reduceAdd])); focus ((repeat' (first | (with_reducible first | exact wg | exact wh) | ((with_reducible first | apply wi | apply wj); focus (simp (discharger := omega) only [go_sem, hy, hcur, simprocAttr]; with_reducible rfl)))); done)))
                exact ⟨n - (t + 1), _, by omega, Norm.headS (own := [(12, 3, 1, true)]) (keep := [2, 11, 12, 13, 14, 52, 53, 54, 61, 62, 63, 75, 76, 77]) (by refine ⟨?_, ?_⟩; (simp (discharger := omega) only [go_sem, simprocAttr]; with_reducible rfl); refine ⟨?_, ?_, ?_, ?_⟩ <;> (simp only [go_sem, simprocAttr]; with_reducible rfl)), t + 1, _, rfl, rfl, by rw [hnt, ← hset, List.map_set]; rfl, by omega, fun t' ht' => by
                    by_cases e : t' = t
                    · subst e; omega
                    · exact hC t' (by omega)⟩
            · obtain rfl : t = n := by omega
              rw [prt_end] at hnt
              repeat' (first | (with_reducible first | apply w1 | apply w2 | apply w3 | apply w4 | apply w5 | apply w6 | apply w7 | apply w8 | apply w9 | apply wa | apply wb | apply wc) | ((with_reducible apply wd); focus decide) | ((with_reducible apply we); focus exact rfl) | ((with_reducible apply wf); focus exact rfl) | ((first | (with_reducible apply SW_run tt_ok hG htb) | ((with_reducible apply SW_draw rfl tt_ok hG htb); (focus kernel_rfl); focus simp only [List.range, List.range.loop, List.size_toArray, List.length_cons, List.length_nil, Nat.reduceAdd])); focus ((repeat' (first | (with_reducible first | exact wg | exact wh) | ((with_reducible first | apply wi | apply wj); focus (simp (discharger := omega) only [go_sem, simprocAttr]; with_reducible rfl)))); done)))
              exact ⟨t - (s0 + 1), _, by omega, Norm.headS (own := [(12, 3, 1, true)]) (keep := [2, 11, 12, 52, 53, 54, 61, 62, 63]) (by refine ⟨?_, ?_⟩; (simp (discharger := omega) only [go_sem, simprocAttr]; with_reducible rfl); refine ⟨?_, ?_, ?_, ?_⟩ <;> (simp only [go_sem, simprocAttr]; with_reducible rfl)), s0 + 1, _, rfl, rfl, hnt, by omega, hC⟩
          · obtain rfl : s0 = n := by omega
            rw [prt_full] at hnt
            rw [eval_next hmD hB] at hgo
            subst hnt
            repeat' (first | (with_reducible first | apply w1 | apply w2 | apply w3 | apply w4 | apply w5 | apply w6 | apply w7 | apply w8 | apply w9 | apply wa | apply wb | apply wc) | ((with_reducible apply wd); focus decide) | ((with_reducible apply we); focus exact rfl) | ((with_reducible apply wf); focus exact rfl) | ((first | (with_reducible apply SW_run tt_ok hG htb) | ((with_reducible apply SW_draw rfl tt_ok hG htb); (focus kernel_rfl); focus simp only [List.range, List.range.loop, List.size_toArray, List.length_cons, List.length_nil, Nat.reduceAdd])); focus ((repeat' (first | (with_reducible first | exact wg | exact wh) | ((with_reducible first | apply wi | apply wj); focus (simp (discharger := omega) only [go_sem, simprocAttr]; with_reducible rfl)))); done)))
            exact ⟨w.length - (k + 1), _, by omega, ((Norm.frzRow 1 rfl).trans (Norm.datum 9 1 rfl rfl)).trans (Norm.headS (own := []) (keep := [2, 9, 52, 53, 54]) (by refine ⟨?_, ?_⟩; (simp (discharger := omega) only [go_sem, simprocAttr]; with_reducible rfl); refine ⟨?_, ?_, ?_, ?_⟩ <;> (simp only [go_sem, simprocAttr]; with_reducible rfl))), k + 1, mulRow s0 row m, rfl, rfl, by omega, mulRow_ok hrow hst hB, hgo⟩
        · obtain rfl : k = w.length := by omega
          rw [List.drop_length] at hgo
          have hgo2 : evalGo n r.steps r.first w = some row := hgo
          rw [hgo2] at hev
          have hev : evErr r w = if maxC < psum (dotE row r.last) n then 3 else 0 := hev
          have hvv : evErr r w = 0 → evVal r w = psum (dotE row r.last) n := fun e => by unfold evVal; rw [if_neg (by omega), hnn, hgo2]
          have hla := g.lasta
          repeat' (first | (with_reducible first | apply w1 | apply w2 | apply w3 | apply w4 | apply w5 | apply w6 | apply w7 | apply w8 | apply w9 | apply wa | apply wb | apply wc) | ((with_reducible apply wd); focus decide) | ((with_reducible apply we); focus exact rfl) | ((with_reducible apply wf); focus exact rfl) | ((first | (with_reducible apply SW_run tt_ok hG htb) | ((with_reducible apply SW_draw rfl tt_ok hG htb); (focus kernel_rfl); focus simp only [List.range, List.range.loop, List.size_toArray, List.length_cons, List.length_nil, Nat.reduceAdd])); focus ((repeat' (first | (with_reducible first | exact wg | exact wh) | ((with_reducible first | apply wi | apply wj); focus (simp (discharger := omega) only [go_sem, hrl, simprocAttr]; with_reducible rfl)))); done)))
          refine SW_loop (fun mm s => ∃ (s0 : Nat) (q : Int), mm = n - s0 ∧ s = ⟨127, [(2, .bptr 0 0), (19, .t (tInt q)), (103, .t (tInts row)), (104, .t (tInt n)), (105, .t (tInt s0))], [.box [.t (tInt r.base), .t (tInt r.tracks), .t (tInts r.first), .t (.list (r.steps.map tIntss)), .t (tInts r.last)]]⟩ ∧ s0 ≤ n ∧ q = psum (dotE row r.last) s0 ∧ q ≤ 1152921504606846976) (n)
            ⟨_, Norm.headS (own := []) (keep := [2, 19, 103, 104, 105]) (by refine ⟨?_, ?_⟩; (simp (discharger := omega) only [go_sem, simprocAttr]; with_reducible rfl); refine ⟨?_, ?_, ?_, ?_⟩ <;> (simp only [go_sem, simprocAttr]; with_reducible rfl)), 0, 0, rfl, rfl, Nat.zero_le _, rfl, by omega⟩ ?_
          rintro mm s ⟨s0, q, rfl, rfl, hs0, hq, hq1⟩
          have hq0 : 0 ≤ q := by rw [hq]; exact psum_nonneg (dot_nonneg hrow hla) s0
          by_cases hlt2 : s0 < n
          · obtain ⟨x, hx⟩ : ∃ x, row[s0]! = x := ⟨_, rfl⟩
            obtain ⟨y, hy⟩ : ∃ y, r.last[s0]! = y := ⟨_, rfl⟩
            have hxb := hrow.ok x (bang_mem hx (by omega))
            have hyb := hla y (bang_mem hy (by omega))
            have hps : psum (dotE row r.last) (s0 + 1) = q + x * y := by
              show psum (dotE row r.last) s0 + dotE row r.last s0 = _
              unfold dotE
              rw [bang_D hx (by omega), bang_D hy (by omega)]
              unfold dotE at hq
              rw [← hq]
            have c2 := plus_snd hG q x y ⟨hq0, hq1⟩ hxb hyb
            by_cases hov : 1152921504606846976 < q + x * y
            · have hmono := psum_mono (dot_nonneg hrow hla) (show s0 + 1 ≤ n by omega)
              have e : evErr r w = 3 := by rw [hev, if_pos]; unfold maxC; omega
              rw [bad 3 e (by decide), e]
              rw [if_pos hov] at c2
              clear htb
              have htb := Tab.cons c2 Tab.nil
              repeat' (first | (with_reducible first | apply w1 | apply w2 | apply w3 | apply w4 | apply w5 | apply w6 | apply w7 | apply w8 | apply w9 | apply wa | apply wb | apply wc) | ((with_reducible apply wd); focus decide) | ((with_reducible apply we); focus exact rfl) | ((with_reducible apply wf); focus exact rfl) | ((first | (with_reducible apply SW_run tt_ok hG htb) | ((with_reducible apply SW_draw rfl tt_ok hG htb); (focus kernel_rfl); focus simp only [List.range, List.range.loop, List.size_toArray, List.length_cons, List.length_nil, Nat.reduceAdd])); focus ((repeat' (first | (with_reducible first | exact wg | exact wh) | ((with_reducible first | apply wi | apply wj); focus (simp (discharger := omega) only [go_sem, hx, hy, simprocAttr]; with_reducible rfl)))); done)))
              exact (by simp (discharger := omega) only [go_sem, tErr, simprocAttr])
            · rw [if_neg hov] at c2
              generalize q + x * y = pv at *
              clear htb
              have htb := Tab.cons c2 Tab.nil
              repeat' (first | (with_reducible first | apply w1 | apply w2 | apply w3 | apply w4 | apply w5 | apply w6 | apply w7 | apply w8 | apply w9 | apply wa | apply wb | apply wc) | ((with_reducible apply wd); focus decide) | ((with_reducible apply we); focus exact rfl) | ((with_reducible apply wf); focus exact rfl) | ((first | (with_reducible apply SW_run tt_ok hG htb) | ((with_reducible apply SW_draw rfl tt_ok hG htb); (focus kernel_rfl); focus simp only [List.range, List.range.loop, List.size_toArray, List.length_cons, List.length_nil, Nat.reduceAdd])); focus ((repeat' (first | (with_reducible first | exact wg | exact wh) | ((with_reducible first | apply wi | apply wj); focus (simp (discharger := omega) only [go_sem, hx, hy, simprocAttr]; with_reducible rfl)))); done)))
              exact ⟨n - (s0 + 1), _, by omega, Norm.headS (own := []) (keep := [2, 19, 103, 104, 105]) (by refine ⟨?_, ?_⟩; (simp (discharger := omega) only [go_sem, simprocAttr]; with_reducible rfl); refine ⟨?_, ?_, ?_, ?_⟩ <;> (simp only [go_sem, simprocAttr]; with_reducible rfl)), s0 + 1, _, rfl, rfl, by omega, hps.symm, by omega⟩
          · obtain rfl : s0 = n := by omega
            have e : evErr r w = 0 := by rw [hev, if_neg]; unfold maxC; omega
            rw [e, hvv e, ← hq]
            repeat' (first | (with_reducible first | apply w1 | apply w2 | apply w3 | apply w4 | apply w5 | apply w6 | apply w7 | apply w8 | apply w9 | apply wa | apply wb | apply wc) | ((with_reducible apply wd); focus decide) | ((with_reducible apply we); focus exact rfl) | ((with_reducible apply wf); focus exact rfl) | ((first | (with_reducible apply SW_run tt_ok hG htb) | ((with_reducible apply SW_draw rfl tt_ok hG htb); (focus kernel_rfl); focus simp only [List.range, List.range.loop, List.size_toArray, List.length_cons, List.length_nil, Nat.reduceAdd])); focus ((repeat' (first | (with_reducible first | exact wg | exact wh) | ((with_reducible first | apply wi | apply wj); focus (simp (discharger := omega) only [go_sem, simprocAttr]; with_reducible rfl)))); done)))
            exact (by simp (discharger := omega) only [go_sem, tErr, simprocAttr])
  · have e : evErr r w = repErr r := by unfold evErr; rw [if_pos h0]
    rw [bad _ e h0, e]
    generalize repErr r = f at *
    have htb := Tab.cons c1 Tab.nil
    repeat' (first | (with_reducible first | apply w1 | apply w2 | apply w3 | apply w4 | apply w5 | apply w6 | apply w7 | apply w8 | apply w9 | apply wa | apply wb | apply wc) | ((with_reducible apply wd); focus decide) | ((with_reducible apply we); focus exact rfl) | ((with_reducible apply wf); focus exact rfl) | ((first | (with_reducible apply SW_run tt_ok hG htb) | ((with_reducible apply SW_draw rfl tt_ok hG htb); (focus kernel_rfl); focus simp only [List.range, List.range.loop, List.size_toArray, List.length_cons, List.length_nil, Nat.reduceAdd])); focus ((repeat' (first | (with_reducible first | exact wg | exact wh) | ((with_reducible first | apply wi | apply wj); focus (simp (discharger := omega) only [go_sem, tRep, tErr, h0, simprocAttr]; with_reducible rfl)))); done)))
    exact (by simp (discharger := omega) only [go_sem, tErr, h0, simprocAttr])
end
end Go.Proofs.Ythcclcbliedodaa
namespace Go.Proofs.Ythcclcbliedodaa
open Go.ChangeShapes Go.WideShapes Go.ChangeAt Go.RowKit Go.Joins Go.Deep

section
variable {H : Type} {enc : TypeId × Value → H} {w : World} {sp : Nat → Bool} {held : Bool}
/-- One cell that reads as a datum. -/
def OpensT (enc : TypeId × Value → H) (w : World) (sp : Nat → Bool) (held : Bool) (T : TypeId) (Q : Go.Proofs.Ythcclcbliedodaa.T → Prop) : Prop :=
  ∀ n v y, DataW.trod enc Try.prog w 0 sp held n T [v] = some y → v.oneCell' = true ∧ ∃ x, Q x ∧ x.cells = [x] ∧ RepT (· < w.heap.size) w x v
theorem flat_cells : ∀ {l : List Go.Proofs.Ythcclcbliedodaa.T}, (∀ x ∈ l, x.cells = [x]) → Go.Proofs.Ythcclcbliedodaa.flat l = l
  | [], _ => rfl
  | a :: t, h => by
    have := flat_cells fun x hx => h x (List.mem_cons_of_mem a hx)
    simp only [Go.Proofs.Ythcclcbliedodaa.flat, List.flatMap_cons] at this ⊢
    rw [this, h a List.mem_cons_self]; rfl
theorem opensT_int {T : TypeId} (ht : Try.prog.underlying T = some (.int .i64)) : OpensT enc w sp held T fun x => ∃ n, x = tInt n ∧ I64 n := by
  intro n v y h
  obtain ⟨a, rfl, h2⟩ := opens_int ht n v y h
  exact ⟨rfl, _, ⟨a, rfl, h2⟩, rfl, .int _ _⟩
theorem opensT_bool {T : TypeId} (ht : Try.prog.underlying T = some .bool) : OpensT enc w sp held T fun x => ∃ b, x = .bool b := by
  intro n v y h
  obtain ⟨a, rfl⟩ := opens_bool ht n v y h
  exact ⟨rfl, _, ⟨a, rfl⟩, rfl, .bool _⟩
theorem opensT_slice {T e : TypeId} {Q : Go.Proofs.Ythcclcbliedodaa.T → Prop} (ht : Try.prog.underlying T = some (.slice e)) (hc : Try.prog.cellsOf e = 1) (hE : OpensT enc w sp held e Q) :
    OpensT enc w sp held T fun x => ∃ l, x = .list l ∧ ∀ y ∈ l, Q y := by
  intro n v y h
  rcases open_slice1 ht hc h with ⟨hcs, _⟩ | ⟨a, len, cap, m, n', V, D, Pl, hcs, _, hl, hcap, hm, _, hx⟩
  · obtain rfl : v = .slice none 0 0 := by simpa using hcs
    exact ⟨rfl, _, ⟨[], rfl, fun y hy => by simp at hy⟩, rfl, .list [] none 0 1 (fun _ => undef) (Nat.zero_le _) Nat.one_pos (fun x hx => by simp at hx) (fun h => (h rfl).elim) (fun k hk => by simp at hk) (fun k y hy => by simp [Go.Proofs.Ythcclcbliedodaa.flat] at hy) (Nat.le_refl _)⟩
  · obtain rfl : v = .slice (some a) len cap := by simpa using hcs
    have hlm : len ≤ m := by rw [hm]; split <;> omega
    have hall : ∀ i, i < len → (V i).oneCell' = true ∧ ∃ b, Q b ∧ b.cells = [b] ∧ RepT (· < w.heap.size) w b (V i) := fun i hi => hE _ _ _ (hx i (by omega)).2
    have key : ∀ k, k ≤ len → ∃ l : List Go.Proofs.Ythcclcbliedodaa.T, l.length = k ∧ ∀ i (hi : i < l.length), Q l[i] ∧ l[i].cells = [l[i]] ∧ RepT (· < w.heap.size) w l[i] (V i) := by
      intro k
      induction k with
      | zero => intro _; exact ⟨[], rfl, fun i hi => absurd hi (by simp)⟩
      | succ k ih =>
        intro hk
        obtain ⟨l, hl1, hl2⟩ := ih (by omega)
        obtain ⟨_, b, hb⟩ := hall k (by omega)
        refine ⟨l ++ [b], by simp [hl1], fun i hi => ?_⟩
        rw [List.getElem_append]
        split
        · exact hl2 i ‹_›
        · obtain rfl : i = k := by simp at hi; omega
          simpa using hb
    obtain ⟨l, hl1, hl2⟩ := key len (Nat.le_refl _)
    subst hl1
    have hcells : ∀ x ∈ l, x.cells = [x] := fun x hx => by obtain ⟨i, hi, rfl⟩ := List.mem_iff_getElem.1 hx; exact (hl2 i hi).2.1
    have hfl := flat_cells hcells
    refine ⟨rfl, _, ⟨l, rfl, fun y hy => by obtain ⟨i, hi, rfl⟩ := List.mem_iff_getElem.1 hy; exact (hl2 i hi).1⟩, rfl, ?_⟩
    refine .list l (some a) cap 1 V (by simp only [maxLen] at hcap ⊢; omega) Nat.one_pos (fun x hx => by rw [hcells x hx]; rfl) (fun hne => ?_) (fun k hk => (hall k (by omega)).1) (fun k y hy => ?_) (by omega)
    · obtain ⟨b, off, spot⟩ := a
      have hpos : 0 < l.length := List.length_pos_iff.2 hne
      have hc1 := (hx 0 (by omega)).1
      have hspot : spot = none := by simpa [Addr.add] using World.cell?_spot hc1
      subst hspot
      have hadd : ∀ i, (⟨b, off, none⟩ : Addr).add i = ⟨b, off + i, none⟩ := fun i => by unfold Addr.add; split <;> simp_all
      refine ⟨b, off, rfl, ?_, fun k hk => ?_⟩
      · rw [hadd] at hc1; exact cell_lt hc1
      · have := (hx k (by omega)).1
        rw [hadd] at this; exact this
    · rw [hfl] at hy
      obtain ⟨hk, rfl⟩ := List.getElem?_eq_some_iff.1 hy
      exact (hl2 k hk).2.2
theorem allMap {α : Type} {f : α → Go.Proofs.Ythcclcbliedodaa.T} {Q : α → Prop} : ∀ {l : List Go.Proofs.Ythcclcbliedodaa.T}, (∀ y ∈ l, ∃ a, y = f a ∧ Q a) → ∃ q : List α, l = q.map f ∧ ∀ a ∈ q, Q a
  | [], _ => ⟨[], rfl, fun a ha => by simp at ha⟩
  | x :: t, h => by
    obtain ⟨a, rfl, ha⟩ := h x List.mem_cons_self
    obtain ⟨q, rfl, hq⟩ := allMap fun y hy => h y (List.mem_cons_of_mem _ hy)
    exact ⟨a :: q, rfl, fun b hb => by
      rcases List.mem_cons.1 hb with rfl | hb
      · exact ha
      · exact hq b hb⟩
theorem opensT_ints {T : TypeId} (h : OpensT enc w sp held T fun x => ∃ l, x = .list l ∧ ∀ y ∈ l, ∃ n, y = tInt n ∧ I64 n) : OpensT enc w sp held T fun x => ∃ l, x = tInts l ∧ I64s l := fun n v y hy => by
  obtain ⟨h1, x, ⟨l, rfl, hl⟩, h2, h3⟩ := h n v y hy
  obtain ⟨q, rfl, hq⟩ := allMap hl
  exact ⟨h1, _, ⟨q, rfl, hq⟩, rfl, h3⟩
theorem opensIntsT : OpensT enc w sp held 26 fun x => ∃ l, x = tInts l ∧ I64s l := opensT_ints (opensT_slice Try.underlying26 (by kernel_rfl) (opensT_int Try.underlying3))
theorem opensIntssT : OpensT enc w sp held 22 fun x => ∃ l, x = tIntss l ∧ ∀ r ∈ l, I64s r := fun n v y hy => by
  obtain ⟨h1, x, ⟨l, rfl, hl⟩, h2, h3⟩ := opensT_slice Try.underlying22 (by kernel_rfl) opensIntsT n v y hy
  obtain ⟨q, rfl, hq⟩ := allMap hl
  exact ⟨h1, _, ⟨q, rfl, hq⟩, rfl, h3⟩
theorem opensBoolsT : OpensT enc w sp held 23 fun x => ∃ l, x = tBools l := fun n v y hy => by
  obtain ⟨h1, x, ⟨l, rfl, hl⟩, h2, h3⟩ := opensT_slice Try.underlying23 (by kernel_rfl) (opensT_bool Try.underlying4) n v y hy
  obtain ⟨q, rfl, hq⟩ := allMap (Q := fun _ => True) fun y hy => by obtain ⟨b, hb⟩ := hl y hy; exact ⟨b, hb, trivial⟩
  exact ⟨h1, _, ⟨q, rfl⟩, rfl, h3⟩
/-- An argument that reads as a list of numbers. -/
def ReadsInts (w : World) (v : Value) (l : List Int) : Prop := I64s l ∧ RepT (· < w.heap.size) w (tInts l) v
def ReadsAuto (w : World) (v : Value) (a : GAuto) : Prop := I64A a ∧ RepT (· < w.heap.size) w (tAuto a) v
theorem openIntsT {v : Value} (hv : v.cells = #[v]) {d : DataW H} {p : List MemPlace} (hd : DataW.Trod enc Try.prog w 0 sp held 26 v d p) : ∃ l, ReadsInts w v l := by
  obtain ⟨n, hn⟩ := hd
  rw [hv] at hn
  obtain ⟨_, x, ⟨l, rfl, hl⟩, _, h3⟩ := opensIntsT n v _ hn
  exact ⟨l, hl, h3⟩
set_option maxRecDepth 100000 in
theorem openAutoT {base : Nat} {v : Value} {d : DataW H} {p : List MemPlace} (hv : Value.okWide Try.prog w .any base 25 v) (h : DataW.Trod enc Try.prog w 0 sp held 25 v d p) :
    ∃ a : GAuto, ReadsAuto w v a := by
  obtain ⟨v0, v1, v2, v3, y0, y1, y2, y3, n, rfl, _, _, h0, h1, h2, h3⟩ := open_agg4 Try.underlying25 (by kernel_rfl) (by kernel_rfl) hv h
  obtain ⟨a0, rfl, i0⟩ := opens_int Try.underlying3 _ _ _ h0
  obtain ⟨a1, rfl, i1⟩ := opens_int Try.underlying3 _ _ _ h1
  obtain ⟨o2, x2, ⟨a2, rfl, i2⟩, _, hn⟩ := opensIntssT _ _ _ h2
  obtain ⟨o3, x3, ⟨a3, rfl⟩, _, he⟩ := opensBoolsT _ _ _ h3
  refine ⟨⟨a0, a1, a2, a3⟩, ⟨i0, i1, i2⟩, .agg _ _ rfl (fun k v hk => ?_) fun k y v hy hk => ?_⟩
  · match k, hk with
    | 0, hk => cases hk; rfl
    | 1, hk => cases hk; rfl
    | 2, hk => cases hk; exact o2
    | 3, hk => cases hk; exact o3
  · match k, hy, hk with
    | 0, hy, hk => cases hy; cases hk; exact .int _ _
    | 1, hy, hk => cases hy; cases hk; exact .int _ _
    | 2, hy, hk => cases hy; cases hk; exact hn
    | 3, hy, hk => cases hy; cases hk; exact he
end
theorem walkN {P : Program} {G : World → Prop} {f : Nat} {xs : List T} {w : World} {vs : Array Value} (h : Snd P G f xs (.bool true)) (hG : G w) (hl : vs.size = xs.length) (hx : ∀ (k : Nat) (y : T) (v : Value), xs[k]? = some y → vs[k]? = some v → RepT (· < w.heap.size) w y v) : Calls P f vs w (Ret (.bool true) w) :=
  (h.calls (· < w.heap.size) w vs hG hl hx).mono fun e w' hq => by obtain ⟨u, h1, h2, h3⟩ := hq; cases h2; exact ⟨h1, h3⟩
end Go.Proofs.Ythcclcbliedodaa
namespace Go.Proofs.Ythcclcbliedodaa
open Go.RowKit

def threesC : GAuto := ⟨2, 1, [[0, 1], [2, 0], [1, 2]], [true, false, false]⟩
theorem threesC_fault : autoFault threesC = 0 := by decide
theorem threesC_eval : evErr (repA threesC 0) [0, 0, 0, 0] = 0 ∧ evVal (repA threesC 0) [0, 0, 0, 0] = 6 := by decide +kernel
theorem pow_small {r n : Nat} (h1 : 2 ≤ r) (h6 : r ≤ 6) (hn : n ≤ 5) : r ^ n ≤ 7776 :=
  Nat.le_trans (Nat.pow_le_pow_left h6 n) (Nat.le_trans (Nat.pow_le_pow_right (by decide) hn) (by decide))
section
variable {G : World → Prop} (hG : Lasting G)
include hG
theorem threesC_snd : Snd Try.prog G 10 [] (tAuto threesC) := by
  have htb : Tab.ok Try.prog G [] := Tab.nil
  refine snd_of_body (n := 7) (tm := []) (rs := [.cell 0 25]) tt_ok Try.func10 rfl rfl rfl rfl rfl ?_
  repeat' (first | (with_reducible first | apply w1 | apply w2 | apply w3 | apply w4 | apply w5 | apply w6 | apply w7 | apply w8 | apply w9 | apply wa | apply wb | apply wc) | ((with_reducible apply wd); focus decide) | ((with_reducible apply we); focus exact rfl) | ((with_reducible apply wf); focus exact rfl) | ((first | (with_reducible apply SW_run tt_ok hG htb) | ((with_reducible apply SW_draw rfl tt_ok hG htb); (focus kernel_rfl); focus simp only [List.range, List.range.loop, List.size_toArray, List.length_cons, List.length_nil, Nat.reduceAdd])); focus ((repeat' (first | (with_reducible first | exact wg | exact wh) | ((with_reducible first | apply wi | apply wj); focus (simp (discharger := omega) only [go_sem, simprocAttr]; with_reducible rfl)))); done)))
  exact (by simp (discharger := omega) only [go_sem, tAuto, threesC, simprocAttr])
set_option maxHeartbeats 16000000 in
set_option maxRecDepth 100000 in
theorem CountReps_snd (a : GAuto) (t : Int) (w : List Int) : Snd Try.prog G 3 [tAuto a, tInt t, tInts w] (.bool true) := by
  have c1 := Rep_snd hG a t
  refine snd_of_body (n := 140) (tm := [(0, .t (tAuto a)), (1, .t (tInt t)), (2, .t (tInts w))]) (rs := [.tmp 6]) tt_ok Try.func3 rfl rfl rfl rfl rfl ?_
  by_cases he : repE a t = 0
  rotate_left
  · generalize repE a t = e at *
    generalize repO a t = A at *
    have htb := Tab.cons c1 Tab.nil
    repeat' (first | (with_reducible first | apply w1 | apply w2 | apply w3 | apply w4 | apply w5 | apply w6 | apply w7 | apply w8 | apply w9 | apply wa | apply wb | apply wc) | ((with_reducible apply wd); focus decide) | ((with_reducible apply we); focus exact rfl) | ((with_reducible apply wf); focus exact rfl) | ((first | (with_reducible apply SW_run tt_ok hG htb) | ((with_reducible apply SW_draw rfl tt_ok hG htb); (focus kernel_rfl); focus simp only [List.range, List.range.loop, List.size_toArray, List.length_cons, List.length_nil, Nat.reduceAdd])); focus ((repeat' (first | (with_reducible first | exact wg | exact wh) | ((with_reducible first | apply wi | apply wj); focus (simp (discharger := omega) only [go_sem, tAuto, tErr, he, tRep, simprocAttr]; with_reducible rfl)))); done)))
    exact (by simp (discharger := omega) only [go_sem, simprocAttr])
  have hf : autoFault a = 0 := by
    by_cases h : autoFault a = 0
    · exact h
    · unfold repE at he; rw [if_pos h] at he; exact he
  have ht : 0 ≤ t ∧ t < a.tracks := by
    by_cases h : t < 0 ∨ a.tracks ≤ t
    · unfold repE at he; rw [if_neg (fun q => q hf), if_pos h] at he; exact absurd he (by decide)
    · omega
  obtain ⟨k, rfl⟩ := Int.eq_ofNat_of_zero_le ht.1
  have hO : repO a (k : Int) = repA a k := by unfold repO; rw [if_pos he, Int.toNat_natCast]
  rw [he, hO] at c1
  have c2 := Eval_snd hG (repA a k) w
  obtain ⟨s, nW, r, ok⟩ := left_ok hf ht.2
  have hw0 : evErr (repA a k) w = 0 → _ := eval_ways ok (w := w)
  generalize repA a k = A at *
  have htb := Tab.cons c1 Tab.nil
  repeat' (first | (with_reducible first | apply w1 | apply w2 | apply w3 | apply w4 | apply w5 | apply w6 | apply w7 | apply w8 | apply w9 | apply wa | apply wb | apply wc) | ((with_reducible apply wd); focus decide) | ((with_reducible apply we); focus exact rfl) | ((with_reducible apply wf); focus exact rfl) | ((first | (with_reducible apply SW_run tt_ok hG htb) | ((with_reducible apply SW_draw rfl tt_ok hG htb); (focus kernel_rfl); focus simp only [List.range, List.range.loop, List.size_toArray, List.length_cons, List.length_nil, Nat.reduceAdd])); focus ((repeat' (first | (with_reducible first | exact wg | exact wh) | ((with_reducible first | apply wi | apply wj); focus (simp (discharger := omega) only [go_sem, tAuto, tErr0, tRep, simprocAttr]; with_reducible rfl)))); done)))
  clear htb c1
  have c3 := Rep_snd hG threesC 0
  have hE3 : repE threesC 0 = 0 := by unfold repE; rw [if_neg (fun q => q threesC_fault), if_neg (by decide)]
  have hO3 : repO threesC 0 = repA threesC 0 := by unfold repO; rw [if_pos hE3]; rfl
  rw [hE3, hO3] at c3
  have c4 := Eval_snd hG (repA threesC 0) [0, 0, 0, 0]
  rw [threesC_eval.1, threesC_eval.2] at c4
  have c5 := threesC_snd hG
  clear hE3 hO3
  generalize repA threesC 0 = B at *
  generalize threesC = th at *
  have htb := Tab.cons c3 (Tab.cons c4 (Tab.cons c5 Tab.nil))
  repeat' (first | (with_reducible first | apply w1 | apply w2 | apply w3 | apply w4 | apply w5 | apply w6 | apply w7 | apply w8 | apply w9 | apply wa | apply wb | apply wc) | ((with_reducible apply wd); focus decide) | ((with_reducible apply we); focus exact rfl) | ((with_reducible apply wf); focus exact rfl) | ((first | (with_reducible apply SW_run tt_ok hG htb) | ((with_reducible apply SW_draw rfl tt_ok hG htb); (focus kernel_rfl); focus simp only [List.range, List.range.loop, List.size_toArray, List.length_cons, List.length_nil, Nat.reduceAdd])); focus ((repeat' (first | (with_reducible first | exact wg | exact wh) | ((with_reducible first | apply wi | apply wj); focus (simp (discharger := omega) only [go_sem, tErr0, tRep, tInts, tAuto, simprocAttr]; with_reducible rfl)))); done)))
  clear htb c3 c4 c5
  by_cases hev : evErr A w = 0
  rotate_left
  · generalize evErr A w = e at *
    generalize evVal A w = v at *
    have htb := Tab.cons c2 Tab.nil
    repeat' (first | (with_reducible first | apply w1 | apply w2 | apply w3 | apply w4 | apply w5 | apply w6 | apply w7 | apply w8 | apply w9 | apply wa | apply wb | apply wc) | ((with_reducible apply wd); focus decide) | ((with_reducible apply we); focus exact rfl) | ((with_reducible apply wf); focus exact rfl) | ((first | (with_reducible apply SW_run tt_ok hG htb) | ((with_reducible apply SW_draw rfl tt_ok hG htb); (focus kernel_rfl); focus simp only [List.range, List.range.loop, List.size_toArray, List.length_cons, List.length_nil, Nat.reduceAdd])); focus ((repeat' (first | (with_reducible first | exact wg | exact wh) | ((with_reducible first | apply wi | apply wj); focus (simp (discharger := omega) only [go_sem, tErr, tRep, hev, simprocAttr]; with_reducible rfl)))); done)))
    exact (by simp (discharger := omega) only [go_sem, simprocAttr])
  obtain ⟨hva, hw4, hwl⟩ := hw0 hev
  rw [hev] at c2
  by_cases h5 : (w.length : Int) > 5
  · generalize evVal A w = v at *
    have htb := Tab.cons c2 Tab.nil
    have h5' := eq_true h5
    repeat' (first | (with_reducible first | apply w1 | apply w2 | apply w3 | apply w4 | apply w5 | apply w6 | apply w7 | apply w8 | apply w9 | apply wa | apply wb | apply wc) | ((with_reducible apply wd); focus decide) | ((with_reducible apply we); focus exact rfl) | ((with_reducible apply wf); focus exact rfl) | ((first | (with_reducible apply SW_run tt_ok hG htb) | ((with_reducible apply SW_draw rfl tt_ok hG htb); (focus kernel_rfl); focus simp only [List.range, List.range.loop, List.size_toArray, List.length_cons, List.length_nil, Nat.reduceAdd])); focus ((repeat' (first | (with_reducible first | exact wg | exact wh) | ((with_reducible first | apply wi | apply wj); focus (simp (discharger := omega) only [go_sem, tErr0, tRep, h5', simprocAttr]; with_reducible rfl)))); done)))
    exact (by simp (discharger := omega) only [go_sem, simprocAttr])
  have h5n : w.length ≤ 5 := by omega
  have cR := RRadix_snd hG a.base
  rw [ok.rad] at cR
  have hr2 := ok.r2
  have hr6 := ok.r6
  have hpow := pow_small hr2 hr6 h5n
  have g := ok.good
  have hkt := ok.kt
  have ht4 := ok.t4
  have hn36 := ok.nW36
  have htr := ok.tr
  have hrad0 := ok.rad0
  generalize evVal A w = v at *
  have htb := Tab.cons c2 (Tab.cons cR Tab.nil)
  repeat' (first | (with_reducible first | apply w1 | apply w2 | apply w3 | apply w4 | apply w5 | apply w6 | apply w7 | apply w8 | apply w9 | apply wa | apply wb | apply wc) | ((with_reducible apply wd); focus decide) | ((with_reducible apply we); focus exact rfl) | ((with_reducible apply wf); focus exact rfl) | ((first | (with_reducible apply SW_run tt_ok hG htb) | ((with_reducible apply SW_draw rfl tt_ok hG htb); (focus kernel_rfl); focus simp only [List.range, List.range.loop, List.size_toArray, List.length_cons, List.length_nil, Nat.reduceAdd])); focus ((repeat' (first | (with_reducible first | exact wg | exact wh) | ((with_reducible first | apply wi | apply wj); focus (simp (discharger := omega) only [go_sem, tErr0, tRep, h5, simprocAttr]; with_reducible rfl)))); done)))
  clear htb c2 cR hw0
  have htb : Tab.ok Try.prog G [] := Tab.nil
  refine SW_norm (Norm.headS (own := []) (keep := [1, 2, 3, 13, 14, 15, 16]) (by refine ⟨?_, ?_⟩; (simp (discharger := omega) only [go_sem, simprocAttr]; with_reducible rfl); refine ⟨?_, ?_, ?_, ?_⟩ <;> (simp only [go_sem, simprocAttr]; with_reducible rfl))) ?_
  refine SW_norm (Norm.fixBox 0 rfl rfl) ?_
  refine SW_norm (Norm.tr 3 rfl rfl) ?_
  refine SW_loop (fun mm st => ∃ (i : Nat), mm = w.length - i ∧ st = ⟨140, [(1, .t (tInt k)), (2, .t (tInts w)), (3, .t (autoP a)), (13, .t (tInt v)), (14, .t (tNat r)), (15, .t (tNat (r ^ i))), (16, .t (tNat i))], []⟩ ∧ i ≤ w.length) w.length
    ⟨_, Norm.headS (own := []) (keep := [1, 2, 3, 13, 14, 15, 16]) (by refine ⟨?_, ?_⟩; (simp (discharger := omega) only [go_sem, simprocAttr]; with_reducible rfl); refine ⟨?_, ?_, ?_, ?_⟩ <;> (simp only [go_sem, simprocAttr]; with_reducible rfl)), 0, rfl, rfl, Nat.zero_le _⟩ ?_
  rintro mm st ⟨i, rfl, rfl, hi⟩
  by_cases hlt : i < w.length
  · have hb := pow_small hr2 hr6 (show i + 1 ≤ 5 by omega)
    rw [Nat.pow_succ] at hb
    have hmul : ((r ^ i : Nat) : Int) * ((r : Nat) : Int) = ((r ^ i * r : Nat) : Int) := (Int.natCast_mul ..).symm
    have hpe : r ^ (i + 1) = r ^ i * r := Nat.pow_succ ..
    obtain ⟨P, hP⟩ : ∃ P, r ^ i = P := ⟨_, rfl⟩
    obtain ⟨P2, hP2⟩ : ∃ P2, r ^ (i + 1) = P2 := ⟨_, rfl⟩
    rw [hP] at hmul hb hpe ⊢
    rw [← hpe, hP2] at hmul hb
    repeat' (first | (with_reducible first | apply w1 | apply w2 | apply w3 | apply w4 | apply w5 | apply w6 | apply w7 | apply w8 | apply w9 | apply wa | apply wb | apply wc) | ((with_reducible apply wd); focus decide) | ((with_reducible apply we); focus exact rfl) | ((with_reducible apply wf); focus exact rfl) | ((first | (with_reducible apply SW_run tt_ok hG htb) | ((with_reducible apply SW_draw rfl tt_ok hG htb); (focus kernel_rfl); focus simp only [List.range, List.range.loop, List.size_toArray, List.length_cons, List.length_nil, Nat.reduceAdd])); focus ((repeat' (first | (with_reducible first | exact wg | exact wh) | ((with_reducible first | apply wi | apply wj); focus (simp (discharger := omega) only [go_sem, hmul, simprocAttr]; with_reducible rfl)))); done)))
    exact ⟨w.length - (i + 1), _, by omega, Norm.headS (own := []) (keep := [1, 2, 3, 13, 14, 15, 16]) (by refine ⟨?_, ?_⟩; (simp (discharger := omega) only [go_sem, simprocAttr]; with_reducible rfl); refine ⟨?_, ?_, ?_, ?_⟩ <;> (simp only [go_sem, simprocAttr]; with_reducible rfl)), i + 1, rfl, by rw [hP2]; rfl, by omega⟩
  obtain rfl : i = w.length := by omega
  obtain ⟨R, hR⟩ : ∃ R, r ^ w.length = R := ⟨_, rfl⟩
  rw [hR] at hpow hva ⊢
  repeat' (first | (with_reducible first | apply w1 | apply w2 | apply w3 | apply w4 | apply w5 | apply w6 | apply w7 | apply w8 | apply w9 | apply wa | apply wb | apply wc) | ((with_reducible apply wd); focus decide) | ((with_reducible apply we); focus exact rfl) | ((with_reducible apply wf); focus exact rfl) | ((first | (with_reducible apply SW_run tt_ok hG htb) | ((with_reducible apply SW_draw rfl tt_ok hG htb); (focus kernel_rfl); focus simp only [List.range, List.range.loop, List.size_toArray, List.length_cons, List.length_nil, Nat.reduceAdd])); focus ((repeat' (first | (with_reducible first | exact wg | exact wh) | ((with_reducible first | apply wi | apply wj); focus (simp (discharger := omega) only [go_sem, simprocAttr]; with_reducible rfl)))); done)))
  refine SW_loop (fun mm st => ∃ (x : Nat), mm = R - x ∧ st = ⟨140, [(1, .t (tInt k)), (2, .t (tInts w)), (3, .t (autoP a)), (13, .t (tInt v)), (14, .t (tNat r)), (15, .t (tNat R)), (17, .t (tInt (waysN a s k r w x))), (18, .t (tNat x))], []⟩ ∧ x ≤ R) R
    ⟨_, Norm.headS (own := []) (keep := [1, 2, 3, 13, 14, 15, 17, 18]) (by refine ⟨?_, ?_⟩; (simp (discharger := omega) only [go_sem, simprocAttr]; with_reducible rfl); refine ⟨?_, ?_, ?_, ?_⟩ <;> (simp only [go_sem, simprocAttr]; with_reducible rfl)), 0, rfl, rfl, Nat.zero_le _⟩ ?_
  rintro mm st ⟨x, rfl, rfl, hx⟩
  have hwb := waysN_bd (a := a) (t := s) (k := k) (r := r) (w := w) x
  by_cases hxR : x < R
  · obtain ⟨S, hS⟩ : ∃ S, waysN a s k r w x = S := ⟨_, rfl⟩
    rw [hS] at hwb ⊢
    obtain ⟨fv, hfv⟩ : ∃ fv, fillV (withR a.base s k) r w x = fv := ⟨_, rfl⟩
    have hfl : fv.length = w.length := by rw [← hfv]; exact fillV_len ..
    have hfat : ∀ i (h : i < w.length), fv[i]? = some ((withR a.base s k (w[i]).toNat).getD (x / r ^ i % r) 0) := fun i h => by rw [← hfv]; exact fillV_at _ _ _ _ i h
    repeat' (first | (with_reducible first | apply w1 | apply w2 | apply w3 | apply w4 | apply w5 | apply w6 | apply w7 | apply w8 | apply w9 | apply wa | apply wb | apply wc) | ((with_reducible apply wd); focus decide) | ((with_reducible apply we); focus exact rfl) | ((with_reducible apply wf); focus exact rfl) | ((first | (with_reducible apply SW_run tt_ok hG htb) | ((with_reducible apply SW_draw rfl tt_ok hG htb); (focus kernel_rfl); focus simp only [List.range, List.range.loop, List.size_toArray, List.length_cons, List.length_nil, Nat.reduceAdd])); focus ((repeat' (first | (with_reducible first | exact wg | exact wh) | ((with_reducible first | apply wi | apply wj); focus (simp (discharger := omega) only [go_sem, simprocAttr]; with_reducible rfl)))); done)))
    refine SW_loop (fun mm st => ∃ (i y : Nat) (dt : List T), mm = w.length - i ∧ st = ⟨140, [(1, .t (tInt k)), (2, .t (tInts w)), (3, .t (autoP a)), (13, .t (tInt v)), (14, .t (tNat r)), (15, .t (tNat R)), (17, .t (tInt S)), (18, .t (tNat x)), (19, .sref 0), (20, .t (tNat y)), (21, .t (tNat i))], [.row 3 1 false dt]⟩ ∧ i ≤ w.length ∧ y = x / r ^ i ∧ dt = (fv.take i).map tInt) w.length
      ⟨_, Norm.headS (own := [(19, 3, 1, false)]) (keep := [1, 2, 3, 13, 14, 15, 17, 18, 19, 20, 21]) (by refine ⟨?_, ?_⟩; (simp (discharger := omega) only [go_sem, simprocAttr]; with_reducible rfl); refine ⟨?_, ?_, ?_, ?_⟩ <;> (simp only [go_sem, simprocAttr]; with_reducible rfl)), 0, x, [], rfl, rfl, Nat.zero_le _, by rw [Nat.pow_zero, Nat.div_one], rfl⟩ ?_
    rintro mm st ⟨i, y, dt, rfl, rfl, hi, hy, hdt⟩
    have hdl : dt.length = i := by rw [hdt]; simp; omega
    have hyR : y ≤ 7776 := by rw [hy]; exact Nat.le_trans (Nat.div_le_self ..) (by omega)
    by_cases hlt : i < w.length
    · have hwm := hwl w[i] (List.getElem_mem hlt)
      obtain ⟨l, hl⟩ := Int.eq_ofNat_of_zero_le hwm.1
      have hwi : w[i]! = ((l : Nat) : Int) := by rw [getElem!_pos w i hlt, hl]
      have c1 := Without_snd hG a.base s k l hrad0 ht4 hkt (by omega)
      rw [← htr] at c1
      have hfi := hfat i hlt
      rw [hl, Int.toNat_natCast, ← hy] at hfi
      have hql := withR_len (k := k) (t := s) (l := l) ok.rad
      have c1 : Snd Try.prog G 13 [tInt a.base, tInt a.tracks, tInt k, tInt l] (tInts (withR a.base s k l)) := c1
      generalize withR a.base s k l = q at *
      have hd : y % r < r := Nat.mod_lt _ (by omega)
      have hrem : ((y : Nat) : Int).tmod ((r : Nat) : Int) = ((y % r : Nat) : Int) := by rw [Int.tmod_eq_emod_of_nonneg (by omega)]; exact (Int.natCast_emod ..).symm
      have hquo : ((y : Nat) : Int).tdiv ((r : Nat) : Int) = ((y / r : Nat) : Int) := by rw [Int.tdiv_eq_ediv_of_nonneg (by omega)]; exact (Int.natCast_ediv ..).symm
      have hy2 : x / r ^ (i + 1) = y / r := by rw [Nat.pow_succ, ← Nat.div_div_eq_div_mul, ← hy]
      have hyb : y / r ≤ 7776 := Nat.le_trans (Nat.div_le_self ..) hyR
      obtain ⟨d, hdd⟩ : ∃ d, y % r = d := ⟨_, rfl⟩
      obtain ⟨z, hz⟩ : ∃ z, y / r = z := ⟨_, rfl⟩
      rw [hdd] at hrem hd hfi
      rw [hz] at hquo hy2 hyb
      obtain ⟨u, hu⟩ : ∃ u, q[d]! = u := ⟨_, rfl⟩
      have htk : fv.take (i + 1) = fv.take i ++ [u] := by
        rw [bang_D hu (by omega)] at hfi
        obtain ⟨h1, h2⟩ := List.getElem?_eq_some_iff.1 hfi
        rw [List.take_succ_eq_append_getElem h1, h2]
      have hr0 : ¬ ((r : Nat) : Int) = 0 := by omega
      clear htb
      have htb := Tab.cons c1 Tab.nil
      repeat' (first | (with_reducible first | apply w1 | apply w2 | apply w3 | apply w4 | apply w5 | apply w6 | apply w7 | apply w8 | apply w9 | apply wa | apply wb | apply wc) | ((with_reducible apply wd); focus decide) | ((with_reducible apply we); focus exact rfl) | ((with_reducible apply wf); focus exact rfl) | ((first | (with_reducible apply SW_run tt_ok hG htb) | ((with_reducible apply SW_draw rfl tt_ok hG htb); (focus kernel_rfl); focus simp only [List.range, List.range.loop, List.size_toArray, List.length_cons, List.length_nil, Nat.reduceAdd])); focus ((repeat' (first | (with_reducible first | exact wg | exact wh) | ((with_reducible first | apply wi | apply wj); focus (simp (discharger := omega) only [go_sem, hwi, hu, hrem, hquo, hr0, hql, autoP, simprocAttr]; with_reducible rfl)))); done)))
      exact ⟨w.length - (i + 1), _, by omega, Norm.headS (own := [(19, 3, 1, false)]) (keep := [1, 2, 3, 13, 14, 15, 17, 18, 19, 20, 21]) (by refine ⟨?_, ?_⟩; (simp (discharger := omega) only [go_sem, simprocAttr]; with_reducible rfl); refine ⟨?_, ?_, ?_, ?_⟩ <;> (simp only [go_sem, simprocAttr]; with_reducible rfl)), i + 1, z, _, rfl, rfl, by omega, hy2.symm, by rw [htk, List.map_append, ← hdt]; rfl⟩
    obtain rfl : i = w.length := by omega
    rw [List.take_of_length_le (by omega)] at hdt
    subst hdt
    refine SW_norm (Norm.frz 19 rfl rfl) ?_
    have hfm : ∀ z ∈ fv, 0 ≤ z ∧ z < (((manyOf a.base a.tracks).toNat : Nat) : Int) := fun z hz => by
      obtain ⟨i, hi, rfl⟩ := List.getElem_of_mem hz
      have h1 := hfat i (by omega)
      rw [List.getElem?_eq_getElem hi] at h1
      have h2 : x / r ^ i % r < (withR a.base s k (w[i]'(by omega)).toNat).length := by rw [withR_len ok.rad]; exact Nat.mod_lt _ (by omega)
      rw [getD_lt h2] at h1
      rw [Option.some.inj h1]
      exact withR_bd ok _ _ (List.getElem_mem h2)
    have c1 := Behind_snd hG a fv g hfm
    have hq := runFrom_ok g.rows fv (s := 0) ⟨Int.le_refl _, by have := g.m0; omega⟩ hfm
    obtain ⟨b, hb⟩ : ∃ b, endOf a.ends (runFrom a.next 0 fv) = b := ⟨_, rfl⟩
    have hstep := waysN_step (a := a) (t := s) (k := k) (r := r) (w := w) (x := x) (b := b) (by rw [hfv]; exact hb)
    rw [hS] at hstep
    generalize runFrom a.next 0 fv = q at *
    obtain ⟨q', rfl⟩ := Int.eq_ofNat_of_zero_le hq.1
    have hmE := g.ends
    have hqe : q' < a.ends.length := by omega
    have hb2 : a.ends[q']! = b := by
      unfold endOf at hb
      rw [Int.toNat_natCast, getD_lt hqe] at hb
      rw [getElem!_pos a.ends q' hqe, hb]
    clear htb
    have htb := Tab.cons c1 Tab.nil
    cases b with
    | false =>
      repeat' (first | (with_reducible first | apply w1 | apply w2 | apply w3 | apply w4 | apply w5 | apply w6 | apply w7 | apply w8 | apply w9 | apply wa | apply wb | apply wc) | ((with_reducible apply wd); focus decide) | ((with_reducible apply we); focus exact rfl) | ((with_reducible apply wf); focus exact rfl) | ((first | (with_reducible apply SW_run tt_ok hG htb) | ((with_reducible apply SW_draw rfl tt_ok hG htb); (focus kernel_rfl); focus simp only [List.range, List.range.loop, List.size_toArray, List.length_cons, List.length_nil, Nat.reduceAdd])); focus ((repeat' (first | (with_reducible first | exact wg | exact wh) | ((with_reducible first | apply wi | apply wj); focus (simp (discharger := omega) only [go_sem, hb2, autoP, tAuto, simprocAttr]; with_reducible rfl)))); done)))
      exact ⟨R - (x + 1), _, by omega, Norm.headS (own := []) (keep := [1, 2, 3, 13, 14, 15, 17, 18]) (by refine ⟨?_, ?_⟩; (simp (discharger := omega) only [go_sem, simprocAttr]; with_reducible rfl); refine ⟨?_, ?_, ?_, ?_⟩ <;> (simp only [go_sem, simprocAttr]; with_reducible rfl)), x + 1, rfl, by rw [hstep, if_neg (by decide), Int.add_zero]; rfl, by omega⟩
    | true =>
      repeat' (first | (with_reducible first | apply w1 | apply w2 | apply w3 | apply w4 | apply w5 | apply w6 | apply w7 | apply w8 | apply w9 | apply wa | apply wb | apply wc) | ((with_reducible apply wd); focus decide) | ((with_reducible apply we); focus exact rfl) | ((with_reducible apply wf); focus exact rfl) | ((first | (with_reducible apply SW_run tt_ok hG htb) | ((with_reducible apply SW_draw rfl tt_ok hG htb); (focus kernel_rfl); focus simp only [List.range, List.range.loop, List.size_toArray, List.length_cons, List.length_nil, Nat.reduceAdd])); focus ((repeat' (first | (with_reducible first | exact wg | exact wh) | ((with_reducible first | apply wi | apply wj); focus (simp (discharger := omega) only [go_sem, hb2, autoP, tAuto, simprocAttr]; with_reducible rfl)))); done)))
      exact ⟨R - (x + 1), _, by omega, Norm.headS (own := []) (keep := [1, 2, 3, 13, 14, 15, 17, 18]) (by refine ⟨?_, ?_⟩; (simp (discharger := omega) only [go_sem, simprocAttr]; with_reducible rfl); refine ⟨?_, ?_, ?_, ?_⟩ <;> (simp only [go_sem, simprocAttr]; with_reducible rfl)), x + 1, rfl, by rw [hstep, if_pos rfl]; rfl, by omega⟩
  obtain rfl : x = R := by omega
  rw [← hva]
  by_cases h1 : a.tracks = 1
  rotate_left
  · repeat' (first | (with_reducible first | apply w1 | apply w2 | apply w3 | apply w4 | apply w5 | apply w6 | apply w7 | apply w8 | apply w9 | apply wa | apply wb | apply wc) | ((with_reducible apply wd); focus decide) | ((with_reducible apply we); focus exact rfl) | ((with_reducible apply wf); focus exact rfl) | ((first | (with_reducible apply SW_run tt_ok hG htb) | ((with_reducible apply SW_draw rfl tt_ok hG htb); (focus kernel_rfl); focus simp only [List.range, List.range.loop, List.size_toArray, List.length_cons, List.length_nil, Nat.reduceAdd])); focus ((repeat' (first | (with_reducible first | exact wg | exact wh) | ((with_reducible first | apply wi | apply wj); focus (simp (discharger := omega) only [go_sem, autoP, h1, simprocAttr]; with_reducible rfl)))); done)))
    exact (by simp (discharger := omega) only [go_sem, simprocAttr])
  obtain rfl : s = 0 := by omega
  obtain rfl : k = 0 := by omega
  obtain ⟨e1, e2⟩ := ways_long ok h5n
  have c1 := Long_snd hG a (w.length : Int)
  have l1 : longErr a (w.length : Int) = 0 := by unfold longErr; rw [if_neg (fun q => q hf), if_neg (by omega), if_neg (by omega)]
  have l2 : longOf a (w.length : Int) = v := by unfold longOf; rw [if_pos l1, hva, ← hR, e1]
  rw [l1, l2] at c1
  clear htb
  have htb := Tab.cons c1 Tab.nil
  repeat' (first | (with_reducible first | apply w1 | apply w2 | apply w3 | apply w4 | apply w5 | apply w6 | apply w7 | apply w8 | apply w9 | apply wa | apply wb | apply wc) | ((with_reducible apply wd); focus decide) | ((with_reducible apply we); focus exact rfl) | ((with_reducible apply wf); focus exact rfl) | ((first | (with_reducible apply SW_run tt_ok hG htb) | ((with_reducible apply SW_draw rfl tt_ok hG htb); (focus kernel_rfl); focus simp only [List.range, List.range.loop, List.size_toArray, List.length_cons, List.length_nil, Nat.reduceAdd])); focus ((repeat' (first | (with_reducible first | exact wg | exact wh) | ((with_reducible first | apply wi | apply wj); focus (simp (discharger := omega) only [go_sem, autoP, tAuto, h1, tErr0, simprocAttr]; with_reducible rfl)))); done)))
  exact (by simp (discharger := omega) only [go_sem, simprocAttr])
end
theorem CountReps_walk (v : Value) (a : GAuto) (t : Int) (u : Value) (l : List Int) (w : World) (h : ReadsAuto w v a) (_ : I64 t) (h' : ReadsInts w u l) : Calls Try.prog 3 #[v, .int .i64 t, u] w (Ret (.bool true) w) :=
  walkN (CountReps_snd (G := fun _ => True) (fun _ _ _ _ => trivial) a t l) trivial rfl fun k y z p q => by
    match k, p, q with
    | 0, p, q => cases p; cases q; exact h.2
    | 1, p, q => cases p; cases q; exact .int _ _
    | 2, p, q => cases p; cases q; exact h'.2
end Go.Proofs.Ythcclcbliedodaa
namespace Go.Proofs.Ythcclcbliedodaa.countReps
open Go.ChangeShapes Go.WideShapes Go.ChangeAt Go.RowKit

set_option maxRecDepth 100000 in
theorem lifted (os : Os) (started : os.Started) (H : Type) (enc : TypeId × Value → H) :
    ReturnsInHanded {} Try.checked os 3 .any (Rows.countRepsSpec.pre6 enc Try.prog Try.f3 Rows.countRepsRow.domain false) (Rows.countRepsSpec.post enc Try.prog Try.f3 false true false false) := by
  refine returnsInHanded_of_change (C := Try.checked) own started (by kernel_rfl) Try.func3
    (ChangeSpec.witness6 (enc := enc) (C := Try.checked) false ⟨#[], #[.agg #[.int .i64 0, .int .i64 0, .slice none 0 0, .slice none 0 0], .int .i64 0, .slice none 0 0], []⟩ 8 (by kernel_rfl) (by kernel_rfl) (by kernel_rfl) (by kernel_rfl)) ?_
  intro W base args ds gs before hval0 hW hcnd _
  have hval : ∀ (j : Nat) t v, Try.f3.params[j]? = some t → args[j]? = some v → Value.okWide Try.prog W .any base t v := hval0
  have hW' := hW
  obtain ⟨p, q, hA0, hV, rfl, hfz, hnd⟩ := hW
  have hA : DataW.TrodAll enc Try.prog W 0 (fun _ => true) true Try.f3.params.toList args.toList ds p := hA0
  rw [Try.params3] at hA hval
  obtain ⟨v0, vs0, d0, ds0, p0, q0, hargs, rfl, rfl, h0, r0⟩ := trodAll_cons hA
  obtain ⟨v1, vs1, d1, ds1, p1, q1, rfl, rfl, rfl, h1, r1⟩ := trodAll_cons r0
  obtain ⟨v2, vs2, d2, ds2, p2, q2, rfl, rfl, rfl, h2, r2⟩ := trodAll_cons r1
  obtain ⟨rfl, rfl, rfl⟩ := trodAll_nil r2
  obtain rfl : args = #[v0, v1, v2] := by cases args; simp_all
  obtain ⟨rfl, rfl⟩ := trodVars_none hV
  have k0 := h0
  have lt0 : ∀ x ∈ p0, x.block < W.heap.size := by obtain ⟨m, hm⟩ := k0; exact DataW.trod_lt m _ _ _ hm
  obtain ⟨a0, w0⟩ := openAutoT (hval 0 25 v0 rfl rfl) h0
  obtain ⟨a1, rfl, rfl, rfl, w1⟩ := open_int Try.underlying3 (hval 1 3 v1 rfl rfl) h1
  obtain ⟨b2, len2, cap2, rfl⟩ := okWide_slice Try.underlying26 (hval 2 26 v2 rfl rfl)
  have k2 := h2
  have lt2 : ∀ x ∈ p2, x.block < W.heap.size := by obtain ⟨m, hm⟩ := k2; exact DataW.trod_lt m _ _ _ hm
  obtain ⟨a2, w2⟩ := openIntsT rfl h2
  clear hA0 hval0
  refine (CountReps_walk _ a0 a1 _ a2 W w0 (i64_of_wf w1) w2).mono fun e W' ⟨he, bel⟩ => ?_
  subst he
  exact ⟨_, rfl, _, _, _, [], _, [], hW', trodAll_mk1 (shut_bool Try.underlying4 _), (trodAll_cons_mk (Below.trod laidOut (by kernel_rfl) (of_decide_eq_true (by kernel_rfl)) k0 bel lt0) (trodAll_cons_mk (shut_int Try.underlying3 w1) (trodAll_cons_mk (Below.trod laidOut (by kernel_rfl) (of_decide_eq_true (by kernel_rfl)) k2 bel lt2) trodAll_mk0))), rfl, bel.frame _, fun h => by cases h⟩

theorem over : Rows.countRepsRow.holds Try.pinned (OpenSpec.ofChange Rows.countRepsSpec) :=
  OpenClaim.holds_of_wide 3 Try.f3 rfl rfl rfl rfl rfl rfl rfl ⟨rfl, rfl, rfl, rfl, rfl⟩ rfl rfl rfl rfl rfl (by kernel_rfl) Try.func3 (by kernel_rfl)
    (of_decide_eq_true (by kernel_rfl)) (by unfold Func.isWrapper; first | (rw [if_pos (by decide +kernel)]; kernel_rfl) | (rw [if_neg (by decide +kernel)]; exact ⟨rfl, rfl⟩))
    (fun os started H enc _ => lifted os started H enc)

/-- THE STATEMENT. -/
theorem proved : Rows.CountRepsSaid := over
#print axioms proved
end Go.Proofs.Ythcclcbliedodaa.countReps
