/- The law CountLongs returns true at every input and leaves its arguments as they read; the card ties the variable that errors.As reads. No conditions. -/
import Derived.Test.YthcclcbliedodaaDoorM5
set_option linter.unusedSimpArgs false
set_option linter.unusedVariables false
set_option linter.unnecessarySimpa false
set_option linter.unusedSectionVars false
namespace Go.Proofs.YthcclcbliedodaaDoor
open Go.RowKit

def GRep.zero : GRep := ⟨0, 0, [], [], []⟩
open Classical in
noncomputable def repE (a : GAuto) (track : Int) : Int := if autoFault a ≠ 0 then autoFault a else if track < 0 ∨ a.tracks ≤ track then 1 else 0
noncomputable def repO (a : GAuto) (track : Int) : GRep := if repE a track = 0 then repA a track.toNat else GRep.zero
section
variable {G : World → Prop} (hG : Lasting G)
include hG
set_option maxHeartbeats 32000000 in
set_option maxRecDepth 100000 in
theorem Rep_snd (a : GAuto) (track : Int) : Snd Tryd.prog G 12 [tAuto a, tInt track] (.tup [tRep (repO a track), tErr (repE a track)]) := by
  have c1 := Check_snd hG a
  refine sndH_of_body (κ := Nat × Nat) (n := 149) (tm := [(0, .t (tAuto a)), (1, .t (tInt track))]) (rs := [.cell 4 38, .tmp 5]) ttR_ok Tryd.func12 rfl rfl rfl rfl rfl ?_
  have hbad : repE a track ≠ 0 → repO a track = GRep.zero := fun h => if_neg h
  by_cases hf : autoFault a = 0
  rotate_left
  · have he : repE a track = autoFault a := if_pos hf
    rw [hbad (by rw [he]; exact hf), he]
    generalize autoFault a = e at *
    have htb := Tab.cons c1 Tab.nil
    repeat' (first | (with_reducible first | apply v1 | apply v2 | apply v3 | apply v4 | apply v5 | apply v6 | apply v7 | apply v8 | apply v9 | apply va | apply vb | apply vc) | ((with_reducible apply vd); focus decide) | ((with_reducible apply ve); focus exact rfl) | ((with_reducible apply vf); focus exact rfl) | ((first | (with_reducible apply HW_run ttR_ok hG htb) | ((with_reducible apply HW_draw rfl ttR_ok hG htb); (focus kernel_rfl); focus simp only [List.range, List.range.loop, List.size_toArray, List.length_cons, List.length_nil, Nat.reduceAdd])); focus ((repeat' (first | (with_reducible first | exact wg | exact wh) | ((with_reducible first | apply wi | apply wj); focus (simp (discharger := omega) only [go_sem, tAuto, tErr, hf, simprocAttr]; with_reducible rfl)))); done)))
    exact (by simp (discharger := omega) only [go_sem, tRep, tErr, hf, GRep.zero, simprocAttr])
  rw [hf] at c1
  have htb := Tab.cons c1 Tab.nil
  by_cases hk0 : track < 0
  · have he : repE a track = 1 := by unfold repE; rw [if_neg (fun q => q hf), if_pos (.inl hk0)]
    rw [hbad (by rw [he]; decide), he]
    have h1 := eq_true hk0
    repeat' (first | (with_reducible first | apply v1 | apply v2 | apply v3 | apply v4 | apply v5 | apply v6 | apply v7 | apply v8 | apply v9 | apply va | apply vb | apply vc) | ((with_reducible apply vd); focus decide) | ((with_reducible apply ve); focus exact rfl) | ((with_reducible apply vf); focus exact rfl) | ((first | (with_reducible apply HW_run ttR_ok hG htb) | ((with_reducible apply HW_draw rfl ttR_ok hG htb); (focus kernel_rfl); focus simp only [List.range, List.range.loop, List.size_toArray, List.length_cons, List.length_nil, Nat.reduceAdd])); focus ((repeat' (first | (with_reducible first | exact wg | exact wh) | ((with_reducible first | apply wi | apply wj); focus (simp (discharger := omega) only [go_sem, tAuto, tErr0, h1, simprocAttr]; with_reducible rfl)))); done)))
    exact (by simp (discharger := omega) only [go_sem, tRep, tErr, GRep.zero, simprocAttr])
  by_cases hkt : a.tracks ≤ track
  · have he : repE a track = 1 := by unfold repE; rw [if_neg (fun q => q hf), if_pos (.inr hkt)]
    rw [hbad (by rw [he]; decide), he]
    have hk1 : track ≥ a.tracks := hkt
    have hk2 := eq_true hk1
    repeat' (first | (with_reducible first | apply v1 | apply v2 | apply v3 | apply v4 | apply v5 | apply v6 | apply v7 | apply v8 | apply v9 | apply va | apply vb | apply vc) | ((with_reducible apply vd); focus decide) | ((with_reducible apply ve); focus exact rfl) | ((with_reducible apply vf); focus exact rfl) | ((first | (with_reducible apply HW_run ttR_ok hG htb) | ((with_reducible apply HW_draw rfl ttR_ok hG htb); (focus kernel_rfl); focus simp only [List.range, List.range.loop, List.size_toArray, List.length_cons, List.length_nil, Nat.reduceAdd])); focus ((repeat' (first | (with_reducible first | exact wg | exact wh) | ((with_reducible first | apply wi | apply wj); focus (simp (discharger := omega) only [go_sem, tAuto, tErr0, hk0, hk2, simprocAttr]; with_reducible rfl)))); done)))
    exact (by simp (discharger := omega) only [go_sem, tRep, tErr, GRep.zero, simprocAttr])
  obtain ⟨k, rfl⟩ : ∃ k : Nat, track = (k : Int) := ⟨track.toNat, by omega⟩
  have he : repE a (k : Int) = 0 := by unfold repE; rw [if_neg (fun q => q hf), if_neg (by omega)]
  have hO : repO a (k : Int) = repA a k := by unfold repO; rw [if_pos he, Int.toNat_natCast]
  rw [hO, he]
  clear hbad hO he
  repeat' (first | (with_reducible first | apply v1 | apply v2 | apply v3 | apply v4 | apply v5 | apply v6 | apply v7 | apply v8 | apply v9 | apply va | apply vb | apply vc) | ((with_reducible apply vd); focus decide) | ((with_reducible apply ve); focus exact rfl) | ((with_reducible apply vf); focus exact rfl) | ((first | (with_reducible apply HW_run ttR_ok hG htb) | ((with_reducible apply HW_draw rfl ttR_ok hG htb); (focus kernel_rfl); focus simp only [List.range, List.range.loop, List.size_toArray, List.length_cons, List.length_nil, Nat.reduceAdd])); focus ((repeat' (first | (with_reducible first | exact wg | exact wh) | ((with_reducible first | apply wi | apply wj); focus (simp (discharger := omega) only [go_sem, tAuto, tErr0, hk0, hkt, simprocAttr]; with_reducible rfl)))); done)))
  clear htb
  refine HW_norm (Norm.headS (own := []) (keep := [1, 2, 4, 7]) (by refine ⟨?_, ?_⟩; (simp (discharger := omega) only [go_sem, simprocAttr]; with_reducible rfl); refine ⟨?_, ?_, ?_, ?_⟩ <;> (simp only [go_sem, simprocAttr]; with_reducible rfl))) ?_
  refine HW_norm (Norm.fixBox 0 rfl rfl) ?_
  refine HW_norm (Norm.tr 2 rfl rfl) ?_
  refine HW_norm (Norm.headS (own := []) (keep := [1, 2, 4, 7]) (by refine ⟨?_, ?_⟩; (simp (discharger := omega) only [go_sem, simprocAttr]; with_reducible rfl); refine ⟨?_, ?_, ?_, ?_⟩ <;> (simp only [go_sem, simprocAttr]; with_reducible rfl))) ?_
  obtain ⟨t, nW, r, ok⟩ := left_ok hf (k := k) (by omega)
  have g0 := ok.good
  have htt : a.tracks - 1 = ((t : Nat) : Int) := by have := ok.tr; omega
  have htr := ok.tr
  have ht4 := ok.t4
  have hkt2 := ok.kt
  have hn36 := ok.nW36
  have hn0 := ok.nW0
  have hrad0 := ok.rad0
  have hmany := ok.many
  have hdlt := ok.drop_lt
  have cM := Many_snd hG a.base (t : Int)
  rw [ok.nWe, ok.many] at cM
  have cU := fun L : Nat => Unpack_snd hG a.base a.tracks (L : Int)
  have hWl := withW_len ok
  have hWat : ∀ l, l < nW → (withW a.base t k)[l]? = some (withR a.base t k l) := fun l hl => withW_get ok hl
  obtain ⟨N, hN⟩ : ∃ N, (manyOf a.base a.tracks).toNat = N := ⟨_, rfl⟩
  have hsel := fun (l : Nat) (hl : l < nW) (m s : Nat) => cntRow_sel ok hl a.next m s
  rw [hN] at g0 hsel
  obtain ⟨m, hm⟩ : ∃ m, a.next.length = m := ⟨_, rfl⟩
  rw [hm] at g0
  have gR := g0.rows
  have hm0 := g0.m0
  have hm80 := g0.m80
  have hN36 := g0.n36
  have hmE := g0.ends
  have hNe := g0.n_eq
  have hgm := g0.many
  have hrep : repA a k = ⟨a.base, (t : Int), firstV m, (withW a.base t k).map (matM a.next m), lastV a.ends⟩ := by unfold repA; rw [hm, htt, Int.toNat_natCast]
  rw [hrep]
  obtain ⟨W, hW⟩ : ∃ W, withW a.base t k = W := ⟨_, rfl⟩
  rw [hW] at hWl hWat ⊢
  obtain ⟨F, hF⟩ : ∃ F, firstV m = F := ⟨_, rfl⟩
  obtain ⟨Lv, hL⟩ : ∃ Lv, lastV a.ends = Lv := ⟨_, rfl⟩
  have hFl : F.length = m := by rw [← hF]; simp [firstV]
  have hLl : Lv.length = m := by rw [← hL]; simp [lastV, hmE]
  have hF0 : F = (List.replicate m 0).set 0 1 := by
    rw [← hF]
    apply List.ext_getElem
    · simp [firstV]
    · intro i h1 h2
      simp only [firstV, List.getElem_map, List.getElem_range, List.getElem_set, List.getElem_replicate]
      by_cases e : i = 0
      · rw [if_pos e, if_pos e.symm]
      · rw [if_neg e, if_neg fun q => e q.symm]
  rw [hF, hL]
  have htb := Tab.cons cM Tab.nil
  rw [hm]
  refine HW_norm (Norm.hole _) ?_
  refine HW_norm (Norm.hole _) ?_
  refine HW_norm (Norm.hole _) ?_
  refine HW_sw ?_
  (with_reducible apply SW_drawB [(6, 1), (8, 2), (10, 3)] rfl ttR_ok hG htb)
  · kernel_rfl
  · simp only [List.range, List.range.loop, List.size_toArray, List.length_cons, List.length_nil, Nat.reduceAdd]
    repeat' (first | (with_reducible exact runG_nil) | ((with_reducible apply runG_cons); focus (simp (discharger := omega) only [go_sem, stepB, allocB, newOb, refOb, htt, hm, simprocAttr]; with_reducible rfl)))
  refine HThen_n ?_
  repeat' (first | (with_reducible first | apply v1 | apply v2 | apply v3 | apply v4 | apply v5 | apply v6 | apply v7 | apply v8 | apply v9 | apply va | apply vb | apply vc) | ((with_reducible apply vd); focus decide) | ((with_reducible apply ve); focus exact rfl) | ((with_reducible apply vf); focus exact rfl) | ((first | (with_reducible apply HW_run ttR_ok hG htb) | ((with_reducible apply HW_draw rfl ttR_ok hG htb); (focus kernel_rfl); focus simp only [List.range, List.range.loop, List.size_toArray, List.length_cons, List.length_nil, Nat.reduceAdd])); focus ((repeat' (first | (with_reducible first | exact wg | exact wh) | ((with_reducible first | apply wi | apply wj); focus (simp (discharger := omega) only [go_sem, tErr0, simprocAttr]; with_reducible rfl)))); done)))
  clear htb
  have htb : Tab.ok Tryd.prog G [] := Tab.nil
  have hall : ∀ l : List Int, (l.all fun _ => true) = true := fun l => by simp
  refine HW_loop (fun mm st g => ∃ (l : Nat) (tops : List T), mm = nW - l ∧ st = ⟨149, [(1, .t (tInt k)), (2, .t (autoP a)), (4, .bptr 0 0), (7, .t (tNat m)), (8, .bptr 1 0), (61, .t (tNat nW)), (62, .t (tNat l))], [.box [.t (tInt 0), .t (tInt 0), .nil, .nil, .nil], .box [.t (tInt a.base), .t (tNat t), .sref 2, .sref 3, .sref 4], .row 3 1 true (F.map (T.int .i64)), .row 22 1 true tops, .row 3 1 true (List.replicate m (T.int .i64 0))]⟩ ∧ l ≤ nW ∧ RepInv g tops l m (fun _ _ => List.replicate m 0)) nW
    ⟨_, ((Norm.headS (own := []) (keep := [1, 2, 4, 7, 8, 61, 62]) (by refine ⟨?_, ?_⟩; (simp (discharger := omega) only [go_sem, simprocAttr]; with_reducible rfl); refine ⟨?_, ?_, ?_, ?_⟩ <;> (simp only [go_sem, simprocAttr]; with_reducible rfl))).trans (Norm.ownB (j := 1) (off := 3) (e := 22) (sz := 1) rfl rfl (by decide))).trans (Norm.headS (own := []) (keep := [1, 2, 4, 7, 8, 61, 62]) (by refine ⟨?_, ?_⟩; (simp (discharger := omega) only [go_sem, simprocAttr]; with_reducible rfl); refine ⟨?_, ?_, ?_, ?_⟩ <;> (simp only [go_sem, simprocAttr]; with_reducible rfl))), 0, [], rfl, by rw [hF0, List.map_set, List.map_replicate]; rfl, Nat.zero_le _, RepInv.start m _⟩ ?_
  rintro mm st g ⟨l, tops, rfl, rfl, hl, hinv⟩
  have htl := hinv.len
  by_cases hlt : l < nW
  · repeat' (first | (with_reducible first | apply v1 | apply v2 | apply v3 | apply v4 | apply v5 | apply v6 | apply v7 | apply v8 | apply v9 | apply va | apply vb | apply vc) | ((with_reducible apply vd); focus decide) | ((with_reducible apply ve); focus exact rfl) | ((with_reducible apply vf); focus exact rfl) | ((first | (with_reducible apply HW_run ttR_ok hG htb) | ((with_reducible apply HW_draw rfl ttR_ok hG htb); (focus kernel_rfl); focus simp only [List.range, List.range.loop, List.size_toArray, List.length_cons, List.length_nil, Nat.reduceAdd])); focus ((repeat' (first | (with_reducible first | exact wg | exact wh) | ((with_reducible first | apply wi | apply wj); focus (simp (discharger := omega) only [go_sem, simprocAttr]; with_reducible rfl)))); done)))
    refine HW_loop (fun mm st g' => ∃ (s : Nat) (ms : List T), mm = m - s ∧ st = ⟨149, [(1, .t (tInt k)), (2, .t (autoP a)), (4, .bptr 0 0), (7, .t (tNat m)), (8, .bptr 1 0), (11, .sref 2), (61, .t (tNat nW)), (62, .t (tNat l)), (67, .t (tNat m)), (68, .t (tNat s))], [.box [.t (tInt 0), .t (tInt 0), .nil, .nil, .nil], .box [.t (tInt a.base), .t (tNat t), .sref 3, .sref 4, .sref 5], .row 35 1 true ms, .row 3 1 true (F.map (T.int .i64)), .row 22 1 true tops, .row 3 1 true (List.replicate m (T.int .i64 0))]⟩ ∧ s ≤ m ∧ MatInv g' g ms l m s) m
      ⟨_, Norm.headS (own := []) (keep := [1, 2, 4, 7, 8, 11, 61, 62, 67, 68]) (by refine ⟨?_, ?_⟩; (simp (discharger := omega) only [go_sem, simprocAttr]; with_reducible rfl); refine ⟨?_, ?_, ?_, ?_⟩ <;> (simp only [go_sem, simprocAttr]; with_reducible rfl)), 0, _, rfl, rfl, Nat.zero_le _, MatInv.start fun q => hinv.out l q (Nat.le_refl _)⟩ ?_
    rintro mm st g' ⟨s, ms, rfl, rfl, hs, hmat⟩
    have hmsl := hmat.len
    by_cases hsm : s < m
    · refine HW_seq ?_
      repeat' (first | (with_reducible first | apply v2 | apply v3 | apply v4 | apply v5 | apply v6 | apply v7 | apply v8 | apply v9 | apply va | apply vb | apply vc) | ((with_reducible apply vd); focus decide) | ((with_reducible apply ve); focus exact rfl) | ((with_reducible apply vf); focus exact rfl) | ((first | (with_reducible apply HW_run ttR_ok hG htb) | ((with_reducible apply HW_draw rfl ttR_ok hG htb); (focus kernel_rfl); focus simp only [List.range, List.range.loop, List.size_toArray, List.length_cons, List.length_nil, Nat.reduceAdd])); focus ((repeat' (first | (with_reducible first | exact wg | exact wh) | ((with_reducible first | apply wi | apply wj); focus (simp (discharger := omega) only [go_sem, simprocAttr]; with_reducible rfl)))); done)))
      refine HW_seq ?_
      repeat' (first | (with_reducible first | apply v2 | apply v3 | apply v4 | apply v5 | apply v6 | apply v7 | apply v8 | apply v9 | apply va | apply vb | apply vc) | ((with_reducible apply vd); focus decide) | ((with_reducible apply ve); focus exact rfl) | ((with_reducible apply vf); focus exact rfl) | ((first | (with_reducible apply HW_run ttR_ok hG htb) | ((with_reducible apply HW_draw rfl ttR_ok hG htb); (focus kernel_rfl); focus simp only [List.range, List.range.loop, List.size_toArray, List.length_cons, List.length_nil, Nat.reduceAdd])); focus ((repeat' (first | (with_reducible first | exact wg | exact wh) | ((with_reducible first | apply wi | apply wj); focus (simp (discharger := omega) only [go_sem, simprocAttr]; with_reducible rfl)))); done)))
      refine HW_seq ?_
      refine HW_block ?_
      refine HW_seq ?_
      refine HW_run ttR_ok hG htb (by (repeat' (first | (with_reducible exact runX_nil) | ((with_reducible apply runX_cons); focus (simp (discharger := omega) only [go_sem, simprocAttr]; with_reducible rfl))))) ?_
      refine HThen_n ?_
      refine HW_region ?_
      refine HL_run ttR_ok hG htb 4 (by simp only [List.take_succ_cons, List.take_zero]; rfl) (by simp only [List.drop_succ_cons, List.drop_zero, Nat.reduceAdd]; rfl) (by (repeat' (first | (with_reducible exact runX_nil) | ((with_reducible apply runX_cons); focus (simp (discharger := omega) only [go_sem, simprocAttr]; with_reducible rfl))))) ?_
      refine HL_gs (GS_hide 74 (l, s + 1) (hmat.out (s + 1) (by omega)) rfl rfl (by simp [T.flatData])) fun c => ?_
      refine HL_run ttR_ok hG htb 2 (by simp only [List.take_succ_cons, List.take_zero]; rfl) (by simp only [List.drop_succ_cons, List.drop_zero, Nat.reduceAdd]; rfl) (by (repeat' (first | (with_reducible exact runX_nil) | ((with_reducible apply runX_cons); focus (simp (discharger := omega) only [go_sem, simprocAttr]; with_reducible rfl))))) ?_
      refine HL_nil ?_
      have hst := hmat.step hsm c
      repeat' (first | (with_reducible first | apply v1 | apply v2 | apply v3 | apply v4 | apply v5 | apply v6 | apply v7 | apply v8 | apply v9 | apply va | apply vb | apply vc) | ((with_reducible apply vd); focus decide) | ((with_reducible apply ve); focus exact rfl) | ((with_reducible apply vf); focus exact rfl) | ((first | (with_reducible apply HW_run ttR_ok hG htb) | ((with_reducible apply HW_draw rfl ttR_ok hG htb); (focus kernel_rfl); focus simp only [List.range, List.range.loop, List.size_toArray, List.length_cons, List.length_nil, Nat.reduceAdd])); focus ((repeat' (first | (with_reducible first | exact wg | exact wh) | ((with_reducible first | apply wi | apply wj); focus (simp (discharger := omega) only [go_sem, simprocAttr]; with_reducible rfl)))); done)))
      exact ⟨m - (s + 1), _, by omega, Norm.headS (own := []) (keep := [1, 2, 4, 7, 8, 11, 61, 62, 67, 68]) (by refine ⟨?_, ?_⟩; (simp (discharger := omega) only [go_sem, simprocAttr]; with_reducible rfl); refine ⟨?_, ?_, ?_, ?_⟩ <;> (simp only [go_sem, simprocAttr]; with_reducible rfl)), s + 1, _, rfl, rfl, by omega, by simpa [iL] using hst⟩
    · obtain rfl : s = m := by omega
      refine HW_gs (GS_hide 11 (l, 0) (hmat.out 0 (.inl rfl)) rfl rfl (List.all_eq_true.2 fun x hx => by obtain ⟨_, _, _, rfl⟩ := hmat.raws x hx; rfl)) fun c => ?_
      repeat' (first | (with_reducible first | apply v1 | apply v2 | apply v3 | apply v4 | apply v5 | apply v6 | apply v7 | apply v8 | apply v9 | apply va | apply vb | apply vc) | ((with_reducible apply vd); focus decide) | ((with_reducible apply ve); focus exact rfl) | ((with_reducible apply vf); focus exact rfl) | ((first | (with_reducible apply HW_run ttR_ok hG htb) | ((with_reducible apply HW_draw rfl ttR_ok hG htb); (focus kernel_rfl); focus simp only [List.range, List.range.loop, List.size_toArray, List.length_cons, List.length_nil, Nat.reduceAdd])); focus ((repeat' (first | (with_reducible first | exact wg | exact wh) | ((with_reducible first | apply wi | apply wj); focus (simp (discharger := omega) only [go_sem, htl, simprocAttr]; with_reducible rfl)))); done)))
      exact ⟨nW - (l + 1), _, by omega, Norm.headS (own := []) (keep := [1, 2, 4, 7, 8, 61, 62]) (by refine ⟨?_, ?_⟩; (simp (discharger := omega) only [go_sem, simprocAttr]; with_reducible rfl); refine ⟨?_, ?_, ?_, ?_⟩ <;> (simp only [go_sem, simprocAttr]; with_reducible rfl)), l + 1, _, rfl, rfl, by omega, hinv.snoc hmat c fun _ => rfl⟩
  obtain rfl : l = nW := by omega
  have hLat : ∀ i (b : Bool), a.ends[i]! = b → i < m → Lv[i]? = some (if b = true then 1 else 0) := fun i b hb hi => by
    rw [← hL]
    show (a.ends.map _)[i]? = _
    rw [List.getElem?_map, bang_get hb (by omega)]; rfl
  repeat' (first | (with_reducible first | apply v1 | apply v2 | apply v3 | apply v4 | apply v5 | apply v6 | apply v7 | apply v8 | apply v9 | apply va | apply vb | apply vc) | ((with_reducible apply vd); focus decide) | ((with_reducible apply ve); focus exact rfl) | ((with_reducible apply vf); focus exact rfl) | ((first | (with_reducible apply HW_run ttR_ok hG htb) | ((with_reducible apply HW_draw rfl ttR_ok hG htb); (focus kernel_rfl); focus simp only [List.range, List.range.loop, List.size_toArray, List.length_cons, List.length_nil, Nat.reduceAdd])); focus ((repeat' (first | (with_reducible first | exact wg | exact wh) | ((with_reducible first | apply wi | apply wj); focus (simp (discharger := omega) only [go_sem, autoP, hm, simprocAttr]; with_reducible rfl)))); done)))
  refine HW_loop (fun mm st g => ∃ (s : Nat), mm = m - s ∧ st = ⟨149, [(1, .t (tInt k)), (2, .t (autoP a)), (4, .bptr 0 0), (7, .t (tNat m)), (8, .bptr 1 0), (85, .t (tIntss a.next)), (86, .t (tNat m)), (87, .t (tNat s))], [.box [.t (tInt 0), .t (tInt 0), .nil, .nil, .nil], .box [.t (tInt a.base), .t (tNat t), .sref 2, .sref 3, .sref 4], .row 3 1 true (F.map (T.int .i64)), .row 22 1 true tops, .row 3 1 true ((fillB Lv s).map (T.int .i64))]⟩ ∧ s ≤ m ∧ RepInv g tops l m (cntC a t k m N s 0)) m
    ⟨_, Norm.headS (own := []) (keep := [1, 2, 4, 7, 8, 85, 86, 87]) (by refine ⟨?_, ?_⟩; (simp (discharger := omega) only [go_sem, simprocAttr]; with_reducible rfl); refine ⟨?_, ?_, ?_, ?_⟩ <;> (simp only [go_sem, simprocAttr]; with_reducible rfl)), 0, rfl, by rw [fillB_zero, List.map_replicate, hLl]; rfl, Nat.zero_le _, hinv.congr fun _ _ _ _ => cntC_start⟩ ?_
  clear hinv
  rintro mm st g ⟨s, rfl, rfl, hs, hinv⟩
  have hll := fillB_len (s := Lv) (i := s) (by omega)
  by_cases hsm : s < m
  · obtain ⟨row, hrow⟩ : ∃ row, a.next[s]! = row := ⟨_, rfl⟩
    have hrl := gR.row row (bang_mem hrow (by omega))
    have hro : rowOf a.next ((s : Nat) : Int) = row := by unfold rowOf; exact bang_D hrow (by simpa [hm] using hsm)
    obtain ⟨b, hb⟩ : ∃ b, a.ends[s]! = b := ⟨_, rfl⟩
    have hLb := hLat s b hb hsm
    obtain ⟨Q, hQ⟩ : ∃ Q, fillB Lv (s + 1) = Q := ⟨_, rfl⟩
    have hQb : (b = false ∧ (fillB Lv s).map (T.int .i64) = Q.map (T.int .i64)) ∨ (b = true ∧ ((fillB Lv s).map (T.int .i64)).set s (T.int .i64 1) = Q.map (T.int .i64)) := by
      cases b with
      | false => exact .inl ⟨rfl, by rw [fill_skip (N := Lv) (s := s) hLb, hQ]⟩
      | true => exact .inr ⟨rfl, by rw [← hQ, ← fillB_set (s := Lv) (i := s) hLb, List.map_set]; rfl⟩
    rcases hQb with ⟨rfl, hQ2⟩ | ⟨rfl, hQ2⟩
    all_goals
      repeat' (first | (with_reducible first | apply v1 | apply v2 | apply v3 | apply v4 | apply v5 | apply v6 | apply v7 | apply v8 | apply v9 | apply va | apply vb | apply vc) | ((with_reducible apply vd); focus decide) | ((with_reducible apply ve); focus exact rfl) | ((with_reducible apply vf); focus exact rfl) | ((first | (with_reducible apply HW_run ttR_ok hG htb) | ((with_reducible apply HW_draw rfl ttR_ok hG htb); (focus kernel_rfl); focus simp only [List.range, List.range.loop, List.size_toArray, List.length_cons, List.length_nil, Nat.reduceAdd])); focus ((repeat' (first | (with_reducible first | exact wg | exact wh) | ((with_reducible first | apply wi | apply wj); focus (simp (discharger := omega) only [go_sem, hrow, hb, autoP, hmE, hll, hrl, simprocAttr]; with_reducible rfl)))); done)))
      refine HW_loop (fun mm st g => ∃ (L : Nat), mm = N - L ∧ st = ⟨149, [(1, .t (tInt k)), (2, .t (autoP a)), (4, .bptr 0 0), (7, .t (tNat m)), (8, .bptr 1 0), (13, .t (tNat s)), (85, .t (tIntss a.next)), (86, .t (tNat m)), (87, .t (tNat s)), (101, .t (tInts row)), (102, .t (tNat N)), (103, .t (tNat L))], [.box [.t (tInt 0), .t (tInt 0), .nil, .nil, .nil], .box [.t (tInt a.base), .t (tNat t), .sref 2, .sref 3, .sref 4], .row 3 1 true (F.map (T.int .i64)), .row 22 1 true tops, .row 3 1 true (Q.map (T.int .i64))]⟩ ∧ L ≤ N ∧ RepInv g tops l m (cntC a t k m N s L)) N
        ⟨_, Norm.headS (own := []) (keep := [1, 2, 4, 7, 8, 13, 85, 86, 87, 101, 102, 103]) (by refine ⟨?_, ?_⟩; (simp (discharger := omega) only [go_sem, simprocAttr]; with_reducible rfl); refine ⟨?_, ?_, ?_, ?_⟩ <;> (simp only [go_sem, simprocAttr]; with_reducible rfl)), 0, rfl, by rw [← hQ2]; rfl, Nat.zero_le _, hinv⟩ ?_
      clear hinv
      rintro mm st g ⟨L, rfl, rfl, hLN, hinv⟩
      by_cases hLN2 : L < N
      · obtain ⟨y, hy⟩ : ∃ y, row[L]! = y := ⟨_, rfl⟩
        have hyb := gR.ok row (bang_mem hrow (by omega)) y (bang_mem hy (by omega))
        obtain ⟨x, rfl⟩ := Int.eq_ofNat_of_zero_le hyb.1
        have hnx : nx a.next ((s : Nat) : Int) L = ((x : Nat) : Int) := by unfold nx; rw [hro]; exact bang_D hy (by omega)
        have cu := cU L
        obtain ⟨u1, u2⟩ := unpackErr_ok (base := a.base) (t := a.tracks) (l := (L : Int)) hgm (by rw [hNe]; omega)
        rw [u1, u2, htr, Int.toNat_natCast, ← htr] at cu
        obtain ⟨D, hD⟩ : ∃ D, unpack (radix a.base) (t + 1) (L : Int) = D := ⟨_, rfl⟩
        have hDl : D.length = t + 1 := by rw [← hD]; exact unpack_length _ _ _
        have hDo : ∀ z ∈ D, 0 ≤ z ∧ z < radix a.base := by rw [← hD]; exact unpack_ok (radix_two hrad0).1 _ _
        obtain ⟨kk, hkk⟩ : ∃ kk, dropL a.base t k L = kk := ⟨_, rfl⟩
        have hkl : kk < l := by rw [← hkk]; exact hdlt L
        obtain ⟨d1, e1⟩ : ∃ d1, D.take k = d1 := ⟨_, rfl⟩
        obtain ⟨d2, e2⟩ : ∃ d2, D.drop (k + 1) = d2 := ⟨_, rfl⟩
        have l1 : d1.length = k := by rw [← e1, List.length_take]; omega
        have l2 : d2.length = t - k := by rw [← e2, List.length_drop]; omega
        have m1 : (D.map tInt).take k = d1.map tInt := by rw [← e1, List.map_take]
        have m2 : (D.map tInt).drop (k + 1) = d2.map tInt := by rw [← e2, List.map_drop]
        have m3 : (D.map tInt).take D.length = D.map tInt := List.take_of_length_le (by simp)
        have hk1 : (((k : Nat) : Int) + 1).toNat = k + 1 := by omega
        have cp := Pack_snd hG a.base (d1 ++ d2)
        have hdd : d1 ++ d2 = D.eraseIdx k := by rw [List.eraseIdx_eq_take_drop_succ, e1, e2]
        obtain ⟨p1, p2⟩ := packErr_ok (base := a.base) (d := d1 ++ d2) (by rw [List.length_append, l1, l2, show ((k + (t - k) : Nat) : Int) = (t : Int) by omega]; exact hmany) (fun z hz => hDo z (by rw [hdd] at hz; exact List.mem_of_mem_eraseIdx hz))
        have p3 : pack (radix a.base) (d1 ++ d2) = ((kk : Nat) : Int) := by rw [hdd, ← hkk, dropL_int hrad0, hD]
        rw [p1, p2, p3] at cp
        rw [hD] at cu
        clear htb
        have htb := Tab.cons cu Tab.nil
        repeat' (first | (with_reducible first | apply v1 | apply v2 | apply v3 | apply v4 | apply v5 | apply v6 | apply v7 | apply v8 | apply v9 | apply va | apply vb | apply vc) | ((with_reducible apply vd); focus decide) | ((with_reducible apply ve); focus exact rfl) | ((with_reducible apply vf); focus exact rfl) | ((first | (with_reducible apply HW_run ttR_ok hG htb) | ((with_reducible apply HW_draw rfl ttR_ok hG htb); (focus kernel_rfl); focus simp only [List.range, List.range.loop, List.size_toArray, List.length_cons, List.length_nil, Nat.reduceAdd])); focus ((repeat' (first | (with_reducible first | exact wg | exact wh) | ((with_reducible first | apply wi | apply wj); focus (simp (discharger := omega) only [go_sem, hy, tErr0, autoP, simprocAttr]; with_reducible rfl)))); done)))
        clear htb
        have htb := Tab.cons cp Tab.nil
        refine HW_norm (Norm.headS (own := []) (keep := [1, 2, 4, 7, 8, 13, 15, 16, 17, 85, 86, 87, 101, 102, 103]) (by refine ⟨?_, ?_⟩; (simp (discharger := omega) only [go_sem, simprocAttr]; with_reducible rfl); refine ⟨?_, ?_, ?_, ?_⟩ <;> (simp only [go_sem, simprocAttr]; with_reducible rfl))) ?_
        refine HW_sw ?_
        (with_reducible apply SW_drawL [0, 1, 7, 8, 9, 10] rfl ttR_ok hG htb)
        · kernel_rfl
        · simp only [List.range, List.range.loop, List.size_toArray, List.length_cons, List.length_nil, Nat.reduceAdd]
          repeat' (first | (with_reducible exact runG_nil) | ((with_reducible apply runG_cons); focus (simp (discharger := omega) only [go_sem, stepL, isT, dsE, opsE, Option.toList_some, Option.toList_none, Option.all_some, loadT, autoP, tErr0, Function.comp_def, hall, m1, m2, m3, hk1, List.length_append, List.map_append, simprocAttr]; with_reducible rfl)))
        refine HThen_n ?_
        refine HW_norm (Norm.headS (own := []) (keep := [1, 2, 4, 7, 8, 13, 16, 19, 85, 86, 87, 101, 102, 103]) (by refine ⟨?_, ?_⟩; (simp (discharger := omega) only [go_sem, simprocAttr]; with_reducible rfl); refine ⟨?_, ?_, ?_, ?_⟩ <;> (simp only [go_sem, simprocAttr]; with_reducible rfl))) ?_
        obtain ⟨⟨ma, mn, mc, me, msz, ml⟩, q1, q2, q3, q4, q5, q6⟩ := hinv.mid kk hkl
        obtain ⟨⟨ia, inn, ic, ie, isz, il⟩, r1, r2, r3, r4, r5⟩ := q6 s hsm
        simp only at q2 q3 q5 r2 r3 r4 r5
        subst q2 q3 r2 r3
        obtain ⟨X, hX⟩ : ∃ X, cntC a t k m N s L kk s = X := ⟨_, rfl⟩
        have hXl : X.length = m := by rw [← hX]; exact cntC_len
        have hXb := cntC_bd (a := a) (t := t) (k := k) (m := m) (N := N) (s := s) (L := L) (l := kk) (q := s) hLN
        rw [hX] at hXb r4
        have r4' : il = X.map (T.int .i64) := r4
        clear r4
        subst r4'
        obtain ⟨c, hc⟩ : ∃ c, X[x]! = c := ⟨_, rfl⟩
        have hcb := hXb c (bang_mem hc (by omega))
        have hwr : IntKind.i64.wrap (c + 1) = c + 1 := wrap_i64 _ (by omega)
        have hX' : cntC a t k m N s (L + 1) kk s = X.set x (c + 1) := by
          rw [← hkk]
          rw [cntC_at hnx (by omega) (c := c) (by rw [hkk, hX]; exact hc), hkk, hX]
        have hput := hinv.put hkl hsm (C' := cntC a t k m N s (L + 1)) q1 r1 (fun k' s' hne => cntC_other (by rw [hkk]; exact hne))
        rw [hX'] at hput
        have hset : (X.map (T.int .i64)).set x (T.int .i64 (c + 1)) = (X.set x (c + 1)).map (T.int .i64) := (List.map_set ..).symm
        have q4' : tops[kk]! = T.raw ma mn mc := q4
        have r5' : ml[s]! = T.raw ia inn ic := r5
        refine HW_region ?_
        refine HL_run ttR_ok hG htb 5 (by simp only [List.take_succ_cons, List.take_zero]; rfl) (by simp only [List.drop_succ_cons, List.drop_zero, Nat.reduceAdd]; rfl) (by (repeat' (first | (with_reducible exact runX_nil) | ((with_reducible apply runX_cons); focus (simp (discharger := omega) only [go_sem, q4', htl, simprocAttr]; with_reducible rfl))))) ?_
        refine HL_gs (GS_show (x := (kk, 0)) (t := 137) 149 q1 rfl (Nat.le_refl _)) fun _ => ?_
        refine HL_run ttR_ok hG htb 3 (by simp only [List.take_succ_cons, List.take_zero]; rfl) (by simp only [List.drop_succ_cons, List.drop_zero, Nat.reduceAdd]; rfl) (by (repeat' (first | (with_reducible exact runX_nil) | ((with_reducible apply runX_cons); focus (simp (discharger := omega) only [go_sem, r5', q5, simprocAttr]; with_reducible rfl))))) ?_
        refine HL_gs (GS_show (x := (kk, s + 1)) (t := 140) 150 (by simp only [upd]; rw [if_neg (by simp)]; exact r1) rfl (by show 149 ≤ 150; omega)) fun _ => ?_
        refine HL_run ttR_ok hG htb 6 (by simp only [List.take_succ_cons, List.take_zero]; rfl) (by simp only [List.drop_succ_cons, List.drop_zero, Nat.reduceAdd]; rfl) (by (repeat' (first | (with_reducible exact runX_nil) | ((with_reducible apply runX_cons); focus (simp (discharger := omega) only [go_sem, hc, hXl, hwr, hset, simprocAttr]; with_reducible rfl))))) ?_
        have hfl : ((X.set x (c + 1)).map (T.int .i64)).all T.flatData = true := by rw [List.all_map]; exact List.all_eq_true.2 fun _ _ => rfl
        have hmlf : ml.all T.flatData = true := List.all_eq_true.2 fun y hy => by
          obtain ⟨i, hi, rfl⟩ := List.getElem_of_mem hy
          obtain ⟨h', _, _, _, _, e⟩ := q6 i (by rw [← q5]; exact hi)
          have e' : ml[i]! = h'.raw := e
          rw [getElem!_pos ml i hi] at e'
          rw [e']; rfl
        refine HL_gs (GS_back (j := 6) 150 (kk, s + 1) (by simp [upd]) rfl rfl hfl) fun _ => ?_
        refine HL_gs (GS_back (j := 5) 149 (kk, 0) (by simp [upd]) rfl rfl hmlf) fun _ => ?_
        refine HL_nil ?_
        repeat' (first | (with_reducible first | apply v1 | apply v2 | apply v3 | apply v4 | apply v5 | apply v6 | apply v7 | apply v8 | apply v9 | apply va | apply vb | apply vc) | ((with_reducible apply vd); focus decide) | ((with_reducible apply ve); focus exact rfl) | ((with_reducible apply vf); focus exact rfl) | ((first | (with_reducible apply HW_run ttR_ok hG htb) | ((with_reducible apply HW_draw rfl ttR_ok hG htb); (focus kernel_rfl); focus simp only [List.range, List.range.loop, List.size_toArray, List.length_cons, List.length_nil, Nat.reduceAdd])); focus ((repeat' (first | (with_reducible first | exact wg | exact wh) | ((with_reducible first | apply wi | apply wj); focus (simp (discharger := omega) only [go_sem, simprocAttr]; with_reducible rfl)))); done)))
        exact ⟨N - (L + 1), _, by omega, Norm.headS (own := []) (keep := [1, 2, 4, 7, 8, 13, 85, 86, 87, 101, 102, 103]) (by refine ⟨?_, ?_⟩; (simp (discharger := omega) only [go_sem, simprocAttr]; with_reducible rfl); refine ⟨?_, ?_, ?_, ?_⟩ <;> (simp only [go_sem, simprocAttr]; with_reducible rfl)), L + 1, rfl, rfl, by omega, hput⟩
      · obtain rfl : L = N := by omega
        repeat' (first | (with_reducible first | apply v1 | apply v2 | apply v3 | apply v4 | apply v5 | apply v6 | apply v7 | apply v8 | apply v9 | apply va | apply vb | apply vc) | ((with_reducible apply vd); focus decide) | ((with_reducible apply ve); focus exact rfl) | ((with_reducible apply vf); focus exact rfl) | ((first | (with_reducible apply HW_run ttR_ok hG htb) | ((with_reducible apply HW_draw rfl ttR_ok hG htb); (focus kernel_rfl); focus simp only [List.range, List.range.loop, List.size_toArray, List.length_cons, List.length_nil, Nat.reduceAdd])); focus ((repeat' (first | (with_reducible first | exact wg | exact wh) | ((with_reducible first | apply wi | apply wj); focus (simp (discharger := omega) only [go_sem, simprocAttr]; with_reducible rfl)))); done)))
        exact ⟨m - (s + 1), _, by omega, Norm.headS (own := []) (keep := [1, 2, 4, 7, 8, 85, 86, 87]) (by refine ⟨?_, ?_⟩; (simp (discharger := omega) only [go_sem, simprocAttr]; with_reducible rfl); refine ⟨?_, ?_, ?_, ?_⟩ <;> (simp only [go_sem, simprocAttr]; with_reducible rfl)), s + 1, rfl, by rw [hQ]; rfl, by omega, hinv.congr fun _ _ _ _ => cntC_line⟩
  · obtain rfl : s = m := by omega
    have hLf : fillB Lv s = Lv := by rw [← hLl]; exact fillB_all Lv
    rw [hLf]
    have hop := RepInv.opens (V := W.map (matM a.next s)) (by rw [List.length_map, hWl]; exact hinv) (fun k' M hM => by
      rw [List.getElem?_map, Option.map_eq_some_iff] at hM
      obtain ⟨v, hv, rfl⟩ := hM
      have hk' : k' < l := by have := (List.getElem?_eq_some_iff.1 hv).1; omega
      refine ⟨by simp [matM], fun q z hz => ?_⟩
      unfold matM at hz
      rw [List.getElem?_map, Option.map_eq_some_iff] at hz
      obtain ⟨q', hq', rfl⟩ := hz
      obtain ⟨h1, h2⟩ := List.getElem?_eq_some_iff.1 hq'
      rw [List.length_range] at h1
      rw [List.getElem_range] at h2
      subst h2
      have hv2 := hWat k' hk'
      rw [hv] at hv2
      cases hv2
      unfold cntC
      rw [if_pos h1]
      exact hsel k' hk' s q)
    refine HW_seq ?_
    repeat' (first | (with_reducible first | apply v2 | apply v3 | apply v4 | apply v5 | apply v6 | apply v7 | apply v8 | apply v9 | apply va | apply vb | apply vc) | ((with_reducible apply vd); focus decide) | ((with_reducible apply ve); focus exact rfl) | ((with_reducible apply vf); focus exact rfl) | ((first | (with_reducible apply HW_run ttR_ok hG htb) | ((with_reducible apply HW_draw rfl ttR_ok hG htb); (focus kernel_rfl); focus simp only [List.range, List.range.loop, List.size_toArray, List.length_cons, List.length_nil, Nat.reduceAdd])); focus ((repeat' (first | (with_reducible first | exact wg | exact wh) | ((with_reducible first | apply wi | apply wj); focus (simp (discharger := omega) only [go_sem, simprocAttr]; with_reducible rfl)))); done)))
    refine HW_seq ?_
    repeat' (first | (with_reducible first | apply v2 | apply v3 | apply v4 | apply v5 | apply v6 | apply v7 | apply v8 | apply v9 | apply va | apply vb | apply vc) | ((with_reducible apply vd); focus decide) | ((with_reducible apply ve); focus exact rfl) | ((with_reducible apply vf); focus exact rfl) | ((first | (with_reducible apply HW_run ttR_ok hG htb) | ((with_reducible apply HW_draw rfl ttR_ok hG htb); (focus kernel_rfl); focus simp only [List.range, List.range.loop, List.size_toArray, List.length_cons, List.length_nil, Nat.reduceAdd])); focus ((repeat' (first | (with_reducible first | exact wg | exact wh) | ((with_reducible first | apply wi | apply wj); focus (simp (discharger := omega) only [go_sem, simprocAttr]; with_reducible rfl)))); done)))
    refine HW_norm (Norm.headS (own := []) (keep := [1, 2, 4, 7, 8]) (by refine ⟨?_, ?_⟩; (simp (discharger := omega) only [go_sem, simprocAttr]; with_reducible rfl); refine ⟨?_, ?_, ?_, ?_⟩ <;> (simp only [go_sem, simprocAttr]; with_reducible rfl))) ?_
    refine HW_open (κ' := Nat) (by exact GS_openRow (st := ⟨149, [(1, .t (tInt k)), (2, .t (autoP a)), (4, .bptr 0 0), (7, .t (tNat s)), (8, .bptr 1 0)], [.box [.t (tInt 0), .t (tInt 0), .nil, .nil, .nil], .box [.t (tInt a.base), .t (tNat t), .sref 2, .sref 3, .sref 4], .row 3 1 true (F.map (T.int .i64)), .row 22 1 true tops, .row 3 1 true (Lv.map (T.int .i64))]⟩) (j := 3) _ rfl hop.1 hop.2) ?_
    clear hop hinv htb
    have htb : Tab.ok Tryd.prog G [] := Tab.nil
    refine SW_norm (Norm.frzRow 2 rfl) ?_
    refine SW_norm (Norm.frzRow 3 rfl) ?_
    refine SW_norm (Norm.frzRow 4 rfl) ?_
    refine SW_norm (Norm.trB 1 2 rfl rfl rfl) ?_
    refine SW_norm (Norm.trB 1 3 rfl rfl rfl) ?_
    refine SW_norm (Norm.trB 1 4 rfl rfl rfl) ?_
    repeat' (first | (with_reducible first | apply w1 | apply w2 | apply w3 | apply w4 | apply w5 | apply w6 | apply w7 | apply w8 | apply w9 | apply wa | apply wb | apply wc) | ((with_reducible apply wd); focus decide) | ((with_reducible apply we); focus exact rfl) | ((with_reducible apply wf); focus exact rfl) | ((first | (with_reducible apply SW_run tt_ok hG htb) | ((with_reducible apply SW_draw rfl tt_ok hG htb); (focus kernel_rfl); focus simp only [List.range, List.range.loop, List.size_toArray, List.length_cons, List.length_nil, Nat.reduceAdd])); focus ((repeat' (first | (with_reducible first | exact wg | exact wh) | ((with_reducible first | apply wi | apply wj); focus (simp (discharger := omega) only [go_sem, tErr0, simprocAttr]; with_reducible rfl)))); done)))
    exact (by simp (discharger := omega) only [go_sem, tRep, tErr0, simprocAttr]; rfl)
end
end Go.Proofs.YthcclcbliedodaaDoor
namespace Go.Proofs.YthcclcbliedodaaDoor
open Go.RowKit
theorem repErr_inv {S : Nat → Prop} {w : World} {v : Value} {e : Int} (h : RepT S w (tErr e) v) : v = errV 26 e := by
  unfold tErr at h; unfold errV
  split at h
  · rename_i h0
    rw [if_pos h0]; cases h; rfl
  · rename_i h0
    rw [if_neg h0]
    cases h with
    | iface t x v h => cases h; rfl
theorem errCell_lasting : Lasting errCell := fun _ _ hb h => errCell.below h hb
theorem Error_snd (e f : Int) : Snd Tryd.prog errCell 10 [tErr e, tInt f] (.bool (e == f)) :=
  snd2 Tryd.func10 rfl rfl fun S w v u hg _ h h' => by
    obtain rfl := repErr_inv h; obtain rfl := intInv h'
    exact ⟨_, Error_calls e f w hg, fun S w => .bool _⟩
end Go.Proofs.YthcclcbliedodaaDoor
namespace Go.Proofs.YthcclcbliedodaaDoor
open Go.RowKit
section
variable {G : World → Prop} (hG : Lasting G)
include hG
set_option maxHeartbeats 4000000 in
theorem Fault_snd (a : GAuto) : Snd Tryd.prog G 7 [tAuto a] (tInt (autoFault a)) := by
  have htb := Tab.cons (RLetters_snd hG a.base a.tracks) Tab.nil
  refine snd_of_body (n := 76) (tm := [(0, .t (tAuto a))]) (rs := [.tmp 2]) tt_ok Tryd.func7 rfl rfl rfl rfl rfl ?_
  unfold autoFault
  by_cases h0 : manyErr a.base a.tracks = 0
  · rw [if_neg (by omega)]
    rw [h0] at htb
    have h36 := (many_ok h0).2.2.2.1
    rw [← (many_ok h0).2.2.2.2] at h36
    generalize hmo : manyOf a.base a.tracks = mo at *
    by_cases h1 : a.next.length = 0
    · repeat' (first | (with_reducible first | apply w1 | apply w2 | apply w3 | apply w4 | apply w5 | apply w6 | apply w7 | apply w8 | apply w9 | apply wa | apply wb | apply wc) | ((with_reducible apply wd); focus decide) | ((with_reducible apply we); focus exact rfl) | ((with_reducible apply wf); focus exact rfl) | ((first | (with_reducible apply SW_run tt_ok hG htb) | ((with_reducible apply SW_draw rfl tt_ok hG htb); (focus kernel_rfl); focus simp only [List.range, List.range.loop, List.size_toArray, List.length_cons, List.length_nil, Nat.reduceAdd])); focus ((repeat' (first | (with_reducible first | exact wg | exact wh) | ((with_reducible first | apply wi | apply wj); focus (simp (discharger := omega) only [go_sem, tAuto, simprocAttr]; with_reducible rfl)))); done)))
      exact (by simp (discharger := omega) only [go_sem, simprocAttr])
    · by_cases h2 : 80 < a.next.length
      · repeat' (first | (with_reducible first | apply w1 | apply w2 | apply w3 | apply w4 | apply w5 | apply w6 | apply w7 | apply w8 | apply w9 | apply wa | apply wb | apply wc) | ((with_reducible apply wd); focus decide) | ((with_reducible apply we); focus exact rfl) | ((with_reducible apply wf); focus exact rfl) | ((first | (with_reducible apply SW_run tt_ok hG htb) | ((with_reducible apply SW_draw rfl tt_ok hG htb); (focus kernel_rfl); focus simp only [List.range, List.range.loop, List.size_toArray, List.length_cons, List.length_nil, Nat.reduceAdd])); focus ((repeat' (first | (with_reducible first | exact wg | exact wh) | ((with_reducible first | apply wi | apply wj); focus (simp (discharger := omega) only [go_sem, tAuto, simprocAttr]; with_reducible rfl)))); done)))
        exact (by simp (discharger := omega) only [go_sem, simprocAttr])
      · by_cases h3 : a.ends.length = a.next.length
        · rw [if_neg h1, if_neg h2, if_neg (by omega)]
          repeat' (first | (with_reducible first | apply w1 | apply w2 | apply w3 | apply w4 | apply w5 | apply w6 | apply w7 | apply w8 | apply w9 | apply wa | apply wb | apply wc) | ((with_reducible apply wd); focus decide) | ((with_reducible apply we); focus exact rfl) | ((with_reducible apply wf); focus exact rfl) | ((first | (with_reducible apply SW_run tt_ok hG htb) | ((with_reducible apply SW_draw rfl tt_ok hG htb); (focus kernel_rfl); focus simp only [List.range, List.range.loop, List.size_toArray, List.length_cons, List.length_nil, Nat.reduceAdd])); focus ((repeat' (first | (with_reducible first | exact wg | exact wh) | ((with_reducible first | apply wi | apply wj); focus (simp (discharger := omega) only [go_sem, tAuto, h3, simprocAttr]; with_reducible rfl)))); done)))
          refine SW_loop (fun m s => ∃ i : Nat, m = a.next.length - i ∧ s = ⟨76, [(1, .bptr 0 0), (3, .t (tInt mo)), (5, .t (tInt i))], [.box [.t (tInt a.base), .t (tInt a.tracks), .t (tIntss a.next), .t (tBools a.ends)]]⟩ ∧ i ≤ a.next.length ∧ ∀ j (hj : j < a.next.length), j < i → (a.next[j].length : Int) = mo ∧ ∀ s ∈ a.next[j], 0 ≤ s ∧ s < (a.next.length : Int)) a.next.length
            ⟨_, Norm.headS (own := []) (keep := [1, 3, 5]) (by refine ⟨?_, ?_⟩; (simp (discharger := omega) only [go_sem, simprocAttr]; with_reducible rfl); refine ⟨?_, ?_, ?_, ?_⟩ <;> (simp only [go_sem, simprocAttr]; with_reducible rfl)), 0, rfl, rfl, Nat.zero_le _, fun j hj h => by omega⟩ ?_
          rintro m s ⟨i, rfl, rfl, hi, hA⟩
          by_cases hlt : i < a.next.length
          · obtain ⟨row, hrow⟩ : ∃ row, a.next[i]! = row := ⟨_, rfl⟩
            have hat := bang_at hrow hlt
            obtain ⟨f1, f2⟩ := rowsFault_at hlt hA
            rw [hat] at f1 f2
            by_cases hrl : (row.length : Int) = mo
            · repeat' (first | (with_reducible first | apply w1 | apply w2 | apply w3 | apply w4 | apply w5 | apply w6 | apply w7 | apply w8 | apply w9 | apply wa | apply wb | apply wc) | ((with_reducible apply wd); focus decide) | ((with_reducible apply we); focus exact rfl) | ((with_reducible apply wf); focus exact rfl) | ((first | (with_reducible apply SW_run tt_ok hG htb) | ((with_reducible apply SW_draw rfl tt_ok hG htb); (focus kernel_rfl); focus simp only [List.range, List.range.loop, List.size_toArray, List.length_cons, List.length_nil, Nat.reduceAdd])); focus ((repeat' (first | (with_reducible first | exact wg | exact wh) | ((with_reducible first | apply wi | apply wj); focus (simp (discharger := omega) only [go_sem, hrow, simprocAttr]; with_reducible rfl)))); done)))
              refine SW_loop (fun m s => ∃ l : Nat, m = row.length - l ∧ s = ⟨76, [(1, .bptr 0 0), (3, .t (tInt mo)), (5, .t (tInt i)), (6, .t (tInt l))], [.box [.t (tInt a.base), .t (tInt a.tracks), .t (tIntss a.next), .t (tBools a.ends)]]⟩ ∧ l ≤ row.length ∧ ∀ x ∈ row.take l, 0 ≤ x ∧ x < (a.next.length : Int)) row.length
                ⟨_, Norm.headS (own := []) (keep := [1, 3, 5, 6]) (by refine ⟨?_, ?_⟩; (simp (discharger := omega) only [go_sem, simprocAttr]; with_reducible rfl); refine ⟨?_, ?_, ?_, ?_⟩ <;> (simp only [go_sem, simprocAttr]; with_reducible rfl)), 0, rfl, rfl, Nat.zero_le _, fun x hx => by simp at hx⟩ ?_
              rintro m s ⟨l, rfl, rfl, hl, hB⟩
              by_cases hlt2 : l < row.length
              · obtain ⟨x, hx⟩ : ∃ x, row[l]! = x := ⟨_, rfl⟩
                have htk := take_next hx hlt2
                have hxm := bang_mem hx hlt2
                by_cases hx0 : 0 ≤ x
                · by_cases hxm2 : x < (a.next.length : Int)
                  · repeat' (first | (with_reducible first | apply w1 | apply w2 | apply w3 | apply w4 | apply w5 | apply w6 | apply w7 | apply w8 | apply w9 | apply wa | apply wb | apply wc) | ((with_reducible apply wd); focus decide) | ((with_reducible apply we); focus exact rfl) | ((with_reducible apply wf); focus exact rfl) | ((first | (with_reducible apply SW_run tt_ok hG htb) | ((with_reducible apply SW_draw rfl tt_ok hG htb); (focus kernel_rfl); focus simp only [List.range, List.range.loop, List.size_toArray, List.length_cons, List.length_nil, Nat.reduceAdd])); focus ((repeat' (first | (with_reducible first | exact wg | exact wh) | ((with_reducible first | apply wi | apply wj); focus (simp (discharger := omega) only [go_sem, hrow, hx, simprocAttr]; with_reducible rfl)))); done)))
                    exact ⟨row.length - (l + 1), _, by omega, Norm.headS (own := []) (keep := [1, 3, 5, 6]) (by refine ⟨?_, ?_⟩; (simp (discharger := omega) only [go_sem, simprocAttr]; with_reducible rfl); refine ⟨?_, ?_, ?_, ?_⟩ <;> (simp only [go_sem, simprocAttr]; with_reducible rfl)), l + 1, rfl, rfl, by omega, fun y hy => by
                      rw [htk] at hy
                      rcases List.mem_append.1 hy with h | h
                      · exact hB y h
                      · simp at h; subst h; exact ⟨hx0, hxm2⟩⟩
                  · rw [f2 hrl ⟨x, hxm, by omega⟩]
                    repeat' (first | (with_reducible first | apply w1 | apply w2 | apply w3 | apply w4 | apply w5 | apply w6 | apply w7 | apply w8 | apply w9 | apply wa | apply wb | apply wc) | ((with_reducible apply wd); focus decide) | ((with_reducible apply we); focus exact rfl) | ((with_reducible apply wf); focus exact rfl) | ((first | (with_reducible apply SW_run tt_ok hG htb) | ((with_reducible apply SW_draw rfl tt_ok hG htb); (focus kernel_rfl); focus simp only [List.range, List.range.loop, List.size_toArray, List.length_cons, List.length_nil, Nat.reduceAdd])); focus ((repeat' (first | (with_reducible first | exact wg | exact wh) | ((with_reducible first | apply wi | apply wj); focus (simp (discharger := omega) only [go_sem, hrow, hx, simprocAttr]; with_reducible rfl)))); done)))
                    exact (by simp (discharger := omega) only [go_sem, simprocAttr])
                · rw [f2 hrl ⟨x, hxm, by omega⟩]
                  repeat' (first | (with_reducible first | apply w1 | apply w2 | apply w3 | apply w4 | apply w5 | apply w6 | apply w7 | apply w8 | apply w9 | apply wa | apply wb | apply wc) | ((with_reducible apply wd); focus decide) | ((with_reducible apply we); focus exact rfl) | ((with_reducible apply wf); focus exact rfl) | ((first | (with_reducible apply SW_run tt_ok hG htb) | ((with_reducible apply SW_draw rfl tt_ok hG htb); (focus kernel_rfl); focus simp only [List.range, List.range.loop, List.size_toArray, List.length_cons, List.length_nil, Nat.reduceAdd])); focus ((repeat' (first | (with_reducible first | exact wg | exact wh) | ((with_reducible first | apply wi | apply wj); focus (simp (discharger := omega) only [go_sem, hrow, hx, simprocAttr]; with_reducible rfl)))); done)))
                  exact (by simp (discharger := omega) only [go_sem, simprocAttr])
              · obtain rfl : l = row.length := by omega
                rw [List.take_length] at hB
                repeat' (first | (with_reducible first | apply w1 | apply w2 | apply w3 | apply w4 | apply w5 | apply w6 | apply w7 | apply w8 | apply w9 | apply wa | apply wb | apply wc) | ((with_reducible apply wd); focus decide) | ((with_reducible apply we); focus exact rfl) | ((with_reducible apply wf); focus exact rfl) | ((first | (with_reducible apply SW_run tt_ok hG htb) | ((with_reducible apply SW_draw rfl tt_ok hG htb); (focus kernel_rfl); focus simp only [List.range, List.range.loop, List.size_toArray, List.length_cons, List.length_nil, Nat.reduceAdd])); focus ((repeat' (first | (with_reducible first | exact wg | exact wh) | ((with_reducible first | apply wi | apply wj); focus (simp (discharger := omega) only [go_sem, simprocAttr]; with_reducible rfl)))); done)))
                exact ⟨a.next.length - (i + 1), _, by omega, Norm.headS (own := []) (keep := [1, 3, 5]) (by refine ⟨?_, ?_⟩; (simp (discharger := omega) only [go_sem, simprocAttr]; with_reducible rfl); refine ⟨?_, ?_, ?_, ?_⟩ <;> (simp only [go_sem, simprocAttr]; with_reducible rfl)), i + 1, rfl, rfl, by omega, fun j hj h => by
                  by_cases e : j = i
                  · subst e; rw [hat]; exact ⟨hrl, hB⟩
                  · exact hA j hj (by omega)⟩
            · rw [f1 hrl]
              repeat' (first | (with_reducible first | apply w1 | apply w2 | apply w3 | apply w4 | apply w5 | apply w6 | apply w7 | apply w8 | apply w9 | apply wa | apply wb | apply wc) | ((with_reducible apply wd); focus decide) | ((with_reducible apply we); focus exact rfl) | ((with_reducible apply wf); focus exact rfl) | ((first | (with_reducible apply SW_run tt_ok hG htb) | ((with_reducible apply SW_draw rfl tt_ok hG htb); (focus kernel_rfl); focus simp only [List.range, List.range.loop, List.size_toArray, List.length_cons, List.length_nil, Nat.reduceAdd])); focus ((repeat' (first | (with_reducible first | exact wg | exact wh) | ((with_reducible first | apply wi | apply wj); focus (simp (discharger := omega) only [go_sem, hrow, simprocAttr]; with_reducible rfl)))); done)))
              exact (by simp (discharger := omega) only [go_sem, simprocAttr])
          · obtain rfl : i = a.next.length := by omega
            rw [rowsFault_zero.2 fun r hr => by obtain ⟨j, hj, rfl⟩ := List.mem_iff_getElem.1 hr; exact hA j hj hj]
            repeat' (first | (with_reducible first | apply w1 | apply w2 | apply w3 | apply w4 | apply w5 | apply w6 | apply w7 | apply w8 | apply w9 | apply wa | apply wb | apply wc) | ((with_reducible apply wd); focus decide) | ((with_reducible apply we); focus exact rfl) | ((with_reducible apply wf); focus exact rfl) | ((first | (with_reducible apply SW_run tt_ok hG htb) | ((with_reducible apply SW_draw rfl tt_ok hG htb); (focus kernel_rfl); focus simp only [List.range, List.range.loop, List.size_toArray, List.length_cons, List.length_nil, Nat.reduceAdd])); focus ((repeat' (first | (with_reducible first | exact wg | exact wh) | ((with_reducible first | apply wi | apply wj); focus (simp (discharger := omega) only [go_sem, simprocAttr]; with_reducible rfl)))); done)))
            exact (by simp (discharger := omega) only [go_sem, simprocAttr])
        · repeat' (first | (with_reducible first | apply w1 | apply w2 | apply w3 | apply w4 | apply w5 | apply w6 | apply w7 | apply w8 | apply w9 | apply wa | apply wb | apply wc) | ((with_reducible apply wd); focus decide) | ((with_reducible apply we); focus exact rfl) | ((with_reducible apply wf); focus exact rfl) | ((first | (with_reducible apply SW_run tt_ok hG htb) | ((with_reducible apply SW_draw rfl tt_ok hG htb); (focus kernel_rfl); focus simp only [List.range, List.range.loop, List.size_toArray, List.length_cons, List.length_nil, Nat.reduceAdd])); focus ((repeat' (first | (with_reducible first | exact wg | exact wh) | ((with_reducible first | apply wi | apply wj); focus (simp (discharger := omega) only [go_sem, tAuto, h3, simprocAttr]; with_reducible rfl)))); done)))
          exact (by simp (discharger := omega) only [go_sem, h3, simprocAttr])
  · generalize manyErr a.base a.tracks = e at *
    repeat' (first | (with_reducible first | apply w1 | apply w2 | apply w3 | apply w4 | apply w5 | apply w6 | apply w7 | apply w8 | apply w9 | apply wa | apply wb | apply wc) | ((with_reducible apply wd); focus decide) | ((with_reducible apply we); focus exact rfl) | ((with_reducible apply wf); focus exact rfl) | ((first | (with_reducible apply SW_run tt_ok hG htb) | ((with_reducible apply SW_draw rfl tt_ok hG htb); (focus kernel_rfl); focus simp only [List.range, List.range.loop, List.size_toArray, List.length_cons, List.length_nil, Nat.reduceAdd])); focus ((repeat' (first | (with_reducible first | exact wg | exact wh) | ((with_reducible first | apply wi | apply wj); focus (simp (discharger := omega) only [go_sem, tAuto, h0, simprocAttr]; with_reducible rfl)))); done)))
    exact (by simp (discharger := omega) only [go_sem, h0, simprocAttr])
end
end Go.Proofs.YthcclcbliedodaaDoor
namespace Go.Proofs.YthcclcbliedodaaDoor
open Go.ChangeShapes Go.WideShapes Go.ChangeAt Go.RowKit Go.Joins Go.Deep

section
variable {H : Type} {enc : TypeId × Value → H} {w : World} {sp : Nat → Bool} {held : Bool}
/-- One cell that reads as a datum. -/
def OpensT (enc : TypeId × Value → H) (w : World) (sp : Nat → Bool) (held : Bool) (T : TypeId) (Q : Go.Proofs.YthcclcbliedodaaDoor.T → Prop) : Prop :=
  ∀ n v y, DataW.trod enc Tryd.prog w 0 sp held n T [v] = some y → v.oneCell' = true ∧ ∃ x, Q x ∧ x.cells = [x] ∧ RepT (· < w.heap.size) w x v
theorem flat_cells : ∀ {l : List Go.Proofs.YthcclcbliedodaaDoor.T}, (∀ x ∈ l, x.cells = [x]) → Go.Proofs.YthcclcbliedodaaDoor.flat l = l
  | [], _ => rfl
  | a :: t, h => by
    have := flat_cells fun x hx => h x (List.mem_cons_of_mem a hx)
    simp only [Go.Proofs.YthcclcbliedodaaDoor.flat, List.flatMap_cons] at this ⊢
    rw [this, h a List.mem_cons_self]; rfl
theorem opensT_int {T : TypeId} (ht : Tryd.prog.underlying T = some (.int .i64)) : OpensT enc w sp held T fun x => ∃ n, x = tInt n ∧ I64 n := by
  intro n v y h
  obtain ⟨a, rfl, h2⟩ := opens_int ht n v y h
  exact ⟨rfl, _, ⟨a, rfl, h2⟩, rfl, .int _ _⟩
theorem opensT_bool {T : TypeId} (ht : Tryd.prog.underlying T = some .bool) : OpensT enc w sp held T fun x => ∃ b, x = .bool b := by
  intro n v y h
  obtain ⟨a, rfl⟩ := opens_bool ht n v y h
  exact ⟨rfl, _, ⟨a, rfl⟩, rfl, .bool _⟩
theorem opensT_slice {T e : TypeId} {Q : Go.Proofs.YthcclcbliedodaaDoor.T → Prop} (ht : Tryd.prog.underlying T = some (.slice e)) (hc : Tryd.prog.cellsOf e = 1) (hE : OpensT enc w sp held e Q) :
    OpensT enc w sp held T fun x => ∃ l, x = .list l ∧ ∀ y ∈ l, Q y := by
  intro n v y h
  rcases open_slice1 ht hc h with ⟨hcs, _⟩ | ⟨a, len, cap, m, n', V, D, Pl, hcs, _, hl, hcap, hm, _, hx⟩
  · obtain rfl : v = .slice none 0 0 := by simpa using hcs
    exact ⟨rfl, _, ⟨[], rfl, fun y hy => by simp at hy⟩, rfl, .list [] none 0 1 (fun _ => undef) (Nat.zero_le _) Nat.one_pos (fun x hx => by simp at hx) (fun h => (h rfl).elim) (fun k hk => by simp at hk) (fun k y hy => by simp [Go.Proofs.YthcclcbliedodaaDoor.flat] at hy) (Nat.le_refl _)⟩
  · obtain rfl : v = .slice (some a) len cap := by simpa using hcs
    have hlm : len ≤ m := by rw [hm]; split <;> omega
    have hall : ∀ i, i < len → (V i).oneCell' = true ∧ ∃ b, Q b ∧ b.cells = [b] ∧ RepT (· < w.heap.size) w b (V i) := fun i hi => hE _ _ _ (hx i (by omega)).2
    have key : ∀ k, k ≤ len → ∃ l : List Go.Proofs.YthcclcbliedodaaDoor.T, l.length = k ∧ ∀ i (hi : i < l.length), Q l[i] ∧ l[i].cells = [l[i]] ∧ RepT (· < w.heap.size) w l[i] (V i) := by
      intro k
      induction k with
      | zero => intro _; exact ⟨[], rfl, fun i hi => absurd hi (by simp)⟩
      | succ k ih =>
        intro hk
        obtain ⟨l, hl1, hl2⟩ := ih (by omega)
        obtain ⟨_, b, hb⟩ := hall k (by omega)
        refine ⟨l ++ [b], by simp [hl1], fun i hi => ?_⟩
        rw [List.getElem_append]
        split
        · exact hl2 i ‹_›
        · obtain rfl : i = k := by simp at hi; omega
          simpa using hb
    obtain ⟨l, hl1, hl2⟩ := key len (Nat.le_refl _)
    subst hl1
    have hcells : ∀ x ∈ l, x.cells = [x] := fun x hx => by obtain ⟨i, hi, rfl⟩ := List.mem_iff_getElem.1 hx; exact (hl2 i hi).2.1
    have hfl := flat_cells hcells
    refine ⟨rfl, _, ⟨l, rfl, fun y hy => by obtain ⟨i, hi, rfl⟩ := List.mem_iff_getElem.1 hy; exact (hl2 i hi).1⟩, rfl, ?_⟩
    refine .list l (some a) cap 1 V (by simp only [maxLen] at hcap ⊢; omega) Nat.one_pos (fun x hx => by rw [hcells x hx]; rfl) (fun hne => ?_) (fun k hk => (hall k (by omega)).1) (fun k y hy => ?_) (by omega)
    · obtain ⟨b, off, spot⟩ := a
      have hpos : 0 < l.length := List.length_pos_iff.2 hne
      have hc1 := (hx 0 (by omega)).1
      have hspot : spot = none := by simpa [Addr.add] using World.cell?_spot hc1
      subst hspot
      have hadd : ∀ i, (⟨b, off, none⟩ : Addr).add i = ⟨b, off + i, none⟩ := fun i => by unfold Addr.add; split <;> simp_all
      refine ⟨b, off, rfl, ?_, fun k hk => ?_⟩
      · rw [hadd] at hc1; exact cell_lt hc1
      · have := (hx k (by omega)).1
        rw [hadd] at this; exact this
    · rw [hfl] at hy
      obtain ⟨hk, rfl⟩ := List.getElem?_eq_some_iff.1 hy
      exact (hl2 k hk).2.2
theorem allMap {α : Type} {f : α → Go.Proofs.YthcclcbliedodaaDoor.T} {Q : α → Prop} : ∀ {l : List Go.Proofs.YthcclcbliedodaaDoor.T}, (∀ y ∈ l, ∃ a, y = f a ∧ Q a) → ∃ q : List α, l = q.map f ∧ ∀ a ∈ q, Q a
  | [], _ => ⟨[], rfl, fun a ha => by simp at ha⟩
  | x :: t, h => by
    obtain ⟨a, rfl, ha⟩ := h x List.mem_cons_self
    obtain ⟨q, rfl, hq⟩ := allMap fun y hy => h y (List.mem_cons_of_mem _ hy)
    exact ⟨a :: q, rfl, fun b hb => by
      rcases List.mem_cons.1 hb with rfl | hb
      · exact ha
      · exact hq b hb⟩
theorem opensT_ints {T : TypeId} (h : OpensT enc w sp held T fun x => ∃ l, x = .list l ∧ ∀ y ∈ l, ∃ n, y = tInt n ∧ I64 n) : OpensT enc w sp held T fun x => ∃ l, x = tInts l ∧ I64s l := fun n v y hy => by
  obtain ⟨h1, x, ⟨l, rfl, hl⟩, h2, h3⟩ := h n v y hy
  obtain ⟨q, rfl, hq⟩ := allMap hl
  exact ⟨h1, _, ⟨q, rfl, hq⟩, rfl, h3⟩
theorem opensIntsT : OpensT enc w sp held 35 fun x => ∃ l, x = tInts l ∧ I64s l := opensT_ints (opensT_slice Tryd.underlying35 (by kernel_rfl) (opensT_int Tryd.underlying3))
theorem opensIntssT : OpensT enc w sp held 22 fun x => ∃ l, x = tIntss l ∧ ∀ r ∈ l, I64s r := fun n v y hy => by
  obtain ⟨h1, x, ⟨l, rfl, hl⟩, h2, h3⟩ := opensT_slice Tryd.underlying22 (by kernel_rfl) opensIntsT n v y hy
  obtain ⟨q, rfl, hq⟩ := allMap hl
  exact ⟨h1, _, ⟨q, rfl, hq⟩, rfl, h3⟩
theorem opensBoolsT : OpensT enc w sp held 23 fun x => ∃ l, x = tBools l := fun n v y hy => by
  obtain ⟨h1, x, ⟨l, rfl, hl⟩, h2, h3⟩ := opensT_slice Tryd.underlying23 (by kernel_rfl) (opensT_bool Tryd.underlying4) n v y hy
  obtain ⟨q, rfl, hq⟩ := allMap (Q := fun _ => True) fun y hy => by obtain ⟨b, hb⟩ := hl y hy; exact ⟨b, hb, trivial⟩
  exact ⟨h1, _, ⟨q, rfl⟩, rfl, h3⟩
def ReadsAuto (w : World) (v : Value) (a : GAuto) : Prop := I64A a ∧ RepT (· < w.heap.size) w (tAuto a) v
set_option maxRecDepth 100000 in
theorem openAutoT {base : Nat} {v : Value} {d : DataW H} {p : List MemPlace} (hv : Value.okWide Tryd.prog w .any base 25 v) (h : DataW.Trod enc Tryd.prog w 0 sp held 25 v d p) :
    ∃ a : GAuto, ReadsAuto w v a := by
  obtain ⟨v0, v1, v2, v3, y0, y1, y2, y3, n, rfl, _, _, h0, h1, h2, h3⟩ := open_agg4 Tryd.underlying25 (by kernel_rfl) (by kernel_rfl) hv h
  obtain ⟨a0, rfl, i0⟩ := opens_int Tryd.underlying3 _ _ _ h0
  obtain ⟨a1, rfl, i1⟩ := opens_int Tryd.underlying3 _ _ _ h1
  obtain ⟨o2, x2, ⟨a2, rfl, i2⟩, _, hn⟩ := opensIntssT _ _ _ h2
  obtain ⟨o3, x3, ⟨a3, rfl⟩, _, he⟩ := opensBoolsT _ _ _ h3
  refine ⟨⟨a0, a1, a2, a3⟩, ⟨i0, i1, i2⟩, .agg _ _ rfl (fun k v hk => ?_) fun k y v hy hk => ?_⟩
  · match k, hk with
    | 0, hk => cases hk; rfl
    | 1, hk => cases hk; rfl
    | 2, hk => cases hk; exact o2
    | 3, hk => cases hk; exact o3
  · match k, hy, hk with
    | 0, hy, hk => cases hy; cases hk; exact .int _ _
    | 1, hy, hk => cases hy; cases hk; exact .int _ _
    | 2, hy, hk => cases hy; cases hk; exact hn
    | 3, hy, hk => cases hy; cases hk; exact he
end
theorem walkN {P : Program} {G : World → Prop} {f : Nat} {xs : List T} {w : World} {vs : Array Value} (h : Snd P G f xs (.bool true)) (hG : G w) (hl : vs.size = xs.length) (hx : ∀ (k : Nat) (y : T) (v : Value), xs[k]? = some y → vs[k]? = some v → RepT (· < w.heap.size) w y v) : Calls P f vs w (Ret (.bool true) w) :=
  (h.calls (· < w.heap.size) w vs hG hl hx).mono fun e w' hq => by obtain ⟨u, h1, h2, h3⟩ := hq; cases h2; exact ⟨h1, h3⟩
end Go.Proofs.YthcclcbliedodaaDoor
namespace Go.Proofs.YthcclcbliedodaaDoor
open Go.RowKit

theorem repO_small (a : GAuto) (t : Int) : (repO a t).steps.length ≤ 1000 := by
  unfold repO
  by_cases h : repE a t = 0
  · rw [if_pos h]
    unfold repE at h
    by_cases hf : autoFault a = 0
    · rw [if_neg (fun q => q hf)] at h
      by_cases ht : t < 0 ∨ a.tracks ≤ t
      · rw [if_pos ht] at h; exact absurd h (by decide)
      · obtain ⟨t', nW, r, ok⟩ := left_ok hf (k := t.toNat) (by omega)
        have e : a.tracks - 1 = ((t' : Nat) : Int) := by have := ok.tr; omega
        have h36 := ok.nW36
        unfold repA
        rw [e, Int.toNat_natCast]
        show ((withW a.base t' t.toNat).map _).length ≤ 1000
        rw [List.length_map, withW_len ok]; omega
    · rw [if_pos hf] at h; exact absurd h hf
  · rw [if_neg h]; exact Nat.zero_le _

set_option maxHeartbeats 16000000 in
set_option maxRecDepth 100000 in
theorem CountLongs_snd (a : GAuto) (n t : Int) : Snd Tryd.prog errCell 3 [tAuto a, tInt n, tInt t] (.bool true) := by
  have hG := errCell_lasting
  have cF := Fault_snd (G := errCell) hG a
  have cL := Long_snd (G := errCell) hG a n
  have cR := Rep_snd (G := errCell) hG a t
  have cS := Reps_same (G := errCell) hG (repO a t) (repO_small a t)
  have e0 := Error_snd 0 0
  have e1 := Error_snd 1 1
  have e3 := Error_snd 3 3
  have eF := Error_snd (autoFault a) (autoFault a)
  rw [beq_self_eq_true] at e0 e1 e3 eF
  refine snd_of_body (n := 91) (tm := [(0, .t (tAuto a)), (1, .t (tInt n)), (2, .t (tInt t))]) (rs := [.tmp 6]) tt_ok Tryd.func3 rfl rfl rfl rfl rfl ?_
  by_cases hf : autoFault a = 0
  rotate_left
  · have l1 : longErr a n = autoFault a := if_pos hf
    have l2 : longOf a n = 0 := if_neg (by rw [l1]; exact hf)
    have r1 : repE a t = autoFault a := if_pos hf
    have r2 : repO a t = GRep.zero := if_neg (by rw [r1]; exact hf)
    rw [l1, l2] at cL
    rw [r1, r2] at cR
    rw [r2] at cS
    generalize autoFault a = e at *
    have htb := Tab.cons cF (Tab.cons cL (Tab.cons cR (Tab.cons cS (Tab.cons eF Tab.nil))))
    repeat' (first | (with_reducible first | apply w1 | apply w2 | apply w3 | apply w4 | apply w5 | apply w6 | apply w7 | apply w8 | apply w9 | apply wa | apply wb | apply wc) | ((with_reducible apply wd); focus decide) | ((with_reducible apply we); focus exact rfl) | ((with_reducible apply wf); focus exact rfl) | ((first | (with_reducible apply SW_run tt_ok hG htb) | ((with_reducible apply SW_draw rfl tt_ok hG htb); (focus kernel_rfl); focus simp only [List.range, List.range.loop, List.size_toArray, List.length_cons, List.length_nil, Nat.reduceAdd])); focus ((repeat' (first | (with_reducible first | exact wg | exact wh) | ((with_reducible first | apply wi | apply wj); focus (simp (discharger := omega) only [go_sem, tAuto, tErr, hf, tRep, GRep.zero, simprocAttr]; with_reducible rfl)))); done)))
    exact (by simp (discharger := omega) only [go_sem, simprocAttr])
  rw [hf] at cF
  clear eF
  have hR : (t < 0 ∧ repE a t = 1 ∧ repO a t = GRep.zero) ∨ (¬ t < 0 ∧ t ≥ a.tracks ∧ repE a t = 1 ∧ repO a t = GRep.zero) ∨ (¬ t < 0 ∧ ¬ t ≥ a.tracks ∧ repE a t = 0) := by
    by_cases h0 : t < 0
    · have r1 : repE a t = 1 := by unfold repE; rw [if_neg (fun q => q hf), if_pos (.inl h0)]
      exact .inl ⟨h0, r1, if_neg (by rw [r1]; decide)⟩
    · by_cases h1 : t ≥ a.tracks
      · have r1 : repE a t = 1 := by unfold repE; rw [if_neg (fun q => q hf), if_pos (.inr h1)]
        exact .inr (.inl ⟨h0, h1, r1, if_neg (by rw [r1]; decide)⟩)
      · exact .inr (.inr ⟨h0, h1, by unfold repE; rw [if_neg (fun q => q hf), if_neg (by omega)]⟩)
  have hRO : ¬ t < 0 → ¬ t ≥ a.tracks → ∃ k : Nat, t = (k : Int) ∧ Snd Tryd.prog errCell 11 [tAuto a, tInt k] (tRep (repO a t)) := fun h0 h1 => by
    refine ⟨t.toNat, by omega, ?_⟩
    have c := RepOf_ref (G := errCell) hG hf t.toNat (by omega)
    have r1 : repE a t = 0 := by unfold repE; rw [if_neg (fun q => q hf), if_neg (by omega)]
    unfold repO
    rw [if_pos r1]
    exact c
  have hL : (n < 0 ∧ longErr a n = 1 ∧ longOf a n = 0) ∨ (¬ n < 0 ∧ n > 400 ∧ longErr a n = 1 ∧ longOf a n = 0) ∨ (¬ n < 0 ∧ ¬ n > 400 ∧ ∃ (k : Nat) (v e : Int) (b : Bool), n = (k : Int) ∧ Snd Tryd.prog errCell 8 [tAuto a, tInt k] (.tup [tInt v, .bool b]) ∧ ((b = true ∧ longErr a n = 0 ∧ longOf a n = v) ∨ (b = false ∧ longErr a n = 3 ∧ longOf a n = 0))) := by
    by_cases h0 : n < 0
    · have r1 : longErr a n = 1 := by unfold longErr; rw [if_neg (fun q => q hf), if_pos (.inl h0)]
      exact .inl ⟨h0, r1, if_neg (by rw [r1]; decide)⟩
    · by_cases h1 : n > 400
      · have r1 : longErr a n = 1 := by unfold longErr; rw [if_neg (fun q => q hf), if_pos (.inr h1)]
        exact .inr (.inl ⟨h0, h1, r1, if_neg (by rw [r1]; decide)⟩)
      · have c := LongOf_ref (G := errCell) hG hf n.toNat (by omega)
        have hk : ((n.toNat : Nat) : Int) = n := by omega
        refine .inr (.inr ⟨h0, h1, n.toNat, longV a n, 0, decide (longV a n ≤ 1152921504606846976), hk.symm, by rw [hk] at c ⊢; exact c, ?_⟩)
        by_cases h2 : 1152921504606846976 < longV a n
        · have r1 : longErr a n = 3 := by unfold longErr; rw [if_neg (fun q => q hf), if_neg (by omega), if_pos h2]
          exact .inr ⟨decide_eq_false (by omega), r1, if_neg (by rw [r1]; decide)⟩
        · have r1 : longErr a n = 0 := by unfold longErr; rw [if_neg (fun q => q hf), if_neg (by omega), if_neg h2]
          exact .inl ⟨decide_eq_true (by omega), r1, if_pos r1⟩
  rcases hL with ⟨g0, l1, l2⟩ | ⟨g0, g1, l1, l2⟩ | ⟨g0, g1, j, v, e, b, rfl, cO, hb⟩
  · rw [l1, l2] at cL
    have htb := Tab.cons cF (Tab.cons cL (Tab.cons e1 Tab.nil))
    have g0' := eq_true g0
    repeat' (first | (with_reducible first | apply w1 | apply w2 | apply w3 | apply w4 | apply w5 | apply w6 | apply w7 | apply w8 | apply w9 | apply wa | apply wb | apply wc) | ((with_reducible apply wd); focus decide) | ((with_reducible apply we); focus exact rfl) | ((with_reducible apply wf); focus exact rfl) | ((first | (with_reducible apply SW_run tt_ok hG htb) | ((with_reducible apply SW_draw rfl tt_ok hG htb); (focus kernel_rfl); focus simp only [List.range, List.range.loop, List.size_toArray, List.length_cons, List.length_nil, Nat.reduceAdd])); focus ((repeat' (first | (with_reducible first | exact wg | exact wh) | ((with_reducible first | apply wi | apply wj); focus (simp (discharger := omega) only [go_sem, tAuto, tErr, tErr0, g0', simprocAttr]; with_reducible rfl)))); done)))
    clear htb
    rcases hR with ⟨h0, r1, r2⟩ | ⟨h0, h1, r1, r2⟩ | ⟨h0, h1, r1⟩
    · rw [r1, r2] at cR
      rw [r2] at cS
      have htb := Tab.cons cR (Tab.cons cS (Tab.cons e1 Tab.nil))
      have h0' := eq_true h0
      repeat' (first | (with_reducible first | apply w1 | apply w2 | apply w3 | apply w4 | apply w5 | apply w6 | apply w7 | apply w8 | apply w9 | apply wa | apply wb | apply wc) | ((with_reducible apply wd); focus decide) | ((with_reducible apply we); focus exact rfl) | ((with_reducible apply wf); focus exact rfl) | ((first | (with_reducible apply SW_run tt_ok hG htb) | ((with_reducible apply SW_draw rfl tt_ok hG htb); (focus kernel_rfl); focus simp only [List.range, List.range.loop, List.size_toArray, List.length_cons, List.length_nil, Nat.reduceAdd])); focus ((repeat' (first | (with_reducible first | exact wg | exact wh) | ((with_reducible first | apply wi | apply wj); focus (simp (discharger := omega) only [go_sem, tAuto, tErr, tErr0, h0', tRep, GRep.zero, simprocAttr]; with_reducible rfl)))); done)))
      exact (by simp (discharger := omega) only [go_sem, simprocAttr])
    · rw [r1, r2] at cR
      rw [r2] at cS
      have htb := Tab.cons cR (Tab.cons cS (Tab.cons e1 Tab.nil))
      have h1' := eq_true h1
      repeat' (first | (with_reducible first | apply w1 | apply w2 | apply w3 | apply w4 | apply w5 | apply w6 | apply w7 | apply w8 | apply w9 | apply wa | apply wb | apply wc) | ((with_reducible apply wd); focus decide) | ((with_reducible apply we); focus exact rfl) | ((with_reducible apply wf); focus exact rfl) | ((first | (with_reducible apply SW_run tt_ok hG htb) | ((with_reducible apply SW_draw rfl tt_ok hG htb); (focus kernel_rfl); focus simp only [List.range, List.range.loop, List.size_toArray, List.length_cons, List.length_nil, Nat.reduceAdd])); focus ((repeat' (first | (with_reducible first | exact wg | exact wh) | ((with_reducible first | apply wi | apply wj); focus (simp (discharger := omega) only [go_sem, tAuto, tErr, tErr0, h0, h1', tRep, GRep.zero, simprocAttr]; with_reducible rfl)))); done)))
      exact (by simp (discharger := omega) only [go_sem, simprocAttr])
    · obtain ⟨k, rfl, cO⟩ := hRO h0 h1
      rw [r1] at cR
      generalize repO a (k : Int) = ro at *
      have htb := Tab.cons cR (Tab.cons cS (Tab.cons cO (Tab.cons e0 Tab.nil)))
      repeat' (first | (with_reducible first | apply w1 | apply w2 | apply w3 | apply w4 | apply w5 | apply w6 | apply w7 | apply w8 | apply w9 | apply wa | apply wb | apply wc) | ((with_reducible apply wd); focus decide) | ((with_reducible apply we); focus exact rfl) | ((with_reducible apply wf); focus exact rfl) | ((first | (with_reducible apply SW_run tt_ok hG htb) | ((with_reducible apply SW_draw rfl tt_ok hG htb); (focus kernel_rfl); focus simp only [List.range, List.range.loop, List.size_toArray, List.length_cons, List.length_nil, Nat.reduceAdd])); focus ((repeat' (first | (with_reducible first | exact wg | exact wh) | ((with_reducible first | apply wi | apply wj); focus (simp (discharger := omega) only [go_sem, tAuto, tErr, tErr0, h0, h1, tRep, simprocAttr]; with_reducible rfl)))); done)))
      exact (by simp (discharger := omega) only [go_sem, simprocAttr])
  · rw [l1, l2] at cL
    have htb := Tab.cons cF (Tab.cons cL (Tab.cons e1 Tab.nil))
    have g1' := eq_true g1
    repeat' (first | (with_reducible first | apply w1 | apply w2 | apply w3 | apply w4 | apply w5 | apply w6 | apply w7 | apply w8 | apply w9 | apply wa | apply wb | apply wc) | ((with_reducible apply wd); focus decide) | ((with_reducible apply we); focus exact rfl) | ((with_reducible apply wf); focus exact rfl) | ((first | (with_reducible apply SW_run tt_ok hG htb) | ((with_reducible apply SW_draw rfl tt_ok hG htb); (focus kernel_rfl); focus simp only [List.range, List.range.loop, List.size_toArray, List.length_cons, List.length_nil, Nat.reduceAdd])); focus ((repeat' (first | (with_reducible first | exact wg | exact wh) | ((with_reducible first | apply wi | apply wj); focus (simp (discharger := omega) only [go_sem, tAuto, tErr, tErr0, g0, g1', simprocAttr]; with_reducible rfl)))); done)))
    clear htb
    rcases hR with ⟨h0, r1, r2⟩ | ⟨h0, h1, r1, r2⟩ | ⟨h0, h1, r1⟩
    · rw [r1, r2] at cR
      rw [r2] at cS
      have htb := Tab.cons cR (Tab.cons cS (Tab.cons e1 Tab.nil))
      have h0' := eq_true h0
      repeat' (first | (with_reducible first | apply w1 | apply w2 | apply w3 | apply w4 | apply w5 | apply w6 | apply w7 | apply w8 | apply w9 | apply wa | apply wb | apply wc) | ((with_reducible apply wd); focus decide) | ((with_reducible apply we); focus exact rfl) | ((with_reducible apply wf); focus exact rfl) | ((first | (with_reducible apply SW_run tt_ok hG htb) | ((with_reducible apply SW_draw rfl tt_ok hG htb); (focus kernel_rfl); focus simp only [List.range, List.range.loop, List.size_toArray, List.length_cons, List.length_nil, Nat.reduceAdd])); focus ((repeat' (first | (with_reducible first | exact wg | exact wh) | ((with_reducible first | apply wi | apply wj); focus (simp (discharger := omega) only [go_sem, tAuto, tErr, tErr0, h0', tRep, GRep.zero, simprocAttr]; with_reducible rfl)))); done)))
      exact (by simp (discharger := omega) only [go_sem, simprocAttr])
    · rw [r1, r2] at cR
      rw [r2] at cS
      have htb := Tab.cons cR (Tab.cons cS (Tab.cons e1 Tab.nil))
      have h1' := eq_true h1
      repeat' (first | (with_reducible first | apply w1 | apply w2 | apply w3 | apply w4 | apply w5 | apply w6 | apply w7 | apply w8 | apply w9 | apply wa | apply wb | apply wc) | ((with_reducible apply wd); focus decide) | ((with_reducible apply we); focus exact rfl) | ((with_reducible apply wf); focus exact rfl) | ((first | (with_reducible apply SW_run tt_ok hG htb) | ((with_reducible apply SW_draw rfl tt_ok hG htb); (focus kernel_rfl); focus simp only [List.range, List.range.loop, List.size_toArray, List.length_cons, List.length_nil, Nat.reduceAdd])); focus ((repeat' (first | (with_reducible first | exact wg | exact wh) | ((with_reducible first | apply wi | apply wj); focus (simp (discharger := omega) only [go_sem, tAuto, tErr, tErr0, h0, h1', tRep, GRep.zero, simprocAttr]; with_reducible rfl)))); done)))
      exact (by simp (discharger := omega) only [go_sem, simprocAttr])
    · obtain ⟨k, rfl, cO⟩ := hRO h0 h1
      rw [r1] at cR
      generalize repO a (k : Int) = ro at *
      have htb := Tab.cons cR (Tab.cons cS (Tab.cons cO (Tab.cons e0 Tab.nil)))
      repeat' (first | (with_reducible first | apply w1 | apply w2 | apply w3 | apply w4 | apply w5 | apply w6 | apply w7 | apply w8 | apply w9 | apply wa | apply wb | apply wc) | ((with_reducible apply wd); focus decide) | ((with_reducible apply we); focus exact rfl) | ((with_reducible apply wf); focus exact rfl) | ((first | (with_reducible apply SW_run tt_ok hG htb) | ((with_reducible apply SW_draw rfl tt_ok hG htb); (focus kernel_rfl); focus simp only [List.range, List.range.loop, List.size_toArray, List.length_cons, List.length_nil, Nat.reduceAdd])); focus ((repeat' (first | (with_reducible first | exact wg | exact wh) | ((with_reducible first | apply wi | apply wj); focus (simp (discharger := omega) only [go_sem, tAuto, tErr, tErr0, h0, h1, tRep, simprocAttr]; with_reducible rfl)))); done)))
      exact (by simp (discharger := omega) only [go_sem, simprocAttr])
  · rcases hb with ⟨rfl, l1, l2⟩ | ⟨rfl, l1, l2⟩
    · rw [l1, l2] at cL
      have htb := Tab.cons cF (Tab.cons cO (Tab.cons cL (Tab.cons e0 Tab.nil)))
      clear cO
      repeat' (first | (with_reducible first | apply w1 | apply w2 | apply w3 | apply w4 | apply w5 | apply w6 | apply w7 | apply w8 | apply w9 | apply wa | apply wb | apply wc) | ((with_reducible apply wd); focus decide) | ((with_reducible apply we); focus exact rfl) | ((with_reducible apply wf); focus exact rfl) | ((first | (with_reducible apply SW_run tt_ok hG htb) | ((with_reducible apply SW_draw rfl tt_ok hG htb); (focus kernel_rfl); focus simp only [List.range, List.range.loop, List.size_toArray, List.length_cons, List.length_nil, Nat.reduceAdd])); focus ((repeat' (first | (with_reducible first | exact wg | exact wh) | ((with_reducible first | apply wi | apply wj); focus (simp (discharger := omega) only [go_sem, tAuto, tErr, tErr0, g0, g1, simprocAttr]; with_reducible rfl)))); done)))
      clear htb
      rcases hR with ⟨h0, r1, r2⟩ | ⟨h0, h1, r1, r2⟩ | ⟨h0, h1, r1⟩
      · rw [r1, r2] at cR
        rw [r2] at cS
        have htb := Tab.cons cR (Tab.cons cS (Tab.cons e1 Tab.nil))
        have h0' := eq_true h0
        repeat' (first | (with_reducible first | apply w1 | apply w2 | apply w3 | apply w4 | apply w5 | apply w6 | apply w7 | apply w8 | apply w9 | apply wa | apply wb | apply wc) | ((with_reducible apply wd); focus decide) | ((with_reducible apply we); focus exact rfl) | ((with_reducible apply wf); focus exact rfl) | ((first | (with_reducible apply SW_run tt_ok hG htb) | ((with_reducible apply SW_draw rfl tt_ok hG htb); (focus kernel_rfl); focus simp only [List.range, List.range.loop, List.size_toArray, List.length_cons, List.length_nil, Nat.reduceAdd])); focus ((repeat' (first | (with_reducible first | exact wg | exact wh) | ((with_reducible first | apply wi | apply wj); focus (simp (discharger := omega) only [go_sem, tAuto, tErr, tErr0, h0', tRep, GRep.zero, simprocAttr]; with_reducible rfl)))); done)))
        exact (by simp (discharger := omega) only [go_sem, simprocAttr])
      · rw [r1, r2] at cR
        rw [r2] at cS
        have htb := Tab.cons cR (Tab.cons cS (Tab.cons e1 Tab.nil))
        have h1' := eq_true h1
        repeat' (first | (with_reducible first | apply w1 | apply w2 | apply w3 | apply w4 | apply w5 | apply w6 | apply w7 | apply w8 | apply w9 | apply wa | apply wb | apply wc) | ((with_reducible apply wd); focus decide) | ((with_reducible apply we); focus exact rfl) | ((with_reducible apply wf); focus exact rfl) | ((first | (with_reducible apply SW_run tt_ok hG htb) | ((with_reducible apply SW_draw rfl tt_ok hG htb); (focus kernel_rfl); focus simp only [List.range, List.range.loop, List.size_toArray, List.length_cons, List.length_nil, Nat.reduceAdd])); focus ((repeat' (first | (with_reducible first | exact wg | exact wh) | ((with_reducible first | apply wi | apply wj); focus (simp (discharger := omega) only [go_sem, tAuto, tErr, tErr0, h0, h1', tRep, GRep.zero, simprocAttr]; with_reducible rfl)))); done)))
        exact (by simp (discharger := omega) only [go_sem, simprocAttr])
      · obtain ⟨k, rfl, cO⟩ := hRO h0 h1
        rw [r1] at cR
        generalize repO a (k : Int) = ro at *
        have htb := Tab.cons cR (Tab.cons cS (Tab.cons cO (Tab.cons e0 Tab.nil)))
        repeat' (first | (with_reducible first | apply w1 | apply w2 | apply w3 | apply w4 | apply w5 | apply w6 | apply w7 | apply w8 | apply w9 | apply wa | apply wb | apply wc) | ((with_reducible apply wd); focus decide) | ((with_reducible apply we); focus exact rfl) | ((with_reducible apply wf); focus exact rfl) | ((first | (with_reducible apply SW_run tt_ok hG htb) | ((with_reducible apply SW_draw rfl tt_ok hG htb); (focus kernel_rfl); focus simp only [List.range, List.range.loop, List.size_toArray, List.length_cons, List.length_nil, Nat.reduceAdd])); focus ((repeat' (first | (with_reducible first | exact wg | exact wh) | ((with_reducible first | apply wi | apply wj); focus (simp (discharger := omega) only [go_sem, tAuto, tErr, tErr0, h0, h1, tRep, simprocAttr]; with_reducible rfl)))); done)))
        exact (by simp (discharger := omega) only [go_sem, simprocAttr])
    · rw [l1, l2] at cL
      have htb := Tab.cons cF (Tab.cons cO (Tab.cons cL (Tab.cons e3 Tab.nil)))
      clear cO
      repeat' (first | (with_reducible first | apply w1 | apply w2 | apply w3 | apply w4 | apply w5 | apply w6 | apply w7 | apply w8 | apply w9 | apply wa | apply wb | apply wc) | ((with_reducible apply wd); focus decide) | ((with_reducible apply we); focus exact rfl) | ((with_reducible apply wf); focus exact rfl) | ((first | (with_reducible apply SW_run tt_ok hG htb) | ((with_reducible apply SW_draw rfl tt_ok hG htb); (focus kernel_rfl); focus simp only [List.range, List.range.loop, List.size_toArray, List.length_cons, List.length_nil, Nat.reduceAdd])); focus ((repeat' (first | (with_reducible first | exact wg | exact wh) | ((with_reducible first | apply wi | apply wj); focus (simp (discharger := omega) only [go_sem, tAuto, tErr, tErr0, g0, g1, simprocAttr]; with_reducible rfl)))); done)))
      clear htb
      rcases hR with ⟨h0, r1, r2⟩ | ⟨h0, h1, r1, r2⟩ | ⟨h0, h1, r1⟩
      · rw [r1, r2] at cR
        rw [r2] at cS
        have htb := Tab.cons cR (Tab.cons cS (Tab.cons e1 Tab.nil))
        have h0' := eq_true h0
        repeat' (first | (with_reducible first | apply w1 | apply w2 | apply w3 | apply w4 | apply w5 | apply w6 | apply w7 | apply w8 | apply w9 | apply wa | apply wb | apply wc) | ((with_reducible apply wd); focus decide) | ((with_reducible apply we); focus exact rfl) | ((with_reducible apply wf); focus exact rfl) | ((first | (with_reducible apply SW_run tt_ok hG htb) | ((with_reducible apply SW_draw rfl tt_ok hG htb); (focus kernel_rfl); focus simp only [List.range, List.range.loop, List.size_toArray, List.length_cons, List.length_nil, Nat.reduceAdd])); focus ((repeat' (first | (with_reducible first | exact wg | exact wh) | ((with_reducible first | apply wi | apply wj); focus (simp (discharger := omega) only [go_sem, tAuto, tErr, tErr0, h0', tRep, GRep.zero, simprocAttr]; with_reducible rfl)))); done)))
        exact (by simp (discharger := omega) only [go_sem, simprocAttr])
      · rw [r1, r2] at cR
        rw [r2] at cS
        have htb := Tab.cons cR (Tab.cons cS (Tab.cons e1 Tab.nil))
        have h1' := eq_true h1
        repeat' (first | (with_reducible first | apply w1 | apply w2 | apply w3 | apply w4 | apply w5 | apply w6 | apply w7 | apply w8 | apply w9 | apply wa | apply wb | apply wc) | ((with_reducible apply wd); focus decide) | ((with_reducible apply we); focus exact rfl) | ((with_reducible apply wf); focus exact rfl) | ((first | (with_reducible apply SW_run tt_ok hG htb) | ((with_reducible apply SW_draw rfl tt_ok hG htb); (focus kernel_rfl); focus simp only [List.range, List.range.loop, List.size_toArray, List.length_cons, List.length_nil, Nat.reduceAdd])); focus ((repeat' (first | (with_reducible first | exact wg | exact wh) | ((with_reducible first | apply wi | apply wj); focus (simp (discharger := omega) only [go_sem, tAuto, tErr, tErr0, h0, h1', tRep, GRep.zero, simprocAttr]; with_reducible rfl)))); done)))
        exact (by simp (discharger := omega) only [go_sem, simprocAttr])
      · obtain ⟨k, rfl, cO⟩ := hRO h0 h1
        rw [r1] at cR
        generalize repO a (k : Int) = ro at *
        have htb := Tab.cons cR (Tab.cons cS (Tab.cons cO (Tab.cons e0 Tab.nil)))
        repeat' (first | (with_reducible first | apply w1 | apply w2 | apply w3 | apply w4 | apply w5 | apply w6 | apply w7 | apply w8 | apply w9 | apply wa | apply wb | apply wc) | ((with_reducible apply wd); focus decide) | ((with_reducible apply we); focus exact rfl) | ((with_reducible apply wf); focus exact rfl) | ((first | (with_reducible apply SW_run tt_ok hG htb) | ((with_reducible apply SW_draw rfl tt_ok hG htb); (focus kernel_rfl); focus simp only [List.range, List.range.loop, List.size_toArray, List.length_cons, List.length_nil, Nat.reduceAdd])); focus ((repeat' (first | (with_reducible first | exact wg | exact wh) | ((with_reducible first | apply wi | apply wj); focus (simp (discharger := omega) only [go_sem, tAuto, tErr, tErr0, h0, h1, tRep, simprocAttr]; with_reducible rfl)))); done)))
        exact (by simp (discharger := omega) only [go_sem, simprocAttr])
theorem CountLongs_walk (v : Value) (a : GAuto) (n t : Int) (w : World) (h : ReadsAuto w v a) (_ : I64 n) (_ : I64 t) (hg : errCell w) : Calls Tryd.prog 3 #[v, .int .i64 n, .int .i64 t] w (Ret (.bool true) w) :=
  walkN (CountLongs_snd a n t) hg rfl fun k y z p q => by
    match k, p, q with
    | 0, p, q => cases p; cases q; exact h.2
    | 1, p, q => cases p; cases q; exact .int _ _
    | 2, p, q => cases p; cases q; exact .int _ _
end Go.Proofs.YthcclcbliedodaaDoor
namespace Go.Proofs.YthcclcbliedodaaDoor.countLongs
open Go.ChangeShapes Go.WideShapes Go.ChangeAt Go.RowKit

set_option maxRecDepth 100000 in
theorem lifted (os : Os) (started : os.Started) (H : Type) (enc : TypeId × Value → H) :
    ReturnsInHanded {} Tryd.checked os 3 .any (fun w args => (Rows.countLongsSpec.pre enc Tryd.prog Tryd.f3 [] false w args ∧ laidMetH Tryd.prog laidL w) ∧ sizedMet enc Tryd.prog Tryd.f3 (OpenSpec.ofChange Rows.countLongsSpec) false w args)
      (Rows.countLongsSpec.post enc Tryd.prog Tryd.f3 false true false false) := by
  refine returnsInHanded_of_change_and (C := Tryd.checked) (X := fun w _ => laidMetH Tryd.prog laidL w) (fun _ _ _ hh h => h.of_heap hh) own started (by kernel_rfl) Tryd.func3
    (ChangeSpec.witness_at (enc := enc) (C := Tryd.checked) (os := os) (X := fun w _ => laidMetH Tryd.prog laidL w) false (laidWorld os) #[.agg #[.int .i64 0, .int .i64 0, .slice none 0 0, .slice none 0 0], .int .i64 0, .int .i64 0] 8 rfl (by kernel_rfl) (by kernel_rfl) (by kernel_rfl) (by kernel_rfl) (by kernel_rfl) (laidWorld_met os _)) ?_
  intro W base args ds gs before hval0 hW _ _ hL _
  have hval : ∀ (j : Nat) t v, Tryd.f3.params[j]? = some t → args[j]? = some v → Value.okWide Tryd.prog W .any base t v := hval0
  have hW' := hW
  obtain ⟨p, q, hA0, hV, rfl, hfz, hnd⟩ := hW
  have hA : DataW.TrodAll enc Tryd.prog W 0 (fun _ => true) true Tryd.f3.params.toList args.toList ds p := hA0
  rw [Tryd.params3] at hA hval
  obtain ⟨v0, vs0, d0, ds0, p0, q0, hargs, rfl, rfl, h0, r0⟩ := trodAll_cons hA
  obtain ⟨v1, vs1, d1, ds1, p1, q1, rfl, rfl, rfl, h1, r1⟩ := trodAll_cons r0
  obtain ⟨v2, vs2, d2, ds2, p2, q2, rfl, rfl, rfl, h2, r2⟩ := trodAll_cons r1
  obtain ⟨rfl, rfl, rfl⟩ := trodAll_nil r2
  obtain rfl : args = #[v0, v1, v2] := by cases args; simp_all
  obtain ⟨rfl, rfl⟩ := trodVars_none hV
  have k0 := h0
  have lt0 : ∀ x ∈ p0, x.block < W.heap.size := by obtain ⟨m, hm⟩ := k0; exact DataW.trod_lt m _ _ _ hm
  obtain ⟨a0, w0⟩ := openAutoT (hval 0 25 v0 rfl rfl) h0
  obtain ⟨a1, rfl, rfl, rfl, w1⟩ := open_int Tryd.underlying3 (hval 1 3 v1 rfl rfl) h1
  obtain ⟨a2, rfl, rfl, rfl, w2⟩ := open_int Tryd.underlying3 (hval 2 3 v2 rfl rfl) h2
  clear hA0 hval0
  refine (CountLongs_walk _ a0 a1 a2 W w0 (i64_of_wf w1) (i64_of_wf w2) (handle_of_laid hL)).mono fun e W' ⟨he, bel⟩ => ?_
  subst he
  exact ⟨_, rfl, _, _, _, [], _, [], hW', trodAll_mk1 (shut_bool Tryd.underlying4 _), (trodAll_cons_mk (Below.trod laidOut (by kernel_rfl) (of_decide_eq_true (by kernel_rfl)) k0 bel lt0) (trodAll_cons_mk (shut_int Tryd.underlying3 w1) (trodAll_cons_mk (shut_int Tryd.underlying3 w2) trodAll_mk0))), rfl, bel.frame _, fun h => by cases h⟩

theorem over : Rows.countLongsRow.holds Tryd.pinned (OpenSpec.ofChange Rows.countLongsSpec) :=
  OpenClaim.holds_of_wide 3 Tryd.f3 rfl rfl rfl rfl rfl rfl rfl ⟨rfl, rfl, rfl, rfl, rfl⟩ rfl rfl rfl rfl rfl (by kernel_rfl) Tryd.func3 (by kernel_rfl)
    (of_decide_eq_true (by kernel_rfl)) (by unfold Func.isWrapper; first | (rw [if_pos (by decide +kernel)]; kernel_rfl) | (rw [if_neg (by decide +kernel)]; exact ⟨rfl, rfl⟩))
    (fun os started H enc _ => lifted os started H enc)

theorem said : Rows.CountLongsSaid := over
theorem plain (f : FuncId) (fn : Func) (hf : Tryd.pinned.checked.prog.funcNamed "filbert/filbertlaw4.CountLongs" = some f) (hfn : Tryd.pinned.checked.prog.funcs[f]? = some fn) :
    true = Tryd.pinned.checked.prog.looks [] ∧ ∀ (j : Nat) t, fn.params[j]? = some t → Tryd.pinned.checked.prog.wantsStandIn t = false := by
  obtain rfl : f = 3 := Option.some.inj ((show Tryd.prog.funcNamed "filbert/filbertlaw4.CountLongs" = some 3 by kernel_rfl).symm.trans hf) |>.symm
  obtain rfl : fn = Tryd.f3 := (Option.some.inj (Tryd.func3.symm.trans hfn)).symm
  refine ⟨by kernel_rfl, fun j t ht => ?_⟩
  have hall : (Tryd.f3.params.toList.all fun t => !(Tryd.prog.wantsStandIn t)) = true := by kernel_rfl
  have := List.all_eq_true.1 hall t (Array.mem_toList_iff.2 (Array.mem_of_getElem? ht))
  exact (show Tryd.prog.wantsStandIn t = false by simpa using this)

/-- THE STATEMENT: THE CARD. -/
theorem proved : Rows.CountLongsCardSaid :=
  Claim7.holds_tied_plain_at .later [] _ _ _ _ said (fun _ h => by cases h) (by kernel_rfl) (fun _ h => by cases h) countLongs_row_tie rfl ⟨rfl, rfl⟩ (by kernel_rfl) rfl plain (by kernel_rfl)
#print axioms proved
end Go.Proofs.YthcclcbliedodaaDoor.countLongs
