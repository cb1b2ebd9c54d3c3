/- The law FormTurns returns true at every input and leaves its arguments as they read. No conditions. -/
import Derived.Test.YtfhncnhkeodngaaM6
set_option linter.unusedSimpArgs false
set_option linter.unusedVariables false
set_option linter.unnecessarySimpa false
set_option linter.unusedSectionVars false
namespace Go.Proofs.Ytfhncnhkeodngaa
open Go.RowKit

def evenN : List GNode := [⟨8, 1, 0, 0, 0, 0, []⟩, ⟨1, 0, 0, 0, 0, 0, [1, -2]⟩]
theorem even_free : freeV evenN = [0] ∧ (formErr evenN).2 = 0 := by decide
def preL (s : Nat → Nat) (v : Nat) : List Int := (List.range v).map fun u => ((s u : Nat) : Int)
theorem preL_succ (s : Nat → Nat) (v : Nat) : preL s (v + 1) = preL s v ++ [((s v : Nat) : Int)] := by unfold preL; rw [List.range_succ, List.map_append]; rfl
theorem preL_len (s : Nat → Nat) (v : Nat) : (preL s v).length = v := by unfold preL; rw [List.length_map, List.length_range]
theorem rem_K {k v : Nat} : ((v : Int) + (k : Int)).tmod 5 = ((toK k v : Nat) : Int) := by
  unfold toK
  rw [Int.tmod_eq_emod_of_nonneg (by omega)]; omega
theorem rem_B {k v : Nat} (hk : k < 5) : ((v : Int) + 5 - (k : Int)).tmod 5 = ((toB k v : Nat) : Int) := by
  unfold toB
  rw [Int.tmod_eq_emod_of_nonneg (by omega)]; omega
section
variable {G : World → Prop} (hG : Lasting G)
include hG
theorem even_snd : Snd Try.prog G 8 [] (tForm evenN) := by
  refine snd_of_body (n := 5) (tm := []) (rs := [.tmp 0]) tt_ok Try.func8 rfl rfl rfl rfl rfl ?_
  have htb : Tab.ok Try.prog G [] := Tab.nil
  repeat' (first | (with_reducible first | refine SW_seq ?_ | refine SW_block ?_ | refine SThen_n ?_ | refine SThen_r ?_ | refine SThen_e ?_ | refine SIn_n ?_ | refine SIn_r ?_ | refine SIn_eq ?_ | refine SW_skip ?_ | refine SW_exit ?_ | refine SW_ret ?_ | refine SPost_r ?_) | ((with_reducible refine SIn_ne ?_ ?_); focus decide) | ((with_reducible refine SW_true ?_ ?_); focus exact rfl) | ((with_reducible refine SW_false ?_ ?_); focus exact rfl) | ((first | (with_reducible apply SW_run tt_ok hG htb) | ((with_reducible apply SW_draw rfl tt_ok hG htb); (focus kernel_rfl); (focus (simp only [List.range, List.range.loop, List.size_toArray, List.length_cons, List.length_nil, Nat.reduceAdd])))); focus ((repeat' (first | (with_reducible exact runX_nil) | (with_reducible exact runI_nil) | ((first | (with_reducible apply runX_cons) | (with_reducible apply runI_cons)); focus (simp (discharger := omega) only [go_sem, simprocAttr]; with_reducible rfl)))); done)))
  exact (by simp (discharger := omega) only [go_sem, tForm, evenN, tNode, List.map_cons, List.map_nil, simprocAttr])
set_option maxHeartbeats 16000000 in
set_option maxRecDepth 100000 in
theorem FormTurns_snd (f : List GNode) (ws : List GOut) (ns : List Int) (tn : Int) (ht : I64 tn) : Snd Try.prog G 3 [tForm f, tOutL ws, tInts ns, tInt tn] (.bool true) := by
  have c1 := even_snd hG
  have c2 := FreeV_snd hG evenN
  rw [even_free.1, even_free.2] at c2
  have c3 := Pick_snd hG tn 5 ht (by omega)
  have hpb := pickOf_bd tn (n := 5) (by decide)
  obtain ⟨k, hk⟩ : ∃ k : Nat, pickOf tn 5 = k := ⟨(pickOf tn 5).toNat, by omega⟩
  rw [hk] at c3 hpb
  have hk5 : k < 5 := by omega
  clear hk
  have hT := turnK hk5
  have hB := turnB hk5
  have hinv := turn_back hk5
  have r1 := fun v : Nat => rem_K (k := k) (v := v)
  have r2 := fun v : Nat => rem_B (k := k) (v := v) hk5
  have lK := fun v (hv : v < 5) => hT.lt (v := v) hv
  have lB := fun v (hv : v < 5) => hB.lt (v := v) hv
  have p1 : toL (toK k) = preL (toK k) 5 := rfl
  have p2 : toL (toB k) = preL (toB k) 5 := rfl
  rw [p1] at hT
  rw [p2] at hB
  have sK := preL_succ (toK k)
  have sB := preL_succ (toB k)
  have nK := preL_len (toK k)
  have nB := preL_len (toB k)
  generalize toK k = sk at *
  generalize toB k = sb at *
  refine snd_of_body (n := 188) (tm := [(0, .t (tForm f)), (1, .t (tOutL ws)), (2, .t (tInts ns)), (3, .t (tInt tn))]) (rs := [.tmp 8]) tt_ok Try.func3 rfl rfl rfl rfl rfl ?_
  generalize evenN = ev at *
  obtain ⟨l0, hl0⟩ : ∃ l, ([0] : List Int) = l := ⟨_, rfl⟩
  have hl1 : l0.length = 1 := by rw [← hl0]; rfl
  have hl00 : l0[0]! = 0 := by rw [← hl0]; rfl
  rw [hl0] at c2
  clear hl0
  have htb := Tab.cons c1 (Tab.cons c2 Tab.nil)
  repeat' (first | (with_reducible first | refine SW_seq ?_ | refine SW_block ?_ | refine SThen_n ?_ | refine SThen_r ?_ | refine SThen_e ?_ | refine SIn_n ?_ | refine SIn_r ?_ | refine SIn_eq ?_ | refine SW_skip ?_ | refine SW_exit ?_ | refine SW_ret ?_ | refine SPost_r ?_) | ((with_reducible refine SIn_ne ?_ ?_); focus decide) | ((with_reducible refine SW_true ?_ ?_); focus exact rfl) | ((with_reducible refine SW_false ?_ ?_); focus exact rfl) | ((first | (with_reducible apply SW_run tt_ok hG htb) | ((with_reducible apply SW_draw rfl tt_ok hG htb); (focus kernel_rfl); (focus (simp only [List.range, List.range.loop, List.size_toArray, List.length_cons, List.length_nil, Nat.reduceAdd])))); focus ((repeat' (first | (with_reducible exact runX_nil) | (with_reducible exact runI_nil) | ((first | (with_reducible apply runX_cons) | (with_reducible apply runI_cons)); focus (simp (discharger := omega) only [go_sem, tErr0, tForm, hl1, hl00, simprocAttr]; with_reducible rfl)))); done)))
  clear htb
  have htb := Tab.cons c3 Tab.nil
  refine SW_loop (fun mm s => ∃ (v : Nat) (ot ob : List T), mm = 5 - v ∧ s = ⟨188, [(0, .t (tForm f)), (1, .t (tOutL ws)), (2, .t (tInts ns)), (3, .t (tInt tn)), (11, .sref 0), (12, .sref 1), (13, .t (tNat v))], [.row 3 1 false ot, .row 3 1 false ob]⟩ ∧ v ≤ 5 ∧ ot = (preL sk v).map tInt ∧ ob = (preL sb v).map tInt ∧ ot.length ≤ v ∧ ob.length ≤ v) 5
    ⟨_, Norm.headS (own := [(11, 3, 1, false), (12, 3, 1, false)]) (keep := [0, 1, 2, 3, 11, 12, 13]) (by refine ⟨?_, ?_⟩; (simp (discharger := omega) only [go_sem, simprocAttr]; with_reducible rfl); refine ⟨?_, ?_, ?_, ?_⟩ <;> (simp only [go_sem, simprocAttr]; with_reducible rfl)), 0, _, _, rfl, rfl, by omega, rfl, rfl, Nat.le_refl _, Nat.le_refl _⟩ ?_
  rintro mm s ⟨v, ot, ob, rfl, rfl, hv, hot, hob, hol, hbl⟩
  by_cases hlt : v < 5
  · have q1 := r1 v
    have q2 := r2 v
    have q3 := lK v hlt
    have q4 := lB v hlt
    have q5 := sK v
    have q6 := sB v
    generalize sk v = a at *
    generalize sb v = b at *
    repeat' (first | (with_reducible first | refine SW_seq ?_ | refine SW_block ?_ | refine SThen_n ?_ | refine SThen_r ?_ | refine SThen_e ?_ | refine SIn_n ?_ | refine SIn_r ?_ | refine SIn_eq ?_ | refine SW_skip ?_ | refine SW_exit ?_ | refine SW_ret ?_ | refine SPost_r ?_) | ((with_reducible refine SIn_ne ?_ ?_); focus decide) | ((with_reducible refine SW_true ?_ ?_); focus exact rfl) | ((with_reducible refine SW_false ?_ ?_); focus exact rfl) | ((first | (with_reducible apply SW_run tt_ok hG htb) | ((with_reducible apply SW_draw rfl tt_ok hG htb); (focus kernel_rfl); (focus (simp only [List.range, List.range.loop, List.size_toArray, List.length_cons, List.length_nil, Nat.reduceAdd])))); focus ((repeat' (first | (with_reducible exact runX_nil) | (with_reducible exact runI_nil) | ((first | (with_reducible apply runX_cons) | (with_reducible apply runI_cons)); focus (simp (discharger := omega) only [go_sem, q1, q2, simprocAttr]; with_reducible rfl)))); done)))
    exact ⟨5 - (v + 1), _, by omega, Norm.headS (own := [(11, 3, 1, false), (12, 3, 1, false)]) (keep := [0, 1, 2, 3, 11, 12, 13]) (by refine ⟨?_, ?_⟩; (simp (discharger := omega) only [go_sem, simprocAttr]; with_reducible rfl); refine ⟨?_, ?_, ?_, ?_⟩ <;> (simp only [go_sem, simprocAttr]; with_reducible rfl)), v + 1, ot ++ [tNat a], ob ++ [tNat b], rfl, rfl, by omega, by rw [q5, List.map_append, hot]; rfl, by rw [q6, List.map_append, hob]; rfl, by rw [List.length_append, List.length_singleton]; omega, by rw [List.length_append, List.length_singleton]; omega⟩
  obtain rfl : v = 5 := by omega
  have nK5 := nK 5
  have nB5 := nB 5
  clear hlt hv r1 r2 sK sB nK nB c1 c2 c3 lB
  clear htb
  generalize preL sk 5 = to at *
  generalize preL sb 5 = bk at *
  subst hot hob
  have htb : Tab.ok Try.prog G [] := Tab.nil
  repeat' (first | (with_reducible first | refine SW_seq ?_ | refine SW_block ?_ | refine SThen_n ?_ | refine SThen_r ?_ | refine SThen_e ?_ | refine SIn_n ?_ | refine SIn_r ?_ | refine SIn_eq ?_ | refine SW_skip ?_ | refine SW_exit ?_ | refine SW_ret ?_ | refine SPost_r ?_) | ((with_reducible refine SIn_ne ?_ ?_); focus decide) | ((with_reducible refine SW_true ?_ ?_); focus exact rfl) | ((with_reducible refine SW_false ?_ ?_); focus exact rfl) | ((first | (with_reducible apply SW_run tt_ok hG htb) | ((with_reducible apply SW_draw rfl tt_ok hG htb); (focus kernel_rfl); (focus (simp only [List.range, List.range.loop, List.size_toArray, List.length_cons, List.length_nil, Nat.reduceAdd])))); focus ((repeat' (first | (with_reducible exact runX_nil) | (with_reducible exact runI_nil) | ((first | (with_reducible apply runX_cons) | (with_reducible apply runI_cons)); focus (simp (discharger := omega) only [go_sem, simprocAttr]; with_reducible rfl)))); done)))
  refine SW_norm ((Norm.frzRow 0 rfl).trans (Norm.datum 11 0 rfl rfl)) ?_
  refine SW_norm ((Norm.frzRow 1 rfl).trans (Norm.datum 12 1 rfl rfl)) ?_
  refine SW_norm (Norm.headS (own := []) (keep := [0, 1, 2, 11, 12]) (by refine ⟨?_, ?_⟩; (simp (discharger := omega) only [go_sem, simprocAttr]; with_reducible rfl); refine ⟨?_, ?_, ?_, ?_⟩ <;> (simp only [go_sem, simprocAttr]; with_reducible rfl))) ?_
  have d1 := Rename_snd hG f to
  have e1 := renErr_turn (f := f) hT
  rw [e1] at d1
  by_cases h : (formErr f).2 = 0
  rotate_left
  · generalize renF f to = g at *
    generalize (formErr f).2 = e at *
    clear htb
    have htb : Tab.ok Try.prog G [(10, [tForm f, tInts to], .tup [tForm g, tErr e])] := Tab.cons d1 Tab.nil
    repeat' (first | (with_reducible first | refine SW_seq ?_ | refine SW_block ?_ | refine SThen_n ?_ | refine SThen_r ?_ | refine SThen_e ?_ | refine SIn_n ?_ | refine SIn_r ?_ | refine SIn_eq ?_ | refine SW_skip ?_ | refine SW_exit ?_ | refine SW_ret ?_ | refine SPost_r ?_) | ((with_reducible refine SIn_ne ?_ ?_); focus decide) | ((with_reducible refine SW_true ?_ ?_); focus exact rfl) | ((with_reducible refine SW_false ?_ ?_); focus exact rfl) | ((first | (with_reducible apply SW_run tt_ok hG htb) | ((with_reducible apply SW_draw rfl tt_ok hG htb); (focus kernel_rfl); (focus (simp only [List.range, List.range.loop, List.size_toArray, List.length_cons, List.length_nil, Nat.reduceAdd])))); focus ((repeat' (first | (with_reducible exact runX_nil) | (with_reducible exact runI_nil) | ((first | (with_reducible apply runX_cons) | (with_reducible apply runI_cons)); focus (simp (discharger := omega) only [go_sem, tErr, tForm, h, simprocAttr]; with_reducible rfl)))); done)))
    exact (by simp (discharger := omega) only [go_sem, simprocAttr])
  have eg := renF_turn hT h
  obtain ⟨b1, b2⟩ := ren_ren hT hB hinv h
  have fe := form_ren hT h
  obtain ⟨fl1, fl2⟩ := freeL_ren hT h
  have hmem := fun v => mem_freeL (f := f) (v := v)
  have d2 := Rename_snd hG (f.map (renN to)) bk
  have d3 := Nodes_snd hG f
  have d4 := FreeV_snd hG f
  have d5 := FreeV_snd hG (f.map (renN to))
  have d6 := Eval_snd hG f ws ns
  have d7 := Eval_snd hG (f.map (renN to)) ws (rowP ns to 5)
  have v1 : freeV f = freeL f := by unfold freeV; rw [if_pos h]
  have v2 : freeV (f.map (renN to)) = freeL (f.map (renN to)) := by unfold freeV; rw [fe, if_pos h]
  rw [eg, h] at d1
  rw [b1, b2] at d2
  rw [v1, h] at d4
  rw [v2, fe, h] at d5
  have x1 := fun hl => evalErr_ren hT ws (nums := ns) hl h
  have x2 := fun hl => evalV_ren hT ws (nums := ns) hl h
  have hl5 : (freeL f).length ≤ 5 := by unfold freeL; exact Nat.le_trans (List.length_filter_le _ _) (by simp)
  clear eg b1 b2 fe v1 v2 e1
  generalize f.map (renN to) = g at *
  generalize freeL f = lf at *
  generalize freeL g = lg at *
  clear htb
  have htb := Tab.cons d1 Tab.nil
  repeat' (first | (with_reducible first | refine SW_seq ?_ | refine SW_block ?_ | refine SThen_n ?_ | refine SThen_r ?_ | refine SThen_e ?_ | refine SIn_n ?_ | refine SIn_r ?_ | refine SIn_eq ?_ | refine SW_skip ?_ | refine SW_exit ?_ | refine SW_ret ?_ | refine SPost_r ?_) | ((with_reducible refine SIn_ne ?_ ?_); focus decide) | ((with_reducible refine SW_true ?_ ?_); focus exact rfl) | ((with_reducible refine SW_false ?_ ?_); focus exact rfl) | ((first | (with_reducible apply SW_run tt_ok hG htb) | ((with_reducible apply SW_draw rfl tt_ok hG htb); (focus kernel_rfl); (focus (simp only [List.range, List.range.loop, List.size_toArray, List.length_cons, List.length_nil, Nat.reduceAdd])))); focus ((repeat' (first | (with_reducible exact runX_nil) | (with_reducible exact runI_nil) | ((first | (with_reducible apply runX_cons) | (with_reducible apply runI_cons)); focus (simp (discharger := omega) only [go_sem, tErr0, tForm, simprocAttr]; with_reducible rfl)))); done)))
  clear htb
  have htb := Tab.cons d2 (Tab.cons d3 (Tab.cons d4 Tab.nil))
  repeat' (first | (with_reducible first | refine SW_seq ?_ | refine SW_block ?_ | refine SThen_n ?_ | refine SThen_r ?_ | refine SThen_e ?_ | refine SIn_n ?_ | refine SIn_r ?_ | refine SIn_eq ?_ | refine SW_skip ?_ | refine SW_exit ?_ | refine SW_ret ?_ | refine SPost_r ?_) | ((with_reducible refine SIn_ne ?_ ?_); focus decide) | ((with_reducible refine SW_true ?_ ?_); focus exact rfl) | ((with_reducible refine SW_false ?_ ?_); focus exact rfl) | ((first | (with_reducible apply SW_run tt_ok hG htb) | ((with_reducible apply SW_draw rfl tt_ok hG htb); (focus kernel_rfl); (focus (simp only [List.range, List.range.loop, List.size_toArray, List.length_cons, List.length_nil, Nat.reduceAdd])))); focus ((repeat' (first | (with_reducible exact runX_nil) | (with_reducible exact runI_nil) | ((first | (with_reducible apply runX_cons) | (with_reducible apply runI_cons)); focus (simp (discharger := omega) only [go_sem, tErr0, tForm, simprocAttr]; with_reducible rfl)))); done)))
  clear htb
  have htb := Tab.cons d5 Tab.nil
  repeat' (first | (with_reducible first | refine SW_seq ?_ | refine SW_block ?_ | refine SThen_n ?_ | refine SThen_r ?_ | refine SThen_e ?_ | refine SIn_n ?_ | refine SIn_r ?_ | refine SIn_eq ?_ | refine SW_skip ?_ | refine SW_exit ?_ | refine SW_ret ?_ | refine SPost_r ?_) | ((with_reducible refine SIn_ne ?_ ?_); focus decide) | ((with_reducible refine SW_true ?_ ?_); focus exact rfl) | ((with_reducible refine SW_false ?_ ?_); focus exact rfl) | ((first | (with_reducible apply SW_run tt_ok hG htb) | ((with_reducible apply SW_draw rfl tt_ok hG htb); (focus kernel_rfl); (focus (simp only [List.range, List.range.loop, List.size_toArray, List.length_cons, List.length_nil, Nat.reduceAdd])))); focus ((repeat' (first | (with_reducible exact runX_nil) | (with_reducible exact runI_nil) | ((first | (with_reducible apply runX_cons) | (with_reducible apply runI_cons)); focus (simp (discharger := omega) only [go_sem, tErr0, tForm, fl1, simprocAttr]; with_reducible rfl)))); done)))
  clear htb
  have htb : Tab.ok Try.prog G [] := Tab.nil
  have hto5 : to.length = 5 := hT.len
  refine SW_loop (fun mm s => ∃ i : Nat, mm = lf.length - i ∧ s = ⟨188, [(0, .t (tForm f)), (1, .t (tOutL ws)), (2, .t (tInts ns)), (11, .t (tInts to)), (14, .t (tForm g)), (19, .t (tInts lf)), (21, .t (tInts lg)), (23, .t (tNat i))], []⟩ ∧ i ≤ lf.length) lf.length
    ⟨_, Norm.headS (own := []) (keep := [0, 1, 2, 11, 14, 19, 21, 23]) (by refine ⟨?_, ?_⟩; (simp (discharger := omega) only [go_sem, simprocAttr]; with_reducible rfl); refine ⟨?_, ?_, ?_, ?_⟩ <;> (simp only [go_sem, simprocAttr]; with_reducible rfl)), 0, rfl, rfl, Nat.zero_le _⟩ ?_
  rintro mm s ⟨i, rfl, rfl, hi⟩
  by_cases hlt : i < lf.length
  · obtain ⟨v, hv⟩ : ∃ v, lf[i]! = v := ⟨_, rfl⟩
    have hvm := bang_mem hv hlt
    have hvb := ((hmem v).1 hvm).1
    have hyl := fl2 v hvm
    obtain ⟨y, hy⟩ : ∃ y, to[v.toNat]! = y := ⟨_, rfl⟩
    rw [bang_D hy (by omega)] at hyl
    clear hvm
    repeat' (first | (with_reducible first | refine SW_seq ?_ | refine SW_block ?_ | refine SThen_n ?_ | refine SThen_r ?_ | refine SThen_e ?_ | refine SIn_n ?_ | refine SIn_r ?_ | refine SIn_eq ?_ | refine SW_skip ?_ | refine SW_exit ?_ | refine SW_ret ?_ | refine SPost_r ?_) | ((with_reducible refine SIn_ne ?_ ?_); focus decide) | ((with_reducible refine SW_true ?_ ?_); focus exact rfl) | ((with_reducible refine SW_false ?_ ?_); focus exact rfl) | ((first | (with_reducible apply SW_run tt_ok hG htb) | ((with_reducible apply SW_draw rfl tt_ok hG htb); (focus kernel_rfl); (focus (simp only [List.range, List.range.loop, List.size_toArray, List.length_cons, List.length_nil, Nat.reduceAdd])))); focus ((repeat' (first | (with_reducible exact runX_nil) | (with_reducible exact runI_nil) | ((first | (with_reducible apply runX_cons) | (with_reducible apply runI_cons)); focus (simp (discharger := omega) only [go_sem, simprocAttr]; with_reducible rfl)))); done)))
    refine SW_loop (fun mm s => ∃ (q : Nat) (b : Bool), mm = lg.length - q ∧ s = ⟨188, [(0, .t (tForm f)), (1, .t (tOutL ws)), (2, .t (tInts ns)), (11, .t (tInts to)), (14, .t (tForm g)), (19, .t (tInts lf)), (21, .t (tInts lg)), (23, .t (tNat i)), (24, .t (.bool b)), (25, .t (tNat q))], []⟩ ∧ q ≤ lg.length ∧ b = (lg.take q).any fun z => decide (z = y)) lg.length
      ⟨_, Norm.headS (own := []) (keep := [0, 1, 2, 11, 14, 19, 21, 23, 24, 25]) (by refine ⟨?_, ?_⟩; (simp (discharger := omega) only [go_sem, simprocAttr]; with_reducible rfl); refine ⟨?_, ?_, ?_, ?_⟩ <;> (simp only [go_sem, simprocAttr]; with_reducible rfl)), 0, false, rfl, rfl, Nat.zero_le _, rfl⟩ ?_
    rintro mm s ⟨q, b, rfl, rfl, hq, hb⟩
    by_cases hqt : q < lg.length
    · obtain ⟨z, hz⟩ : ∃ z, lg[q]! = z := ⟨_, rfl⟩
      have htk := take_next hz hqt
      cases b with
      | true =>
        repeat' (first | (with_reducible first | refine SW_seq ?_ | refine SW_block ?_ | refine SThen_n ?_ | refine SThen_r ?_ | refine SThen_e ?_ | refine SIn_n ?_ | refine SIn_r ?_ | refine SIn_eq ?_ | refine SW_skip ?_ | refine SW_exit ?_ | refine SW_ret ?_ | refine SPost_r ?_) | ((with_reducible refine SIn_ne ?_ ?_); focus decide) | ((with_reducible refine SW_true ?_ ?_); focus exact rfl) | ((with_reducible refine SW_false ?_ ?_); focus exact rfl) | ((first | (with_reducible apply SW_run tt_ok hG htb) | ((with_reducible apply SW_draw rfl tt_ok hG htb); (focus kernel_rfl); (focus (simp only [List.range, List.range.loop, List.size_toArray, List.length_cons, List.length_nil, Nat.reduceAdd])))); focus ((repeat' (first | (with_reducible exact runX_nil) | (with_reducible exact runI_nil) | ((first | (with_reducible apply runX_cons) | (with_reducible apply runI_cons)); focus (simp (discharger := omega) only [go_sem, simprocAttr]; with_reducible rfl)))); done)))
        exact ⟨lg.length - (q + 1), _, by omega, Norm.headS (own := []) (keep := [0, 1, 2, 11, 14, 19, 21, 23, 24, 25]) (by refine ⟨?_, ?_⟩; (simp (discharger := omega) only [go_sem, simprocAttr]; with_reducible rfl); refine ⟨?_, ?_, ?_, ?_⟩ <;> (simp only [go_sem, simprocAttr]; with_reducible rfl)), q + 1, true, rfl, rfl, by omega, by rw [htk, List.any_append, ← hb]; rfl⟩
      | false =>
        by_cases hzy : z = y
        · repeat' (first | (with_reducible first | refine SW_seq ?_ | refine SW_block ?_ | refine SThen_n ?_ | refine SThen_r ?_ | refine SThen_e ?_ | refine SIn_n ?_ | refine SIn_r ?_ | refine SIn_eq ?_ | refine SW_skip ?_ | refine SW_exit ?_ | refine SW_ret ?_ | refine SPost_r ?_) | ((with_reducible refine SIn_ne ?_ ?_); focus decide) | ((with_reducible refine SW_true ?_ ?_); focus exact rfl) | ((with_reducible refine SW_false ?_ ?_); focus exact rfl) | ((first | (with_reducible apply SW_run tt_ok hG htb) | ((with_reducible apply SW_draw rfl tt_ok hG htb); (focus kernel_rfl); (focus (simp only [List.range, List.range.loop, List.size_toArray, List.length_cons, List.length_nil, Nat.reduceAdd])))); focus ((repeat' (first | (with_reducible exact runX_nil) | (with_reducible exact runI_nil) | ((first | (with_reducible apply runX_cons) | (with_reducible apply runI_cons)); focus (simp (discharger := omega) only [go_sem, hz, hv, hy, hzy, simprocAttr]; with_reducible rfl)))); done)))
          exact ⟨lg.length - (q + 1), _, by omega, Norm.headS (own := []) (keep := [0, 1, 2, 11, 14, 19, 21, 23, 24, 25]) (by refine ⟨?_, ?_⟩; (simp (discharger := omega) only [go_sem, simprocAttr]; with_reducible rfl); refine ⟨?_, ?_, ?_, ?_⟩ <;> (simp only [go_sem, simprocAttr]; with_reducible rfl)), q + 1, true, rfl, rfl, by omega, by rw [htk, List.any_append, ← hb]; simp [hzy]⟩
        · repeat' (first | (with_reducible first | refine SW_seq ?_ | refine SW_block ?_ | refine SThen_n ?_ | refine SThen_r ?_ | refine SThen_e ?_ | refine SIn_n ?_ | refine SIn_r ?_ | refine SIn_eq ?_ | refine SW_skip ?_ | refine SW_exit ?_ | refine SW_ret ?_ | refine SPost_r ?_) | ((with_reducible refine SIn_ne ?_ ?_); focus decide) | ((with_reducible refine SW_true ?_ ?_); focus exact rfl) | ((with_reducible refine SW_false ?_ ?_); focus exact rfl) | ((first | (with_reducible apply SW_run tt_ok hG htb) | ((with_reducible apply SW_draw rfl tt_ok hG htb); (focus kernel_rfl); (focus (simp only [List.range, List.range.loop, List.size_toArray, List.length_cons, List.length_nil, Nat.reduceAdd])))); focus ((repeat' (first | (with_reducible exact runX_nil) | (with_reducible exact runI_nil) | ((first | (with_reducible apply runX_cons) | (with_reducible apply runI_cons)); focus (simp (discharger := omega) only [go_sem, hz, hv, hy, hzy, simprocAttr]; with_reducible rfl)))); done)))
          exact ⟨lg.length - (q + 1), _, by omega, Norm.headS (own := []) (keep := [0, 1, 2, 11, 14, 19, 21, 23, 24, 25]) (by refine ⟨?_, ?_⟩; (simp (discharger := omega) only [go_sem, simprocAttr]; with_reducible rfl); refine ⟨?_, ?_, ?_, ?_⟩ <;> (simp only [go_sem, simprocAttr]; with_reducible rfl)), q + 1, false, rfl, rfl, by omega, by rw [htk, List.any_append, ← hb]; simp [hzy]⟩
    · obtain rfl : q = lg.length := by omega
      rw [List.take_length] at hb
      have hb : b = true := by rw [hb]; exact List.any_eq_true.2 ⟨y, hyl, decide_eq_true rfl⟩
      subst hb
      repeat' (first | (with_reducible first | refine SW_seq ?_ | refine SW_block ?_ | refine SThen_n ?_ | refine SThen_r ?_ | refine SThen_e ?_ | refine SIn_n ?_ | refine SIn_r ?_ | refine SIn_eq ?_ | refine SW_skip ?_ | refine SW_exit ?_ | refine SW_ret ?_ | refine SPost_r ?_) | ((with_reducible refine SIn_ne ?_ ?_); focus decide) | ((with_reducible refine SW_true ?_ ?_); focus exact rfl) | ((with_reducible refine SW_false ?_ ?_); focus exact rfl) | ((first | (with_reducible apply SW_run tt_ok hG htb) | ((with_reducible apply SW_draw rfl tt_ok hG htb); (focus kernel_rfl); (focus (simp only [List.range, List.range.loop, List.size_toArray, List.length_cons, List.length_nil, Nat.reduceAdd])))); focus ((repeat' (first | (with_reducible exact runX_nil) | (with_reducible exact runI_nil) | ((first | (with_reducible apply runX_cons) | (with_reducible apply runI_cons)); focus (simp (discharger := omega) only [go_sem, simprocAttr]; with_reducible rfl)))); done)))
      exact ⟨lf.length - (i + 1), _, by omega, Norm.headS (own := []) (keep := [0, 1, 2, 11, 14, 19, 21, 23]) (by refine ⟨?_, ?_⟩; (simp (discharger := omega) only [go_sem, simprocAttr]; with_reducible rfl); refine ⟨?_, ?_, ?_, ?_⟩ <;> (simp only [go_sem, simprocAttr]; with_reducible rfl)), i + 1, rfl, rfl, by omega⟩
  obtain rfl : i = lf.length := by omega
  clear hlt hi fl2 hmem
  by_cases hn5 : ns.length = 5
  rotate_left
  · repeat' (first | (with_reducible first | refine SW_seq ?_ | refine SW_block ?_ | refine SThen_n ?_ | refine SThen_r ?_ | refine SThen_e ?_ | refine SIn_n ?_ | refine SIn_r ?_ | refine SIn_eq ?_ | refine SW_skip ?_ | refine SW_exit ?_ | refine SW_ret ?_ | refine SPost_r ?_) | ((with_reducible refine SIn_ne ?_ ?_); focus decide) | ((with_reducible refine SW_true ?_ ?_); focus exact rfl) | ((with_reducible refine SW_false ?_ ?_); focus exact rfl) | ((first | (with_reducible apply SW_run tt_ok hG htb) | ((with_reducible apply SW_draw rfl tt_ok hG htb); (focus kernel_rfl); (focus (simp only [List.range, List.range.loop, List.size_toArray, List.length_cons, List.length_nil, Nat.reduceAdd])))); focus ((repeat' (first | (with_reducible exact runX_nil) | (with_reducible exact runI_nil) | ((first | (with_reducible apply runX_cons) | (with_reducible apply runI_cons)); focus (simp (discharger := omega) only [go_sem, simprocAttr]; with_reducible rfl)))); done)))
    exact (by simp (discharger := omega) only [go_sem, simprocAttr])
  repeat' (first | (with_reducible first | refine SW_seq ?_ | refine SW_block ?_ | refine SThen_n ?_ | refine SThen_r ?_ | refine SThen_e ?_ | refine SIn_n ?_ | refine SIn_r ?_ | refine SIn_eq ?_ | refine SW_skip ?_ | refine SW_exit ?_ | refine SW_ret ?_ | refine SPost_r ?_) | ((with_reducible refine SIn_ne ?_ ?_); focus decide) | ((with_reducible refine SW_true ?_ ?_); focus exact rfl) | ((with_reducible refine SW_false ?_ ?_); focus exact rfl) | ((first | (with_reducible apply SW_run tt_ok hG htb) | ((with_reducible apply SW_draw rfl tt_ok hG htb); (focus kernel_rfl); (focus (simp only [List.range, List.range.loop, List.size_toArray, List.length_cons, List.length_nil, Nat.reduceAdd])))); focus ((repeat' (first | (with_reducible exact runX_nil) | (with_reducible exact runI_nil) | ((first | (with_reducible apply runX_cons) | (with_reducible apply runI_cons)); focus (simp (discharger := omega) only [go_sem, simprocAttr]; with_reducible rfl)))); done)))
  refine SW_loop (fun mm s => ∃ (v : Nat) (ot : List T), mm = 5 - v ∧ s = ⟨188, [(0, .t (tForm f)), (1, .t (tOutL ws)), (2, .t (tInts ns)), (11, .t (tInts to)), (14, .t (tForm g)), (26, .sref 0), (27, .t (tNat v))], [.row 3 1 true ot]⟩ ∧ v ≤ 5 ∧ ot = (rowP ns to v).map tInt ∧ ot.length = 5) 5
    ⟨_, Norm.headS (own := [(26, 3, 1, true)]) (keep := [0, 1, 2, 11, 14, 26, 27]) (by refine ⟨?_, ?_⟩; (simp (discharger := omega) only [go_sem, simprocAttr]; with_reducible rfl); refine ⟨?_, ?_, ?_, ?_⟩ <;> (simp only [go_sem, simprocAttr]; with_reducible rfl)), 0, _, rfl, rfl, by omega, by simp [rowP, tInt], rfl⟩ ?_
  rintro mm s ⟨v, ot, rfl, rfl, hv, hot, hol⟩
  by_cases hlt : v < 5
  · obtain ⟨y, hy⟩ : ∃ y, to[v]! = y := ⟨_, rfl⟩
    obtain ⟨x, hx⟩ : ∃ x, ns[v]! = x := ⟨_, rfl⟩
    have hyb := hT.ok.rg v hlt
    rw [bang_D hy (by omega)] at hyb
    repeat' (first | (with_reducible first | refine SW_seq ?_ | refine SW_block ?_ | refine SThen_n ?_ | refine SThen_r ?_ | refine SThen_e ?_ | refine SIn_n ?_ | refine SIn_r ?_ | refine SIn_eq ?_ | refine SW_skip ?_ | refine SW_exit ?_ | refine SW_ret ?_ | refine SPost_r ?_) | ((with_reducible refine SIn_ne ?_ ?_); focus decide) | ((with_reducible refine SW_true ?_ ?_); focus exact rfl) | ((with_reducible refine SW_false ?_ ?_); focus exact rfl) | ((first | (with_reducible apply SW_run tt_ok hG htb) | ((with_reducible apply SW_draw rfl tt_ok hG htb); (focus kernel_rfl); (focus (simp only [List.range, List.range.loop, List.size_toArray, List.length_cons, List.length_nil, Nat.reduceAdd])))); focus ((repeat' (first | (with_reducible exact runX_nil) | (with_reducible exact runI_nil) | ((first | (with_reducible apply runX_cons) | (with_reducible apply runI_cons)); focus (simp (discharger := omega) only [go_sem, hy, hx, simprocAttr]; with_reducible rfl)))); done)))
    exact ⟨5 - (v + 1), _, by omega, Norm.headS (own := [(26, 3, 1, true)]) (keep := [0, 1, 2, 11, 14, 26, 27]) (by refine ⟨?_, ?_⟩; (simp (discharger := omega) only [go_sem, simprocAttr]; with_reducible rfl); refine ⟨?_, ?_, ?_, ?_⟩ <;> (simp only [go_sem, simprocAttr]; with_reducible rfl)), v + 1, ot.set y.toNat (tInt x), rfl, rfl, by omega, by rw [rowP, bang_D hy (by omega), bang_D hx (by omega), List.map_set, hot], by rw [List.length_set]; exact hol⟩
  obtain rfl : v = 5 := by omega
  have y1 := x1 hn5
  have y2 := x2 hn5
  rw [y1, y2] at d7
  clear hlt hv x1 x2 y1 y2 hol
  subst hot
  generalize evalErr f ws ns = e at *
  generalize evalV f ws ns = b at *
  generalize rowP ns to 5 = mv at *
  repeat' (first | (with_reducible first | refine SW_seq ?_ | refine SW_block ?_ | refine SThen_n ?_ | refine SThen_r ?_ | refine SThen_e ?_ | refine SIn_n ?_ | refine SIn_r ?_ | refine SIn_eq ?_ | refine SW_skip ?_ | refine SW_exit ?_ | refine SW_ret ?_ | refine SPost_r ?_) | ((with_reducible refine SIn_ne ?_ ?_); focus decide) | ((with_reducible refine SW_true ?_ ?_); focus exact rfl) | ((with_reducible refine SW_false ?_ ?_); focus exact rfl) | ((first | (with_reducible apply SW_run tt_ok hG htb) | ((with_reducible apply SW_draw rfl tt_ok hG htb); (focus kernel_rfl); (focus (simp only [List.range, List.range.loop, List.size_toArray, List.length_cons, List.length_nil, Nat.reduceAdd])))); focus ((repeat' (first | (with_reducible exact runX_nil) | (with_reducible exact runI_nil) | ((first | (with_reducible apply runX_cons) | (with_reducible apply runI_cons)); focus (simp (discharger := omega) only [go_sem, simprocAttr]; with_reducible rfl)))); done)))
  refine SW_norm ((Norm.frzRow 0 rfl).trans (Norm.datum 26 0 rfl rfl)) ?_
  refine SW_norm (Norm.headS (own := []) (keep := [0, 1, 2, 14, 26]) (by refine ⟨?_, ?_⟩; (simp (discharger := omega) only [go_sem, simprocAttr]; with_reducible rfl); refine ⟨?_, ?_, ?_, ?_⟩ <;> (simp only [go_sem, simprocAttr]; with_reducible rfl))) ?_
  clear htb
  have htb := Tab.cons d6 Tab.nil
  by_cases he : e = 0
  · subst he
    repeat' (first | (with_reducible first | refine SW_seq ?_ | refine SW_block ?_ | refine SThen_n ?_ | refine SThen_r ?_ | refine SThen_e ?_ | refine SIn_n ?_ | refine SIn_r ?_ | refine SIn_eq ?_ | refine SW_skip ?_ | refine SW_exit ?_ | refine SW_ret ?_ | refine SPost_r ?_) | ((with_reducible refine SIn_ne ?_ ?_); focus decide) | ((with_reducible refine SW_true ?_ ?_); focus exact rfl) | ((with_reducible refine SW_false ?_ ?_); focus exact rfl) | ((first | (with_reducible apply SW_run tt_ok hG htb) | ((with_reducible apply SW_draw rfl tt_ok hG htb); (focus kernel_rfl); (focus (simp only [List.range, List.range.loop, List.size_toArray, List.length_cons, List.length_nil, Nat.reduceAdd])))); focus ((repeat' (first | (with_reducible exact runX_nil) | (with_reducible exact runI_nil) | ((first | (with_reducible apply runX_cons) | (with_reducible apply runI_cons)); focus (simp (discharger := omega) only [go_sem, tErr0, simprocAttr]; with_reducible rfl)))); done)))
    clear htb
    have htb := Tab.cons d7 Tab.nil
    cases b
    · repeat' (first | (with_reducible first | refine SW_seq ?_ | refine SW_block ?_ | refine SThen_n ?_ | refine SThen_r ?_ | refine SThen_e ?_ | refine SIn_n ?_ | refine SIn_r ?_ | refine SIn_eq ?_ | refine SW_skip ?_ | refine SW_exit ?_ | refine SW_ret ?_ | refine SPost_r ?_) | ((with_reducible refine SIn_ne ?_ ?_); focus decide) | ((with_reducible refine SW_true ?_ ?_); focus exact rfl) | ((with_reducible refine SW_false ?_ ?_); focus exact rfl) | ((first | (with_reducible apply SW_run tt_ok hG htb) | ((with_reducible apply SW_draw rfl tt_ok hG htb); (focus kernel_rfl); (focus (simp only [List.range, List.range.loop, List.size_toArray, List.length_cons, List.length_nil, Nat.reduceAdd])))); focus ((repeat' (first | (with_reducible exact runX_nil) | (with_reducible exact runI_nil) | ((first | (with_reducible apply runX_cons) | (with_reducible apply runI_cons)); focus (simp (discharger := omega) only [go_sem, tErr0, simprocAttr]; with_reducible rfl)))); done)))
      exact (by simp (discharger := omega) only [go_sem, simprocAttr])
    · repeat' (first | (with_reducible first | refine SW_seq ?_ | refine SW_block ?_ | refine SThen_n ?_ | refine SThen_r ?_ | refine SThen_e ?_ | refine SIn_n ?_ | refine SIn_r ?_ | refine SIn_eq ?_ | refine SW_skip ?_ | refine SW_exit ?_ | refine SW_ret ?_ | refine SPost_r ?_) | ((with_reducible refine SIn_ne ?_ ?_); focus decide) | ((with_reducible refine SW_true ?_ ?_); focus exact rfl) | ((with_reducible refine SW_false ?_ ?_); focus exact rfl) | ((first | (with_reducible apply SW_run tt_ok hG htb) | ((with_reducible apply SW_draw rfl tt_ok hG htb); (focus kernel_rfl); (focus (simp only [List.range, List.range.loop, List.size_toArray, List.length_cons, List.length_nil, Nat.reduceAdd])))); focus ((repeat' (first | (with_reducible exact runX_nil) | (with_reducible exact runI_nil) | ((first | (with_reducible apply runX_cons) | (with_reducible apply runI_cons)); focus (simp (discharger := omega) only [go_sem, tErr0, simprocAttr]; with_reducible rfl)))); done)))
      exact (by simp (discharger := omega) only [go_sem, simprocAttr])
  · repeat' (first | (with_reducible first | refine SW_seq ?_ | refine SW_block ?_ | refine SThen_n ?_ | refine SThen_r ?_ | refine SThen_e ?_ | refine SIn_n ?_ | refine SIn_r ?_ | refine SIn_eq ?_ | refine SW_skip ?_ | refine SW_exit ?_ | refine SW_ret ?_ | refine SPost_r ?_) | ((with_reducible refine SIn_ne ?_ ?_); focus decide) | ((with_reducible refine SW_true ?_ ?_); focus exact rfl) | ((with_reducible refine SW_false ?_ ?_); focus exact rfl) | ((first | (with_reducible apply SW_run tt_ok hG htb) | ((with_reducible apply SW_draw rfl tt_ok hG htb); (focus kernel_rfl); (focus (simp only [List.range, List.range.loop, List.size_toArray, List.length_cons, List.length_nil, Nat.reduceAdd])))); focus ((repeat' (first | (with_reducible exact runX_nil) | (with_reducible exact runI_nil) | ((first | (with_reducible apply runX_cons) | (with_reducible apply runI_cons)); focus (simp (discharger := omega) only [go_sem, tErr, he, simprocAttr]; with_reducible rfl)))); done)))
    clear htb
    have htb := Tab.cons d7 Tab.nil
    cases b
    · repeat' (first | (with_reducible first | refine SW_seq ?_ | refine SW_block ?_ | refine SThen_n ?_ | refine SThen_r ?_ | refine SThen_e ?_ | refine SIn_n ?_ | refine SIn_r ?_ | refine SIn_eq ?_ | refine SW_skip ?_ | refine SW_exit ?_ | refine SW_ret ?_ | refine SPost_r ?_) | ((with_reducible refine SIn_ne ?_ ?_); focus decide) | ((with_reducible refine SW_true ?_ ?_); focus exact rfl) | ((with_reducible refine SW_false ?_ ?_); focus exact rfl) | ((first | (with_reducible apply SW_run tt_ok hG htb) | ((with_reducible apply SW_draw rfl tt_ok hG htb); (focus kernel_rfl); (focus (simp only [List.range, List.range.loop, List.size_toArray, List.length_cons, List.length_nil, Nat.reduceAdd])))); focus ((repeat' (first | (with_reducible exact runX_nil) | (with_reducible exact runI_nil) | ((first | (with_reducible apply runX_cons) | (with_reducible apply runI_cons)); focus (simp (discharger := omega) only [go_sem, tErr, he, simprocAttr]; with_reducible rfl)))); done)))
      exact (by simp (discharger := omega) only [go_sem, simprocAttr])
    · repeat' (first | (with_reducible first | refine SW_seq ?_ | refine SW_block ?_ | refine SThen_n ?_ | refine SThen_r ?_ | refine SThen_e ?_ | refine SIn_n ?_ | refine SIn_r ?_ | refine SIn_eq ?_ | refine SW_skip ?_ | refine SW_exit ?_ | refine SW_ret ?_ | refine SPost_r ?_) | ((with_reducible refine SIn_ne ?_ ?_); focus decide) | ((with_reducible refine SW_true ?_ ?_); focus exact rfl) | ((with_reducible refine SW_false ?_ ?_); focus exact rfl) | ((first | (with_reducible apply SW_run tt_ok hG htb) | ((with_reducible apply SW_draw rfl tt_ok hG htb); (focus kernel_rfl); (focus (simp only [List.range, List.range.loop, List.size_toArray, List.length_cons, List.length_nil, Nat.reduceAdd])))); focus ((repeat' (first | (with_reducible exact runX_nil) | (with_reducible exact runI_nil) | ((first | (with_reducible apply runX_cons) | (with_reducible apply runI_cons)); focus (simp (discharger := omega) only [go_sem, tErr, he, simprocAttr]; with_reducible rfl)))); done)))
      exact (by simp (discharger := omega) only [go_sem, simprocAttr])
end
theorem FormTurns_walk (t : Value) (f : List GNode) (u : Value) (ws : List GOut) (v : Value) (ns : List Int) (x : Int) (w : World) (h : ReadsForm w t f) (h' : ReadsOuts w u ws) (h'' : ReadsInts w v ns) (hx : I64 x) : Calls Try.prog 3 #[t, u, v, .int .i64 x] w (Ret (.bool true) w) :=
  walkN (FormTurns_snd (G := fun _ => True) (fun _ _ _ _ => trivial) f ws ns x hx) trivial rfl fun k y z p q => by
    match k, p, q with
    | 0, p, q => cases p; cases q; exact h.2
    | 1, p, q => cases p; cases q; exact h'
    | 2, p, q => cases p; cases q; exact h''.2
    | 3, p, q => cases p; cases q; exact .int _ _
end Go.Proofs.Ytfhncnhkeodngaa
namespace Go.Proofs.Ytfhncnhkeodngaa.formTurns
open Go.ChangeShapes Go.WideShapes Go.ChangeAt Go.RowKit

set_option maxRecDepth 100000 in
theorem lifted (os : Os) (started : os.Started) (H : Type) (enc : TypeId × Value → H) :
    ReturnsInHanded {} Try.checked os 3 .any (Rows.formTurnsSpec.pre6 enc Try.prog Try.f3 Rows.formTurnsRow.domain false) (Rows.formTurnsSpec.post enc Try.prog Try.f3 false true false false) := by
  refine returnsInHanded_of_change (C := Try.checked) own started (by kernel_rfl) Try.func3
    (ChangeSpec.witness6 (enc := enc) (C := Try.checked) false ⟨#[], #[.slice none 0 0, .slice none 0 0, .slice none 0 0, .int .i64 0], []⟩ 8 (by kernel_rfl) (by kernel_rfl) (by kernel_rfl) (by kernel_rfl)) ?_
  intro W base args ds gs before hval0 hW hcnd _
  have hval : ∀ (j : Nat) t v, Try.f3.params[j]? = some t → args[j]? = some v → Value.okWide Try.prog W .any base t v := hval0
  have hW' := hW
  obtain ⟨p, q, hA0, hV, rfl, hfz, hnd⟩ := hW
  have hA : DataW.TrodAll enc Try.prog W 0 (fun _ => true) true Try.f3.params.toList args.toList ds p := hA0
  rw [Try.params3] at hA hval
  obtain ⟨v0, vs0, d0, ds0, p0, q0, hargs, rfl, rfl, h0, r0⟩ := trodAll_cons hA
  obtain ⟨v1, vs1, d1, ds1, p1, q1, rfl, rfl, rfl, h1, r1⟩ := trodAll_cons r0
  obtain ⟨v2, vs2, d2, ds2, p2, q2, rfl, rfl, rfl, h2, r2⟩ := trodAll_cons r1
  obtain ⟨v3, vs3, d3, ds3, p3, q3, rfl, rfl, rfl, h3, r3⟩ := trodAll_cons r2
  obtain ⟨rfl, rfl, rfl⟩ := trodAll_nil r3
  obtain rfl : args = #[v0, v1, v2, v3] := by cases args; simp_all
  obtain ⟨rfl, rfl⟩ := trodVars_none hV
  obtain ⟨b0, len0, cap0, rfl⟩ := okWide_slice Try.underlying22 (hval 0 22 v0 rfl rfl)
  have k0 := h0
  have lt0 : ∀ x ∈ p0, x.block < W.heap.size := by obtain ⟨m, hm⟩ := k0; exact DataW.trod_lt m _ _ _ hm
  obtain ⟨a0, w0⟩ := openFormT rfl h0
  obtain ⟨b1, len1, cap1, rfl⟩ := okWide_slice Try.underlying23 (hval 1 23 v1 rfl rfl)
  have k1 := h1
  have lt1 : ∀ x ∈ p1, x.block < W.heap.size := by obtain ⟨m, hm⟩ := k1; exact DataW.trod_lt m _ _ _ hm
  obtain ⟨a1, w1⟩ := openOutsT rfl h1
  obtain ⟨b2, len2, cap2, rfl⟩ := okWide_slice Try.underlying24 (hval 2 24 v2 rfl rfl)
  have k2 := h2
  have lt2 : ∀ x ∈ p2, x.block < W.heap.size := by obtain ⟨m, hm⟩ := k2; exact DataW.trod_lt m _ _ _ hm
  obtain ⟨a2, w2⟩ := openIntsT rfl h2
  obtain ⟨a3, rfl, rfl, rfl, w3⟩ := open_int Try.underlying3 (hval 3 3 v3 rfl rfl) h3
  clear hA0 hval0
  refine (FormTurns_walk _ a0 _ a1 _ a2 a3 W w0 w1 w2 (i64_of_wf w3)).mono fun e W' ⟨he, bel⟩ => ?_
  subst he
  exact ⟨_, rfl, _, _, _, [], _, [], hW', trodAll_mk1 (shut_bool Try.underlying4 _), (trodAll_cons_mk (Below.trod laidOut (by kernel_rfl) (of_decide_eq_true (by kernel_rfl)) k0 bel lt0) (trodAll_cons_mk (Below.trod laidOut (by kernel_rfl) (of_decide_eq_true (by kernel_rfl)) k1 bel lt1) (trodAll_cons_mk (Below.trod laidOut (by kernel_rfl) (of_decide_eq_true (by kernel_rfl)) k2 bel lt2) (trodAll_cons_mk (shut_int Try.underlying3 w3) trodAll_mk0)))), rfl, bel.frame _, fun h => by cases h⟩

theorem over : Rows.formTurnsRow.holds Try.pinned (OpenSpec.ofChange Rows.formTurnsSpec) :=
  OpenClaim.holds_of_wide 3 Try.f3 rfl rfl rfl rfl rfl rfl rfl ⟨rfl, rfl, rfl, rfl, rfl⟩ rfl rfl rfl rfl rfl (by kernel_rfl) Try.func3 (by kernel_rfl)
    (of_decide_eq_true (by kernel_rfl)) (by unfold Func.isWrapper; first | (rw [if_pos (by decide +kernel)]; kernel_rfl) | (rw [if_neg (by decide +kernel)]; exact ⟨rfl, rfl⟩))
    (fun os started H enc _ => lifted os started H enc)

/-- THE STATEMENT. -/
theorem proved : Rows.FormTurnsSaid := over
#print axioms proved
end Go.Proofs.Ytfhncnhkeodngaa.formTurns
