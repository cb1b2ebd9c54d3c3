/- The law FormEvals returns true at every input and leaves its arguments as they read; the card ties the variable that errors.As reads. No conditions. -/
import Derived.Test.YtcaopcpofepniaaDoorM7
set_option linter.unusedSimpArgs false
set_option linter.unusedVariables false
set_option linter.unnecessarySimpa false
set_option linter.unusedSectionVars false
namespace Go.Proofs.YtcaopcpofepniaaDoor
open Go.RowKit

section
variable {G : World → Prop} (hG : Lasting G)
include hG
set_option maxHeartbeats 16000000 in
set_option maxRecDepth 100000 in
theorem Eval_snd (f : List GNode) (ws : List GOut) (ns : List Int) : Snd Tryd.prog G 8 [tForm f, tOutL ws, tInts ns] (.tup [.bool (evalV f ws ns), tErr (evalErr f ws ns)]) := by
  have c1 := Check_form_snd hG f
  refine snd_of_body (n := 75) (tm := [(0, .t (tForm f)), (1, .t (tOutL ws)), (2, .t (tInts ns))]) (rs := [.tmp 6, .tmp 7]) tt_ok Tryd.func8 rfl rfl rfl rfl rfl ?_
  have bad : ∀ e, evalErr f ws ns = e → e ≠ 0 → evalV f ws ns = false := fun e h h0 => by unfold evalV; rw [if_neg (by omega)]
  by_cases h : (formErr f).2 = 0
  · obtain ⟨h0, hl, hne, hp, e1⟩ := form_ok h
    rw [h, e1] at c1
    have c2 := ContainsF_snd hG f hl
    have c3 := FWords_snd hG f hl ws
    have c4 := FreeV_snd hG f
    have hfv : freeV f = freeL f := by unfold freeV; rw [if_pos h]
    rw [h, hfv] at c4
    cases hq : f.any quantN with
    | true =>
      have hE : evalErr f ws ns = 2 := by unfold evalErr; rw [if_neg (by omega), if_pos hq]
      rw [bad 2 hE (by decide), hE]
      rw [hq] at c2
      unfold tForm at *
      unfold tOutL at *
      have htb := Tab.cons c1 (Tab.cons c2 Tab.nil)
      repeat' (first | (with_reducible first | apply w1 | apply w2 | apply w3 | apply w4 | apply w5 | apply w6 | apply w7 | apply w8 | apply w9 | apply wa | apply wb | apply wc) | ((with_reducible apply wd); focus decide) | ((with_reducible apply we); focus exact rfl) | ((with_reducible apply wf); focus exact rfl) | ((first | (with_reducible apply SW_run tt_ok hG htb) | ((with_reducible apply SW_draw rfl tt_ok hG htb); (focus kernel_rfl); focus simp only [List.range, List.range.loop, List.size_toArray, List.length_cons, List.length_nil, Nat.reduceAdd])); focus ((repeat' (first | (with_reducible first | exact wg | exact wh) | ((with_reducible first | apply wi | apply wj); focus (simp (discharger := omega) only [go_sem, tErr0, simprocAttr]; with_reducible rfl)))); done)))
      exact (by simp (discharger := omega) only [go_sem, tErr, simprocAttr])
    | false =>
      rw [hq] at c2
      have hE : evalErr f ws ns = if wordsErr f ws ≠ 0 then wordsErr f ws else if ((freeL f).any fun v => decide ((ns.length : Int) ≤ v)) = true then 2 else if numsBad ns = true then 1 else 0 := by
        unfold evalErr; rw [if_neg (by omega), if_neg (by rw [hq]; decide)]
      by_cases hw : wordsErr f ws = 0
      · rw [if_neg (by omega)] at hE
        have hwn : ∀ n ∈ f, wordNeed n ws.length = false := fun n hn => by
          unfold wordsErr at hw
          split at hw
          · omega
          · split at hw
            · omega
            · split at hw
              · omega
              · rename_i h3
                have h3 := List.any_eq_false.1 (Bool.eq_false_iff.2 h3) n hn
                exact Bool.eq_false_iff.2 h3
        have hqn : ∀ n ∈ f, quantN n = false := fun n hn => Bool.eq_false_iff.2 (List.any_eq_false.1 hq n hn)
        have hev := fun hB => ev_all (G := G) hG (ws := ws) (ns := ns) hl hne hqn hB hwn hp
        have hfm := fun v => mem_freeL (f := f) (v := v)
        rw [hw] at c3
        have hfl5 : (freeL f).length ≤ 5 := by unfold freeL; exact Nat.le_trans (List.length_filter_le _ _) (by simp)
        generalize freeL f = fl at *
        have hev : numsBad ns = false → (fl.any fun v => decide ((ns.length : Int) ≤ v)) = false → EvC G f ws ns 0 f.length := fun hB hv => hev hB fun v h0 h5 hu => by
          have := List.any_eq_false.1 hv v ((hfm v).2 ⟨⟨h0, h5⟩, hu⟩)
          simpa using this
        have hbad := bad
        clear bad hfm hwn hqn hw hq
        unfold tForm at c1 c2 c3 c4 ⊢
        unfold tOutL at c3 ⊢
        have htb := Tab.cons c1 (Tab.cons c2 (Tab.cons c3 (Tab.cons c4 Tab.nil)))
        repeat' (first | (with_reducible first | apply w1 | apply w2 | apply w3 | apply w4 | apply w5 | apply w6 | apply w7 | apply w8 | apply w9 | apply wa | apply wb | apply wc) | ((with_reducible apply wd); focus decide) | ((with_reducible apply we); focus exact rfl) | ((with_reducible apply wf); focus exact rfl) | ((first | (with_reducible apply SW_run tt_ok hG htb) | ((with_reducible apply SW_draw rfl tt_ok hG htb); (focus kernel_rfl); focus simp only [List.range, List.range.loop, List.size_toArray, List.length_cons, List.length_nil, Nat.reduceAdd])); focus ((repeat' (first | (with_reducible first | exact wg | exact wh) | ((with_reducible first | apply wi | apply wj); focus (simp (discharger := omega) only [go_sem, tErr0, simprocAttr]; with_reducible rfl)))); done)))
        clear htb
        have htb : Tab.ok Tryd.prog G [] := Tab.nil
        refine SW_loop (fun mm s => ∃ i : Nat, mm = fl.length - i ∧ s = ⟨75, [(3, .bptr 0 0), (4, .bptr 1 0), (5, .bptr 2 0), (42, .t (tInts fl)), (43, .t (tInt fl.length)), (44, .t (tNat i))], [.box [.t (.list (f.map tNode))], .box [.t (.list (ws.map tOut))], .box [.t (tInts ns)]]⟩ ∧ i ≤ fl.length ∧ (fl.any fun v => decide ((ns.length : Int) ≤ v)) = ((fl.drop i).any fun v => decide ((ns.length : Int) ≤ v))) fl.length
          ⟨_, Norm.headS (own := []) (keep := [3, 4, 5, 42, 43, 44]) (by refine ⟨?_, ?_⟩; (simp (discharger := omega) only [go_sem, simprocAttr]; with_reducible rfl); refine ⟨?_, ?_, ?_, ?_⟩ <;> (simp only [go_sem, simprocAttr]; with_reducible rfl)), 0, rfl, rfl, Nat.zero_le _, by rw [List.drop_zero]⟩ ?_
        rintro mm s ⟨i, rfl, rfl, hi, hx⟩
        by_cases hlt : i < fl.length
        · obtain ⟨v, hv⟩ : ∃ v, fl[i]! = v := ⟨_, rfl⟩
          rw [drop_cons (by rw [List.getElem?_eq_getElem hlt, bang_at hv hlt]), List.any_cons] at hx
          by_cases hvl : (ns.length : Int) ≤ v
          · rw [decide_eq_true hvl, Bool.true_or] at hx
            rw [if_pos hx] at hE
            rw [hbad 2 hE (by decide), hE]
            repeat' (first | (with_reducible first | apply w1 | apply w2 | apply w3 | apply w4 | apply w5 | apply w6 | apply w7 | apply w8 | apply w9 | apply wa | apply wb | apply wc) | ((with_reducible apply wd); focus decide) | ((with_reducible apply we); focus exact rfl) | ((with_reducible apply wf); focus exact rfl) | ((first | (with_reducible apply SW_run tt_ok hG htb) | ((with_reducible apply SW_draw rfl tt_ok hG htb); (focus kernel_rfl); focus simp only [List.range, List.range.loop, List.size_toArray, List.length_cons, List.length_nil, Nat.reduceAdd])); focus ((repeat' (first | (with_reducible first | exact wg | exact wh) | ((with_reducible first | apply wi | apply wj); focus (simp (discharger := omega) only [go_sem, hv, simprocAttr]; with_reducible rfl)))); done)))
            exact (by simp (discharger := omega) only [go_sem, tErr, simprocAttr])
          · rw [decide_eq_false hvl, Bool.false_or] at hx
            repeat' (first | (with_reducible first | apply w1 | apply w2 | apply w3 | apply w4 | apply w5 | apply w6 | apply w7 | apply w8 | apply w9 | apply wa | apply wb | apply wc) | ((with_reducible apply wd); focus decide) | ((with_reducible apply we); focus exact rfl) | ((with_reducible apply wf); focus exact rfl) | ((first | (with_reducible apply SW_run tt_ok hG htb) | ((with_reducible apply SW_draw rfl tt_ok hG htb); (focus kernel_rfl); focus simp only [List.range, List.range.loop, List.size_toArray, List.length_cons, List.length_nil, Nat.reduceAdd])); focus ((repeat' (first | (with_reducible first | exact wg | exact wh) | ((with_reducible first | apply wi | apply wj); focus (simp (discharger := omega) only [go_sem, hv, simprocAttr]; with_reducible rfl)))); done)))
            exact ⟨fl.length - (i + 1), _, by omega, Norm.headS (own := []) (keep := [3, 4, 5, 42, 43, 44]) (by refine ⟨?_, ?_⟩; (simp (discharger := omega) only [go_sem, simprocAttr]; with_reducible rfl); refine ⟨?_, ?_, ?_, ?_⟩ <;> (simp only [go_sem, simprocAttr]; with_reducible rfl)), i + 1, rfl, rfl, by omega, hx⟩
        · obtain rfl : i = fl.length := by omega
          rw [List.drop_length, List.any_nil] at hx
          have hev := fun hB => hev hB hx
          rw [if_neg (by rw [hx]; decide)] at hE
          repeat' (first | (with_reducible first | apply w1 | apply w2 | apply w3 | apply w4 | apply w5 | apply w6 | apply w7 | apply w8 | apply w9 | apply wa | apply wb | apply wc) | ((with_reducible apply wd); focus decide) | ((with_reducible apply we); focus exact rfl) | ((with_reducible apply wf); focus exact rfl) | ((first | (with_reducible apply SW_run tt_ok hG htb) | ((with_reducible apply SW_draw rfl tt_ok hG htb); (focus kernel_rfl); focus simp only [List.range, List.range.loop, List.size_toArray, List.length_cons, List.length_nil, Nat.reduceAdd])); focus ((repeat' (first | (with_reducible first | exact wg | exact wh) | ((with_reducible first | apply wi | apply wj); focus (simp (discharger := omega) only [go_sem, simprocAttr]; with_reducible rfl)))); done)))
          refine SW_loop (fun mm s => ∃ i : Nat, mm = ns.length - i ∧ s = ⟨75, [(3, .bptr 0 0), (4, .bptr 1 0), (5, .bptr 2 0), (54, .t (tInts ns)), (55, .t (tInt ns.length)), (56, .t (tNat i))], [.box [.t (.list (f.map tNode))], .box [.t (.list (ws.map tOut))], .box [.t (tInts ns)]]⟩ ∧ i ≤ ns.length ∧ numsBad ns = numsBad (ns.drop i)) ns.length
            ⟨_, Norm.headS (own := []) (keep := [3, 4, 5, 54, 55, 56]) (by refine ⟨?_, ?_⟩; (simp (discharger := omega) only [go_sem, simprocAttr]; with_reducible rfl); refine ⟨?_, ?_, ?_, ?_⟩ <;> (simp only [go_sem, simprocAttr]; with_reducible rfl)), 0, rfl, rfl, Nat.zero_le _, by rw [List.drop_zero]⟩ ?_
          rintro mm s ⟨i, rfl, rfl, hi, hx⟩
          refine SW_len (t := 54) (l := ns.map tInt) rfl fun hns => ?_
          rw [List.length_map] at hns
          by_cases hlt : i < ns.length
          · obtain ⟨v, hv⟩ : ∃ v, ns[i]! = v := ⟨_, rfl⟩
            rw [drop_cons (by rw [List.getElem?_eq_getElem hlt, bang_at hv hlt])] at hx
            have hx : numsBad ns = ((decide (v < 0) || decide (1099511627776 < v)) || numsBad (ns.drop (i + 1))) := hx
            by_cases h1 : v < 0
            · rw [decide_eq_true h1, Bool.true_or, Bool.true_or] at hx
              rw [if_pos hx] at hE
              rw [hbad 1 hE (by decide), hE]
              repeat' (first | (with_reducible first | apply w1 | apply w2 | apply w3 | apply w4 | apply w5 | apply w6 | apply w7 | apply w8 | apply w9 | apply wa | apply wb | apply wc) | ((with_reducible apply wd); focus decide) | ((with_reducible apply we); focus exact rfl) | ((with_reducible apply wf); focus exact rfl) | ((first | (with_reducible apply SW_run tt_ok hG htb) | ((with_reducible apply SW_draw rfl tt_ok hG htb); (focus kernel_rfl); focus simp only [List.range, List.range.loop, List.size_toArray, List.length_cons, List.length_nil, Nat.reduceAdd])); focus ((repeat' (first | (with_reducible first | exact wg | exact wh) | ((with_reducible first | apply wi | apply wj); focus (simp (discharger := omega) only [go_sem, hv, simprocAttr]; with_reducible rfl)))); done)))
              exact (by simp (discharger := omega) only [go_sem, tErr, simprocAttr])
            · by_cases h2 : 1099511627776 < v
              · rw [decide_eq_true h2, Bool.or_true, Bool.true_or] at hx
                rw [if_pos hx] at hE
                rw [hbad 1 hE (by decide), hE]
                repeat' (first | (with_reducible first | apply w1 | apply w2 | apply w3 | apply w4 | apply w5 | apply w6 | apply w7 | apply w8 | apply w9 | apply wa | apply wb | apply wc) | ((with_reducible apply wd); focus decide) | ((with_reducible apply we); focus exact rfl) | ((with_reducible apply wf); focus exact rfl) | ((first | (with_reducible apply SW_run tt_ok hG htb) | ((with_reducible apply SW_draw rfl tt_ok hG htb); (focus kernel_rfl); focus simp only [List.range, List.range.loop, List.size_toArray, List.length_cons, List.length_nil, Nat.reduceAdd])); focus ((repeat' (first | (with_reducible first | exact wg | exact wh) | ((with_reducible first | apply wi | apply wj); focus (simp (discharger := omega) only [go_sem, hv, simprocAttr]; with_reducible rfl)))); done)))
                exact (by simp (discharger := omega) only [go_sem, tErr, simprocAttr])
              · rw [decide_eq_false h1, decide_eq_false h2, Bool.false_or, Bool.false_or] at hx
                repeat' (first | (with_reducible first | apply w1 | apply w2 | apply w3 | apply w4 | apply w5 | apply w6 | apply w7 | apply w8 | apply w9 | apply wa | apply wb | apply wc) | ((with_reducible apply wd); focus decide) | ((with_reducible apply we); focus exact rfl) | ((with_reducible apply wf); focus exact rfl) | ((first | (with_reducible apply SW_run tt_ok hG htb) | ((with_reducible apply SW_draw rfl tt_ok hG htb); (focus kernel_rfl); focus simp only [List.range, List.range.loop, List.size_toArray, List.length_cons, List.length_nil, Nat.reduceAdd])); focus ((repeat' (first | (with_reducible first | exact wg | exact wh) | ((with_reducible first | apply wi | apply wj); focus (simp (discharger := omega) only [go_sem, hv, simprocAttr]; with_reducible rfl)))); done)))
                exact ⟨ns.length - (i + 1), _, by omega, Norm.headS (own := []) (keep := [3, 4, 5, 54, 55, 56]) (by refine ⟨?_, ?_⟩; (simp (discharger := omega) only [go_sem, simprocAttr]; with_reducible rfl); refine ⟨?_, ?_, ?_, ?_⟩ <;> (simp only [go_sem, simprocAttr]; with_reducible rfl)), i + 1, rfl, rfl, by omega, hx⟩
          · obtain rfl : i = ns.length := by omega
            have hB : numsBad ns = false := by rw [hx, List.drop_length]; rfl
            have h1 := hev hB
            rw [if_neg (by rw [hB]; decide)] at hE
            have hV : evalV f ws ns = evalP f ws ns 0 := by unfold evalV; rw [if_pos hE]
            rw [hV, hE]
            unfold EvC at h1
            clear hx hE hV hev hbad
            generalize evalP f ws ns 0 = b at *
            repeat' (first | (with_reducible first | apply w1 | apply w2 | apply w3 | apply w4 | apply w5 | apply w6 | apply w7 | apply w8 | apply w9 | apply wa | apply wb | apply wc) | ((with_reducible apply wd); focus decide) | ((with_reducible apply we); focus exact rfl) | ((with_reducible apply wf); focus exact rfl) | ((first | (with_reducible apply SW_run tt_ok hG htb) | ((with_reducible apply SW_draw rfl tt_ok hG htb); (focus kernel_rfl); focus simp only [List.range, List.range.loop, List.size_toArray, List.length_cons, List.length_nil, Nat.reduceAdd])); focus ((repeat' (first | (with_reducible first | exact wg | exact wh) | ((with_reducible first | apply wi | apply wj); focus (simp (discharger := omega) only [go_sem, simprocAttr]; with_reducible rfl)))); done)))
            refine SW_norm (Norm.headS (own := []) (keep := [3, 5, 4, 17]) (by refine ⟨?_, ?_⟩; (simp (discharger := omega) only [go_sem, simprocAttr]; with_reducible rfl); refine ⟨?_, ?_, ?_, ?_⟩ <;> (simp only [go_sem, simprocAttr]; with_reducible rfl))) ?_
            refine SW_runCB tt_ok hG htb 1 rfl (by simp only [List.take_succ_cons, List.take_zero]; rfl) (by simp only [List.drop_succ_cons, List.drop_zero, Nat.reduceAdd]; rfl) (by (repeat' (first | (with_reducible exact runX_nil) | ((with_reducible apply runX_cons); focus (simp (discharger := omega) only [go_sem, simprocAttr]; with_reducible rfl))))) rfl rfl (g := 36) (cap := evCap) (obs := evObs f ws ns) (rst := ?zzr) (r := ?zzt) (s2 := ?zzs) ?g1 ?g2 ?g3 ?g4 ev_boxes ?g5 ?g6 ?g7 ?g8 ?g9
            case g1 => rfl
            case g2 => rfl
            case g3 => rfl
            case g4 => rfl
            case g5 => exact h1
            case g6 => exact ev_ren f ws ns
            case g7 => exact ev_xren _
            case g8 => (repeat' (first | (with_reducible exact runX_nil) | ((with_reducible apply runX_cons); focus (simp (discharger := omega) only [go_sem, simprocAttr]; with_reducible rfl))))
            repeat' (first | (with_reducible first | apply w1 | apply w2 | apply w3 | apply w4 | apply w5 | apply w6 | apply w7 | apply w8 | apply w9 | apply wa | apply wb | apply wc) | ((with_reducible apply wd); focus decide) | ((with_reducible apply we); focus exact rfl) | ((with_reducible apply wf); focus exact rfl) | ((first | (with_reducible apply SW_run tt_ok hG htb) | ((with_reducible apply SW_draw rfl tt_ok hG htb); (focus kernel_rfl); focus simp only [List.range, List.range.loop, List.size_toArray, List.length_cons, List.length_nil, Nat.reduceAdd])); focus ((repeat' (first | (with_reducible first | exact wg | exact wh) | ((with_reducible first | apply wi | apply wj); focus (simp (discharger := omega) only [go_sem, simprocAttr]; with_reducible rfl)))); done)))
            exact (by simp (discharger := omega) only [go_sem, tErr0, simprocAttr])
      · rw [if_pos hw] at hE
        rw [hE, bad _ hE hw]
        clear hE bad
        unfold tForm at c1 c2 c3 ⊢
        unfold tOutL at c3 ⊢
        generalize wordsErr f ws = e at *
        have htb := Tab.cons c1 (Tab.cons c2 (Tab.cons c3 Tab.nil))
        repeat' (first | (with_reducible first | apply w1 | apply w2 | apply w3 | apply w4 | apply w5 | apply w6 | apply w7 | apply w8 | apply w9 | apply wa | apply wb | apply wc) | ((with_reducible apply wd); focus decide) | ((with_reducible apply we); focus exact rfl) | ((with_reducible apply wf); focus exact rfl) | ((first | (with_reducible apply SW_run tt_ok hG htb) | ((with_reducible apply SW_draw rfl tt_ok hG htb); (focus kernel_rfl); focus simp only [List.range, List.range.loop, List.size_toArray, List.length_cons, List.length_nil, Nat.reduceAdd])); focus ((repeat' (first | (with_reducible first | exact wg | exact wh) | ((with_reducible first | apply wi | apply wj); focus (simp (discharger := omega) only [go_sem, tErr, hw, simprocAttr]; with_reducible rfl)))); done)))
        exact (by simp (discharger := omega) only [go_sem, tErr, hw, simprocAttr])
  · have hE : evalErr f ws ns = (formErr f).2 := by unfold evalErr; rw [if_pos h]
    rw [bad _ hE h, hE]
    clear hE bad
    generalize (formErr f).2 = e at *
    generalize (formErr f).1 = a at *
    unfold tForm at *
    unfold tOutL at *
    have htb := Tab.cons c1 Tab.nil
    repeat' (first | (with_reducible first | apply w1 | apply w2 | apply w3 | apply w4 | apply w5 | apply w6 | apply w7 | apply w8 | apply w9 | apply wa | apply wb | apply wc) | ((with_reducible apply wd); focus decide) | ((with_reducible apply we); focus exact rfl) | ((with_reducible apply wf); focus exact rfl) | ((first | (with_reducible apply SW_run tt_ok hG htb) | ((with_reducible apply SW_draw rfl tt_ok hG htb); (focus kernel_rfl); focus simp only [List.range, List.range.loop, List.size_toArray, List.length_cons, List.length_nil, Nat.reduceAdd])); focus ((repeat' (first | (with_reducible first | exact wg | exact wh) | ((with_reducible first | apply wi | apply wj); focus (simp (discharger := omega) only [go_sem, tErr, h, simprocAttr]; with_reducible rfl)))); done)))
    exact (by simp (discharger := omega) only [go_sem, tErr, h, simprocAttr])
end
end Go.Proofs.YtcaopcpofepniaaDoor
namespace Go.Proofs.YtcaopcpofepniaaDoor
open Go.RowKit
theorem repErr_inv {S : Nat → Prop} {w : World} {v : Value} {e : Int} (h : RepT S w (tErr e) v) : v = errV 25 e := by
  unfold tErr at h; unfold errV
  split at h
  · rename_i h0
    rw [if_pos h0]; cases h; rfl
  · rename_i h0
    rw [if_neg h0]
    cases h with
    | iface t x v h => cases h; rfl
theorem errCell_lasting : Lasting errCell := fun _ _ hb h => errCell.below h hb
theorem Error_snd (e f : Int) : Snd Tryd.prog errCell 9 [tErr e, tInt f] (.bool (e == f)) :=
  snd2 Tryd.func9 rfl rfl fun S w v u hg _ h h' => by
    obtain rfl := repErr_inv h; obtain rfl := intInv h'
    exact ⟨_, Error_calls e f w hg, fun S w => .bool _⟩
end Go.Proofs.YtcaopcpofepniaaDoor
namespace Go.Proofs.YtcaopcpofepniaaDoor
open Go.ChangeShapes Go.WideShapes Go.ChangeAt Go.RowKit Go.Joins Go.Deep

section
variable {H : Type} {enc : TypeId × Value → H} {w : World} {sp : Nat → Bool} {held : Bool}
/-- One cell that reads as a datum. -/
def OpensT (enc : TypeId × Value → H) (w : World) (sp : Nat → Bool) (held : Bool) (T : TypeId) (Q : Go.Proofs.YtcaopcpofepniaaDoor.T → Prop) : Prop :=
  ∀ n v y, DataW.trod enc Tryd.prog w 0 sp held n T [v] = some y → v.oneCell' = true ∧ ∃ x, Q x ∧ x.cells = [x] ∧ RepT (· < w.heap.size) w x v
theorem flat_cells : ∀ {l : List Go.Proofs.YtcaopcpofepniaaDoor.T}, (∀ x ∈ l, x.cells = [x]) → Go.Proofs.YtcaopcpofepniaaDoor.flat l = l
  | [], _ => rfl
  | a :: t, h => by
    have := flat_cells fun x hx => h x (List.mem_cons_of_mem a hx)
    simp only [Go.Proofs.YtcaopcpofepniaaDoor.flat, List.flatMap_cons] at this ⊢
    rw [this, h a List.mem_cons_self]; rfl
theorem opensT_int {T : TypeId} (ht : Tryd.prog.underlying T = some (.int .i64)) : OpensT enc w sp held T fun x => ∃ n, x = tInt n ∧ I64 n := by
  intro n v y h
  obtain ⟨a, rfl, h2⟩ := opens_int ht n v y h
  exact ⟨rfl, _, ⟨a, rfl, h2⟩, rfl, .int _ _⟩
theorem opensT_slice {T e : TypeId} {Q : Go.Proofs.YtcaopcpofepniaaDoor.T → Prop} (ht : Tryd.prog.underlying T = some (.slice e)) (hc : Tryd.prog.cellsOf e = 1) (hE : OpensT enc w sp held e Q) :
    OpensT enc w sp held T fun x => ∃ l, x = .list l ∧ ∀ y ∈ l, Q y := by
  intro n v y h
  rcases open_slice1 ht hc h with ⟨hcs, _⟩ | ⟨a, len, cap, m, n', V, D, Pl, hcs, _, hl, hcap, hm, _, hx⟩
  · obtain rfl : v = .slice none 0 0 := by simpa using hcs
    exact ⟨rfl, _, ⟨[], rfl, fun y hy => by simp at hy⟩, rfl, .list [] none 0 1 (fun _ => undef) (Nat.zero_le _) Nat.one_pos (fun x hx => by simp at hx) (fun h => (h rfl).elim) (fun k hk => by simp at hk) (fun k y hy => by simp [Go.Proofs.YtcaopcpofepniaaDoor.flat] at hy) (Nat.le_refl _)⟩
  · obtain rfl : v = .slice (some a) len cap := by simpa using hcs
    have hlm : len ≤ m := by rw [hm]; split <;> omega
    have hall : ∀ i, i < len → (V i).oneCell' = true ∧ ∃ b, Q b ∧ b.cells = [b] ∧ RepT (· < w.heap.size) w b (V i) := fun i hi => hE _ _ _ (hx i (by omega)).2
    have key : ∀ k, k ≤ len → ∃ l : List Go.Proofs.YtcaopcpofepniaaDoor.T, l.length = k ∧ ∀ i (hi : i < l.length), Q l[i] ∧ l[i].cells = [l[i]] ∧ RepT (· < w.heap.size) w l[i] (V i) := by
      intro k
      induction k with
      | zero => intro _; exact ⟨[], rfl, fun i hi => absurd hi (by simp)⟩
      | succ k ih =>
        intro hk
        obtain ⟨l, hl1, hl2⟩ := ih (by omega)
        obtain ⟨_, b, hb⟩ := hall k (by omega)
        refine ⟨l ++ [b], by simp [hl1], fun i hi => ?_⟩
        rw [List.getElem_append]
        split
        · exact hl2 i ‹_›
        · obtain rfl : i = k := by simp at hi; omega
          simpa using hb
    obtain ⟨l, hl1, hl2⟩ := key len (Nat.le_refl _)
    subst hl1
    have hcells : ∀ x ∈ l, x.cells = [x] := fun x hx => by obtain ⟨i, hi, rfl⟩ := List.mem_iff_getElem.1 hx; exact (hl2 i hi).2.1
    have hfl := flat_cells hcells
    refine ⟨rfl, _, ⟨l, rfl, fun y hy => by obtain ⟨i, hi, rfl⟩ := List.mem_iff_getElem.1 hy; exact (hl2 i hi).1⟩, rfl, ?_⟩
    refine .list l (some a) cap 1 V (by simp only [maxLen] at hcap ⊢; omega) Nat.one_pos (fun x hx => by rw [hcells x hx]; rfl) (fun hne => ?_) (fun k hk => (hall k (by omega)).1) (fun k y hy => ?_) (by omega)
    · obtain ⟨b, off, spot⟩ := a
      have hpos : 0 < l.length := List.length_pos_iff.2 hne
      have hc1 := (hx 0 (by omega)).1
      have hspot : spot = none := by simpa [Addr.add] using World.cell?_spot hc1
      subst hspot
      have hadd : ∀ i, (⟨b, off, none⟩ : Addr).add i = ⟨b, off + i, none⟩ := fun i => by unfold Addr.add; split <;> simp_all
      refine ⟨b, off, rfl, ?_, fun k hk => ?_⟩
      · rw [hadd] at hc1; exact cell_lt hc1
      · have := (hx k (by omega)).1
        rw [hadd] at this; exact this
    · rw [hfl] at hy
      obtain ⟨hk, rfl⟩ := List.getElem?_eq_some_iff.1 hy
      exact (hl2 k hk).2.2
theorem allMap {α : Type} {f : α → Go.Proofs.YtcaopcpofepniaaDoor.T} {Q : α → Prop} : ∀ {l : List Go.Proofs.YtcaopcpofepniaaDoor.T}, (∀ y ∈ l, ∃ a, y = f a ∧ Q a) → ∃ q : List α, l = q.map f ∧ ∀ a ∈ q, Q a
  | [], _ => ⟨[], rfl, fun a ha => by simp at ha⟩
  | x :: t, h => by
    obtain ⟨a, rfl, ha⟩ := h x List.mem_cons_self
    obtain ⟨q, rfl, hq⟩ := allMap fun y hy => h y (List.mem_cons_of_mem _ hy)
    exact ⟨a :: q, rfl, fun b hb => by
      rcases List.mem_cons.1 hb with rfl | hb
      · exact ha
      · exact hq b hb⟩
theorem opensT_ints {T : TypeId} (h : OpensT enc w sp held T fun x => ∃ l, x = .list l ∧ ∀ y ∈ l, ∃ n, y = tInt n ∧ I64 n) : OpensT enc w sp held T fun x => ∃ l, x = tInts l ∧ I64s l := fun n v y hy => by
  obtain ⟨h1, x, ⟨l, rfl, hl⟩, h2, h3⟩ := h n v y hy
  obtain ⟨q, rfl, hq⟩ := allMap hl
  exact ⟨h1, _, ⟨q, rfl, hq⟩, rfl, h3⟩
theorem opensIntsT : OpensT enc w sp held 24 fun x => ∃ l, x = tInts l ∧ I64s l := opensT_ints (opensT_slice Tryd.underlying24 (by kernel_rfl) (opensT_int Tryd.underlying3))
theorem opensIntssT : OpensT enc w sp held 34 fun x => ∃ l, x = tIntss l ∧ ∀ r ∈ l, I64s r := fun n v y hy => by
  obtain ⟨h1, x, ⟨l, rfl, hl⟩, h2, h3⟩ := opensT_slice Tryd.underlying34 (by kernel_rfl) opensIntsT n v y hy
  obtain ⟨q, rfl, hq⟩ := allMap hl
  exact ⟨h1, _, ⟨q, rfl, hq⟩, rfl, h3⟩
/-- An argument that reads as a list of numbers. -/
def ReadsInts (w : World) (v : Value) (l : List Int) : Prop := I64s l ∧ RepT (· < w.heap.size) w (tInts l) v
theorem openIntsT {v : Value} (hv : v.cells = #[v]) {d : DataW H} {p : List MemPlace} (hd : DataW.Trod enc Tryd.prog w 0 sp held 24 v d p) : ∃ l, ReadsInts w v l := by
  obtain ⟨n, hn⟩ := hd
  rw [hv] at hn
  obtain ⟨_, x, ⟨l, rfl, hl⟩, _, h3⟩ := opensIntsT n v _ hn
  exact ⟨l, hl, h3⟩
end
theorem walkN {P : Program} {G : World → Prop} {f : Nat} {xs : List T} {w : World} {vs : Array Value} (h : Snd P G f xs (.bool true)) (hG : G w) (hl : vs.size = xs.length) (hx : ∀ (k : Nat) (y : T) (v : Value), xs[k]? = some y → vs[k]? = some v → RepT (· < w.heap.size) w y v) : Calls P f vs w (Ret (.bool true) w) :=
  (h.calls (· < w.heap.size) w vs hG hl hx).mono fun e w' hq => by obtain ⟨u, h1, h2, h3⟩ := hq; cases h2; exact ⟨h1, h3⟩
end Go.Proofs.YtcaopcpofepniaaDoor
namespace Go.Proofs.YtcaopcpofepniaaDoor
open Go.ChangeShapes Go.WideShapes Go.ChangeAt Go.RowKit Go.Joins Go.Deep

section
variable {H : Type} {enc : TypeId × Value → H} {w : World} {sp : Nat → Bool} {held : Bool}
/-- Cells that read as a datum of that many cells. -/
def OpensE (enc : TypeId × Value → H) (w : World) (sp : Nat → Bool) (held : Bool) (T : TypeId) (sz : Nat) (Q : Go.Proofs.YtcaopcpofepniaaDoor.T → Prop) : Prop :=
  ∀ n cs y, cs.length = sz → DataW.trod enc Tryd.prog w 0 sp held n T cs = some y → ∃ x, Q x ∧ x.cells.length = sz ∧ ∀ (k : Nat) (z : Go.Proofs.YtcaopcpofepniaaDoor.T) (v : Value), x.cells[k]? = some z → cs[k]? = some v → v.oneCell' = true ∧ RepT (· < w.heap.size) w z v
theorem opensE_slice {T e : TypeId} {sz : Nat} {Q : Go.Proofs.YtcaopcpofepniaaDoor.T → Prop} (ht : Tryd.prog.underlying T = some (.slice e)) (hc : Tryd.prog.cellsOf e = sz) (h0 : 0 < sz) (hE : OpensE enc w sp held e sz Q) :
    OpensT enc w sp held T fun x => ∃ l, x = .list l ∧ ∀ y ∈ l, Q y := by
  intro n v y h
  rcases open_slice ht h with ⟨hcs, _⟩ | ⟨a, len, cap, m, n', D, Pl, hcs, _, hl, hcap, hm, _, hx⟩
  · obtain rfl : v = .slice none 0 0 := by simpa using hcs
    exact ⟨rfl, _, ⟨[], rfl, fun y hy => by simp at hy⟩, rfl, .list [] none 0 1 (fun _ => undef) (Nat.zero_le _) Nat.one_pos (fun x hx => by simp at hx) (fun h => (h rfl).elim) (fun k hk => by simp at hk) (fun k y hy => by simp [Go.Proofs.YtcaopcpofepniaaDoor.flat] at hy) (Nat.le_refl _)⟩
  · obtain rfl : v = .slice (some a) len cap := by simpa using hcs
    have hlm : len ≤ m := by rw [hm]; split <;> omega
    rw [hc] at hx
    obtain ⟨q, hq⟩ := choose_lt (α := List Value × Go.Proofs.YtcaopcpofepniaaDoor.T) (n := len) (p := fun i q => w.cells? 0 (a.add (i * sz)) sz = some q.1 ∧ Q q.2 ∧ q.2.cells.length = sz ∧ ∀ (k : Nat) (z : Go.Proofs.YtcaopcpofepniaaDoor.T) (v : Value), q.2.cells[k]? = some z → q.1[k]? = some v → v.oneCell' = true ∧ RepT (· < w.heap.size) w z v) (fun i hi => by
      obtain ⟨cs', h1, h2⟩ := hx i (by omega)
      obtain ⟨_, hlen, _⟩ := World.cells?_some h1
      obtain ⟨x, x1, x2, x3⟩ := hE _ _ _ hlen h2
      exact ⟨(cs', x), h1, x1, x2, x3⟩)
    have hll : ((List.range len).map fun i => (q i).2).length = len := by simp
    have hat : ∀ i, i < len → ((List.range len).map fun i => (q i).2)[i]? = some (q i).2 := fun i hi => by simp [hi]
    have hsz : ∀ x ∈ (List.range len).map fun i => (q i).2, x.cells.length = sz := fun x hx => by
      obtain ⟨i, hi, rfl⟩ := List.mem_map.1 hx
      exact (hq i (List.mem_range.1 hi)).2.2.1
    have hQ : ∀ x ∈ (List.range len).map fun i => (q i).2, Q x := fun x hx => by
      obtain ⟨i, hi, rfl⟩ := List.mem_map.1 hx
      exact (hq i (List.mem_range.1 hi)).2.1
    generalize hL : ((List.range len).map fun i => (q i).2) = L at *
    subst hll
    refine ⟨rfl, _, ⟨L, rfl, hQ⟩, rfl, ?_⟩
    have hdiv : ∀ k, k < L.length * sz → k / sz < L.length ∧ k % sz < sz ∧ k / sz * sz + k % sz = k := fun k hk =>
      ⟨(Nat.div_lt_iff_lt_mul h0).2 hk, Nat.mod_lt _ h0, by rw [Nat.mul_comm]; exact Nat.div_add_mod k sz⟩
    have hcell : ∀ k, k < L.length * sz → ∃ v, (q (k / sz)).1[k % sz]? = some v ∧ w.cell? ((a.add (k / sz * sz)).add (k % sz)) = some v ∧ ∃ z, (flat L)[k]? = some z ∧ v.oneCell' = true ∧ RepT (· < w.heap.size) w z v := fun k hk => by
      obtain ⟨d1, d2, d3⟩ := hdiv k hk
      obtain ⟨g1, g2, g3, g4⟩ := hq _ d1
      obtain ⟨_, hlen, hcc⟩ := World.cells?_some g1
      have hv := List.getElem?_eq_getElem (l := (q (k / sz)).1) (i := k % sz) (by omega)
      have hz := List.getElem?_eq_getElem (l := (q (k / sz)).2.cells) (i := k % sz) (by omega)
      refine ⟨_, hv, by rw [hcc _ d2, hv], _, ?_, g4 _ _ _ hz hv⟩
      have := flat_get hsz (hat _ d1) hz
      rwa [d3] at this
    refine .list L (some a) cap sz (fun k => ((q (k / sz)).1[k % sz]?).getD undef) (by simp only [maxLen] at hcap ⊢; omega) h0 hsz (fun hne => ?_) (fun k hk => ?_) (fun k y hy => ?_) (by omega)
    · obtain ⟨b, off, spot⟩ := a
      have hpos : 0 < L.length := List.length_pos_iff.2 hne
      have hp : 0 < L.length * sz := Nat.mul_pos hpos h0
      obtain ⟨v, _, hc1, _⟩ := hcell 0 hp
      rw [add_add] at hc1
      have hspot : spot = none := by simpa [Addr.add] using World.cell?_spot hc1
      subst hspot
      have hadd : ∀ i, (⟨b, off, none⟩ : Addr).add i = ⟨b, off + i, none⟩ := fun i => by unfold Addr.add; split <;> simp_all
      refine ⟨b, off, rfl, ?_, fun k hk => ?_⟩
      · rw [hadd] at hc1; exact cell_lt hc1
      · obtain ⟨v, hv, hc2, _⟩ := hcell k hk
        rw [add_add, (hdiv k hk).2.2, hadd] at hc2
        rw [hc2, hv]; rfl
    · obtain ⟨v, hv, _, _, _, h1, _⟩ := hcell k hk
      rw [hv]; exact h1
    · have hk : k < L.length * sz := by
        have := (List.getElem?_eq_some_iff.1 hy).1
        rwa [flat_length hsz] at this
      obtain ⟨v, hv, _, z, hz, _, h2⟩ := hcell k hk
      rw [hz] at hy
      cases hy
      rw [hv]; exact h2
end
end Go.Proofs.YtcaopcpofepniaaDoor
namespace Go.Proofs.YtcaopcpofepniaaDoor
open Go.ChangeShapes Go.WideShapes Go.ChangeAt Go.RowKit Go.Joins Go.Deep

section
variable {H : Type} {enc : TypeId × Value → H} {w : World} {sp : Nat → Bool} {held : Bool}
def I64N (n : GNode) : Prop := I64 n.op ∧ I64 n.var ∧ I64 n.other ∧ I64 n.word ∧ I64 n.word2 ∧ I64 n.num ∧ I64s n.coefs
def ReadsForm (w : World) (v : Value) (f : List GNode) : Prop := (∀ n ∈ f, I64N n) ∧ RepT (· < w.heap.size) w (tForm f) v
theorem seven {cs : List Value} (h : cs.length = 7) : ∃ c0 c1 c2 c3 c4 c5 c6, cs = [c0, c1, c2, c3, c4, c5, c6] := by
  match cs, h with
  | [c0, c1, c2, c3, c4, c5, c6], _ => exact ⟨c0, c1, c2, c3, c4, c5, c6, rfl⟩
theorem seven' {α : Type} {cs : List α} (h : cs.length = 7) : ∃ c0 c1 c2 c3 c4 c5 c6, cs = [c0, c1, c2, c3, c4, c5, c6] := by
  match cs, h with
  | [c0, c1, c2, c3, c4, c5, c6], _ => exact ⟨c0, c1, c2, c3, c4, c5, c6, rfl⟩
set_option maxRecDepth 100000 in
theorem opensNode : OpensE enc w sp held 67 7 fun x => ∃ n, x = tNode n ∧ I64N n := by
  intro fuel cs y hlen h
  obtain ⟨xs, k, _, _, _, hxl, hf⟩ := DataW.trod_struct Tryd.underlying67 h
  obtain ⟨c0, c1, c2, c3, c4, c5, c6, rfl⟩ := seven hlen
  obtain ⟨y0, y1, y2, y3, y4, y5, y6, rfl⟩ := seven' hxl
  have ci : Tryd.prog.cellsOf 3 = 1 := by kernel_rfl
  have cl : Tryd.prog.cellsOf 24 = 1 := by kernel_rfl
  have t0 : DataW.trod enc Tryd.prog w 0 sp held k 3 (([c0, c1, c2, c3, c4, c5, c6].drop 0).take (Tryd.prog.cellsOf 3)) = [y0, y1, y2, y3, y4, y5, y6][0]? := hf 0 _ rfl
  rw [ci] at t0
  have g0 : DataW.trod enc Tryd.prog w 0 sp held k 3 [c0] = some y0 := t0
  have t1 : DataW.trod enc Tryd.prog w 0 sp held k 3 (([c0, c1, c2, c3, c4, c5, c6].drop 1).take (Tryd.prog.cellsOf 3)) = [y0, y1, y2, y3, y4, y5, y6][1]? := hf 1 _ rfl
  rw [ci] at t1
  have g1 : DataW.trod enc Tryd.prog w 0 sp held k 3 [c1] = some y1 := t1
  have t2 : DataW.trod enc Tryd.prog w 0 sp held k 3 (([c0, c1, c2, c3, c4, c5, c6].drop 2).take (Tryd.prog.cellsOf 3)) = [y0, y1, y2, y3, y4, y5, y6][2]? := hf 2 _ rfl
  rw [ci] at t2
  have g2 : DataW.trod enc Tryd.prog w 0 sp held k 3 [c2] = some y2 := t2
  have t3 : DataW.trod enc Tryd.prog w 0 sp held k 3 (([c0, c1, c2, c3, c4, c5, c6].drop 3).take (Tryd.prog.cellsOf 3)) = [y0, y1, y2, y3, y4, y5, y6][3]? := hf 3 _ rfl
  rw [ci] at t3
  have g3 : DataW.trod enc Tryd.prog w 0 sp held k 3 [c3] = some y3 := t3
  have t4 : DataW.trod enc Tryd.prog w 0 sp held k 3 (([c0, c1, c2, c3, c4, c5, c6].drop 4).take (Tryd.prog.cellsOf 3)) = [y0, y1, y2, y3, y4, y5, y6][4]? := hf 4 _ rfl
  rw [ci] at t4
  have g4 : DataW.trod enc Tryd.prog w 0 sp held k 3 [c4] = some y4 := t4
  have t5 : DataW.trod enc Tryd.prog w 0 sp held k 3 (([c0, c1, c2, c3, c4, c5, c6].drop 5).take (Tryd.prog.cellsOf 3)) = [y0, y1, y2, y3, y4, y5, y6][5]? := hf 5 _ rfl
  rw [ci] at t5
  have g5 : DataW.trod enc Tryd.prog w 0 sp held k 3 [c5] = some y5 := t5
  have t6 : DataW.trod enc Tryd.prog w 0 sp held k 24 (([c0, c1, c2, c3, c4, c5, c6].drop 6).take (Tryd.prog.cellsOf 24)) = [y0, y1, y2, y3, y4, y5, y6][6]? := hf 6 _ rfl
  rw [cl] at t6
  have g6 : DataW.trod enc Tryd.prog w 0 sp held k 24 [c6] = some y6 := t6
  obtain ⟨a0, rfl, i0⟩ := opens_int Tryd.underlying3 _ _ _ g0
  obtain ⟨a1, rfl, i1⟩ := opens_int Tryd.underlying3 _ _ _ g1
  obtain ⟨a2, rfl, i2⟩ := opens_int Tryd.underlying3 _ _ _ g2
  obtain ⟨a3, rfl, i3⟩ := opens_int Tryd.underlying3 _ _ _ g3
  obtain ⟨a4, rfl, i4⟩ := opens_int Tryd.underlying3 _ _ _ g4
  obtain ⟨a5, rfl, i5⟩ := opens_int Tryd.underlying3 _ _ _ g5
  obtain ⟨o6, x6, ⟨a6, rfl, i6⟩, _, h6⟩ := opensIntsT _ _ _ g6
  refine ⟨_, ⟨⟨a0, a1, a2, a3, a4, a5, a6⟩, rfl, i0, i1, i2, i3, i4, i5, i6⟩, rfl, fun k z v hz hv => ?_⟩
  match k, hz, hv with
  | 0, hz, hv => cases hz; cases hv; exact ⟨rfl, .int _ _⟩
  | 1, hz, hv => cases hz; cases hv; exact ⟨rfl, .int _ _⟩
  | 2, hz, hv => cases hz; cases hv; exact ⟨rfl, .int _ _⟩
  | 3, hz, hv => cases hz; cases hv; exact ⟨rfl, .int _ _⟩
  | 4, hz, hv => cases hz; cases hv; exact ⟨rfl, .int _ _⟩
  | 5, hz, hv => cases hz; cases hv; exact ⟨rfl, .int _ _⟩
  | 6, hz, hv => cases hz; cases hv; exact ⟨o6, h6⟩
theorem openFormT {v : Value} (hv : v.cells = #[v]) {d : DataW H} {p : List MemPlace} (hd : DataW.Trod enc Tryd.prog w 0 sp held 22 v d p) : ∃ f, ReadsForm w v f := by
  obtain ⟨n, hn⟩ := hd
  rw [hv] at hn
  obtain ⟨_, x, ⟨l, rfl, hl⟩, _, h3⟩ := opensE_slice Tryd.underlying22 (by kernel_rfl) (by decide) opensNode n v _ hn
  obtain ⟨q, rfl, hq⟩ := allMap hl
  exact ⟨q, hq, h3⟩
end
end Go.Proofs.YtcaopcpofepniaaDoor
namespace Go.Proofs.YtcaopcpofepniaaDoor
open Go.ChangeShapes Go.WideShapes Go.ChangeAt Go.RowKit Go.Joins Go.Deep

section
variable {H : Type} {enc : TypeId × Value → H} {w : World} {sp : Nat → Bool} {held : Bool}
end
end Go.Proofs.YtcaopcpofepniaaDoor
namespace Go.Proofs.YtcaopcpofepniaaDoor
open Go.ChangeShapes Go.WideShapes Go.ChangeAt Go.RowKit Go.Joins Go.Deep

section
variable {H : Type} {enc : TypeId × Value → H} {w : World} {sp : Nat → Bool} {held : Bool}
end
end Go.Proofs.YtcaopcpofepniaaDoor
namespace Go.Proofs.YtcaopcpofepniaaDoor
open Go.ChangeShapes Go.WideShapes Go.ChangeAt Go.RowKit Go.Joins Go.Deep

section
variable {H : Type} {enc : TypeId × Value → H} {w : World} {sp : Nat → Bool} {held : Bool}
def tOuts (ws : List GOut) : T := .list (ws.map tOut)
def ReadsOuts (w : World) (v : Value) (ws : List GOut) : Prop := RepT (· < w.heap.size) w (tOuts ws) v
theorem three {α : Type} {cs : List α} (h : cs.length = 3) : ∃ c0 c1 c2, cs = [c0, c1, c2] := by
  match cs, h with
  | [c0, c1, c2], _ => exact ⟨c0, c1, c2, rfl⟩
set_option maxRecDepth 100000 in
theorem opensOut : OpensE enc w sp held 74 3 fun x => ∃ o, x = tOut o ∧ True := by
  intro fuel cs y hlen h
  obtain ⟨xs, k, _, _, _, hxl, hf⟩ := DataW.trod_struct Tryd.underlying74 h
  obtain ⟨c0, c1, c2, rfl⟩ := three hlen
  obtain ⟨y0, y1, y2, rfl⟩ := three hxl
  have ci : Tryd.prog.cellsOf 3 = 1 := by kernel_rfl
  have cl : Tryd.prog.cellsOf 24 = 1 := by kernel_rfl
  have cll : Tryd.prog.cellsOf 34 = 1 := by kernel_rfl
  have t0 : DataW.trod enc Tryd.prog w 0 sp held k 3 (([c0, c1, c2].drop 0).take (Tryd.prog.cellsOf 3)) = [y0, y1, y2][0]? := hf 0 _ rfl
  rw [ci] at t0
  have g0 : DataW.trod enc Tryd.prog w 0 sp held k 3 [c0] = some y0 := t0
  have t1 : DataW.trod enc Tryd.prog w 0 sp held k 34 (([c0, c1, c2].drop 1).take (Tryd.prog.cellsOf 34)) = [y0, y1, y2][1]? := hf 1 _ rfl
  rw [cll] at t1
  have g1 : DataW.trod enc Tryd.prog w 0 sp held k 34 [c1] = some y1 := t1
  have t2 : DataW.trod enc Tryd.prog w 0 sp held k 24 (([c0, c1, c2].drop 2).take (Tryd.prog.cellsOf 24)) = [y0, y1, y2][2]? := hf 2 _ rfl
  rw [cl] at t2
  have g2 : DataW.trod enc Tryd.prog w 0 sp held k 24 [c2] = some y2 := t2
  obtain ⟨a0, rfl, i0⟩ := opens_int Tryd.underlying3 _ _ _ g0
  obtain ⟨o1, x1, ⟨a1, rfl, i1⟩, _, h1⟩ := opensIntssT _ _ _ g1
  obtain ⟨o2, x2, ⟨a2, rfl, i2⟩, _, h2⟩ := opensIntsT _ _ _ g2
  refine ⟨_, ⟨⟨a0, a1, a2⟩, rfl, trivial⟩, rfl, fun k z v hz hv => ?_⟩
  match k, hz, hv with
  | 0, hz, hv => cases hz; cases hv; exact ⟨rfl, .int _ _⟩
  | 1, hz, hv => cases hz; cases hv; exact ⟨o1, h1⟩
  | 2, hz, hv => cases hz; cases hv; exact ⟨o2, h2⟩
theorem openOutsT {v : Value} (hv : v.cells = #[v]) {d : DataW H} {p : List MemPlace} (hd : DataW.Trod enc Tryd.prog w 0 sp held 23 v d p) : ∃ ws, ReadsOuts w v ws := by
  obtain ⟨n, hn⟩ := hd
  rw [hv] at hn
  obtain ⟨_, x, ⟨l, rfl, hl⟩, _, h3⟩ := opensE_slice Tryd.underlying23 (by kernel_rfl) (by decide) opensOut n v _ hn
  obtain ⟨q, rfl, hq⟩ := allMap (Q := fun _ => True) hl
  exact ⟨q, h3⟩
end
end Go.Proofs.YtcaopcpofepniaaDoor
namespace Go.Proofs.YtcaopcpofepniaaDoor
open Go.RowKit

set_option maxHeartbeats 4000000 in
theorem FormEvals_snd (f : List GNode) (ws : List GOut) (ns : List Int) : Snd Tryd.prog errCell 3 [tForm f, tOutL ws, tInts ns] (.bool true) := by
  have hG := errCell_lasting
  have c1 := REvalOf_snd (G := errCell) hG f ws ns
  have c2 := Eval_snd (G := errCell) hG f ws ns
  refine snd_of_body (n := 35) (tm := [(0, .t (tForm f)), (1, .t (tOutL ws)), (2, .t (tInts ns))]) (rs := [.tmp 6]) tt_ok Tryd.func3 rfl rfl rfl rfl rfl ?_
  generalize evalErr f ws ns = e at *
  generalize evalV f ws ns = b at *
  have E := Error_snd e e
  rw [beq_self_eq_true] at E
  have htb := Tab.cons c1 (Tab.cons c2 (Tab.cons E Tab.nil))
  cases b
  · repeat' (first | (with_reducible first | apply w1 | apply w2 | apply w3 | apply w4 | apply w5 | apply w6 | apply w7 | apply w8 | apply w9 | apply wa | apply wb | apply wc) | ((with_reducible apply wd); focus decide) | ((with_reducible apply we); focus exact rfl) | ((with_reducible apply wf); focus exact rfl) | ((first | (with_reducible apply SW_run tt_ok hG htb) | ((with_reducible apply SW_draw rfl tt_ok hG htb); (focus kernel_rfl); focus simp only [List.range, List.range.loop, List.size_toArray, List.length_cons, List.length_nil, Nat.reduceAdd])); focus ((repeat' (first | (with_reducible first | exact wg | exact wh) | ((with_reducible first | apply wi | apply wj); focus (simp (discharger := omega) only [go_sem, tErr_flat, simprocAttr]; with_reducible rfl)))); done)))
    exact (by simp (discharger := omega) only [go_sem, simprocAttr])
  · repeat' (first | (with_reducible first | apply w1 | apply w2 | apply w3 | apply w4 | apply w5 | apply w6 | apply w7 | apply w8 | apply w9 | apply wa | apply wb | apply wc) | ((with_reducible apply wd); focus decide) | ((with_reducible apply we); focus exact rfl) | ((with_reducible apply wf); focus exact rfl) | ((first | (with_reducible apply SW_run tt_ok hG htb) | ((with_reducible apply SW_draw rfl tt_ok hG htb); (focus kernel_rfl); focus simp only [List.range, List.range.loop, List.size_toArray, List.length_cons, List.length_nil, Nat.reduceAdd])); focus ((repeat' (first | (with_reducible first | exact wg | exact wh) | ((with_reducible first | apply wi | apply wj); focus (simp (discharger := omega) only [go_sem, tErr_flat, simprocAttr]; with_reducible rfl)))); done)))
    exact (by simp (discharger := omega) only [go_sem, simprocAttr])
theorem FormEvals_walk (t : Value) (f : List GNode) (u : Value) (ws : List GOut) (v : Value) (ns : List Int) (w : World) (h : ReadsForm w t f) (h' : ReadsOuts w u ws) (h'' : ReadsInts w v ns) (hg : errCell w) : Calls Tryd.prog 3 #[t, u, v] w (Ret (.bool true) w) :=
  walkN (FormEvals_snd f ws ns) hg rfl fun k y z p q => by
    match k, p, q with
    | 0, p, q => cases p; cases q; exact h.2
    | 1, p, q => cases p; cases q; exact h'
    | 2, p, q => cases p; cases q; exact h''.2
end Go.Proofs.YtcaopcpofepniaaDoor
namespace Go.Proofs.YtcaopcpofepniaaDoor.formEvals
open Go.ChangeShapes Go.WideShapes Go.ChangeAt Go.RowKit

set_option maxRecDepth 100000 in
theorem lifted (os : Os) (started : os.Started) (H : Type) (enc : TypeId × Value → H) :
    ReturnsInHanded {} Tryd.checked os 3 .any (fun w args => (Rows.formEvalsSpec.pre enc Tryd.prog Tryd.f3 [] false w args ∧ laidMetH Tryd.prog laidL w) ∧ sizedMet enc Tryd.prog Tryd.f3 (OpenSpec.ofChange Rows.formEvalsSpec) false w args)
      (Rows.formEvalsSpec.post enc Tryd.prog Tryd.f3 false true false false) := by
  refine returnsInHanded_of_change_and (C := Tryd.checked) (X := fun w _ => laidMetH Tryd.prog laidL w) (fun _ _ _ hh h => h.of_heap hh) own started (by kernel_rfl) Tryd.func3
    (ChangeSpec.witness_at (enc := enc) (C := Tryd.checked) (os := os) (X := fun w _ => laidMetH Tryd.prog laidL w) false (laidWorld os) #[.slice none 0 0, .slice none 0 0, .slice none 0 0] 8 rfl (by kernel_rfl) (by kernel_rfl) (by kernel_rfl) (by kernel_rfl) (by kernel_rfl) (laidWorld_met os _)) ?_
  intro W base args ds gs before hval0 hW _ _ hL _
  have hval : ∀ (j : Nat) t v, Tryd.f3.params[j]? = some t → args[j]? = some v → Value.okWide Tryd.prog W .any base t v := hval0
  have hW' := hW
  obtain ⟨p, q, hA0, hV, rfl, hfz, hnd⟩ := hW
  have hA : DataW.TrodAll enc Tryd.prog W 0 (fun _ => true) true Tryd.f3.params.toList args.toList ds p := hA0
  rw [Tryd.params3] at hA hval
  obtain ⟨v0, vs0, d0, ds0, p0, q0, hargs, rfl, rfl, h0, r0⟩ := trodAll_cons hA
  obtain ⟨v1, vs1, d1, ds1, p1, q1, rfl, rfl, rfl, h1, r1⟩ := trodAll_cons r0
  obtain ⟨v2, vs2, d2, ds2, p2, q2, rfl, rfl, rfl, h2, r2⟩ := trodAll_cons r1
  obtain ⟨rfl, rfl, rfl⟩ := trodAll_nil r2
  obtain rfl : args = #[v0, v1, v2] := by cases args; simp_all
  obtain ⟨rfl, rfl⟩ := trodVars_none hV
  obtain ⟨b0, len0, cap0, rfl⟩ := okWide_slice Tryd.underlying22 (hval 0 22 v0 rfl rfl)
  have k0 := h0
  have lt0 : ∀ x ∈ p0, x.block < W.heap.size := by obtain ⟨m, hm⟩ := k0; exact DataW.trod_lt m _ _ _ hm
  obtain ⟨a0, w0⟩ := openFormT rfl h0
  obtain ⟨b1, len1, cap1, rfl⟩ := okWide_slice Tryd.underlying23 (hval 1 23 v1 rfl rfl)
  have k1 := h1
  have lt1 : ∀ x ∈ p1, x.block < W.heap.size := by obtain ⟨m, hm⟩ := k1; exact DataW.trod_lt m _ _ _ hm
  obtain ⟨a1, w1⟩ := openOutsT rfl h1
  obtain ⟨b2, len2, cap2, rfl⟩ := okWide_slice Tryd.underlying24 (hval 2 24 v2 rfl rfl)
  have k2 := h2
  have lt2 : ∀ x ∈ p2, x.block < W.heap.size := by obtain ⟨m, hm⟩ := k2; exact DataW.trod_lt m _ _ _ hm
  obtain ⟨a2, w2⟩ := openIntsT rfl h2
  clear hA0 hval0
  refine (FormEvals_walk _ a0 _ a1 _ a2 W w0 w1 w2 (handle_of_laid hL)).mono fun e W' ⟨he, bel⟩ => ?_
  subst he
  exact ⟨_, rfl, _, _, _, [], _, [], hW', trodAll_mk1 (shut_bool Tryd.underlying4 _), (trodAll_cons_mk (Below.trod laidOut (by kernel_rfl) (of_decide_eq_true (by kernel_rfl)) k0 bel lt0) (trodAll_cons_mk (Below.trod laidOut (by kernel_rfl) (of_decide_eq_true (by kernel_rfl)) k1 bel lt1) (trodAll_cons_mk (Below.trod laidOut (by kernel_rfl) (of_decide_eq_true (by kernel_rfl)) k2 bel lt2) trodAll_mk0))), rfl, bel.frame _, fun h => by cases h⟩

theorem over : Rows.formEvalsRow.holds Tryd.pinned (OpenSpec.ofChange Rows.formEvalsSpec) :=
  OpenClaim.holds_of_wide 3 Tryd.f3 rfl rfl rfl rfl rfl rfl rfl ⟨rfl, rfl, rfl, rfl, rfl⟩ rfl rfl rfl rfl rfl (by kernel_rfl) Tryd.func3 (by kernel_rfl)
    (of_decide_eq_true (by kernel_rfl)) (by unfold Func.isWrapper; first | (rw [if_pos (by decide +kernel)]; kernel_rfl) | (rw [if_neg (by decide +kernel)]; exact ⟨rfl, rfl⟩))
    (fun os started H enc _ => lifted os started H enc)

theorem said : Rows.FormEvalsSaid := over
theorem plain (f : FuncId) (fn : Func) (hf : Tryd.pinned.checked.prog.funcNamed "filbert/filbertlaw3.FormEvals" = some f) (hfn : Tryd.pinned.checked.prog.funcs[f]? = some fn) :
    true = Tryd.pinned.checked.prog.looks [] ∧ ∀ (j : Nat) t, fn.params[j]? = some t → Tryd.pinned.checked.prog.wantsStandIn t = false := by
  obtain rfl : f = 3 := Option.some.inj ((show Tryd.prog.funcNamed "filbert/filbertlaw3.FormEvals" = some 3 by kernel_rfl).symm.trans hf) |>.symm
  obtain rfl : fn = Tryd.f3 := (Option.some.inj (Tryd.func3.symm.trans hfn)).symm
  refine ⟨by kernel_rfl, fun j t ht => ?_⟩
  have hall : (Tryd.f3.params.toList.all fun t => !(Tryd.prog.wantsStandIn t)) = true := by kernel_rfl
  have := List.all_eq_true.1 hall t (Array.mem_toList_iff.2 (Array.mem_of_getElem? ht))
  exact (show Tryd.prog.wantsStandIn t = false by simpa using this)

/-- THE STATEMENT: THE CARD. -/
theorem proved : Rows.FormEvalsCardSaid :=
  Claim7.holds_tied_plain_at .later [] _ _ _ _ said (fun _ h => by cases h) (by kernel_rfl) (fun _ h => by cases h) formEvals_row_tie rfl ⟨rfl, rfl⟩ (by kernel_rfl) rfl plain (by kernel_rfl)
#print axioms proved
end Go.Proofs.YtcaopcpofepniaaDoor.formEvals
