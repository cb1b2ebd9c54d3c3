/- The walks of Nums and Right: what a word's tracks count, and whether they are right. No conditions but that the value reads as a list. -/
import Derived.Test.YtgglhdbhemcijaaDoorLetterT
import Derived.Test.YtgglhdbhemcijaaDoorDigitB
namespace Go.Proofs.YtgglhdbhemcijaaDoor
open Go.RowKit

set_option maxHeartbeats 2000000 in
set_option maxRecDepth 100000 in
theorem Nums_calls (S : Nat → Prop) (base t : Int) (v : Value) (l : List Int) (w : World) (hS : ∀ b, S b → b < w.heap.size) (hd : Ints S w v l) :
    Calls Tryd.prog 36 #[.int .i64 base, .int .i64 t, v] w
      (RetQ (fun v w' => ∃ x, v = .tuple #[x, errV 27 (numsErr base t l)] ∧ Ints (w.heap.size ≤ ·) w' x (numsOf base t l)) w) := by
  have Hd := Lib.hid hd
  obtain ⟨pa, ca, rfl⟩ := hd.form
  clear hd
  go_enter Tryd.func36, Tryd.ntmps36
  go_wp2_with fail
  refine (split_calls S _ _ _ _ _ hS Hd.out).mono ?_
  rintro e w1 ⟨_, rfl, ⟨x1, rfl, hr⟩, hb1⟩
  have HB := Lib.hid hb1; clear hb1
  by_cases h0 : splitErr base t l = 0
  · have H0 := Lib.hid h0
    rw [h0, errV_zero]
    clear h0
    have Hr := Lib.hid hr
    obtain ⟨pr, cr, rfl⟩ := hr.form
    clear hr
    have HN := Lib.hid (show numsErr base t l = firstErr (valErr base) (splitOf base t l) by simp [numsErr, H0.out])
    have hrl : (splitOf base t l).length ≤ 5 := by
      have h := H0.out
      have hm : manyErr base t = 0 := by
        unfold splitErr at h; split at h <;> omega
      have := many_ok hm
      simp [splitOf, H0.out]; omega
    generalize hR : splitOf base t l = R at *
    have HR := Lib.hid hR; clear hR
    go_wp2_with fail
    obtain ⟨wo, rfl⟩ : ∃ wo : World, wo = w1 := ⟨_, rfl⟩
    go_loopw [10, 27] (fun out i wr => ∃ (k : Nat), k ≤ R.length ∧ i = .int .i64 k ∧ Hid (∀ i (hi : i < R.length), i < k → valErr base R[i] = 0) ∧
      Hid (wr.ownsRow wo.heap.size 3 1 out k (((R.take k).map (valOf base)).map (Value.int .i64))) ∧ Hid (Below wo.heap.size wo wr)) (fun _ i _ => R.length - (intOf i).toNat)
    case atStart => exact ⟨0, by omega, rfl, fun i hi h => by omega, World.ownsRow_nil _ _ _ _, Below.refl _ _⟩
    case round =>
      obtain ⟨k, hk, rfl, HA, HO, HB2⟩ := hrel
      obtain ⟨po, co, rfl⟩ := own_form HO.out
      by_cases hlt : k < R.length
      · obtain ⟨b, off, x, hp, hS1, hc, hx⟩ := Hr.out.at k hlt
        subst hp
        have hblt := cell_lt hc
        have hc' := (HB2.out.cell (p := ⟨b, off + k, none⟩) hblt).trans hc
        have hx' : Ints (fun _ => True) wr x R[k] := hx.keep fun b _ hlt => ⟨HB2.out.block b hlt, trivial⟩
        obtain ⟨px, cx, rfl⟩ := hx'.form
        have Hx := Lib.hid hx'
        have hvb := valOf_bd base R[k]
        clear hx hx' hc
        go_wp2_with fail
        refine (Value_calls _ _ _ _ _ Hx.out).mono ?_; rintro e w' ⟨rfl, rfl⟩
        by_cases hv : valErr base R[k] = 0
        · rw [hv, errV_zero]
          have Hv := Lib.hid hv; clear hv
          have hown := HO.out
          go_wp2_with (at_builtin; go_loud (refine appInt rfl _ _ rfl wo.heap.size _ _ _ rfl hown _ rfl rfl ?c1 HB2.out.size ?_))
          case c1 => omega
          intro v' w' hown' hgrow _
          have HBn := Lib.hid (HB2.out.grown hgrow HB2.out.size (fun k hk => (hown.lt k hk).1))
          have Hown' := Lib.hid hown'
          clear hown' hgrow hown
          go_wp2_with fail
          go_roundw
          case rel =>
            refine ⟨k + 1, by omega, by go_num, fun i hi h => ?_, ?_, HBn.out⟩
            · by_cases e : i < k
              · exact HA.out i hi e
              · obtain rfl : i = k := by omega
                exact Hv.out
            · rw [List.take_succ_eq_append_getElem hlt, List.map_append, List.map_append]
              have := Hown'.out
              simpa [Hid] using this
          case measure => (simp [intOf] <;> omega)
        · have RE := Lib.hid (show numsErr base t l = valErr base R[k] ∧ numsOf base t l = [] by
            have : numsErr base t l = valErr base R[k] := by rw [HN.out]; exact firstErr_at hlt HA.out hv
            exact ⟨this, by simp [numsOf, this, hv]⟩)
          have HE := Lib.hid (errV_ne 27 hv)
          rw [HE.out]
          clear hv
          go_wp2_with fail
          go_ret2
          exact RetQ.mk ⟨_, by rw [RE.out.1, HE.out]; rfl, by rw [RE.out.2]; exact Sl.nil _ _ _⟩ (HB.out.trans (HB2.out.mono HB.out.size))
      · obtain rfl : k = R.length := by omega
        have RE := Lib.hid (show numsErr base t l = 0 ∧ numsOf base t l = R.map (valOf base) by
          have : numsErr base t l = 0 := by
            rw [HN.out, firstErr_zero]
            intro r hr
            obtain ⟨i, hi, rfl⟩ := List.mem_iff_getElem.1 hr
            exact HA.out i hi hi
          exact ⟨this, by simp [numsOf, this, HR.out]⟩)
        go_wp2_with fail
        go_ret2
        refine RetQ.mk ⟨_, by rw [RE.out.1]; rfl, ?_⟩ (HB.out.trans (HB2.out.mono HB.out.size))
        rw [RE.out.2]
        have ho := HO.out
        rw [List.take_length] at ho
        refine (Ints.of_own ho (by simp) ?_).keep fun b hb _ => ⟨rfl, Nat.le_trans HB.out.size hb⟩
        intro x hx
        obtain ⟨y, _, rfl⟩ := List.mem_map.1 hx
        have := valOf_bd base y
        exact ⟨by omega, by omega⟩
  · have RE := Lib.hid (show numsErr base t l = splitErr base t l ∧ numsOf base t l = [] by
      have : numsErr base t l = splitErr base t l := by simp [numsErr, h0]
      exact ⟨this, by simp [numsOf, this, h0]⟩)
    have HE := Lib.hid (errV_ne 27 h0)
    rw [HE.out]
    clear h0 hr
    go_wp2
    go_ret2
    exact RetQ.mk ⟨_, by rw [RE.out.1, HE.out]; rfl, by rw [RE.out.2]; exact Sl.nil _ _ _⟩ HB.out

set_option maxHeartbeats 2000000 in
set_option maxRecDepth 100000 in
theorem LRight_calls (S : Nat → Prop) (base t : Int) (v : Value) (l : List Int) (w : World) (hS : ∀ b, S b → b < w.heap.size) (hd : Ints S w v l) :
    Calls Tryd.prog 33 #[.int .i64 base, .int .i64 t, v] w
      (Ret (.tuple #[.bool (rightWRes base t l), errV 27 (rightWErr base t l)]) w) := by
  have Hd := Lib.hid hd
  obtain ⟨pa, ca, rfl⟩ := hd.form
  clear hd
  go_enter Tryd.func33, Tryd.ntmps33
  go_wp2_with fail
  refine (split_calls S _ _ _ _ _ hS Hd.out).mono ?_
  rintro e w1 ⟨_, rfl, ⟨x1, rfl, hr⟩, hb1⟩
  have HB := Lib.hid hb1; clear hb1
  by_cases h0 : splitErr base t l = 0
  · have H0 := Lib.hid h0
    rw [h0, errV_zero]
    clear h0
    have Hr := Lib.hid hr
    obtain ⟨pr, cr, rfl⟩ := hr.form
    clear hr
    have HN := Lib.hid (show rightWErr base t l = firstErr (digitsFault base) (splitOf base t l) by simp [rightWErr, H0.out])
    have hrl : (splitOf base t l).length ≤ 5 := by
      have h := H0.out
      have hm : manyErr base t = 0 := by
        unfold splitErr at h; split at h <;> omega
      have := many_ok hm
      simp [splitOf, H0.out]; omega
    generalize hR : splitOf base t l = R at *
    have HR := Lib.hid hR; clear hR
    go_wp2_with fail
    go_loop [10, 27] (fun ok i => ∃ (k : Nat), k ≤ R.length ∧ i = .int .i64 k ∧ Hid (∀ i (hi : i < R.length), i < k → digitsFault base R[i] = 0) ∧ ok = .bool ((R.take k).all (rightRes base))) (fun _ i => R.length - (intOf i).toNat)
    case atStart => exact ⟨0, by omega, rfl, fun i hi h => by omega, by simp⟩
    case round =>
      obtain ⟨k, hk, rfl, HA, rfl⟩ := hrel
      by_cases hlt : k < R.length
      · obtain ⟨b, off, x, hp, hS1, hc, hx⟩ := Hr.out.at k hlt
        subst hp
        obtain ⟨px, cx, rfl⟩ := hx.form
        have Hx := Lib.hid hx; clear hx
        have Hst := Lib.hid (show (R.take (k + 1)).all (rightRes base) = ((R.take k).all (rightRes base) && rightRes base R[k]) by
          rw [List.take_succ_eq_append_getElem hlt, List.all_append]; simp)
        generalize (R.take k).all (rightRes base) = o at *
        go_wp2_with fail
        refine (Right_calls _ _ _ _ _ Hx.out).mono ?_; rintro e w' ⟨rfl, rfl⟩
        by_cases hv : digitsFault base R[k] = 0
        · rw [hv, errV_zero]
          have Hv := Lib.hid hv; clear hv
          cases o
          all_goals
            go_wp2_with fail
            go_round
            case rel =>
              refine ⟨k + 1, by omega, by go_num, fun i hi h => ?_, by rw [Hst.out]; simp⟩
              by_cases e : i < k
              · exact HA.out i hi e
              · obtain rfl : i = k := by omega
                exact Hv.out
            case measure => (simp [intOf] <;> omega)
        · have RE := Lib.hid (show rightWErr base t l = digitsFault base R[k] ∧ rightWRes base t l = false by
            have : rightWErr base t l = digitsFault base R[k] := by rw [HN.out]; exact firstErr_at hlt HA.out hv
            exact ⟨this, by simp [rightWRes, this, hv]⟩)
          have HE := Lib.hid (errV_ne 27 hv)
          rw [HE.out]
          clear hv
          go_wp2_with fail
          go_ret2
          exact Ret.mk (by rw [RE.out.1, RE.out.2, HE.out]; rfl) HB.out
      · obtain rfl : k = R.length := by omega
        have RE := Lib.hid (show rightWErr base t l = 0 ∧ rightWRes base t l = R.all (rightRes base) by
          have : rightWErr base t l = 0 := by
            rw [HN.out, firstErr_zero]
            intro r hr
            obtain ⟨i, hi, rfl⟩ := List.mem_iff_getElem.1 hr
            exact HA.out i hi hi
          exact ⟨this, by simp [rightWRes, this, HR.out]⟩)
        go_wp2_with fail
        go_ret2
        exact Ret.mk (by rw [RE.out.1, RE.out.2]; rfl) HB.out
  · have RE := Lib.hid (show rightWErr base t l = splitErr base t l ∧ rightWRes base t l = false by
      have : rightWErr base t l = splitErr base t l := by simp [rightWErr, h0]
      exact ⟨this, by simp [rightWRes, this, h0]⟩)
    have HE := Lib.hid (errV_ne 27 h0)
    rw [HE.out]
    clear h0 hr
    go_wp2
    go_ret2
    exact Ret.mk (by rw [RE.out.1, RE.out.2, HE.out]; rfl) HB.out
end Go.Proofs.YtgglhdbhemcijaaDoor
