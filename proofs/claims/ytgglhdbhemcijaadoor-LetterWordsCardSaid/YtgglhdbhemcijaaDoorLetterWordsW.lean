/- The walk of LetterWords: it returns true. Condition: what the laid variable holds. -/
import Derived.Test.YtgglhdbhemcijaaDoorRefV
import Derived.Test.YtgglhdbhemcijaaDoorLetterN
import Derived.Test.YtgglhdbhemcijaaDoorTold
namespace Go.Proofs.YtgglhdbhemcijaaDoor
open Go.RowKit

theorem beq_self_int (e : Int) : (e == e) = true := by simp

theorem word_same {base : Int} {nums l l' : List Int} (h : WordIs base nums l) (h' : WordIs base nums l') : l = l' := by
  by_cases he : wordErr base nums = 0
  · obtain ⟨rows, ⟨hl, hr⟩, rfl⟩ := h.2 he
    obtain ⟨rows', ⟨hl', hr'⟩, rfl⟩ := h'.2 he
    have hm : manyErr base nums.length = 0 := by
      unfold wordErr at he; split at he <;> omega
    have hr0 := (many_ok hm).1
    have : rows = rows' := by
      apply List.ext_getElem (by omega)
      intro i h1 h2
      exact (hr i (by omega) h1).unique hr0 (hr' i (by omega) h2)
    rw [this]
  · rw [h.1 he, h'.1 he]
theorem split_facts {base t : Int} {l : List Int} (h : splitErr base t l = 0) :
    ∃ n : Nat, t = n ∧ n ≤ 5 ∧ radix base ≠ 0 ∧ l.length ≤ 60 ∧ (∀ x ∈ l, 0 ≤ x ∧ x ≤ 7776) ∧ splitOf base t l = (List.range n).map (trackOf (radix base) n l) := by
  have hm : manyErr base t = 0 := by
    unfold splitErr at h; split at h <;> omega
  obtain ⟨r0, t0, t5, p36, hmo⟩ := many_ok hm
  obtain ⟨n, rfl⟩ := Int.eq_ofNat_of_zero_le t0
  unfold splitErr at h
  rw [if_neg (by omega)] at h
  split at h
  · omega
  · rename_i h60
    split at h
    · rename_i hall
      have hx : ∀ x ∈ l, 0 ≤ x ∧ x < manyOf base n := fun x hx => by simpa using List.all_eq_true.1 hall x hx
      refine ⟨n, rfl, by omega, r0, by omega, fun x hx' => ?_, ?_⟩
      · have := hx x hx'; omega
      · exact (splitErr_ok hm h60 (fun i hi => by have := hx _ (List.getElem_mem hi); omega)).2
    · omega
theorem track_ok {base : Int} (hr : radix base ≠ 0) (n : Nat) (l : List Int) (i : Nat) : okDigits base (trackOf (radix base) n l i) := by
  intro x hx
  obtain ⟨y, _, rfl⟩ := List.mem_map.1 hx
  have h2 := radix_two hr
  rw [List.getD_eq_getElem?_getD]
  rcases hy : (unpack (radix base) n y)[i]? with _ | z
  · simp; omega
  · simpa using unpack_ok h2.1 _ _ z (List.mem_of_getElem? hy)
theorem rightWErr_eq (base t : Int) (l : List Int) : rightWErr base t l = splitErr base t l := by
  unfold rightWErr
  by_cases h : splitErr base t l = 0
  · rw [if_neg (by omega), h, firstErr_zero]
    obtain ⟨n, rfl, _, hr, hl, _, hs⟩ := split_facts h
    rw [hs]
    intro r hrm
    obtain ⟨i, _, rfl⟩ := List.mem_map.1 hrm
    exact fault_zero.2 ⟨hr, by simp [trackOf]; omega, track_ok hr n l i⟩
  · rw [if_pos h]
theorem rightWRes_eq {base t : Int} {l : List Int} (h : splitErr base t l = 0) (n : Nat) (ht : t = n) : rightWRes base t l = (List.range n).all fun i => rightOf base (trackOf (radix base) n l i) := by
  obtain ⟨n', h1, _, hr, hl, _, hs⟩ := split_facts h
  obtain rfl : n' = n := by omega
  unfold rightWRes
  rw [rightWErr_eq, h, hs, List.all_map]
  simp only [decide_true, Bool.true_and]
  congr 1
  funext i
  have : digitsFault base (trackOf (radix base) n' l i) = 0 := fault_zero.2 ⟨hr, by simp [trackOf]; omega, track_ok hr n' l i⟩
  simp [rightRes, this]
theorem rightWRes_bad {base t : Int} {l : List Int} (h : splitErr base t l ≠ 0) : rightWRes base t l = false := by
  unfold rightWRes; rw [rightWErr_eq]; simp [h]
theorem nums_bad {base t : Int} {l : List Int} (h : splitErr base t l ≠ 0) : numsErr base t l = splitErr base t l ∧ numsOf base t l = [] := by
  have : numsErr base t l = splitErr base t l := by simp [numsErr, h]
  exact ⟨this, by simp [numsOf, this, h]⟩

set_option maxHeartbeats 4000000 in
set_option maxRecDepth 100000 in
theorem LetterWords_walk (base : Int) (vn : Value) (nums : List Int) (t : Int) (vl : Value) (l : List Int) (w : World) (_hb : I64 base) (hn : Ints (· < w.heap.size) w vn nums) (_ht : I64 t) (hl : Ints (· < w.heap.size) w vl l) (hg : errCell w) :
    Calls Tryd.prog 5 #[.int .i64 base, vn, .int .i64 t, vl] w (Ret (.bool true) w) := by
  have Hn := Lib.hid hn
  have Hl := Lib.hid hl
  have Hg := Lib.hid hg
  obtain ⟨pn, cn, rfl⟩ := hn.form
  obtain ⟨pl, cl, rfl⟩ := hl.form
  clear hn hl hg _hb _ht
  go_enter Tryd.func5, Tryd.ntmps5
  go_wp2_with fail
  refine (Word_calls _ _ _ _ _ (fun b hb => hb) Hn.out).mono ?_
  rintro e w1 ⟨_, rfl, ⟨x1, l1, rfl, hl1, hi1⟩, hb1⟩
  have HB1 := Lib.hid hb1
  obtain ⟨p1, c1, rfl⟩ := hl1.form
  have Hl1 := Lib.hid hl1
  clear hl1 hb1
  go_wp2_with fail
  refine (RWordOf_calls _ _ _ _ _ (fun b hb => Nat.lt_of_lt_of_le hb HB1.out.size) (Hn.out.under HB1.out)).mono ?_
  rintro e w2 ⟨_, rfl, ⟨x2, l2, rfl, hl2, hi2⟩, hb2⟩
  obtain rfl := word_same hi1 hi2
  have HB2 := Lib.hid (HB1.out.trans (hb2.mono HB1.out.size))
  obtain ⟨p2, c2, rfl⟩ := hl2.form
  have Hl2 := Lib.hid hl2
  have Hl1' := Lib.hid (Hl1.out.below hb2 (S' := fun _ => True) (fun _ _ _ => trivial))
  clear hl2 hb2 hi1 hi2 HB1 Hl1
  go_wp2_with fail
  refine (Error_calls _ _ _ (Hg.out.below HB2.out)).mono ?_
  rintro e w3 ⟨rfl, hw3⟩
  rw [beq_self_int]
  have HB3 := Lib.hid (HB2.out.trans (hw3.mono HB2.out.size))
  have Hl1 := Lib.hid (Hl1'.out.below hw3 (S' := fun _ => True) (fun _ _ _ => trivial))
  have Hl2' := Lib.hid (Hl2.out.below hw3 (S' := fun _ => True) (fun _ _ _ => trivial))
  clear hw3 Hl1' Hl2 HB2
  go_wp2_with fail
  refine (Ints_calls _ _ _ _ l1 l1 _ Hl1.out Hl2'.out).mono ?_
  rintro e w4 ⟨rfl, hw4⟩
  simp only [decide_true]
  have HB4 := Lib.hid (HB3.out.trans (hw4.mono HB3.out.size))
  clear hw4 Hl1 Hl2' HB3
  go_wp2_with fail
  refine (RWordFault_calls _ _ _ _ _ _ (Hl.out.under HB4.out)).mono ?_
  rintro e w' ⟨rfl, rfl⟩
  go_wp2_with fail
  refine (LRight_calls _ _ _ _ _ _ (fun b hb => Nat.lt_of_lt_of_le hb HB4.out.size) (Hl.out.under HB4.out)).mono ?_
  rintro e w5 ⟨rfl, hw5⟩
  rw [rightWErr_eq]
  have HB5 := Lib.hid (HB4.out.trans (hw5.mono HB4.out.size))
  clear hw5 HB4
  go_wp2_with fail
  refine (Error_calls _ _ _ (Hg.out.below HB5.out)).mono ?_
  rintro e w6 ⟨rfl, hw6⟩
  rw [beq_self_int]
  have HB6 := Lib.hid (HB5.out.trans (hw6.mono HB5.out.size))
  clear hw6 HB5
  by_cases h0 : splitErr base t l = 0
  · obtain ⟨n, rfl, hn5, hr, hl60, hx, hs⟩ := split_facts h0
    have Hr := Lib.hid hr
    have Hx := Lib.hid hx
    have HRR := Lib.hid (rightWRes_eq h0 n rfl)
    have HN := Lib.hid (show numsErr base n l = firstErr (valErr base) (splitOf base n l) by simp [numsErr, h0])
    have HNo := Lib.hid (show numsErr base n l = 0 → numsOf base n l = (splitOf base n l).map (valOf base) by intro h; simp [numsOf, h])
    have HNz := Lib.hid (show numsErr base n l ≠ 0 → numsOf base n l = [] by intro h; simp [numsOf, h])
    rw [h0]
    rw [HRR.out]
    generalize hres : ((List.range n).all fun i => rightOf base (trackOf (radix base) n l i)) = res at *
    have Hres := Lib.hid hres
    have hrr : (res != res) = false := by simp
    clear h0 hr hx hres HRR
    go_wp2_with fail
    refine (RRightWord_calls _ base n _ l _ Hr.out hn5 (by omega) Hx.out (fun b hb => Nat.lt_of_lt_of_le hb HB6.out.size) (Hl.out.under HB6.out)).mono ?_
    rintro e w7 ⟨rfl, hw7⟩
    rw [Hres.out]
    have HB7 := Lib.hid (HB6.out.trans (hw7.mono HB6.out.size))
    clear hw7 HB6
    generalize hR : splitOf base n l = R at *
    have hRl : R.length = n := by rw [hs]; simp
    have HRi := Lib.hid (show ∀ i (hi : i < R.length), R[i] = trackOf (radix base) n l i from fun i hi => by simp [hs])
    have HRl := Lib.hid hRl
    clear hR hs hRl
    obtain ⟨wo, rfl⟩ : ∃ wo : World, wo = w7 := ⟨_, rfl⟩
    go_wp2_with fail
    go_loopw [12, 16, 17] (fun e out i wr => ∃ (k : Nat) (a : Option Addr) (m c : Nat), k ≤ n ∧ i = .int .i64 k ∧ out = .slice a m c ∧
        ((e = .int .i64 0 ∧ Hid (∀ i (hi : i < R.length), i < k → valErr base R[i] = 0) ∧ m = k ∧ Hid (wr.ownsRow wo.heap.size 3 1 (.slice a m c) k (((R.take k).map (valOf base)).map (Value.int .i64)))) ∨
         (e = .int .i64 (numsErr base n l) ∧ Hid (numsErr base n l ≠ 0))) ∧ Hid (Below wo.heap.size wo wr)) (fun _ _ i _ => n - (intOf i).toNat)
    case atStart => exact ⟨0, none, 0, 0, by omega, rfl, rfl, .inl ⟨rfl, fun i hi h => by omega, rfl, World.ownsRow_nil _ _ _ _⟩, Below.refl _ _⟩
    case round =>
      obtain ⟨k, a, m, c, hk, rfl, rfl, hst, HBe⟩ := hrel
      have HB8 := Lib.hid (HB7.out.trans (HBe.out.mono HB7.out.size))
      rcases hst with ⟨rfl, HA, rfl, HO⟩ | ⟨rfl, HE⟩
      · by_cases hlt : m < n
        · go_wp2_with fail
          refine (RTrackOf_calls _ base n _ l m _ Hr.out hn5 hlt (by omega) Hx.out (fun b hb => Nat.lt_of_lt_of_le hb HB8.out.size) (Hl.out.under HB8.out)).mono ?_
          rintro e w9 ⟨x9, rfl, hx9, hb9⟩
          have HB9 := Lib.hid (HBe.out.trans (hb9.mono HBe.out.size))
          have Hx9 := Lib.hid (show Ints (· < w9.heap.size) w9 x9 (trackOf (radix base) n l m) from hx9.keep fun b _ hlt => ⟨rfl, hlt⟩)
          have hown9 := own_below HO.out hb9
          clear hx9 hb9
          go_wp2_with fail
          refine (RValue_calls _ _ _ _ _ (fun b hb => hb) Hx9.out).mono ?_
          rintro e w10 ⟨rfl, hb10⟩
          rw [← HRi.out m (by have := HRl.out; omega)]
          have HB10 := Lib.hid (HB9.out.trans (hb10.mono HB9.out.size))
          have hown10 := own_below hown9 hb10
          have Hst := Lib.hid (show (R.take (m + 1)).map (valOf base) = (R.take m).map (valOf base) ++ [valOf base (R[m]'(by have := HRl.out; omega))] by
            rw [List.take_succ_eq_append_getElem (by have := HRl.out; omega), List.map_append]; rfl)
          generalize hXS : ((R.take m).map (valOf base)).map (Value.int .i64) = XS at hown10
          have HXS := Lib.hid hXS
          clear hb10 hown9 hXS
          go_wp2_with (at_builtin; go_loud (refine appInt rfl _ _ rfl wo.heap.size _ _ _ rfl hown10 _ rfl rfl ?c1 HB10.out.size ?_))
          case c1 => omega
          intro v' w' hown' hgrow _
          have HBn := Lib.hid (HB10.out.grown hgrow HB10.out.size (fun k hk => (hown10.lt k hk).1))
          have hnew : w'.ownsRow wo.heap.size 3 1 v' (m + 1) (((R.take (m + 1)).map (valOf base)).map (Value.int .i64)) := by
            rw [Hst.out, List.map_append, HXS.out]; exact hown'
          obtain ⟨pv, cv, rfl⟩ := own_form hown'
          have Hnew := Lib.hid hnew
          clear hown' hgrow hown10 hnew
          by_cases hv : valErr base (R[m]'(by have := HRl.out; omega)) = 0
          · have Hv := Lib.hid hv
            rw [hv]
            clear hv
            go_wp2_with fail
            go_roundw
            case rel =>
              refine ⟨m + 1, pv, m + 1, cv, by omega, by go_num, rfl, .inl ⟨rfl, fun i hi h => ?_, rfl, Hnew.out⟩, HBn.out⟩
              by_cases e : i < m
              · exact HA.out i hi e
              · obtain rfl : i = m := by omega
                exact Hv.out
            case measure => (simp [intOf] <;> omega)
          · have hne := firstErr_at (f := valErr base) (l := R) (k := m) (by have := HRl.out; omega) HA.out hv
            have Hne := Lib.hid (show numsErr base n l = valErr base (R[m]'(by have := HRl.out; omega)) ∧ numsErr base n l ≠ 0 by rw [HN.out, hne]; exact ⟨rfl, hv⟩)
            rw [← Hne.out.1]
            clear hv hne
            go_wp2_with fail
            go_roundw
            case rel => exact ⟨m + 1, pv, m + 1, cv, by omega, by go_num, rfl, .inr ⟨rfl, Hne.out.2⟩, HBn.out⟩
            case measure => (simp [intOf] <;> omega)
        · obtain rfl : m = n := by omega
          have hz : numsErr base m l = 0 := by
            rw [HN.out, firstErr_zero]
            intro r hr
            obtain ⟨i, hi, rfl⟩ := List.mem_iff_getElem.1 hr
            exact HA.out i hi (by have := HRl.out; omega)
          have HZ := Lib.hid (And.intro hz (HNo.out hz))
          have ho := HO.out
          rw [List.take_of_length_le (by have := HRl.out; omega)] at ho
          have HoI := Lib.hid (show Ints (· < wr.heap.size) wr (.slice a m c) (R.map (valOf base)) from (Ints.of_own ho (by have := HRl.out; simp; omega) (fun x hx => by
            obtain ⟨y, _, rfl⟩ := List.mem_map.1 hx
            have := valOf_bd base y
            exact ⟨by omega, by omega⟩)).keep fun b _ hlt => ⟨rfl, hlt⟩)
          clear hz ho
          go_wp2_with fail
          refine (Nums_calls _ _ _ _ _ _ (fun b hb => Nat.lt_of_lt_of_le hb HB8.out.size) (Hl.out.under HB8.out)).mono ?_
          rintro e w9 ⟨_, rfl, ⟨x9, rfl, hx9⟩, hb9⟩
          rw [HZ.out.1]
          rw [HZ.out.2] at hx9
          have HB9 := Lib.hid (HB8.out.trans (hb9.mono HB8.out.size))
          have HoI9 := Lib.hid (HoI.out.below hb9 (S' := fun _ => True) (fun _ _ _ => trivial))
          have Hx9 := Lib.hid hx9
          clear hx9 hb9
          go_wp2_with fail
          refine (Error_calls _ _ _ (Hg.out.below HB9.out)).mono ?_
          rintro e w10 ⟨rfl, hw10⟩
          rw [beq_self_int]
          have HB10 := Lib.hid (HB9.out.trans (hw10.mono HB9.out.size))
          have HoI10 := Lib.hid (HoI9.out.below hw10 (S' := fun _ => True) (fun _ _ _ => trivial))
          have Hx10 := Lib.hid (Hx9.out.below hw10 (S' := fun _ => True) (fun _ _ _ => trivial))
          clear hw10
          go_wp2_with fail
          refine (Ints_calls _ _ _ _ _ _ _ Hx10.out HoI10.out).mono ?_
          rintro e w11 ⟨rfl, hw11⟩
          simp only [decide_true]
          have HB11 := Lib.hid (HB10.out.trans (hw11.mono HB10.out.size))
          clear hw11
          go_wp2
          go_ret
          exact Ret.mk rfl HB11.out
      · have HZ := Lib.hid (HNz.out HE.out)
        have hne0 : (numsErr base n l == 0) = false := by simpa using HE.out
        have hne1 : (numsErr base n l != 0) = true := by simpa using HE.out
        by_cases c0 : (k : Int) < n
        all_goals
          go_wp2_with fail
          refine (Nums_calls _ _ _ _ _ _ (fun b hb => Nat.lt_of_lt_of_le hb HB8.out.size) (Hl.out.under HB8.out)).mono ?_
          rintro e w9 ⟨_, rfl, ⟨x9, rfl, hx9⟩, hb9⟩
          rw [HZ.out] at hx9
          have HB9 := Lib.hid (HB8.out.trans (hb9.mono HB8.out.size))
          have Hx9 := Lib.hid hx9
          clear hx9 hb9
          go_wp2_with fail
          refine (Error_calls _ _ _ (Hg.out.below HB9.out)).mono ?_
          rintro e w10 ⟨rfl, hw10⟩
          rw [beq_self_int]
          have HB10 := Lib.hid (HB9.out.trans (hw10.mono HB9.out.size))
          have Hx10 := Lib.hid (Hx9.out.below hw10 (S' := fun _ => True) (fun _ _ _ => trivial))
          clear hw10
          go_wp2_with fail
          refine (Ints_calls _ _ _ _ _ _ _ Hx10.out (Sl.nil isInt (fun _ => True) _)).mono ?_
          rintro e w11 ⟨rfl, hw11⟩
          simp only [decide_true]
          have HB11 := Lib.hid (HB10.out.trans (hw11.mono HB10.out.size))
          clear hw11
          go_wp2
          go_ret
          exact Ret.mk rfl HB11.out
  · have HZ := Lib.hid (nums_bad h0)
    have hne0 : (splitErr base t l == 0) = false := by simpa using h0
    have hne1 : (splitErr base t l != 0) = true := by simpa using h0
    rw [rightWRes_bad h0]
    clear h0
    go_wp2_with fail
    obtain ⟨wo, rfl⟩ : ∃ wo : World, wo = w6 := ⟨_, rfl⟩
    go_loopw [12, 16, 17] (fun e out i wr => e = .int .i64 (splitErr base t l) ∧ out = .slice none 0 0 ∧ i = .int .i64 0 ∧ wr = wo) (fun _ _ _ _ => 0)
    case atStart => exact ⟨rfl, rfl, rfl, rfl⟩
    case round =>
      obtain ⟨rfl, rfl, rfl, rfl⟩ := hrel
      by_cases c0 : (0 : Int) < t
      all_goals
        go_wp2_with fail
        refine (Nums_calls _ _ _ _ _ _ (fun b hb => Nat.lt_of_lt_of_le hb HB6.out.size) (Hl.out.under HB6.out)).mono ?_
        rintro e w9 ⟨_, rfl, ⟨x9, rfl, hx9⟩, hb9⟩
        rw [HZ.out.1]
        rw [HZ.out.2] at hx9
        have HB9 := Lib.hid (HB6.out.trans (hb9.mono HB6.out.size))
        have Hx9 := Lib.hid hx9
        clear hx9 hb9
        go_wp2_with fail
        refine (Error_calls _ _ _ (Hg.out.below HB9.out)).mono ?_
        rintro e w10 ⟨rfl, hw10⟩
        rw [beq_self_int]
        have HB10 := Lib.hid (HB9.out.trans (hw10.mono HB9.out.size))
        have Hx10 := Lib.hid (Hx9.out.below hw10 (S' := fun _ => True) (fun _ _ _ => trivial))
        clear hw10
        go_wp2_with fail
        refine (Ints_calls _ _ _ _ _ _ _ Hx10.out (Sl.nil isInt (fun _ => True) _)).mono ?_
        rintro e w11 ⟨rfl, hw11⟩
        simp only [decide_true]
        have HB11 := Lib.hid (HB10.out.trans (hw11.mono HB10.out.size))
        clear hw11
        go_wp2
        go_ret
        exact Ret.mk rfl HB11.out
end Go.Proofs.YtgglhdbhemcijaaDoor
