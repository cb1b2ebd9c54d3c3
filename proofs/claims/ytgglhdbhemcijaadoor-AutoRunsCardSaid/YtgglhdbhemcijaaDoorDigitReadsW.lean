/- The walk of DigitReads: it returns true. Condition: what the laid variable holds. -/
import Derived.Test.YtgglhdbhemcijaaDoorRefE
import Derived.Test.YtgglhdbhemcijaaDoorTold
namespace Go.Proofs.YtgglhdbhemcijaaDoor
open Go.RowKit

theorem beq_self_int (e : Int) : (e == e) = true := by simp

set_option maxHeartbeats 4000000 in
set_option maxRecDepth 100000 in
theorem DigitReads_walk (base n : Int) (vd : Value) (d : List Int) (vo : Value) (o : List Int) (w : World) (_hb : I64 base) (_hn : I64 n) (hd : Ints (· < w.heap.size) w vd d) (ho : Ints (· < w.heap.size) w vo o) (hg : errCell w) :
    Calls Tryd.prog 3 #[.int .i64 base, .int .i64 n, vd, vo] w (Ret (.bool true) w) := by
  have Hd := Lib.hid hd
  have Ho := Lib.hid ho
  have Hg := Lib.hid hg
  obtain ⟨pd, cd, rfl⟩ := hd.form
  obtain ⟨po, co, rfl⟩ := ho.form
  clear hd ho hg _hb _hn
  go_enter Tryd.func3, Tryd.ntmps3
  go_wp2_with fail
  refine (Of_calls _ _ _).mono ?_
  rintro e w1 ⟨_, rfl, ⟨x1, l1, rfl, hl1, ha1, hb1⟩, hw1⟩
  have HB1 := Lib.hid hw1
  obtain ⟨p1, c1, rfl⟩ := hl1.form
  have Hl1 := Lib.hid hl1
  have Hof1 := Lib.hid (And.intro ha1 hb1)
  clear hl1 hw1 ha1 hb1
  go_wp2_with fail
  refine (ROf_calls _ _ _).mono ?_
  rintro e w2 ⟨_, rfl, ⟨x2, l2, rfl, hl2, ha2, hb2⟩, hw2⟩
  obtain rfl := of_same Hof1.out.1 Hof1.out.2 ha2 hb2
  have HB2 := Lib.hid (HB1.out.trans (hw2.mono HB1.out.size))
  obtain ⟨p2, c2, rfl⟩ := hl2.form
  have Hl2 := Lib.hid hl2
  have Hl1' := Lib.hid (Hl1.out.below hw2 (S' := fun _ => True) (fun _ _ _ => trivial))
  clear hl2 hw2 ha2 hb2 Hof1 HB1 Hl1
  go_wp2_with fail
  refine (Error_calls _ _ _ (Hg.out.below HB2.out)).mono ?_
  rintro e w3 ⟨rfl, hw3⟩
  rw [beq_self_int]
  have HB3 := Lib.hid (HB2.out.trans (hw3.mono HB2.out.size))
  have Hl1 := Lib.hid (Hl1'.out.below hw3 (S' := fun _ => True) (fun _ _ _ => trivial))
  have Hl2' := Lib.hid (Hl2.out.below hw3 (S' := fun _ => True) (fun _ _ _ => trivial))
  clear hw3 Hl1' Hl2 HB2
  go_wp2_with fail
  refine (Ints_calls _ _ _ _ l1 l1 _ Hl1.out Hl2'.out).mono ?_
  rintro e w4 ⟨rfl, hw4⟩
  simp only [decide_true]
  have HB4 := Lib.hid (HB3.out.trans (hw4.mono HB3.out.size))
  clear hw4 Hl1 Hl2' HB3
  go_wp2_with fail
  refine (RFault_calls _ _ _ _ _ (Hd.out.under HB4.out)).mono ?_
  rintro e w' ⟨rfl, rfl⟩
  go_wp2_with fail
  refine (Right_calls _ _ _ _ _ (Hd.out.under HB4.out)).mono ?_
  rintro e w' ⟨rfl, rfl⟩
  go_wp2_with fail
  refine (Error_calls _ _ _ (Hg.out.below HB4.out)).mono ?_
  rintro e w5 ⟨rfl, hw5⟩
  rw [beq_self_int]
  have HB5 := Lib.hid (HB4.out.trans (hw5.mono HB4.out.size))
  clear hw5 HB4
  have hrr : rightRes base d = (decide (digitsFault base d = 0) && rightOf base d) := by unfold rightRes; simp
  have Hfin := Lib.hid (show (valErr base d = 0 → lessErr base d o = valErr base o) ∧ (valErr base d ≠ 0 → lessErr base d o = valErr base d) ∧ lessRes base d o = (decide (valErr base d = 0) && (decide (valErr base o = 0) && decide (valOf base d < valOf base o))) from
    ⟨fun h => by simp [lessErr, h], fun h => by simp [lessErr, h], by simp [lessRes]⟩)
  by_cases h0 : digitsFault base d = 0
  · have e0 : (digitsFault base d == 0) = true := by simp [h0]
    have Hrr := Lib.hid (show rightRes base d = rightOf base d by rw [hrr]; simp [h0])
    rw [Hrr.out]
    have hxx : (rightOf base d != rightOf base d) = false := by simp
    clear h0 hrr
    go_wp2_with fail
    refine (RRight_calls _ _ _ _ _ (Hd.out.under HB5.out)).mono ?_
    rintro e w' ⟨rfl, rfl⟩
    go_wp2_with fail
    refine (RValue_calls _ _ _ _ _ (fun b hb => Nat.lt_of_lt_of_le hb HB5.out.size) (Hd.out.under HB5.out)).mono ?_
    rintro e w6 ⟨rfl, hw6⟩
    have HB6 := Lib.hid (HB5.out.trans (hw6.mono HB5.out.size))
    clear hw6 HB5
    go_wp2_with fail
    refine (Value_calls _ _ _ _ _ (Hd.out.under HB6.out)).mono ?_
    rintro e w' ⟨rfl, rfl⟩
    go_wp2_with fail
    refine (Error_calls _ _ _ (Hg.out.below HB6.out)).mono ?_
    rintro e w7 ⟨rfl, hw7⟩
    rw [beq_self_int]
    have HB7 := Lib.hid (HB6.out.trans (hw7.mono HB6.out.size))
    clear hw7 HB6
    have hvv : (valOf base d != valOf base d) = false := by simp
    go_wp2_with fail
    refine (RValue_calls _ _ _ _ _ (fun b hb => Nat.lt_of_lt_of_le hb HB7.out.size) (Ho.out.under HB7.out)).mono ?_
    rintro e w8 ⟨rfl, hw8⟩
    have HB8 := Lib.hid (HB7.out.trans (hw8.mono HB7.out.size))
    clear hw8 HB7
    go_wp2_with fail
    refine (Less_calls _ _ _ _ _ _ _ _ (Hd.out.under HB8.out) (Ho.out.under HB8.out)).mono ?_
    rintro e w' ⟨rfl, rfl⟩
    by_cases h1 : valErr base d = 0
    · have e1 : (valErr base d == 0) = true := by simp [h1]
      have Hl := Lib.hid (Hfin.out.1 h1)
      have Hr := Lib.hid (show lessRes base d o = (decide (valErr base o = 0) && decide (valOf base d < valOf base o)) by rw [Hfin.out.2.2]; simp [h1])
      rw [Hl.out]
      clear h1
      go_wp2_with fail
      refine (Error_calls _ _ _ (Hg.out.below HB8.out)).mono ?_
      rintro e w9 ⟨rfl, hw9⟩
      rw [beq_self_int]
      have HB9 := Lib.hid (HB8.out.trans (hw9.mono HB8.out.size))
      clear hw9 HB8
      by_cases h2 : valErr base o = 0
      · have e2 : (valErr base o == 0) = true := by simp [h2]
        by_cases h3 : valOf base d < valOf base o
        · have Hr2 := Lib.hid (show lessRes base d o = true by rw [Hr.out]; simp [h2, h3])
          rw [Hr2.out]
          clear h2
          go_wp2
          go_ret
          exact Ret.mk rfl HB9.out
        · have Hr2 := Lib.hid (show lessRes base d o = false by rw [Hr.out]; simp [h2]; omega)
          rw [Hr2.out]
          have H3 := Lib.hid (decide_eq_false h3)
          clear h2
          go_wp2
          go_ret
          exact Ret.mk (by show Value.bool (!decide _) = _; rw [H3.out]; rfl) HB9.out
      · have e2 : (valErr base o == 0) = false := by simp [h2]
        have Hr2 := Lib.hid (show lessRes base d o = false by rw [Hr.out]; simp [h2])
        rw [Hr2.out]
        clear h2
        go_wp2
        go_ret
        exact Ret.mk rfl HB9.out
    · have e1 : (valErr base d == 0) = false := by simp [h1]
      have Hl := Lib.hid (Hfin.out.2.1 h1)
      have Hr := Lib.hid (show lessRes base d o = false by rw [Hfin.out.2.2]; simp [h1])
      rw [Hl.out, Hr.out]
      clear h1
      go_wp2_with fail
      refine (Error_calls _ _ _ (Hg.out.below HB8.out)).mono ?_
      rintro e w9 ⟨rfl, hw9⟩
      rw [beq_self_int]
      have HB9 := Lib.hid (HB8.out.trans (hw9.mono HB8.out.size))
      clear hw9 HB8
      go_wp2
      go_ret
      exact Ret.mk rfl HB9.out
  · have e0 : (digitsFault base d == 0) = false := by simp [h0]
    have Hrr := Lib.hid (show rightRes base d = false by rw [hrr]; simp [h0])
    rw [Hrr.out]
    clear h0 hrr
    go_wp2_with fail
    refine (RValue_calls _ _ _ _ _ (fun b hb => Nat.lt_of_lt_of_le hb HB5.out.size) (Hd.out.under HB5.out)).mono ?_
    rintro e w6 ⟨rfl, hw6⟩
    have HB6 := Lib.hid (HB5.out.trans (hw6.mono HB5.out.size))
    clear hw6 HB5
    go_wp2_with fail
    refine (Value_calls _ _ _ _ _ (Hd.out.under HB6.out)).mono ?_
    rintro e w' ⟨rfl, rfl⟩
    go_wp2_with fail
    refine (Error_calls _ _ _ (Hg.out.below HB6.out)).mono ?_
    rintro e w7 ⟨rfl, hw7⟩
    rw [beq_self_int]
    have HB7 := Lib.hid (HB6.out.trans (hw7.mono HB6.out.size))
    clear hw7 HB6
    have hvv : (valOf base d != valOf base d) = false := by simp
    go_wp2_with fail
    refine (RValue_calls _ _ _ _ _ (fun b hb => Nat.lt_of_lt_of_le hb HB7.out.size) (Ho.out.under HB7.out)).mono ?_
    rintro e w8 ⟨rfl, hw8⟩
    have HB8 := Lib.hid (HB7.out.trans (hw8.mono HB7.out.size))
    clear hw8 HB7
    go_wp2_with fail
    refine (Less_calls _ _ _ _ _ _ _ _ (Hd.out.under HB8.out) (Ho.out.under HB8.out)).mono ?_
    rintro e w' ⟨rfl, rfl⟩
    by_cases h1 : valErr base d = 0
    · have e1 : (valErr base d == 0) = true := by simp [h1]
      have Hl := Lib.hid (Hfin.out.1 h1)
      have Hr := Lib.hid (show lessRes base d o = (decide (valErr base o = 0) && decide (valOf base d < valOf base o)) by rw [Hfin.out.2.2]; simp [h1])
      rw [Hl.out]
      clear h1
      go_wp2_with fail
      refine (Error_calls _ _ _ (Hg.out.below HB8.out)).mono ?_
      rintro e w9 ⟨rfl, hw9⟩
      rw [beq_self_int]
      have HB9 := Lib.hid (HB8.out.trans (hw9.mono HB8.out.size))
      clear hw9 HB8
      by_cases h2 : valErr base o = 0
      · have e2 : (valErr base o == 0) = true := by simp [h2]
        by_cases h3 : valOf base d < valOf base o
        · have Hr2 := Lib.hid (show lessRes base d o = true by rw [Hr.out]; simp [h2, h3])
          rw [Hr2.out]
          clear h2
          go_wp2
          go_ret
          exact Ret.mk rfl HB9.out
        · have Hr2 := Lib.hid (show lessRes base d o = false by rw [Hr.out]; simp [h2]; omega)
          rw [Hr2.out]
          have H3 := Lib.hid (decide_eq_false h3)
          clear h2
          go_wp2
          go_ret
          exact Ret.mk (by show Value.bool (!decide _) = _; rw [H3.out]; rfl) HB9.out
      · have e2 : (valErr base o == 0) = false := by simp [h2]
        have Hr2 := Lib.hid (show lessRes base d o = false by rw [Hr.out]; simp [h2])
        rw [Hr2.out]
        clear h2
        go_wp2
        go_ret
        exact Ret.mk rfl HB9.out
    · have e1 : (valErr base d == 0) = false := by simp [h1]
      have Hl := Lib.hid (Hfin.out.2.1 h1)
      have Hr := Lib.hid (show lessRes base d o = false by rw [Hfin.out.2.2]; simp [h1])
      rw [Hl.out, Hr.out]
      clear h1
      go_wp2_with fail
      refine (Error_calls _ _ _ (Hg.out.below HB8.out)).mono ?_
      rintro e w9 ⟨rfl, hw9⟩
      rw [beq_self_int]
      have HB9 := Lib.hid (HB8.out.trans (hw9.mono HB8.out.size))
      clear hw9 HB8
      go_wp2
      go_ret
      exact Ret.mk rfl HB9.out
end Go.Proofs.YtgglhdbhemcijaaDoor
