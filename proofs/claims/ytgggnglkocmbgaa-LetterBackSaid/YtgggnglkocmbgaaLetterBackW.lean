/- The walk of LetterBack: it returns true. No conditions but that the value reads as a list. -/
import Derived.Test.YtgggnglkocmbgaaLetterW
import Derived.Test.YtgggnglkocmbgaaLetterN
namespace Go.Proofs.Ytgggnglkocmbgaa
open Go.RowKit

theorem word_back {base : Int} {nums l : List Int} (he : wordErr base nums = 0) (hw : WordIs base nums l) :
    numsErr base nums.length l = 0 ∧ numsOf base nums.length l = nums ∧ rightWErr base nums.length l = 0 ∧ rightWRes base nums.length l = true ∧ (∀ h : 0 < l.length, l[0] ≠ 0) ∧ l.length ≤ 58 := by
  obtain ⟨rows, hr, rfl⟩ := hw.2 he
  have hm : manyErr base nums.length = 0 := by
    unfold wordErr at he; split at he <;> omega
  have hall : ∀ x ∈ nums, 0 ≤ x ∧ x ≤ 1099511627776 := by
    unfold wordErr at he
    rw [if_neg (by omega)] at he
    split at he
    · rename_i h
      intro x hx
      simpa [okNum] using List.all_eq_true.1 h x hx
    · omega
  obtain ⟨r0, _, _, _, hmo⟩ := many_ok hm
  simp only [Int.toNat_natCast] at hmo
  obtain ⟨hrl, hri⟩ := hr
  have hofs : ∀ d ∈ rows, ∃ n ∈ nums, IsOf base n d := by
    intro d hd
    obtain ⟨i, hi, rfl⟩ := List.mem_iff_getElem.1 hd
    exact ⟨_, List.getElem_mem (by omega), hri i (by omega) hi⟩
  have hok : ∀ d ∈ rows, okDigits base d := fun d hd => by obtain ⟨n, _, h⟩ := hofs d hd; exact h.ok
  have hlong : longest rows ≤ 58 := by
    rcases longest_mem rows with h | ⟨d, hd, h⟩
    · omega
    · obtain ⟨n, hn, ho⟩ := hofs d hd
      rw [← h]; exact ho.len r0 (hall n hn).2
  have hlen : (wordRows (radix base) (longest rows) rows).length = longest rows := by simp [wordRows]
  have hs := splitErr_ok (base := base) (t := nums.length) (l := wordRows (radix base) (longest rows) rows) hm (by omega) (fun i hi => by
    have := wordRows_letters r0 hok (longest rows) _ (List.getElem_mem hi)
    rw [hmo, ← hrl]; omega)
  have hsp : splitOf base nums.length (wordRows (radix base) (longest rows) rows) = rows.map (pad (longest rows)) := by
    rw [hs.2]
    simp only [Int.toNat_natCast]
    apply List.ext_getElem
    · simp [hrl]
    · intro i h1 h2
      have hi : i < rows.length := by simpa using h2
      have := trackOf_wordRows r0 hok i hi
      rw [hrl] at this
      simp [this]
  have hpf : ∀ i (hi : i < rows.length), digitsFault base (pad (longest rows) rows[i]) = 0 := fun i hi =>
    fault_zero.2 ⟨r0, by rw [pad_length (longest_ge (List.getElem_mem hi))]; omega, pad_ok r0 (hok _ (List.getElem_mem hi))⟩
  have hpv : ∀ i (hi : i < rows.length), valErr base (pad (longest rows) rows[i]) = 0 ∧ valOf base (pad (longest rows) rows[i]) = nums[i]'(by omega) := fun i hi => by
    have ho := hri i (by omega) hi
    have := valErr_ok (hpf i hi) (by rw [pad_val, ho.val]; exact (hall _ (List.getElem_mem _)).2)
    rw [pad_val, ho.val] at this
    exact this
  have hne : numsErr base nums.length (wordRows (radix base) (longest rows) rows) = 0 := by
    unfold numsErr
    rw [if_neg (by rw [hs.1]; decide), hsp, firstErr_zero]
    intro r hr
    obtain ⟨d, hd, rfl⟩ := List.mem_map.1 hr
    obtain ⟨i, hi, rfl⟩ := List.mem_iff_getElem.1 hd
    exact (hpv i hi).1
  have hre : rightWErr base nums.length (wordRows (radix base) (longest rows) rows) = 0 := by
    unfold rightWErr
    rw [if_neg (by rw [hs.1]; decide), hsp, firstErr_zero]
    intro r hr
    obtain ⟨d, hd, rfl⟩ := List.mem_map.1 hr
    obtain ⟨i, hi, rfl⟩ := List.mem_iff_getElem.1 hd
    exact hpf i hi
  refine ⟨hne, ?_, hre, ?_, ?_, by omega⟩
  · unfold numsOf
    rw [if_pos hne, hsp]
    apply List.ext_getElem
    · simp [hrl]
    · intro i h1 h2
      have hi : i < rows.length := by omega
      simp [(hpv i hi).2]
  · unfold rightWRes
    rw [hre, hsp]
    simp only [decide_true, Bool.true_and]
    rw [List.all_eq_true]
    intro r hr
    obtain ⟨d, hd, rfl⟩ := List.mem_map.1 hr
    obtain ⟨i, hi, rfl⟩ := List.mem_iff_getElem.1 hd
    unfold rightRes
    rw [decide_eq_true_iff]
    exact ⟨hpf i hi, pad_right (hri i (by omega) hi).right⟩
  · intro h
    exact wordRows_lead r0 hok (fun d hd => by obtain ⟨n, _, ho⟩ := hofs d hd; exact ho.lead) h

theorem isOf_one : IsOf 2 1 [1] := ⟨by unfold okDigits; decide, by decide, by unfold noLead; decide, by decide⟩
theorem isOf_four : IsOf 2 4 [1, 0, 0] := ⟨by unfold okDigits; decide, by decide, by unfold noLead; decide, by decide⟩
theorem wordErr_fact : wordErr 2 [1, 4] = 0 := by decide
theorem word_fact {l : List Int} (h : WordIs 2 [1, 4] l) : l = [1, 0, 2] := by
  obtain ⟨rows, ⟨h1, h2⟩, rfl⟩ := h.2 wordErr_fact
  match rows, h1 with
  | [a, b], _ =>
    have ha := (h2 0 (by simp) (by simp)).unique (by decide) isOf_one
    have hb := (h2 1 (by simp) (by simp)).unique (by decide) isOf_four
    simp at ha hb
    subst ha hb
    decide

set_option maxHeartbeats 2000000 in
set_option maxRecDepth 100000 in
theorem LetterBack_walk (base : Int) (v : Value) (nums : List Int) (w : World) (_hb : I64 base) (hd : Ints (· < w.heap.size) w v nums) :
    Calls Try.prog 11 #[.int .i64 base, v] w (Ret (.bool true) w) := by
  have Hd := Lib.hid hd
  obtain ⟨pa, ca, rfl⟩ := hd.form
  clear hd _hb
  go_enter Try.func11, Try.ntmps11
  go_wp2_with fail
  refine (Word_calls (· < w.heap.size + 1) 2 _ [1, 4] _ (fun b hb => by simpa using hb) ((Ints.lit [1, 4] (by simp) (by simp [I64])).keep fun b hb hlt => ⟨rfl, by simpa using hlt⟩)).mono ?_
  rintro e w1 ⟨_, rfl, ⟨x1, l1, rfl, hl1, hw1⟩, hb1⟩
  rw [wordErr_fact, errV_zero]
  obtain rfl := word_fact hw1
  have HB1 := Lib.hid (((Below.refl w.heap.size w).alloc (Nat.le_refl _) _).trans (hb1.mono (by simp)))
  have HL1 := Lib.hid hl1
  clear hb1 hl1 hw1
  go_wp2_with fail
  refine (Ints_calls _ _ _ _ [1, 0, 2] [1, 0, 2] _ (HL1.out.below ((Below.refl _ _).alloc (Nat.le_refl _) _) (S' := fun _ => True) (fun _ _ _ => trivial)) (Ints.lit [1, 0, 2] (by simp) (by simp [I64]))).mono ?_
  rintro e w2 ⟨rfl, hb2⟩
  simp only [decide_true]
  have HB2 := Lib.hid ((HB1.out.alloc HB1.out.size _).trans (hb2.mono (by have := HB1.out.size; simp; omega)))
  have Hd2 := Lib.hid (Hd.out.under HB2.out)
  clear hb2 HL1 HB1
  go_wp2_with fail
  refine (Word_calls _ base _ nums _ (fun b hb => Nat.lt_of_lt_of_le hb HB2.out.size) Hd2.out).mono ?_
  rintro e w3 ⟨_, rfl, ⟨x3, l, rfl, hl, hw⟩, hb3⟩
  have HB3 := Lib.hid (HB2.out.trans (hb3.mono HB2.out.size))
  clear hb3
  by_cases he : wordErr base nums = 0
  · rw [he, errV_zero]
    obtain ⟨n1, n2, n3, n4, n5, n6⟩ := word_back he hw
    have Hn := Lib.hid (And.intro n1 (And.intro n2 (And.intro n3 n4)))
    have Hl := Lib.hid (show Ints (· < w3.heap.size) w3 x3 l from hl.keep fun b _ hlt => ⟨rfl, hlt⟩)
    obtain ⟨pl, cl, rfl⟩ := hl.form
    clear he hw n1 n2 n3 n4 hl
    go_wp2_with fail
    refine (Nums_calls _ _ _ _ _ _ (fun b hb => hb) Hl.out).mono ?_
    rintro e w4 ⟨_, rfl, ⟨x4, rfl, hx4⟩, hb4⟩
    rw [Hn.out.1, errV_zero]
    rw [Hn.out.2.1] at hx4
    have HB4 := Lib.hid (HB3.out.trans (hb4.mono HB3.out.size))
    have Hl4 := Lib.hid (Hl.out.under hb4)
    have Hx4 := Lib.hid hx4
    have Hsz := Lib.hid hb4.size
    clear hb4 hx4
    go_wp2_with fail
    refine (LRight_calls _ _ _ _ _ _ (fun b hb => Nat.lt_of_lt_of_le hb Hsz.out) Hl4.out).mono ?_
    rintro e w5 ⟨rfl, hb5⟩
    rw [Hn.out.2.2.1, Hn.out.2.2.2, errV_zero]
    have HB5 := Lib.hid (HB4.out.trans (hb5.mono HB4.out.size))
    have Hl5 := Lib.hid (Hl4.out.under (hb5.mono Hsz.out))
    have Hx5 := Lib.hid (Hx4.out.below hb5 (S' := fun _ => True) (fun _ _ _ => trivial))
    have Hd5 := Lib.hid (Hd.out.under HB5.out)
    have Hsz5 := Lib.hid (Nat.le_trans Hsz.out hb5.size)
    clear hb5
    go_wp2_with fail
    refine (Ints_calls _ _ _ _ nums nums _ Hx5.out Hd5.out).mono ?_
    rintro e w6 ⟨rfl, hb6⟩
    simp only [decide_true]
    have HB6 := Lib.hid (HB5.out.trans (hb6.mono HB5.out.size))
    have Hl6 := Lib.hid (Hl5.out.under (hb6.mono Hsz5.out))
    clear hb6
    by_cases h0 : 0 < l.length
    · have h0' : ((l.length : Int) == 0) = false := beq_eq_false_iff_ne.2 (by omega)
      obtain ⟨b, off, x, hp, hS, hc, hx, hi⟩ := Hl6.out.at 0 h0
      subst hp hx
      simp only [Nat.add_zero] at hc
      have h1 : (l[0] != 0) = true := by simpa using n5 h0
      have h2 : (0 : Int) < l.length := by omega
      clear n5
      go_wp2
      go_ret
      exact Ret.mk rfl HB6.out
    · have h0' : ((l.length : Int) == 0) = true := beq_iff_eq.2 (by omega)
      clear n5
      go_wp2
      go_ret
      exact Ret.mk rfl HB6.out
  · rw [errV_ne _ he]
    clear he hw hl
    go_wp2
    go_ret
    exact Ret.mk rfl HB3.out
end Go.Proofs.Ytgggnglkocmbgaa
