/- The walk of DigitBack: it returns true. No conditions. -/
import Derived.Test.YtgggnglkocmbgaaDigitF
namespace Go.Proofs.Ytgggnglkocmbgaa
open Go.RowKit

theorem ofEleven {l : List Int} (h : IsOf 1 11 l) : l = [1, 0, 1, 0, 0] :=
  h.unique (by decide) ⟨by unfold okDigits; decide, by decide, by unfold noLead; decide, by decide⟩

set_option maxHeartbeats 2000000 in
set_option maxRecDepth 100000 in
theorem DigitBack_walk (base n m : Int) (w : World) (_hbase : I64 base) (_hn : I64 n) (_hm : I64 m) :
    Calls Try.prog 5 #[.int .i64 base, .int .i64 n, .int .i64 m] w (Ret (.bool true) w) := by
  clear _hbase _hn _hm
  go_enter Try.func5, Try.ntmps5
  go_wp2_with fail
  refine (Of_good 1 11 _ (by decide) (by omega) (by omega)).mono ?_
  rintro e w1 ⟨_, rfl, ⟨x1, l, rfl, hl, hof⟩, hb1⟩
  obtain rfl := ofEleven hof
  have HB1 := Lib.hid hb1; clear hb1 hof
  have HL := Lib.hid hl; clear hl
  go_wp2_with fail
  refine (Ints_calls _ _ _ _ [1, 0, 1, 0, 0] [1, 0, 1, 0, 0] _ (HL.out.below ((Below.refl _ _).alloc (Nat.le_refl _) _) (S' := fun _ => True) (fun _ _ _ => trivial)) (Ints.lit [1, 0, 1, 0, 0] (by simp) (by simp [I64]))).mono ?_
  rintro e w2 ⟨rfl, hb2⟩
  have HB2 := Lib.hid ((HB1.out.alloc HB1.out.size _).trans (hb2.mono (by have := HB1.out.size; simp; omega))); clear hb2 HL HB1
  simp only [decide_true]
  go_wp2_with fail
  by_cases h1 : radix base = 0 ∨ n < 0 ∨ 1099511627776 < n
  · refine (Of_bad base n _ h1).mono ?_
    rintro e w' ⟨rfl, rfl⟩
    clear h1
    go_wp2_with fail
    by_cases h2 : radix base = 0 ∨ m < 0 ∨ 1099511627776 < m
    · refine (Of_bad base m _ h2).mono ?_
      rintro e w' ⟨rfl, rfl⟩
      clear h2
      go_wp2
      go_ret
      exact Ret.mk rfl HB2.out
    · refine (Of_good base m _ (by omega) (by omega) (by omega)).mono ?_
      rintro e w3 ⟨_, rfl, ⟨x3, l3, rfl, hl3, hof3⟩, hb3⟩
      have HB3 := Lib.hid (HB2.out.trans (hb3.mono HB2.out.size)); clear hb3 hl3 hof3 h2
      go_wp2
      go_ret
      exact Ret.mk rfl HB3.out
  · refine (Of_good base n _ (by omega) (by omega) (by omega)).mono ?_
    rintro e w3 ⟨_, rfl, ⟨x3, a, rfl, ha, hofa⟩, hb3⟩
    have HB3 := Lib.hid (HB2.out.trans (hb3.mono HB2.out.size))
    have Ha := Lib.hid ha; clear hb3 ha HB2
    go_wp2_with fail
    by_cases h2 : radix base = 0 ∨ m < 0 ∨ 1099511627776 < m
    · refine (Of_bad base m _ h2).mono ?_
      rintro e w' ⟨rfl, rfl⟩
      clear h2 h1
      go_wp2
      go_ret
      exact Ret.mk rfl HB3.out
    · refine (Of_good base m _ (by omega) (by omega) (by omega)).mono ?_
      rintro e w4 ⟨_, rfl, ⟨x4, b, rfl, hb, hofb⟩, hb4⟩
      have HB4 := Lib.hid (HB3.out.trans (hb4.mono HB3.out.size))
      have Ha4 := Lib.hid (Ha.out.below hb4 (S' := fun _ => True) (fun _ _ _ => trivial))
      have Hb4 := Lib.hid hb; clear hb4 hb HB3 Ha
      obtain ⟨pa, ca, rfl⟩ := Sl.form Ha4.out
      obtain ⟨pb, cb, rfl⟩ := Sl.form Hb4.out
      have hr : radix base ≠ 0 := by omega
      have va := hofa.valErr hr (by omega)
      have va' := hofa.valOf hr (by omega)
      have vb := hofb.valErr hr (by omega)
      have vb' := hofb.valOf hr (by omega)
      have HR := Lib.hid (show rightRes base a = true by unfold rightRes; rw [decide_eq_true_iff]; exact ⟨hofa.fault hr (by omega), hofa.right⟩)
      have HFa := Lib.hid (hofa.fault hr (by omega))
      have HLe := Lib.hid (show lessErr base a b = 0 ∧ lessRes base a b = decide (n < m) by simp [lessErr, lessRes, va, vb, va', vb'])
      have Hva := Lib.hid (And.intro va va')
      have Hlen := Lib.hid (show n ≤ m → a.length ≤ b.length from fun h => wv_len hr hofb.ok hofa.ok hofb.right hofa.lead (by rw [hofa.val, hofb.val]; exact h))
      have Hlead := Lib.hid hofa.lead
      clear va va' vb vb' hofa hofb h1 h2 hr
      go_wp2_with fail
      refine (Value_calls _ _ _ _ _ Ha4.out).mono ?_; rintro e w' ⟨rfl, rfl⟩; rw [Hva.out.1, Hva.out.2, errV_zero]
      go_wp2_with fail
      refine (Right_calls _ _ _ _ _ Ha4.out).mono ?_; rintro e w' ⟨rfl, rfl⟩; rw [HFa.out, HR.out, errV_zero]
      go_wp2_with fail
      refine (Less_calls _ _ _ _ _ _ _ _ Ha4.out Hb4.out).mono ?_; rintro e w' ⟨rfl, rfl⟩; rw [HLe.out.1, HLe.out.2, errV_zero]
      have hnn : (n != n) = false := by simp
      have hdd : (decide (n < m) != decide (n < m)) = false := by simp
      by_cases h3 : 0 < a.length
      · have h3' : (0 : Int) < a.length := by omega
        obtain ⟨b0, off, x, hax, hS, hc, hx, hi⟩ := Ha4.out.at 0 h3
        subst hax hx
        simp only [Nat.add_zero] at hc
        have h4' : (a[0] == 0) = false := by
          have := Hlead.out
          unfold noLead at this
          rw [List.head?_eq_getElem?, List.getElem?_eq_getElem h3] at this
          simpa using this
        by_cases h5 : m < n
        · go_wp2
          go_ret
          exact Ret.mk rfl HB4.out
        · have h6 : (a.length : Int) ≤ b.length := by have := Hlen.out (by omega); omega
          go_wp2
          go_ret
          exact Ret.mk rfl HB4.out
      · have h3' : (a.length : Int) ≤ 0 := by omega
        by_cases h5 : m < n
        · go_wp2
          go_ret
          exact Ret.mk rfl HB4.out
        · have h6 : (a.length : Int) ≤ b.length := by have := Hlen.out (by omega); omega
          go_wp2
          go_ret
          exact Ret.mk rfl HB4.out
end Go.Proofs.Ytgggnglkocmbgaa
