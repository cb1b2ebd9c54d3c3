/- The walk of DigitOne: it returns true. No conditions but that the value reads as a list. -/
import Derived.Test.YtgggnglkocmbgaaDigitF
namespace Go.Proofs.Ytgggnglkocmbgaa
open Go.RowKit

theorem cells2 (w : World) (x y : Int) (T : Nat) (hx : I64 x) (hy : I64 y) : Ints (w.heap.size ≤ ·) (w.alloc (.cells #[.int .i64 x, .int .i64 y] T)) (.slice (some ⟨w.heap.size, 0, none⟩) 2 2) [x, y] := by
  refine ⟨_, _, rfl, by simp, fun i hi => ?_⟩
  have : i = 0 ∨ i = 1 := by simp at hi; omega
  rcases this with rfl | rfl
  · exact ⟨w.heap.size, 0, _, rfl, Nat.le_refl _, by rw [World.cell?_alloc_at _ _ _ _ rfl]; rfl, rfl, hx⟩
  · exact ⟨w.heap.size, 0, _, rfl, Nat.le_refl _, by rw [World.cell?_alloc_at _ _ _ _ rfl]; rfl, rfl, hy⟩

set_option maxHeartbeats 1000000 in
set_option maxRecDepth 100000 in
theorem DigitOne_walk (base : Int) (v : Value) (d : List Int) (w : World) (_hbase : I64 base) (hd : Ints (· < w.heap.size) w v d) :
    Calls Try.prog 4 #[.int .i64 base, v] w (Ret (.bool true) w) := by
  have Hd := Lib.hid hd
  have k1 : valOf 1 [1, 1] = 3 ∧ valErr 1 [1, 1] = 0 := by decide +kernel
  have K1 := Lib.hid k1; clear k1
  have hB : Below w.heap.size w (w.alloc (.cells #[.int .i64 1, .int .i64 1] 3)) := (Below.refl _ _).alloc (Nat.le_refl _) _
  have HB := Lib.hid hB; clear hB
  have HI := Lib.hid (show Ints (· < w.heap.size) (w.alloc (.cells #[.int .i64 1, .int .i64 1] 3)) v d from hd.under HB.out)
  obtain ⟨a, cap, rfl, hlen, hcell⟩ := hd
  go_enter Try.func4, Try.ntmps4
  go_wp2_with fail
  refine (Value_calls (w.heap.size ≤ ·) _ _ [1, 1] _ (cells2 w 1 1 _ (by simp [I64]) (by simp [I64]))).mono ?_; rintro e w' ⟨rfl, rfl⟩; rw [K1.out.1, K1.out.2, errV_zero]
  go_wp2_with fail
  refine (Right_calls _ _ _ _ _ HI.out).mono ?_; rintro e w' ⟨rfl, rfl⟩
  by_cases h0 : digitsFault base d = 0
  · rw [h0, errV_zero]
    go_wp2_with fail
    refine (Value_calls _ _ _ _ _ HI.out).mono ?_; rintro e w' ⟨rfl, rfl⟩
    by_cases h1 : valErr base d = 0
    · rw [h1, errV_zero]
      by_cases h2 : rightRes base d = true
      · rw [h2]
        have hok := fault_zero.1 h0
        have hval := valErr_ok h0 (by
          have := h1; unfold valErr at this; rw [h0] at this; simp at this; omega)
        have HR := Lib.hid (show radix base ≠ 0 ∧ 0 ≤ valOf base d ∧ valOf base d ≤ 1099511627776 from ⟨hok.1, valOf_bd base d⟩)
        have HU := Lib.hid (show ∀ l, IsOf base (valOf base d) l → noLead d → l = d from fun l hl hn =>
          hl.unique hok.1 ⟨hok.2.2, by have := h2; unfold rightRes at this; exact (of_decide_eq_true this).2, hn, hval.2.symm⟩)
        clear h0 h1 h2 hok hval
        by_cases h3 : 0 < d.length
        · have h3' : (0 : Int) < d.length := by omega
          obtain ⟨b, off, x, ha, hS, hc, hx, hi⟩ := hcell 0 h3
          subst ha hx
          have hc' := (HB.out.cell (p := ⟨b, off + 0, none⟩) hS).trans hc
          simp only [Nat.add_zero] at hc'
          by_cases h4 : d[0] = 0
          · have h4' : (d[0] == 0) = true := by simp [h4]
            clear h4
            go_wp2
            go_ret
            exact Ret.mk rfl HB.out
          · have h4' : (d[0] == 0) = false := by simp [h4]
            have HL := Lib.hid (show noLead d by
              unfold noLead; rw [List.head?_eq_getElem?, List.getElem?_eq_getElem h3]; simpa using h4)
            clear h4
            go_wp2_with fail
            refine (Of_good base (valOf base d) _ HR.out.1 HR.out.2.1 HR.out.2.2).mono ?_
            rintro e w1 ⟨_, rfl, ⟨x1, l, rfl, hl, hof⟩, hb1⟩
            have hld := Lib.hid (show decide (l = d) = true by rw [decide_eq_true_iff]; exact HU.out l hof HL.out)
            clear hof
            have HB1 := Lib.hid (HB.out.trans (hb1.mono HB.out.size)); clear hb1
            have HI1 := Lib.hid (Hd.out.under HB1.out)
            have Hl := Lib.hid hl; clear hl
            go_wp2_with fail
            refine (Ints_calls _ _ _ _ l d _ Hl.out HI1.out).mono ?_
            rintro e w2 ⟨rfl, hb2⟩
            rw [hld.out]
            have HB2 := Lib.hid (HB1.out.trans (hb2.mono HB1.out.size)); clear hb2
            go_wp2
            go_ret
            exact Ret.mk rfl HB2.out
        · have h3' : (d.length : Int) ≤ 0 := by omega
          have HL := Lib.hid (show noLead d by
            unfold noLead; rw [List.eq_nil_of_length_eq_zero (show d.length = 0 by omega)]; simp)
          clear h3
          go_wp2_with fail
          refine (Of_good base (valOf base d) _ HR.out.1 HR.out.2.1 HR.out.2.2).mono ?_
          rintro e w1 ⟨_, rfl, ⟨x1, l, rfl, hl, hof⟩, hb1⟩
          have hld := Lib.hid (show decide (l = d) = true by rw [decide_eq_true_iff]; exact HU.out l hof HL.out)
          clear hof
          have HB1 := Lib.hid (HB.out.trans (hb1.mono HB.out.size)); clear hb1
          have HI1 := Lib.hid (Hd.out.under HB1.out)
          have Hl := Lib.hid hl; clear hl
          go_wp2_with fail
          refine (Ints_calls _ _ _ _ l d _ Hl.out HI1.out).mono ?_
          rintro e w2 ⟨rfl, hb2⟩
          rw [hld.out]
          have HB2 := Lib.hid (HB1.out.trans (hb2.mono HB1.out.size)); clear hb2
          go_wp2
          go_ret
          exact Ret.mk rfl HB2.out
      · have h2' : rightRes base d = false := by simpa using h2
        rw [h2']
        clear h0 h1 h2
        go_wp2
        go_ret
        exact Ret.mk rfl HB.out
    · rw [errV_ne _ h1]
      clear h0 h1
      go_wp2
      go_ret
      exact Ret.mk rfl HB.out
  · rw [errV_ne _ h0]
    go_wp2_with fail
    refine (Value_calls _ _ _ _ _ HI.out).mono ?_; rintro e w' ⟨rfl, rfl⟩
    clear h0
    go_wp2
    go_ret
    exact Ret.mk rfl HB.out
end Go.Proofs.Ytgggnglkocmbgaa
