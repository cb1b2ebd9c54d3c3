/- The walk of Of: the digits of a number, in a base that is none of Fib. Conditions: the number may be. -/
import Derived.Test.YtgglhdbhemcijaaDoorDigitB
import Derived.Test.YtgglhdbhemcijaaDoorFacts
namespace Go.Proofs.YtgglhdbhemcijaaDoor
open Go.RowKit

set_option maxHeartbeats 1000000 in
set_option maxRecDepth 100000 in
theorem Of_base (base n : Int) (w : World) (hb2 : 2 ≤ base) (hb6 : base ≤ 6) (hn0 : 0 < n) (hn1 : n ≤ 1099511627776) :
    Calls Tryd.prog 13 #[.int .i64 base, .int .i64 n] w
      (RetQ (fun v w' => ∃ x l, v = .tuple #[x, .nilIface] ∧ Ints (w.heap.size ≤ ·) w' x l ∧ IsOf base n l) w) := by
  have hr : radix base = base := by simp [radix]; omega
  have e0 : (base == 0) = false := by simp; omega
  have e1 : (base != 1) = true := by simp; omega
  have e2 : decide (n < 0) = false := by simp; omega
  have e3 : decide (1099511627776 < n) = false := by simp; omega
  have Hr := Lib.hid hr; clear hr
  have Hrz := Lib.hid (show radix base ≠ 0 by rw [Hr.out]; omega)
  have Hb1 := Lib.hid (show base ≠ 1 by omega)
  go_enter Tryd.func13, Tryd.ntmps13
  go_wp2_with (go_at_call 66; refine (Radix_calls _ _).mono ?_; rintro e w' ⟨rfl, rfl⟩; rw [Hr.out])
  go_loopw [1, 8] (fun q at_ wr => ∃ (k : Nat) (m : Int) (t : List Int) (C : Array Value), at_ = .int .i64 k ∧ q = .int .i64 m ∧ 0 ≤ m ∧ m ≤ 1099511627776 ∧ k + t.length = 64 ∧ k ≤ 64 ∧ Hid (m * W base t.length + wv base t = n ∧ okDigits base t ∧ (m = 0 → noLead t ∧ t ≠ [])) ∧
      Hid (wr.heap[w.heap.size]? = some (.cells C 94 (0, 0)) ∧ C.toList.drop k = t.map (Value.int .i64) ∧ C.size = 64) ∧ Hid (Below w.heap.size w wr)) (fun q _ _ => (intOf q).toNat)
  case atStart => exact ⟨64, n, [], _, rfl, rfl, by omega, by omega, rfl, by omega, ⟨by simp [W, powW, wv, Hb1.out], by simp [okDigits], fun h => by omega⟩, ⟨heap_alloc_new w _, rfl, rfl⟩, (Below.refl _ _).alloc (Nat.le_refl _) _⟩
  case round =>
    obtain ⟨k, m, t, C, rfl, rfl, hm0, hm1, hkt, hk64, Hm, HC, HB⟩ := hrel
    by_cases hlt : 0 < m
    · have hk : 1 ≤ k := by
        have h1 := Hm.out.1
        have h2 := wv_nonneg Hrz.out Hm.out.2.1
        rcases Nat.lt_or_ge t.length 58 with c | c
        · omega
        · have := W_big Hrz.out c
          have : 1 * W base t.length ≤ m * W base t.length := Int.mul_le_mul_of_nonneg_right (by omega) (by omega)
          omega
      obtain ⟨j, rfl⟩ : ∃ j, k = j + 1 := ⟨k - 1, by omega⟩
      have q0 : 0 ≤ m % base := Int.emod_nonneg _ (by omega)
      have q1 : m % base < base := Int.emod_lt_of_pos _ (by omega)
      have q2 : 0 ≤ m / base := Int.ediv_nonneg hm0 (by omega)
      have q3 : m / base < m := Int.ediv_lt_self_of_pos_of_ne_one (by omega) (by omega)
      have q5 : m / base ≤ 1099511627776 := by omega
      have Q4 := Lib.hid (show m = base * (m / base) + m % base from (Int.mul_ediv_add_emod m base).symm)
      have hcell : wr.cell? ⟨w.heap.size, j, none⟩ = some (C[j]'(by have := HC.out.2.2; omega)) := by
        rw [cell_of_row wr _ j C 94 (0, 0) HC.out.1]; exact Array.getElem?_eq_getElem _
      have hfr : wr.frozen? ⟨w.heap.size, j, none⟩ = false := frozen_of_block HC.out.1 j
      go_wp2
      go_roundw
      case rel =>
        refine ⟨j, m / base, (m % base) :: t, C.setIfInBounds j (.int .i64 (m % base)), by go_num, rfl, q2, q5, by simp at hkt ⊢; omega, by omega, ⟨?_, ?_, ?_⟩, ⟨?_, ?_, ?_⟩, ?_⟩
        · have h1 := Hm.out.1
          have e : W base ((m % base) :: t).length = W base t.length * base := by simp [W, Hb1.out, powW]
          rw [e]
          show m / base * (W base t.length * base) + (m % base * W base t.length + wv base t) = n
          have : m * W base t.length = (base * (m / base) + m % base) * W base t.length := by rw [← Q4.out]
          rw [this, Int.add_mul] at h1
          rw [← Int.mul_assoc, Int.mul_comm (m / base * W base t.length) base, ← Int.mul_assoc]
          omega
        · intro x hx
          rcases List.mem_cons.1 hx with rfl | hx
          · rw [Hr.out]; exact ⟨q0, q1⟩
          · exact Hm.out.2.1 x hx
        · intro hz
          refine ⟨?_, by simp⟩
          intro hl
          have h4 := Q4.out
          simp at hl
          rw [hz, hl] at h4
          simp at h4
          omega
        · exact heap_setCell_at HC.out.1 _
        · have h2 := HC.out.2.1
          have h3 := HC.out.2.2
          rw [List.map_cons, ← h2, Array.toList_setIfInBounds, List.drop_set]
          simp
          rw [List.drop_eq_getElem_cons (by simp; omega)]
          simp
        · have := HC.out.2.2; simp; omega
        · exact HB.out.setCell (Nat.le_refl _) _
      case measure => (simp [intOf] <;> omega)
    · obtain rfl : m = 0 := by omega
      have ht0 : t ≠ [] := (Hm.out.2.2 rfl).2
      have hk' : (k : Int) < 64 := by
        have : 0 < t.length := List.length_pos_iff.2 ht0
        omega
      clear ht0
      obtain ⟨i0, hi, hz0, hz1, hz2⟩ := info_parts infoInt
      have hsl := slice64 wr w.heap.size k (by omega)
      go_wp2_with (at_builtin; go_loud (refine wpList_append_own _ rfl _ _ 22 rfl w.heap.size 3 i0 (.int .i64 0) 1 8 Tryd.underlying22 hi hz0 hz1 hz2 rfl (by decide) _ _ _ rfl (World.ownsRow_nil _ _ _ _) ⟨w.heap.size, k, none⟩ (64 - k) (64 - k) (t.map (Value.int .i64)) rfl ?c1 ?c2 ?c3 ?c4 ?c5 ?c6 ?_))
      case c1 => omega
      case c2 =>
        intro j u hj
        have h2 := HC.out.2.1
        rw [cell_of_row wr _ (k + j) C 94 (0, 0) HC.out.1, ← Array.getElem?_toList, ← List.getElem?_drop, h2]
        simp [hj]
      case c3 => intro u _; rfl
      case c4 => simp only [maxLen]; omega
      case c5 => omega
      case c6 => exact HB.out.size
      intro v' w' hown hgrow hnil
      go_wp2
      go_ret2
      refine RetQ.mk ⟨_, t, rfl, Ints.of_own hown (by omega) ?_, ⟨Hm.out.2.1, ?_, (Hm.out.2.2 (by trivial)).1, ?_⟩⟩ (HB.out.grown hgrow HB.out.size (by simp [Value.ownBlock]))
      · intro x hx
        have := Hm.out.2.1 x hx
        rw [Hr.out] at this
        exact ⟨by omega, by omega⟩
      · simp [rightOf, Hb1.out]
      · have := Hm.out.1; omega
end Go.Proofs.YtgglhdbhemcijaaDoor
