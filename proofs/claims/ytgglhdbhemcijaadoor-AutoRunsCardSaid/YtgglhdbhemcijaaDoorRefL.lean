/- The walks of the reference's Letters, DigitOf, PackOf. Conditions: the digits may be. -/
import Derived.Test.YtgglhdbhemcijaaDoorRefD
import Derived.Test.YtgglhdbhemcijaaDoorLetterA
namespace Go.Proofs.YtgglhdbhemcijaaDoor
open Go.RowKit

set_option maxHeartbeats 1000000 in
theorem RLetters_calls (base t : Int) (w : World) :
    Calls Tryd.prog 24 #[.int .i64 base, .int .i64 t] w (RetS (.tuple #[.int .i64 (manyOf base t), .int .i64 (manyErr base t)]) w) := by
  by_cases hbad : radix base = 0 ∨ t < 0 ∨ 5 < t
  · have H := Lib.hid (show manyErr base t = 1 ∧ manyOf base t = 0 by simp [manyErr, manyOf, hbad])
    by_cases h1 : radix base = 0
    · have e0 : (radix base == 0) = true := by simp [h1]
      clear hbad h1
      go_enter Tryd.func24, Tryd.ntmps24
      go_wp2_with (go_at_call 27; refine (RRadix_calls _ _).mono ?_; rintro e w' ⟨rfl, rfl⟩)
      go_ret2
      exact RetS.mk (by rw [H.out.1, H.out.2]; rfl)
    · have e0 : (radix base == 0) = false := by simp [h1]
      by_cases h2 : t < 0
      · clear hbad h1
        go_enter Tryd.func24, Tryd.ntmps24
        go_wp2_with (go_at_call 27; refine (RRadix_calls _ _).mono ?_; rintro e w' ⟨rfl, rfl⟩)
        go_ret2
        exact RetS.mk (by rw [H.out.1, H.out.2]; rfl)
      · have h3 : 5 < t := by omega
        clear hbad h1
        go_enter Tryd.func24, Tryd.ntmps24
        go_wp2_with (go_at_call 27; refine (RRadix_calls _ _).mono ?_; rintro e w' ⟨rfl, rfl⟩)
        go_ret2
        exact RetS.mk (by rw [H.out.1, H.out.2]; rfl)
  · have H := Lib.hid (show manyErr base t = if 36 < powW (radix base) t.toNat then 3 else 0 by simp only [manyErr, if_neg hbad])
    obtain ⟨t, rfl⟩ := Int.eq_ofNat_of_zero_le (show 0 ≤ t by omega)
    simp only [Int.toNat_natCast] at H
    have h1 : radix base ≠ 0 := by omega
    have e0 : (radix base == 0) = false := by simp [h1]
    have h2 : ¬ ((t : Int) < 0) := by omega
    have h3 : ¬ (5 < (t : Int)) := by omega
    have ht5 : t ≤ 5 := by omega
    obtain ⟨r2, r6⟩ := radix_two h1
    have HP := Lib.hid (show ∀ j, j ≤ 5 → 1 ≤ powW (radix base) j ∧ powW (radix base) j ≤ 7776 from fun j hj => powW_bd r2 r6 hj)
    have HM := Lib.hid (show manyErr base t = 0 → manyOf base t = powW (radix base) t by intro h; simp [manyOf, h])
    have HM0 := Lib.hid (show manyErr base t ≠ 0 → manyOf base t = 0 by intro h; simp [manyOf, h])
    clear hbad h1
    generalize hk : radix base = k at *
    have Hk := Lib.hid hk; clear hk
    go_enter Tryd.func24, Tryd.ntmps24
    go_wp2_with (go_at_call 27; refine (RRadix_calls _ _).mono ?_; rintro e w' ⟨rfl, rfl⟩; rw [Hk.out])
    go_loop [7, 8] (fun n i => ∃ j : Nat, j ≤ t ∧ i = .int .i64 j ∧ n = .int .i64 (powW k j)) (fun _ i => t - (intOf i).toNat)
    case atStart => exact ⟨0, by omega, rfl, rfl⟩
    case round =>
      obtain ⟨j, hj, rfl, rfl⟩ := hrel
      by_cases hlt : j < t
      · have p1 := (HP.out j (by omega)).1
        have p2 := (HP.out j (by omega)).2
        have p3 : 0 ≤ powW k j * k := Int.mul_nonneg (by omega) (by omega)
        have p4 : powW k j * k ≤ 46656 := by
          have := Int.mul_le_mul p2 r6 (by omega) (by omega)
          omega
        go_wp2
        go_round
        case rel => exact ⟨j + 1, by omega, by go_num, rfl⟩
        case measure => (simp [intOf] <;> omega)
      · obtain rfl : j = t := by omega
        by_cases hbig : 36 < powW k j
        · have R := Lib.hid (show manyErr base j = 3 ∧ manyOf base j = 0 by
            have : manyErr base j = 3 := by rw [H.out, if_pos hbig]
            exact ⟨this, HM0.out (by omega)⟩)
          go_wp2
          go_ret2
          exact RetS.mk (by rw [R.out.1, R.out.2]; rfl)
        · have R := Lib.hid (show manyErr base j = 0 ∧ manyOf base j = powW k j by
            have : manyErr base j = 0 := by rw [H.out, if_neg hbig]
            exact ⟨this, HM.out this⟩)
          go_wp2
          go_ret2
          exact RetS.mk (by rw [R.out.1, R.out.2]; rfl)

theorem unpack_last (k : Int) (t : Nat) (l : Int) : (unpack k (t + 1) l).getD t 0 = l % k := by
  rw [unpack, List.getD_eq_getElem?_getD, List.getElem?_append_right (by rw [unpack_length]; exact Nat.le_refl _), unpack_length]
  simp
theorem unpack_pre (k : Int) (t : Nat) (l : Int) (i : Nat) (h : i < t) : (unpack k (t + 1) l).getD i 0 = (unpack k t (l / k)).getD i 0 := by
  rw [unpack, List.getD_eq_getElem?_getD, List.getElem?_append_left (by rw [unpack_length]; exact h), ← List.getD_eq_getElem?_getD]

set_option maxHeartbeats 1000000 in
theorem RDigitOf_calls (base : Int) (t : Nat) (l : Int) (i : Nat) (w : World) (hr : radix base ≠ 0) (ht : t ≤ 5) (hl0 : 0 ≤ l) (hl1 : l ≤ 7776) (hi : i < t) :
    Calls Tryd.prog 26 #[.int .i64 base, .int .i64 t, .int .i64 l, .int .i64 i] w (RetS (.int .i64 (digitAt (radix base) t l i)) w) := by
  obtain ⟨r2, r6⟩ := radix_two hr
  have Hr := Lib.hid hr; clear hr
  generalize hk : radix base = k at *
  have Hk := Lib.hid hk; clear hk
  go_enter Tryd.func26, Tryd.ntmps26
  go_wp2_with (go_at_call 27; refine (RRadix_calls _ _).mono ?_; rintro e w' ⟨rfl, rfl⟩; rw [Hk.out])
  go_loop [2, 10] (fun q j => ∃ (m : Nat) (z : Int), i < m ∧ m ≤ t ∧ j = .int .i64 ((m : Int) - 1) ∧ q = .int .i64 z ∧ 0 ≤ z ∧ z ≤ 7776 ∧ Hid (digitAt k t l i = digitAt k m z i)) (fun _ j => (intOf j).toNat)
  case atStart => exact ⟨t, l, hi, Nat.le_refl _, rfl, rfl, hl0, hl1, rfl⟩
  case round =>
    obtain ⟨m, z, him, hmt, rfl, rfl, hz0, hz1, HZ⟩ := hrel
    by_cases hgt : i + 1 < m
    · obtain ⟨m, rfl⟩ : ∃ m', m = m' + 1 := ⟨m - 1, by omega⟩
      have q0 : 0 ≤ z / k := Int.ediv_nonneg hz0 (by omega)
      have q1 : z / k ≤ z := Int.ediv_le_self _ hz0
      have hlt : (i : Int) < ((m + 1 : Nat) : Int) - 1 := by omega
      go_wp2
      go_round
      case rel => exact ⟨m, z / k, by omega, by omega, by go_num, rfl, q0, by omega, by show _ = _; rw [HZ.out]; exact unpack_pre k m z i (by omega)⟩
      case measure => (simp [intOf] <;> omega)
    · obtain rfl : m = i + 1 := by omega
      have hlt : ¬ (i : Int) < ((i + 1 : Nat) : Int) - 1 := by omega
      have HF := Lib.hid (show digitAt k t l i = z % k by rw [HZ.out]; exact unpack_last k i z)
      go_wp2
      go_ret
      exact RetS.mk (by rw [HF.out]; rfl)

set_option maxHeartbeats 1000000 in
theorem RPackOf_calls (S : Nat → Prop) (base : Int) (v : Value) (d : List Int) (w : World) (hr : radix base ≠ 0) (hl : d.length ≤ 5) (hok : okDigits base d) (hS : ∀ b, S b → b < w.heap.size) (hd : Ints S w v d) :
    Calls Tryd.prog 28 #[.int .i64 base, v] w (Ret (.int .i64 (pack (radix base) d)) w) := by
  obtain ⟨r2, r6⟩ := radix_two hr
  have Hok := Lib.hid hok; clear hok hr
  obtain ⟨a, cap, rfl, hlen, hcell⟩ := hd
  have HP := Lib.hid (show ∀ j, j ≤ 5 → powW (radix base) j ≤ 7776 from fun j hj => (powW_bd r2 r6 hj).2)
  have HB := Lib.hid (show ∀ j, 0 ≤ pack (radix base) (d.take j) ∧ pack (radix base) (d.take j) < powW (radix base) (d.take j).length from fun j => pack_bd r2 _ (fun x hx => Hok.out x (List.mem_of_mem_take hx)))
  have Hx := Lib.hid (show ∀ j (hj : j < d.length), 0 ≤ d[j] ∧ d[j] < radix base from fun j hj => Hok.out _ (List.getElem_mem hj))
  have Hc := Lib.hid (RRadix_calls base)
  generalize hk : radix base = k at *
  have Hk := Lib.hid hk; clear hk
  go_enter Tryd.func28, Tryd.ntmps28
  go_wp2_with fail
  go_loopw [5, 6] (fun l i wr => ∃ j : Nat, j ≤ d.length ∧ i = .int .i64 j ∧ l = .int .i64 (pack k (d.take j)) ∧ Hid (Below w.heap.size w wr)) (fun _ i _ => d.length - (intOf i).toNat)
  case atStart => exact ⟨0, by omega, rfl, rfl, Below.refl _ _⟩
  case round =>
    obtain ⟨j, hj, rfl, rfl, HBe⟩ := hrel
    by_cases hlt : j < d.length
    · obtain ⟨b, off, x, ha, hSb, hc, hx, hi⟩ := hcell j hlt
      subst ha hx
      have hc' := (HBe.out.cell (p := ⟨b, off + j, none⟩) (hS b hSb)).trans hc
      have p0 := (HB.out j).1
      have p1 : pack k (d.take j) ≤ 7776 := by
        have h1 := (HB.out j).2
        have h2 := HP.out (d.take j).length (by simp; omega)
        omega
      have x0 := (Hx.out j hlt).1
      have x1 := (Hx.out j hlt).2
      have Hs := Lib.hid (show pack k (d.take (j + 1)) = pack k (d.take j) * k + d[j] by rw [List.take_succ_eq_append_getElem hlt, pack_snoc])
      generalize pack k (d.take j) = p at *
      have m0 : 0 ≤ p * k := Int.mul_nonneg p0 (by omega)
      have m1 : p * k ≤ 46656 := by
        have := Int.mul_le_mul p1 r6 (by omega) (by omega)
        omega
      go_wp2
      go_quiet ((go_at_call 27; exact quietS (Hc.out _)))
      go_wp2
      go_roundw
      case rel => exact ⟨j + 1, by omega, by go_num, by rw [Hs.out], below_drewN HBe.out _⟩
      case measure => (simp [intOf] <;> omega)
    · have e : d.take j = d := List.take_of_length_le (by omega)
      rw [e]
      clear e
      go_wp2
      go_ret
      exact Ret.mk rfl HBe.out
end Go.Proofs.YtgglhdbhemcijaaDoor
