/- The walks of Many, Pack, Unpack. Conditions: the values read as lists. -/
import Derived.Test.YtgglhdbhemcijaaDoorPlainL
import Derived.Test.YtgglhdbhemcijaaDoorDigitA
import Derived.Test.YtgglhdbhemcijaaDoorFacts
namespace Go.Proofs.YtgglhdbhemcijaaDoor
open Go.RowKit

theorem powW_bd {k : Int} (h2 : 2 ≤ k) (h6 : k ≤ 6) {j : Nat} (hj : j ≤ 5) : 1 ≤ powW k j ∧ powW k j ≤ 7776 := by
  have key : ∀ j, j ≤ 5 → powW k j ≤ powW 6 j := by
    intro j
    induction j with
    | zero => intro _; exact Int.le_refl _
    | succ j ih =>
      intro hj
      have h := ih (by omega)
      have p := powW_pos h2 j
      show powW k j * k ≤ powW 6 j * 6
      exact Int.le_trans (Int.mul_le_mul_of_nonneg_right h (by omega)) (Int.mul_le_mul_of_nonneg_left h6 (by omega))
  refine ⟨powW_pos h2 j, Int.le_trans (key j hj) ?_⟩
  have : j = 0 ∨ j = 1 ∨ j = 2 ∨ j = 3 ∨ j = 4 ∨ j = 5 := by omega
  rcases this with rfl | rfl | rfl | rfl | rfl | rfl <;> decide

set_option maxHeartbeats 1000000 in
theorem Many_calls (base t : Int) (w : World) :
    Calls Tryd.prog 23 #[.int .i64 base, .int .i64 t] w (RetS (.tuple #[.int .i64 (manyOf base t), errV 27 (manyErr base t)]) w) := by
  by_cases hbad : radix base = 0 ∨ t < 0 ∨ 5 < t
  · have H := Lib.hid (show manyErr base t = 1 ∧ manyOf base t = 0 by simp [manyErr, manyOf, hbad])
    by_cases h1 : radix base = 0
    · have e0 : (radix base == 0) = true := by simp [h1]
      clear hbad h1
      go_enter Tryd.func23, Tryd.ntmps23
      go_wp2_with (go_at_call 66; refine (Radix_calls _ _).mono ?_; rintro e w' ⟨rfl, rfl⟩)
      go_ret2
      exact RetS.mk (by rw [H.out.1, H.out.2]; rfl)
    · have e0 : (radix base == 0) = false := by simp [h1]
      by_cases h2 : t < 0
      · clear hbad h1
        go_enter Tryd.func23, Tryd.ntmps23
        go_wp2_with (go_at_call 66; refine (Radix_calls _ _).mono ?_; rintro e w' ⟨rfl, rfl⟩)
        go_ret2
        exact RetS.mk (by rw [H.out.1, H.out.2]; rfl)
      · have h3 : 5 < t := by omega
        clear hbad h1
        go_enter Tryd.func23, Tryd.ntmps23
        go_wp2_with (go_at_call 66; refine (Radix_calls _ _).mono ?_; rintro e w' ⟨rfl, rfl⟩)
        go_ret2
        exact RetS.mk (by rw [H.out.1, H.out.2]; rfl)
  · have H := Lib.hid (show manyErr base t = if 36 < powW (radix base) t.toNat then 3 else 0 by simp only [manyErr, if_neg hbad])
    obtain ⟨t, rfl⟩ := Int.eq_ofNat_of_zero_le (show 0 ≤ t by omega)
    simp only [Int.toNat_natCast] at H
    have h1 : radix base ≠ 0 := by omega
    have e0 : (radix base == 0) = false := by simp [h1]
    have h2 : ¬ ((t : Int) < 0) := by omega
    have h3 : ¬ (5 < (t : Int)) := by omega
    have ht5 : t ≤ 5 := by omega
    obtain ⟨r2, r6⟩ := radix_two h1
    have HP := Lib.hid (show ∀ j, j ≤ 5 → 1 ≤ powW (radix base) j ∧ powW (radix base) j ≤ 7776 from fun j hj => powW_bd r2 r6 hj)
    have HM := Lib.hid (show manyErr base t = 0 → manyOf base t = powW (radix base) t by intro h; simp [manyOf, h])
    have HM0 := Lib.hid (show manyErr base t ≠ 0 → manyOf base t = 0 by intro h; simp [manyOf, h])
    clear hbad h1
    generalize hk : radix base = k at *
    have Hk := Lib.hid hk; clear hk
    go_enter Tryd.func23, Tryd.ntmps23
    go_wp2_with (go_at_call 66; refine (Radix_calls _ _).mono ?_; rintro e w' ⟨rfl, rfl⟩; rw [Hk.out])
    go_loopw [7, 22] (fun n i wr => ∃ j : Nat, j ≤ t ∧ i = .int .i64 j ∧ n = .int .i64 (powW k j) ∧ wr = w) (fun _ i _ => t - (intOf i).toNat)
    case atStart => exact ⟨0, by omega, rfl, rfl, rfl⟩
    case round =>
      obtain ⟨j, hj, rfl, rfl, rfl⟩ := hrel
      by_cases hlt : j < t
      · have p1 := (HP.out j (by omega)).1
        have p2 := (HP.out j (by omega)).2
        have p3 : 0 ≤ powW k j * k := Int.mul_nonneg (by omega) (by omega)
        have p4 : powW k j * k ≤ 46656 := by
          have := Int.mul_le_mul p2 r6 (by omega) (by omega)
          omega
        go_wp2
        go_roundw
        case rel => exact ⟨j + 1, by omega, by go_num, rfl, trivial⟩
        case measure => (simp [intOf] <;> omega)
      · obtain rfl : j = t := by omega
        by_cases hbig : 36 < powW k j
        · have R := Lib.hid (show manyErr base j = 3 ∧ manyOf base j = 0 by
            have : manyErr base j = 3 := by rw [H.out, if_pos hbig]
            exact ⟨this, HM0.out (by omega)⟩)
          go_wp2
          go_ret2
          exact RetS.mk (by rw [R.out.1, R.out.2]; rfl)
        · have R := Lib.hid (show manyErr base j = 0 ∧ manyOf base j = powW k j by
            have : manyErr base j = 0 := by rw [H.out, if_neg hbig]
            exact ⟨this, HM.out this⟩)
          go_wp2
          go_ret2
          exact RetS.mk (by rw [R.out.1, R.out.2]; rfl)

theorem packErr_many {base : Int} {d : List Int} (h : manyErr base d.length ≠ 0) : packErr base d = manyErr base d.length ∧ packOf base d = 0 := by
  have : packErr base d = manyErr base d.length := by simp [packErr, h]
  exact ⟨this, by simp [packOf, this, h]⟩
theorem packErr_digit {base : Int} {d : List Int} (h : manyErr base d.length = 0) {i : Nat} (hi : i < d.length) (hx : ¬ (0 ≤ d[i] ∧ d[i] < radix base)) : packErr base d = 1 ∧ packOf base d = 0 := by
  have : packErr base d = 1 := by
    rw [packErr, h]
    simp only [ne_eq, not_true_eq_false, if_false]
    rw [if_neg]
    intro hall
    have := List.all_eq_true.1 hall d[i] (List.getElem_mem _)
    exact hx (by simpa using this)
  exact ⟨this, by simp [packOf, this]⟩
theorem packErr_ok {base : Int} {d : List Int} (h : manyErr base d.length = 0) (hx : ∀ x ∈ d, 0 ≤ x ∧ x < radix base) : packErr base d = 0 ∧ packOf base d = pack (radix base) d := by
  have : packErr base d = 0 := by
    rw [packErr, h]
    simp only [ne_eq, not_true_eq_false, if_false]
    rw [if_pos]
    rw [List.all_eq_true]; intro x hx'; simpa using hx x hx'
  exact ⟨this, by simp [packOf, this]⟩

set_option maxHeartbeats 1000000 in
theorem Pack_calls (S : Nat → Prop) (base : Int) (v : Value) (d : List Int) (w : World) (hd : Ints S w v d) :
    Calls Tryd.prog 29 #[.int .i64 base, v] w (RetS (.tuple #[.int .i64 (packOf base d), errV 27 (packErr base d)]) w) := by
  obtain ⟨a, cap, rfl, hlen, hcell⟩ := hd
  by_cases h0 : manyErr base d.length = 0
  · obtain ⟨h1, _, h5, hp36, _⟩ := many_ok h0
    obtain ⟨r2, r6⟩ := radix_two h1
    have hl5 : d.length ≤ 5 := by omega
    have H0 := Lib.hid h0
    have HP := Lib.hid (show ∀ j, j ≤ 5 → 1 ≤ powW (radix base) j ∧ powW (radix base) j ≤ 7776 from fun j hj => powW_bd r2 r6 hj)
    have HD := Lib.hid (show ∀ (i : Nat) (hi : i < d.length), ¬ (0 ≤ d[i] ∧ d[i] < radix base) → packErr base d = 1 ∧ packOf base d = 0 from fun i hi hx => packErr_digit h0 hi hx)
    have HO := Lib.hid (show (∀ x ∈ d, 0 ≤ x ∧ x < radix base) → packErr base d = 0 ∧ packOf base d = pack (radix base) d from packErr_ok h0)
    have hbd := Lib.hid (show ∀ e : List Int, (∀ x ∈ e, 0 ≤ x ∧ x < radix base) → 0 ≤ pack (radix base) e ∧ pack (radix base) e < powW (radix base) e.length from fun e he => pack_bd r2 e he)
    clear h0 h1 h5 hp36
    generalize hk : radix base = k at *
    have Hk := Lib.hid hk; clear hk
    go_enter Tryd.func29, Tryd.ntmps29
    go_wp2_with fail
    refine (Many_calls _ _ _).mono ?_; rintro e w' ⟨rfl, rfl⟩; rw [H0.out, errV_zero]
    go_wp2_with fail
    refine (Radix_calls _ _).mono ?_; rintro e w' ⟨rfl, rfl⟩; rw [Hk.out]
    go_wp2_with fail
    go_loopw [9, 26] (fun l i wr => ∃ j : Nat, j ≤ d.length ∧ i = .int .i64 j ∧ l = .int .i64 (pack k (d.take j)) ∧ wr = w ∧ Hid (∀ x ∈ d.take j, 0 ≤ x ∧ x < k)) (fun _ i _ => d.length - (intOf i).toNat)
    case atStart => exact ⟨0, by omega, rfl, rfl, rfl, fun x hx => by simp at hx⟩
    case round =>
      obtain ⟨j, hj, rfl, rfl, rfl, Hall⟩ := hrel
      by_cases hlt : j < d.length
      · obtain ⟨b, off, x, ha, hS, hc, hx, hi⟩ := hcell j hlt
        subst ha hx
        have q := hbd.out _ Hall.out
        have q1 := q.1
        have q2 : pack k (d.take j) ≤ 7776 := by
          have := (HP.out (d.take j).length (by simp; omega)).2; omega
        have Hs := Lib.hid (show pack k (d.take (j + 1)) = pack k (d.take j) * k + d[j] by
          rw [List.take_succ_eq_append_getElem hlt, pack_snoc])
        clear q
        generalize hp : pack k (d.take j) = p at *
        have Hp := Lib.hid hp; clear hp
        have p3 : 0 ≤ p * k := Int.mul_nonneg (by omega) (by omega)
        have p4 : p * k ≤ 46656 := by
          have := Int.mul_le_mul q2 r6 (by omega) (by omega)
          omega
        by_cases c1 : 0 ≤ d[j]
        · by_cases c2 : d[j] < k
          · go_wp2
            go_roundw
            case rel => exact ⟨j + 1, by omega, by go_num, by rw [Hs.out], trivial, fun x hx => by
              rw [List.take_succ_eq_append_getElem hlt] at hx
              rcases List.mem_append.1 hx with hx | hx
              · exact Hall.out x hx
              · obtain rfl : x = d[j] := by simpa using hx
                exact ⟨c1, c2⟩⟩
            case measure => (simp [intOf] <;> omega)
          · have R := Lib.hid (HD.out j hlt (by omega))
            go_wp2
            go_ret2
            exact RetS.mk (by rw [R.out.1, R.out.2]; rfl)
        · have R := Lib.hid (HD.out j hlt (by omega))
          go_wp2
          go_ret2
          exact RetS.mk (by rw [R.out.1, R.out.2]; rfl)
      · have e : d.take j = d := List.take_of_length_le (by omega)
        rw [e] at Hall ⊢
        have R := Lib.hid (HO.out Hall.out)
        clear e
        go_wp2
        go_ret2
        exact RetS.mk (by rw [R.out.1, R.out.2]; rfl)
  · have R := Lib.hid (packErr_many h0)
    have E := Lib.hid (errV_ne 27 h0)
    clear h0
    go_enter Tryd.func29, Tryd.ntmps29
    go_wp2_with fail
    refine (Many_calls _ _ _).mono ?_; rintro e w' ⟨rfl, rfl⟩; rw [E.out]
    go_wp2
    go_ret2
    exact RetS.mk (by rw [R.out.1, R.out.2, E.out]; rfl)

end Go.Proofs.YtgglhdbhemcijaaDoor
