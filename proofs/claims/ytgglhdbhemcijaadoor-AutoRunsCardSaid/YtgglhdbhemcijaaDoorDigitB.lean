/- The walks of Value and Less: what digits count together. Conditions: the values read as lists. -/
import Derived.Test.YtgglhdbhemcijaaDoorDigitA
namespace Go.Proofs.YtgglhdbhemcijaaDoor
open Go.RowKit

theorem valErr_fault {base : Int} {d : List Int} (h : digitsFault base d ≠ 0) : valErr base d = digitsFault base d ∧ valOf base d = 0 := by
  have : valErr base d = digitsFault base d := by simp [valErr, h]
  exact ⟨this, by simp [valOf, this, h]⟩
theorem valErr_full {base : Int} {d : List Int} (h : digitsFault base d = 0) (hv : 1099511627776 < wv base d) : valErr base d = 3 ∧ valOf base d = 0 := by
  have : valErr base d = 3 := by simp [valErr, h, hv]
  exact ⟨this, by simp [valOf, this]⟩
theorem valErr_ok {base : Int} {d : List Int} (h : digitsFault base d = 0) (hv : wv base d ≤ 1099511627776) : valErr base d = 0 ∧ valOf base d = wv base d := by
  have : valErr base d = 0 := by simp [valErr, h]; omega
  exact ⟨this, by simp [valOf, this]⟩

set_option maxHeartbeats 1000000 in
theorem Value_calls (S : Nat → Prop) (base : Int) (v : Value) (d : List Int) (w : World) (hd : Ints S w v d) :
    Calls Tryd.prog 21 #[.int .i64 base, v] w (RetS (.tuple #[.int .i64 (valOf base d), errV 27 (valErr base d)]) w) := by
  have hd' := Lib.hid hd
  obtain ⟨a, cap, rfl, hlen, hcell⟩ := hd
  by_cases h0 : digitsFault base d = 0
  · have E0 := Lib.hid (show errV 27 (digitsFault base d) = .nilIface by simp [errV, h0])
    obtain ⟨hr, hl60, hok⟩ := fault_zero.1 h0
    have H0 := Lib.hid h0; clear h0
    have Hok := Lib.hid hok; clear hok
    have Hr := Lib.hid (radix_pos hr)
    have Hr' := Lib.hid hr; clear hr
    by_cases hb : base = 1
    · have e1 : (base == 1) = true := by simp [hb]
      have Hb := Lib.hid hb; clear hb
      go_enter Tryd.func21, Tryd.ntmps21
      go_wp2_with (go_at_call 69; refine (check_calls S _ _ _ _ hd'.out).mono ?_; rintro e w' ⟨rfl, rfl⟩; rw [E0.out])
      go_loopw [7, 8, 19] (fun v low i wr => ∃ (k : Nat) (x y : Int), i = .int .i64 k ∧ v = .int .i64 x ∧ low = .int .i64 y ∧ k ≤ d.length ∧ wr = w ∧ 0 ≤ y ∧ y ≤ x ∧ x ≤ 1099511627776 ∧ valFold base (d.take k) = (x, y)) (fun _ _ i _ => d.length - (intOf i).toNat)
      case atStart => exact ⟨0, 0, 0, rfl, rfl, rfl, by omega, rfl, by omega, by omega, by omega, rfl⟩
      case round =>
        obtain ⟨k, x, y, rfl, rfl, rfl, hk, rfl, h1, h2, h3, hf⟩ := hrel
        have Hf := Lib.hid hf; clear hf
        by_cases hlt : k < d.length
        · obtain ⟨b, off, z, ha, hS, hc, hx, hi⟩ := hcell k hlt
          subst ha hx
          have hz := Hok.out d[k] (List.getElem_mem _)
          have hz1 := hz.1
          have hz2 : d[k] ≤ 6 := by have := Hr.out; have := hz.2; omega
          clear hz
          have hst : valFold base (d.take (k + 1)) = (x + y + d[k], x + d[k]) := by
            rw [List.take_succ_eq_append_getElem hlt, valFold_snoc, Hf.out]; simp [valStep, Hb.out]
          have Hst := Lib.hid hst; clear hst
          by_cases hbig : 1099511627776 < x + y + d[k]
          · have hv := valErr_full H0.out (show 1099511627776 < wv base d by
              have := wv_take_le Hr'.out (d.take (k + 1)) (d.drop (k + 1)) (by rw [List.take_append_drop]; exact Hok.out)
              rw [List.take_append_drop, ← valFold_eq, Hst.out] at this
              exact Int.lt_of_lt_of_le hbig this)
            have Hv := Lib.hid hv; clear hv
            go_wp2
            go_ret2
            exact RetS.mk (by rw [Hv.out.1, Hv.out.2]; rfl)
          · go_wp2
            go_roundw
            case rel => exact ⟨k + 1, _, _, by go_num, rfl, rfl, by omega, trivial, by omega, by omega, by omega, Hst.out⟩
            case measure => (simp [intOf] <;> omega)
        · have hw : wv base d = x := by
            have := Hf.out
            rw [List.take_of_length_le (by omega)] at this
            rw [← valFold_eq, this]
          have hv := valErr_ok H0.out (show wv base d ≤ 1099511627776 by omega)
          rw [hw] at hv
          have Hv := Lib.hid hv; clear hv hw
          go_wp2
          go_ret2
          exact RetS.mk (by rw [Hv.out.1, Hv.out.2]; rfl)
    · have e1 : (base == 1) = false := by simp [hb]
      have Hb := Lib.hid hb
      have hb2 : 2 ≤ base := by have := Hr.out; omega
      have hb6 : base ≤ 6 := by have := Hr.out; omega
      clear hb
      go_enter Tryd.func21, Tryd.ntmps21
      go_wp2_with (go_at_call 69; refine (check_calls S _ _ _ _ hd'.out).mono ?_; rintro e w' ⟨rfl, rfl⟩; rw [E0.out])
      go_loopw [7, 19] (fun v i wr => ∃ (k : Nat) (x : Int), i = .int .i64 k ∧ v = .int .i64 x ∧ k ≤ d.length ∧ wr = w ∧ 0 ≤ x ∧ x ≤ 1099511627776 ∧ valFold base (d.take k) = (x, 0)) (fun _ i _ => d.length - (intOf i).toNat)
      case atStart => exact ⟨0, 0, rfl, rfl, by omega, rfl, by omega, by omega, rfl⟩
      case round =>
        obtain ⟨k, x, rfl, rfl, hk, rfl, h1, h3, hf⟩ := hrel
        have Hf := Lib.hid hf; clear hf
        by_cases hlt : k < d.length
        · obtain ⟨b, off, z, ha, hS, hc, hx, hi⟩ := hcell k hlt
          subst ha hx
          have hz := Hok.out d[k] (List.getElem_mem _)
          have hz1 := hz.1
          have hz2 : d[k] ≤ 6 := by have := Hr.out; have := hz.2; omega
          clear hz
          have hm1 : 0 ≤ x * base := Int.mul_nonneg h1 (by omega)
          have hm2 : x * base ≤ 6597069766656 := by
            have := Int.mul_le_mul h3 hb6 (by omega) (by omega)
            omega
          have hst : valFold base (d.take (k + 1)) = (x * base + d[k], 0) := by
            rw [List.take_succ_eq_append_getElem hlt, valFold_snoc, Hf.out]; simp [valStep, Hb.out]
          have Hst := Lib.hid hst; clear hst
          by_cases hbig : 1099511627776 < x * base + d[k]
          · have hv := valErr_full H0.out (show 1099511627776 < wv base d by
              have := wv_take_le Hr'.out (d.take (k + 1)) (d.drop (k + 1)) (by rw [List.take_append_drop]; exact Hok.out)
              rw [List.take_append_drop, ← valFold_eq, Hst.out] at this
              exact Int.lt_of_lt_of_le hbig this)
            have Hv := Lib.hid hv; clear hv
            go_wp2
            go_ret2
            exact RetS.mk (by rw [Hv.out.1, Hv.out.2]; rfl)
          · go_wp2
            go_roundw
            case rel => exact ⟨k + 1, _, by go_num, rfl, by omega, trivial, by omega, by omega, Hst.out⟩
            case measure => (simp [intOf] <;> omega)
        · have hw : wv base d = x := by
            have := Hf.out
            rw [List.take_of_length_le (by omega)] at this
            rw [← valFold_eq, this]
          have hv := valErr_ok H0.out (show wv base d ≤ 1099511627776 by omega)
          rw [hw] at hv
          have Hv := Lib.hid hv; clear hv hw
          go_wp2
          go_ret2
          exact RetS.mk (by rw [Hv.out.1, Hv.out.2]; rfl)
  · have hv := valErr_fault h0
    have Hv := Lib.hid hv; clear hv
    obtain ⟨e, he⟩ : ∃ e, digitsFault base d = e := ⟨_, rfl⟩
    rw [he] at h0
    have E0 := Lib.hid (show errV 27 (digitsFault base d) = .iface 27 (.int .i64 e) by simp [errV, he, h0])
    clear h0 he
    go_enter Tryd.func21, Tryd.ntmps21
    go_wp2_with (go_at_call 69; refine (check_calls S _ _ _ _ hd'.out).mono ?_; rintro e w' ⟨rfl, rfl⟩; rw [E0.out])
    go_ret2
    exact RetS.mk (by rw [Hv.out.1, Hv.out.2, E0.out]; rfl)

def lessErr (base : Int) (a b : List Int) : Int := if valErr base a = 0 then valErr base b else valErr base a
def lessRes (base : Int) (a b : List Int) : Bool := decide (valErr base a = 0 ∧ valErr base b = 0 ∧ valOf base a < valOf base b)

theorem valOf_bd (base : Int) (d : List Int) : 0 ≤ valOf base d ∧ valOf base d ≤ 1099511627776 := by
  by_cases h0 : digitsFault base d = 0
  · by_cases hv : 1099511627776 < wv base d
    · rw [(valErr_full h0 hv).2]; omega
    · rw [(valErr_ok h0 (by omega)).2]
      have := wv_nonneg (fault_zero.1 h0).1 (fault_zero.1 h0).2.2
      omega
  · rw [(valErr_fault h0).2]; omega

set_option maxHeartbeats 1000000 in
theorem Less_calls (S S' : Nat → Prop) (base : Int) (v v' : Value) (a b : List Int) (w : World) (ha : Ints S w v a) (hb : Ints S' w v' b) :
    Calls Tryd.prog 22 #[.int .i64 base, v, v'] w (RetS (.tuple #[.bool (lessRes base a b), errV 27 (lessErr base a b)]) w) := by
  have Ha := Lib.hid ha; clear ha
  have Hb := Lib.hid hb; clear hb
  have hbd1 := valOf_bd base a
  have hbd2 := valOf_bd base b
  by_cases h1 : valErr base a = 0
  · have E1 := Lib.hid (show errV 27 (valErr base a) = .nilIface by simp [errV, h1])
    by_cases h2 : valErr base b = 0
    · have E2 := Lib.hid (show errV 27 (valErr base b) = .nilIface by simp [errV, h2])
      have R := Lib.hid (show lessErr base a b = 0 ∧ lessRes base a b = decide (valOf base a < valOf base b) by simp [lessErr, lessRes, h1, h2])
      clear h1 h2
      go_enter Tryd.func22, Tryd.ntmps22
      go_wp2_with fail
      refine (Value_calls S _ _ _ _ Ha.out).mono ?_; rintro e w' ⟨rfl, rfl⟩; rw [E1.out]
      go_wp2_with fail
      refine (Value_calls S' _ _ _ _ Hb.out).mono ?_; rintro e w' ⟨rfl, rfl⟩; rw [E2.out]
      go_wp2_with fail
      go_ret2
      exact RetS.mk (by rw [R.out.1, R.out.2]; rfl)
    · obtain ⟨x, hx⟩ : ∃ x, valErr base b = x := ⟨_, rfl⟩
      have R := Lib.hid (show lessErr base a b = x ∧ lessRes base a b = false by rw [← hx]; simp [lessErr, lessRes, h1, h2])
      rw [hx] at h2
      have E2 := Lib.hid (show errV 27 (valErr base b) = .iface 27 (.int .i64 x) by simp [errV, hx, h2])
      have E3 := Lib.hid (show errV 27 x = .iface 27 (.int .i64 x) by simp [errV, h2])
      clear h1 h2 hx
      go_enter Tryd.func22, Tryd.ntmps22
      go_wp2_with fail
      refine (Value_calls S _ _ _ _ Ha.out).mono ?_; rintro e w' ⟨rfl, rfl⟩; rw [E1.out]
      go_wp2_with fail
      refine (Value_calls S' _ _ _ _ Hb.out).mono ?_; rintro e w' ⟨rfl, rfl⟩; rw [E2.out]
      go_wp2_with fail
      go_ret2
      exact RetS.mk (by rw [R.out.1, R.out.2, E3.out]; rfl)
  · obtain ⟨x, hx⟩ : ∃ x, valErr base a = x := ⟨_, rfl⟩
    have R := Lib.hid (show lessErr base a b = x ∧ lessRes base a b = false by rw [← hx]; simp [lessErr, lessRes, h1])
    rw [hx] at h1
    have E1 := Lib.hid (show errV 27 (valErr base a) = .iface 27 (.int .i64 x) by simp [errV, hx, h1])
    have E3 := Lib.hid (show errV 27 x = .iface 27 (.int .i64 x) by simp [errV, h1])
    clear h1 hx
    go_enter Tryd.func22, Tryd.ntmps22
    go_wp2_with fail
    refine (Value_calls S _ _ _ _ Ha.out).mono ?_; rintro e w' ⟨rfl, rfl⟩; rw [E1.out]
    go_wp2_with fail
    go_ret2
    exact RetS.mk (by rw [R.out.1, R.out.2, E3.out]; rfl)

end Go.Proofs.YtgglhdbhemcijaaDoor
