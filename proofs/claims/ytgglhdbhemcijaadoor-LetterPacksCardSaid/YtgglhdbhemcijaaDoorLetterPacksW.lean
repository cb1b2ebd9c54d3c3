/- The walk of LetterPacks: it returns true. Condition: what the laid variable holds. -/
import Derived.Test.YtgglhdbhemcijaaDoorRefL
import Derived.Test.YtgglhdbhemcijaaDoorLetterB
import Derived.Test.YtgglhdbhemcijaaDoorTold
namespace Go.Proofs.YtgglhdbhemcijaaDoor
open Go.RowKit

theorem beq_self_int (e : Int) : (e == e) = true := by simp

set_option maxHeartbeats 4000000 in
set_option maxRecDepth 100000 in
theorem LetterPacks_walk (base t : Int) (vd : Value) (d : List Int) (l : Int) (w : World) (_hb : I64 base) (_ht : I64 t) (hd : Ints (· < w.heap.size) w vd d) (_hl : I64 l) (hg : errCell w) :
    Calls Tryd.prog 4 #[.int .i64 base, .int .i64 t, vd, .int .i64 l] w (Ret (.bool true) w) := by
  have Hd := Lib.hid hd
  have Hg := Lib.hid hg
  obtain ⟨pd, cd, rfl⟩ := hd.form
  clear hd hg _hb _ht _hl
  have hmm : (manyOf base t != manyOf base t) = false := by simp
  go_enter Tryd.func4, Tryd.ntmps4
  go_wp2_with fail
  refine (Many_calls _ _ _).mono ?_
  rintro e w' ⟨rfl, rfl⟩
  go_wp2_with fail
  refine (RLetters_calls _ _ _).mono ?_
  rintro e w' ⟨rfl, rfl⟩
  go_wp2_with fail
  refine (Error_calls _ _ _ Hg.out).mono ?_
  rintro e w1 ⟨rfl, hw1⟩
  rw [beq_self_int]
  have HB1 := Lib.hid hw1
  clear hw1
  go_wp2_with fail
  refine (Unpack_calls _ _ _ _).mono ?_
  rintro e w2 ⟨_, rfl, ⟨x2, rfl, hl2⟩, hw2⟩
  have HB2 := Lib.hid (HB1.out.trans (hw2.mono HB1.out.size))
  have Hl2 := Lib.hid hl2
  obtain ⟨p2, c2, rfl⟩ := hl2.form
  clear hl2 hw2 HB1
  by_cases h0 : manyErr base t = 0
  · have h0' : (manyErr base t == 0) = true := by simp [h0]
    by_cases hbad : l < 0 ∨ manyOf base t ≤ l
    · have R := Lib.hid (unpackErr_letter h0 hbad)
      by_cases hl0 : l < 0
      · clear hbad h0
        rw [R.out.1]
        go_wp2_with fail
        refine (Error_calls _ _ _ (Hg.out.below HB2.out)).mono ?_
        rintro e w3 ⟨rfl, hw3⟩
        rw [beq_self_int]
        have HB3 := Lib.hid (HB2.out.trans (hw3.mono HB2.out.size))
        clear hw3 HB2 Hl2
        rw [R.out.2] at *
        go_wp2_with fail
        go_loopw [15] (fun i wr => i = .int .i64 0 ∧ wr = w3) (fun _ _ => 0)
        case atStart => exact ⟨rfl, rfl⟩
        case round =>
          obtain ⟨rfl, rfl⟩ := hrel
          go_wp2_with fail
          refine (RLetters_calls _ _ _).mono ?_
          rintro e w' ⟨rfl, rfl⟩
          obtain ⟨wo, rfl⟩ : ∃ wo : World, wo = wr := ⟨_, rfl⟩
          by_cases hm : manyErr base d.length = 0
          · have Hm := Lib.hid hm
            rw [hm]
            obtain ⟨hr0, _, h5, _, _⟩ := many_ok hm
            have Hr0 := Lib.hid hr0
            have hd5 : d.length ≤ 5 := by omega
            clear hm hr0 h5
            have Hrx := Lib.hid (RRadix_calls base)
            go_wp2_with fail
            go_loopw [12, 17] (fun e i wr => ∃ (k : Nat), k ≤ d.length ∧ i = .int .i64 k ∧ ((e = .int .i64 0 ∧ Hid (∀ i (hi : i < d.length), i < k → 0 ≤ d[i] ∧ d[i] < radix base)) ∨ (e = .int .i64 1 ∧ Hid (packErr base d = 1 ∧ packOf base d = 0))) ∧ Hid (Below wo.heap.size wo wr)) (fun _ i _ => d.length - (intOf i).toNat)
            case atStart => exact ⟨0, by omega, rfl, .inl ⟨rfl, fun i hi h => by omega⟩, Below.refl _ _⟩
            case round =>
              obtain ⟨k, hk, rfl, he, HBe⟩ := hrel
              rcases he with ⟨rfl, HA⟩ | ⟨rfl, HE⟩
              · by_cases hlt : k < d.length
                · obtain ⟨b, off, x, hp, hSb, hc, hx, hi⟩ := (Hd.out.under (HB3.out.trans (HBe.out.mono HB3.out.size))).at k hlt
                  subst hp hx
                  have c0 : (k : Int) < d.length := by omega
                  by_cases g1 : d[k] < 0
                  · have HE := Lib.hid (packErr_digit Hm.out hlt (by omega))
                    have g1' : decide (d[k] < 0) = true := by simpa using g1
                    clear g1
                    go_wp2
                    go_quiet ((go_at_call 27; exact quietS (Hrx.out _)))
                    go_wp2
                    go_roundw
                    case rel => exact ⟨k + 1, by omega, by go_num, .inr ⟨rfl, HE.out⟩, below_drewN HBe.out _⟩
                    case measure => (simp [intOf] <;> omega)
                  · have g1' : decide (d[k] < 0) = false := by simpa using g1
                    by_cases g2 : radix base ≤ d[k]
                    · have HE := Lib.hid (packErr_digit Hm.out hlt (by omega))
                      go_wp2
                      go_quiet ((go_at_call 27; exact quietS (Hrx.out _)))
                      go_wp2
                      go_roundw
                      case rel => exact ⟨k + 1, by omega, by go_num, .inr ⟨rfl, HE.out⟩, below_drewN HBe.out _⟩
                      case measure => (simp [intOf] <;> omega)
                    · have HG := Lib.hid (show 0 ≤ d[k] ∧ d[k] < radix base by omega)
                      go_wp2
                      go_quiet ((go_at_call 27; exact quietS (Hrx.out _)))
                      go_wp2
                      go_roundw
                      case rel =>
                        refine ⟨k + 1, by omega, by go_num, .inl ⟨rfl, fun i hi h => ?_⟩, below_drewN HBe.out _⟩
                        by_cases e : i < k
                        · exact HA.out i hi e
                        · obtain rfl : i = k := by omega
                          exact HG.out
                      case measure => (simp [intOf] <;> omega)
                · have c0 : ¬ (k : Int) < d.length := by omega
                  obtain rfl : k = d.length := by omega
                  have hall : ∀ x ∈ d, 0 ≤ x ∧ x < radix base := by
                    intro x hx
                    obtain ⟨i, hi, rfl⟩ := List.mem_iff_getElem.1 hx
                    exact HA.out i hi hi
                  have HP := Lib.hid (packErr_ok Hm.out hall)
                  have Hall := Lib.hid hall
                  clear hall
                  have HB3 := Lib.hid (HB3.out.trans (HBe.out.mono HB3.out.size))
                  have hpp : (pack (radix base) d == pack (radix base) d) = true := by simp
                  go_wp2_with fail
                  refine (RPackOf_calls _ base _ d _ Hr0.out hd5 Hall.out (fun b hb => Nat.lt_of_lt_of_le hb HB3.out.size) (Hd.out.under HB3.out)).mono ?_
                  rintro e w5 ⟨rfl, hw5⟩
                  have HB5 := Lib.hid (HB3.out.trans (hw5.mono HB3.out.size))
                  clear hw5
                  go_wp2_with fail
                  refine (Pack_calls _ _ _ _ _ (Hd.out.under HB5.out)).mono ?_
                  rintro e w' ⟨rfl, rfl⟩
                  rw [HP.out.1, HP.out.2]
                  go_wp2_with fail
                  refine (Error_calls _ _ _ (Hg.out.below HB5.out)).mono ?_
                  rintro e w6 ⟨rfl, hw6⟩
                  rw [beq_self_int]
                  have HB6 := Lib.hid (HB5.out.trans (hw6.mono HB5.out.size))
                  clear hw6
                  go_wp2
                  go_ret
                  exact Ret.mk rfl HB6.out
              · have HB3 := Lib.hid (HB3.out.trans (HBe.out.mono HB3.out.size))
                by_cases c0 : (k : Int) < d.length
                all_goals
                  go_wp2_with fail
                  refine (Pack_calls _ _ _ _ _ (Hd.out.under HB3.out)).mono ?_
                  rintro e w' ⟨rfl, rfl⟩
                  rw [HE.out.1, HE.out.2]
                  go_wp2_with fail
                  refine (Error_calls _ _ _ (Hg.out.below HB3.out)).mono ?_
                  rintro e w6 ⟨rfl, hw6⟩
                  rw [beq_self_int]
                  have HB6 := Lib.hid (HB3.out.trans (hw6.mono HB3.out.size))
                  clear hw6
                  go_wp2
                  go_ret
                  exact Ret.mk rfl HB6.out
          · have HP := Lib.hid (packErr_many hm)
            have hm' : (manyErr base d.length == 0) = false := by simpa using hm
            clear hm
            go_wp2_with fail
            go_loopw [12, 17] (fun e i wr => e = .int .i64 (manyErr base d.length) ∧ i = .int .i64 0 ∧ wr = wo) (fun _ _ _ => 0)
            case atStart => exact ⟨rfl, rfl, rfl⟩
            case round =>
              obtain ⟨rfl, rfl, rfl⟩ := hrel
              by_cases c0 : (0 : Int) < d.length
              all_goals
                go_wp2_with fail
                refine (Pack_calls _ _ _ _ _ (Hd.out.under HB3.out)).mono ?_
                rintro e w' ⟨rfl, rfl⟩
                rw [HP.out.1, HP.out.2]
                go_wp2_with fail
                refine (Error_calls _ _ _ (Hg.out.below HB3.out)).mono ?_
                rintro e w6 ⟨rfl, hw6⟩
                rw [beq_self_int]
                have HB6 := Lib.hid (HB3.out.trans (hw6.mono HB3.out.size))
                clear hw6
                go_wp2
                go_ret
                exact Ret.mk rfl HB6.out
      · have hl1 : manyOf base t ≤ l := by omega
        clear hbad h0
        rw [R.out.1]
        go_wp2_with fail
        refine (Error_calls _ _ _ (Hg.out.below HB2.out)).mono ?_
        rintro e w3 ⟨rfl, hw3⟩
        rw [beq_self_int]
        have HB3 := Lib.hid (HB2.out.trans (hw3.mono HB2.out.size))
        clear hw3 HB2 Hl2
        rw [R.out.2] at *
        go_wp2_with fail
        go_loopw [15] (fun i wr => i = .int .i64 0 ∧ wr = w3) (fun _ _ => 0)
        case atStart => exact ⟨rfl, rfl⟩
        case round =>
          obtain ⟨rfl, rfl⟩ := hrel
          go_wp2_with fail
          refine (RLetters_calls _ _ _).mono ?_
          rintro e w' ⟨rfl, rfl⟩
          obtain ⟨wo, rfl⟩ : ∃ wo : World, wo = wr := ⟨_, rfl⟩
          by_cases hm : manyErr base d.length = 0
          · have Hm := Lib.hid hm
            rw [hm]
            obtain ⟨hr0, _, h5, _, _⟩ := many_ok hm
            have Hr0 := Lib.hid hr0
            have hd5 : d.length ≤ 5 := by omega
            clear hm hr0 h5
            have Hrx := Lib.hid (RRadix_calls base)
            go_wp2_with fail
            go_loopw [12, 17] (fun e i wr => ∃ (k : Nat), k ≤ d.length ∧ i = .int .i64 k ∧ ((e = .int .i64 0 ∧ Hid (∀ i (hi : i < d.length), i < k → 0 ≤ d[i] ∧ d[i] < radix base)) ∨ (e = .int .i64 1 ∧ Hid (packErr base d = 1 ∧ packOf base d = 0))) ∧ Hid (Below wo.heap.size wo wr)) (fun _ i _ => d.length - (intOf i).toNat)
            case atStart => exact ⟨0, by omega, rfl, .inl ⟨rfl, fun i hi h => by omega⟩, Below.refl _ _⟩
            case round =>
              obtain ⟨k, hk, rfl, he, HBe⟩ := hrel
              rcases he with ⟨rfl, HA⟩ | ⟨rfl, HE⟩
              · by_cases hlt : k < d.length
                · obtain ⟨b, off, x, hp, hSb, hc, hx, hi⟩ := (Hd.out.under (HB3.out.trans (HBe.out.mono HB3.out.size))).at k hlt
                  subst hp hx
                  have c0 : (k : Int) < d.length := by omega
                  by_cases g1 : d[k] < 0
                  · have HE := Lib.hid (packErr_digit Hm.out hlt (by omega))
                    have g1' : decide (d[k] < 0) = true := by simpa using g1
                    clear g1
                    go_wp2
                    go_quiet ((go_at_call 27; exact quietS (Hrx.out _)))
                    go_wp2
                    go_roundw
                    case rel => exact ⟨k + 1, by omega, by go_num, .inr ⟨rfl, HE.out⟩, below_drewN HBe.out _⟩
                    case measure => (simp [intOf] <;> omega)
                  · have g1' : decide (d[k] < 0) = false := by simpa using g1
                    by_cases g2 : radix base ≤ d[k]
                    · have HE := Lib.hid (packErr_digit Hm.out hlt (by omega))
                      go_wp2
                      go_quiet ((go_at_call 27; exact quietS (Hrx.out _)))
                      go_wp2
                      go_roundw
                      case rel => exact ⟨k + 1, by omega, by go_num, .inr ⟨rfl, HE.out⟩, below_drewN HBe.out _⟩
                      case measure => (simp [intOf] <;> omega)
                    · have HG := Lib.hid (show 0 ≤ d[k] ∧ d[k] < radix base by omega)
                      go_wp2
                      go_quiet ((go_at_call 27; exact quietS (Hrx.out _)))
                      go_wp2
                      go_roundw
                      case rel =>
                        refine ⟨k + 1, by omega, by go_num, .inl ⟨rfl, fun i hi h => ?_⟩, below_drewN HBe.out _⟩
                        by_cases e : i < k
                        · exact HA.out i hi e
                        · obtain rfl : i = k := by omega
                          exact HG.out
                      case measure => (simp [intOf] <;> omega)
                · have c0 : ¬ (k : Int) < d.length := by omega
                  obtain rfl : k = d.length := by omega
                  have hall : ∀ x ∈ d, 0 ≤ x ∧ x < radix base := by
                    intro x hx
                    obtain ⟨i, hi, rfl⟩ := List.mem_iff_getElem.1 hx
                    exact HA.out i hi hi
                  have HP := Lib.hid (packErr_ok Hm.out hall)
                  have Hall := Lib.hid hall
                  clear hall
                  have HB3 := Lib.hid (HB3.out.trans (HBe.out.mono HB3.out.size))
                  have hpp : (pack (radix base) d == pack (radix base) d) = true := by simp
                  go_wp2_with fail
                  refine (RPackOf_calls _ base _ d _ Hr0.out hd5 Hall.out (fun b hb => Nat.lt_of_lt_of_le hb HB3.out.size) (Hd.out.under HB3.out)).mono ?_
                  rintro e w5 ⟨rfl, hw5⟩
                  have HB5 := Lib.hid (HB3.out.trans (hw5.mono HB3.out.size))
                  clear hw5
                  go_wp2_with fail
                  refine (Pack_calls _ _ _ _ _ (Hd.out.under HB5.out)).mono ?_
                  rintro e w' ⟨rfl, rfl⟩
                  rw [HP.out.1, HP.out.2]
                  go_wp2_with fail
                  refine (Error_calls _ _ _ (Hg.out.below HB5.out)).mono ?_
                  rintro e w6 ⟨rfl, hw6⟩
                  rw [beq_self_int]
                  have HB6 := Lib.hid (HB5.out.trans (hw6.mono HB5.out.size))
                  clear hw6
                  go_wp2
                  go_ret
                  exact Ret.mk rfl HB6.out
              · have HB3 := Lib.hid (HB3.out.trans (HBe.out.mono HB3.out.size))
                by_cases c0 : (k : Int) < d.length
                all_goals
                  go_wp2_with fail
                  refine (Pack_calls _ _ _ _ _ (Hd.out.under HB3.out)).mono ?_
                  rintro e w' ⟨rfl, rfl⟩
                  rw [HE.out.1, HE.out.2]
                  go_wp2_with fail
                  refine (Error_calls _ _ _ (Hg.out.below HB3.out)).mono ?_
                  rintro e w6 ⟨rfl, hw6⟩
                  rw [beq_self_int]
                  have HB6 := Lib.hid (HB3.out.trans (hw6.mono HB3.out.size))
                  clear hw6
                  go_wp2
                  go_ret
                  exact Ret.mk rfl HB6.out
          · have HP := Lib.hid (packErr_many hm)
            have hm' : (manyErr base d.length == 0) = false := by simpa using hm
            clear hm
            go_wp2_with fail
            go_loopw [12, 17] (fun e i wr => e = .int .i64 (manyErr base d.length) ∧ i = .int .i64 0 ∧ wr = wo) (fun _ _ _ => 0)
            case atStart => exact ⟨rfl, rfl, rfl⟩
            case round =>
              obtain ⟨rfl, rfl, rfl⟩ := hrel
              by_cases c0 : (0 : Int) < d.length
              all_goals
                go_wp2_with fail
                refine (Pack_calls _ _ _ _ _ (Hd.out.under HB3.out)).mono ?_
                rintro e w' ⟨rfl, rfl⟩
                rw [HP.out.1, HP.out.2]
                go_wp2_with fail
                refine (Error_calls _ _ _ (Hg.out.below HB3.out)).mono ?_
                rintro e w6 ⟨rfl, hw6⟩
                rw [beq_self_int]
                have HB6 := Lib.hid (HB3.out.trans (hw6.mono HB3.out.size))
                clear hw6
                go_wp2
                go_ret
                exact Ret.mk rfl HB6.out
    · have R := Lib.hid (unpackErr_ok h0 hbad)
      rw [h0]
      have hl0 : ¬ l < 0 := by omega
      have hl1 : ¬ manyOf base t ≤ l := by omega
      obtain ⟨hr0, ht0, ht5, hp36, hmo⟩ := many_ok h0
      obtain ⟨t, rfl⟩ := Int.eq_ofNat_of_zero_le ht0
      simp only [Int.toNat_natCast] at R hp36 hmo
      have hul : (unpack (radix base) t l).length = t := unpack_length _ _ _
      have ht5' : t ≤ 5 := by omega
      have HDg := Lib.hid (show ∀ (i : Nat) (w : World), i < t → Calls Tryd.prog 26 #[.int .i64 base, .int .i64 t, .int .i64 l, .int .i64 i] w (RetS (.int .i64 (digitAt (radix base) t l i)) w) from
        fun i w hi => RDigitOf_calls base t l i w hr0 ht5' (by omega) (by omega) hi)
      have HU := Lib.hid (show ∀ i (hi : i < (unpack (radix base) t l).length), ((unpack (radix base) t l)[i] != digitAt (radix base) t l i) = false from fun i hi => by
        rw [digitAt, getD_lt hi]; simp)
      rw [R.out.1]
      rw [R.out.2] at Hl2 ⊢
      generalize hD : unpack (radix base) t l = D at *
      rw [hul] at Hl2 ⊢
      have Hul := Lib.hid hul
      have htt : ((t : Int) != (t : Int)) = false := by simp
      clear hbad h0 hr0 hp36 hmo hD hul ht0
      go_wp2_with fail
      refine (Error_calls _ _ _ (Hg.out.below HB2.out)).mono ?_
      rintro e w3 ⟨rfl, hw3⟩
      rw [beq_self_int]
      have HB3 := Lib.hid (HB2.out.trans (hw3.mono HB2.out.size))
      have Hl3 := Lib.hid (Hl2.out.below hw3 (S' := (· < w3.heap.size)) (fun b _ hlt => Nat.lt_of_lt_of_le hlt hw3.size))
      clear hw3 HB2 Hl2
      go_wp2_with fail
      obtain ⟨wq, rfl⟩ : ∃ wq : World, wq = w3 := ⟨_, rfl⟩
      go_loopw [15] (fun i wr => ∃ k : Nat, k ≤ t ∧ i = .int .i64 k ∧ Hid (Below wq.heap.size wq wr)) (fun i _ => t - (intOf i).toNat)
      case atStart => exact ⟨0, by omega, rfl, Below.refl _ _⟩
      case round =>
        obtain ⟨k, hk, rfl, HBe⟩ := hrel
        by_cases hlt : k < t
        · obtain ⟨b, off, x, hp, hSb, hc, hx, hi⟩ := (Hl3.out.under HBe.out).at k (by have := Hul.out; omega)
          subst hp hx
          have hne := HU.out k (by have := Hul.out; omega)
          have Hk := Lib.hid hlt
          go_wp2
          go_quiet ((go_at_call 26; exact quietS (HDg.out _ _ Hk.out)))
          go_wp2
          go_roundw
          case rel => exact ⟨k + 1, by omega, by go_num, below_drewN HBe.out _⟩
          case measure => (simp [intOf] <;> omega)
        · have HBf := Lib.hid (HB3.out.trans (HBe.out.mono HB3.out.size))
          go_wp2_with fail
          refine (RLetters_calls _ _ _).mono ?_
          rintro e w' ⟨rfl, rfl⟩
          obtain ⟨wo, rfl⟩ : ∃ wo : World, wo = wr := ⟨_, rfl⟩
          by_cases hm : manyErr base d.length = 0
          · have Hm := Lib.hid hm
            rw [hm]
            obtain ⟨hr0, _, h5, _, _⟩ := many_ok hm
            have Hr0 := Lib.hid hr0
            have hd5 : d.length ≤ 5 := by omega
            clear hm hr0 h5
            have Hrx := Lib.hid (RRadix_calls base)
            go_wp2_with fail
            go_loopw [12, 17] (fun e i wr => ∃ (k : Nat), k ≤ d.length ∧ i = .int .i64 k ∧ ((e = .int .i64 0 ∧ Hid (∀ i (hi : i < d.length), i < k → 0 ≤ d[i] ∧ d[i] < radix base)) ∨ (e = .int .i64 1 ∧ Hid (packErr base d = 1 ∧ packOf base d = 0))) ∧ Hid (Below wo.heap.size wo wr)) (fun _ i _ => d.length - (intOf i).toNat)
            case atStart => exact ⟨0, by omega, rfl, .inl ⟨rfl, fun i hi h => by omega⟩, Below.refl _ _⟩
            case round =>
              obtain ⟨k, hk, rfl, he, HBe⟩ := hrel
              rcases he with ⟨rfl, HA⟩ | ⟨rfl, HE⟩
              · by_cases hlt : k < d.length
                · obtain ⟨b, off, x, hp, hSb, hc, hx, hi⟩ := (Hd.out.under (HBf.out.trans (HBe.out.mono HBf.out.size))).at k hlt
                  subst hp hx
                  have c0 : (k : Int) < d.length := by omega
                  by_cases g1 : d[k] < 0
                  · have HE := Lib.hid (packErr_digit Hm.out hlt (by omega))
                    have g1' : decide (d[k] < 0) = true := by simpa using g1
                    clear g1
                    go_wp2
                    go_quiet ((go_at_call 27; exact quietS (Hrx.out _)))
                    go_wp2
                    go_roundw
                    case rel => exact ⟨k + 1, by omega, by go_num, .inr ⟨rfl, HE.out⟩, below_drewN HBe.out _⟩
                    case measure => (simp [intOf] <;> omega)
                  · have g1' : decide (d[k] < 0) = false := by simpa using g1
                    by_cases g2 : radix base ≤ d[k]
                    · have HE := Lib.hid (packErr_digit Hm.out hlt (by omega))
                      go_wp2
                      go_quiet ((go_at_call 27; exact quietS (Hrx.out _)))
                      go_wp2
                      go_roundw
                      case rel => exact ⟨k + 1, by omega, by go_num, .inr ⟨rfl, HE.out⟩, below_drewN HBe.out _⟩
                      case measure => (simp [intOf] <;> omega)
                    · have HG := Lib.hid (show 0 ≤ d[k] ∧ d[k] < radix base by omega)
                      go_wp2
                      go_quiet ((go_at_call 27; exact quietS (Hrx.out _)))
                      go_wp2
                      go_roundw
                      case rel =>
                        refine ⟨k + 1, by omega, by go_num, .inl ⟨rfl, fun i hi h => ?_⟩, below_drewN HBe.out _⟩
                        by_cases e : i < k
                        · exact HA.out i hi e
                        · obtain rfl : i = k := by omega
                          exact HG.out
                      case measure => (simp [intOf] <;> omega)
                · have c0 : ¬ (k : Int) < d.length := by omega
                  obtain rfl : k = d.length := by omega
                  have hall : ∀ x ∈ d, 0 ≤ x ∧ x < radix base := by
                    intro x hx
                    obtain ⟨i, hi, rfl⟩ := List.mem_iff_getElem.1 hx
                    exact HA.out i hi hi
                  have HP := Lib.hid (packErr_ok Hm.out hall)
                  have Hall := Lib.hid hall
                  clear hall
                  have HB3 := Lib.hid (HBf.out.trans (HBe.out.mono HBf.out.size))
                  have hpp : (pack (radix base) d == pack (radix base) d) = true := by simp
                  go_wp2_with fail
                  refine (RPackOf_calls _ base _ d _ Hr0.out hd5 Hall.out (fun b hb => Nat.lt_of_lt_of_le hb HB3.out.size) (Hd.out.under HB3.out)).mono ?_
                  rintro e w5 ⟨rfl, hw5⟩
                  have HB5 := Lib.hid (HB3.out.trans (hw5.mono HB3.out.size))
                  clear hw5
                  go_wp2_with fail
                  refine (Pack_calls _ _ _ _ _ (Hd.out.under HB5.out)).mono ?_
                  rintro e w' ⟨rfl, rfl⟩
                  rw [HP.out.1, HP.out.2]
                  go_wp2_with fail
                  refine (Error_calls _ _ _ (Hg.out.below HB5.out)).mono ?_
                  rintro e w6 ⟨rfl, hw6⟩
                  rw [beq_self_int]
                  have HB6 := Lib.hid (HB5.out.trans (hw6.mono HB5.out.size))
                  clear hw6
                  go_wp2
                  go_ret
                  exact Ret.mk rfl HB6.out
              · have HB3 := Lib.hid (HBf.out.trans (HBe.out.mono HBf.out.size))
                by_cases c0 : (k : Int) < d.length
                all_goals
                  go_wp2_with fail
                  refine (Pack_calls _ _ _ _ _ (Hd.out.under HB3.out)).mono ?_
                  rintro e w' ⟨rfl, rfl⟩
                  rw [HE.out.1, HE.out.2]
                  go_wp2_with fail
                  refine (Error_calls _ _ _ (Hg.out.below HB3.out)).mono ?_
                  rintro e w6 ⟨rfl, hw6⟩
                  rw [beq_self_int]
                  have HB6 := Lib.hid (HB3.out.trans (hw6.mono HB3.out.size))
                  clear hw6
                  go_wp2
                  go_ret
                  exact Ret.mk rfl HB6.out
          · have HP := Lib.hid (packErr_many hm)
            have hm' : (manyErr base d.length == 0) = false := by simpa using hm
            clear hm
            go_wp2_with fail
            go_loopw [12, 17] (fun e i wr => e = .int .i64 (manyErr base d.length) ∧ i = .int .i64 0 ∧ wr = wo) (fun _ _ _ => 0)
            case atStart => exact ⟨rfl, rfl, rfl⟩
            case round =>
              obtain ⟨rfl, rfl, rfl⟩ := hrel
              by_cases c0 : (0 : Int) < d.length
              all_goals
                go_wp2_with fail
                refine (Pack_calls _ _ _ _ _ (Hd.out.under HBf.out)).mono ?_
                rintro e w' ⟨rfl, rfl⟩
                rw [HP.out.1, HP.out.2]
                go_wp2_with fail
                refine (Error_calls _ _ _ (Hg.out.below HBf.out)).mono ?_
                rintro e w6 ⟨rfl, hw6⟩
                rw [beq_self_int]
                have HB6 := Lib.hid (HBf.out.trans (hw6.mono HBf.out.size))
                clear hw6
                go_wp2
                go_ret
                exact Ret.mk rfl HB6.out
  · have h0' : (manyErr base t == 0) = false := by simpa using h0
    have h0'' : (manyErr base t != 0) = true := by simpa using h0
    have R := Lib.hid (unpackErr_many (l := l) h0)
    clear h0
    rw [R.out.1]
    go_wp2_with fail
    refine (Error_calls _ _ _ (Hg.out.below HB2.out)).mono ?_
    rintro e w3 ⟨rfl, hw3⟩
    rw [beq_self_int]
    have HB3 := Lib.hid (HB2.out.trans (hw3.mono HB2.out.size))
    clear hw3 HB2 Hl2
    rw [R.out.2] at *
    go_wp2_with fail
    go_loopw [15] (fun i wr => i = .int .i64 0 ∧ wr = w3) (fun _ _ => 0)
    case atStart => exact ⟨rfl, rfl⟩
    case round =>
      obtain ⟨rfl, rfl⟩ := hrel
      go_wp2_with fail
      refine (RLetters_calls _ _ _).mono ?_
      rintro e w' ⟨rfl, rfl⟩
      obtain ⟨wo, rfl⟩ : ∃ wo : World, wo = wr := ⟨_, rfl⟩
      by_cases hm : manyErr base d.length = 0
      · have Hm := Lib.hid hm
        rw [hm]
        obtain ⟨hr0, _, h5, _, _⟩ := many_ok hm
        have Hr0 := Lib.hid hr0
        have hd5 : d.length ≤ 5 := by omega
        clear hm hr0 h5
        have Hrx := Lib.hid (RRadix_calls base)
        go_wp2_with fail
        go_loopw [12, 17] (fun e i wr => ∃ (k : Nat), k ≤ d.length ∧ i = .int .i64 k ∧ ((e = .int .i64 0 ∧ Hid (∀ i (hi : i < d.length), i < k → 0 ≤ d[i] ∧ d[i] < radix base)) ∨ (e = .int .i64 1 ∧ Hid (packErr base d = 1 ∧ packOf base d = 0))) ∧ Hid (Below wo.heap.size wo wr)) (fun _ i _ => d.length - (intOf i).toNat)
        case atStart => exact ⟨0, by omega, rfl, .inl ⟨rfl, fun i hi h => by omega⟩, Below.refl _ _⟩
        case round =>
          obtain ⟨k, hk, rfl, he, HBe⟩ := hrel
          rcases he with ⟨rfl, HA⟩ | ⟨rfl, HE⟩
          · by_cases hlt : k < d.length
            · obtain ⟨b, off, x, hp, hSb, hc, hx, hi⟩ := (Hd.out.under (HB3.out.trans (HBe.out.mono HB3.out.size))).at k hlt
              subst hp hx
              have c0 : (k : Int) < d.length := by omega
              by_cases g1 : d[k] < 0
              · have HE := Lib.hid (packErr_digit Hm.out hlt (by omega))
                have g1' : decide (d[k] < 0) = true := by simpa using g1
                clear g1
                go_wp2
                go_quiet ((go_at_call 27; exact quietS (Hrx.out _)))
                go_wp2
                go_roundw
                case rel => exact ⟨k + 1, by omega, by go_num, .inr ⟨rfl, HE.out⟩, below_drewN HBe.out _⟩
                case measure => (simp [intOf] <;> omega)
              · have g1' : decide (d[k] < 0) = false := by simpa using g1
                by_cases g2 : radix base ≤ d[k]
                · have HE := Lib.hid (packErr_digit Hm.out hlt (by omega))
                  go_wp2
                  go_quiet ((go_at_call 27; exact quietS (Hrx.out _)))
                  go_wp2
                  go_roundw
                  case rel => exact ⟨k + 1, by omega, by go_num, .inr ⟨rfl, HE.out⟩, below_drewN HBe.out _⟩
                  case measure => (simp [intOf] <;> omega)
                · have HG := Lib.hid (show 0 ≤ d[k] ∧ d[k] < radix base by omega)
                  go_wp2
                  go_quiet ((go_at_call 27; exact quietS (Hrx.out _)))
                  go_wp2
                  go_roundw
                  case rel =>
                    refine ⟨k + 1, by omega, by go_num, .inl ⟨rfl, fun i hi h => ?_⟩, below_drewN HBe.out _⟩
                    by_cases e : i < k
                    · exact HA.out i hi e
                    · obtain rfl : i = k := by omega
                      exact HG.out
                  case measure => (simp [intOf] <;> omega)
            · have c0 : ¬ (k : Int) < d.length := by omega
              obtain rfl : k = d.length := by omega
              have hall : ∀ x ∈ d, 0 ≤ x ∧ x < radix base := by
                intro x hx
                obtain ⟨i, hi, rfl⟩ := List.mem_iff_getElem.1 hx
                exact HA.out i hi hi
              have HP := Lib.hid (packErr_ok Hm.out hall)
              have Hall := Lib.hid hall
              clear hall
              have HB3 := Lib.hid (HB3.out.trans (HBe.out.mono HB3.out.size))
              have hpp : (pack (radix base) d == pack (radix base) d) = true := by simp
              go_wp2_with fail
              refine (RPackOf_calls _ base _ d _ Hr0.out hd5 Hall.out (fun b hb => Nat.lt_of_lt_of_le hb HB3.out.size) (Hd.out.under HB3.out)).mono ?_
              rintro e w5 ⟨rfl, hw5⟩
              have HB5 := Lib.hid (HB3.out.trans (hw5.mono HB3.out.size))
              clear hw5
              go_wp2_with fail
              refine (Pack_calls _ _ _ _ _ (Hd.out.under HB5.out)).mono ?_
              rintro e w' ⟨rfl, rfl⟩
              rw [HP.out.1, HP.out.2]
              go_wp2_with fail
              refine (Error_calls _ _ _ (Hg.out.below HB5.out)).mono ?_
              rintro e w6 ⟨rfl, hw6⟩
              rw [beq_self_int]
              have HB6 := Lib.hid (HB5.out.trans (hw6.mono HB5.out.size))
              clear hw6
              go_wp2
              go_ret
              exact Ret.mk rfl HB6.out
          · have HB3 := Lib.hid (HB3.out.trans (HBe.out.mono HB3.out.size))
            by_cases c0 : (k : Int) < d.length
            all_goals
              go_wp2_with fail
              refine (Pack_calls _ _ _ _ _ (Hd.out.under HB3.out)).mono ?_
              rintro e w' ⟨rfl, rfl⟩
              rw [HE.out.1, HE.out.2]
              go_wp2_with fail
              refine (Error_calls _ _ _ (Hg.out.below HB3.out)).mono ?_
              rintro e w6 ⟨rfl, hw6⟩
              rw [beq_self_int]
              have HB6 := Lib.hid (HB3.out.trans (hw6.mono HB3.out.size))
              clear hw6
              go_wp2
              go_ret
              exact Ret.mk rfl HB6.out
      · have HP := Lib.hid (packErr_many hm)
        have hm' : (manyErr base d.length == 0) = false := by simpa using hm
        clear hm
        go_wp2_with fail
        go_loopw [12, 17] (fun e i wr => e = .int .i64 (manyErr base d.length) ∧ i = .int .i64 0 ∧ wr = wo) (fun _ _ _ => 0)
        case atStart => exact ⟨rfl, rfl, rfl⟩
        case round =>
          obtain ⟨rfl, rfl, rfl⟩ := hrel
          by_cases c0 : (0 : Int) < d.length
          all_goals
            go_wp2_with fail
            refine (Pack_calls _ _ _ _ _ (Hd.out.under HB3.out)).mono ?_
            rintro e w' ⟨rfl, rfl⟩
            rw [HP.out.1, HP.out.2]
            go_wp2_with fail
            refine (Error_calls _ _ _ (Hg.out.below HB3.out)).mono ?_
            rintro e w6 ⟨rfl, hw6⟩
            rw [beq_self_int]
            have HB6 := Lib.hid (HB3.out.trans (hw6.mono HB3.out.size))
            clear hw6
            go_wp2
            go_ret
            exact Ret.mk rfl HB6.out
end Go.Proofs.YtgglhdbhemcijaaDoor
