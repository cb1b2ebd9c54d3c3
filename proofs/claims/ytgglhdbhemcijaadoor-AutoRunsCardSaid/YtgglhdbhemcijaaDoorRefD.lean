/- The walks of the reference's digits: Radix, DigitsFault, RightOf, Weights. Conditions: the values read as lists. -/
import Derived.Test.YtgglhdbhemcijaaDoorPlainG
import Derived.Test.YtgglhdbhemcijaaDoorBase
import Derived.Test.YtgglhdbhemcijaaDoorFacts
namespace Go.Proofs.YtgglhdbhemcijaaDoor
open Go.RowKit

set_option maxHeartbeats 400000 in
theorem RRadix_calls (base : Int) (w : World) :
    Calls Tryd.prog 27 #[.int .i64 base] w (RetS (.int .i64 (radix base)) w) := by
  by_cases h1 : base = 1
  · subst h1
    go_enter Tryd.func27, Tryd.ntmps27
    go_wp2
    go_ret
    exact RetS.mk rfl
  · have hr := Lib.hid (show radix base = if 2 ≤ base ∧ base ≤ 6 then base else 0 by simp [radix, h1])
    have h1' : (base == 1) = false := by simp [h1]
    clear h1
    by_cases h2 : 2 ≤ base
    · by_cases h3 : base ≤ 6
      · have hr' := Lib.hid (show radix base = base by rw [hr.out, if_pos ⟨h2, h3⟩])
        go_enter Tryd.func27, Tryd.ntmps27
        go_wp2
        go_ret
        exact RetS.mk (by rw [hr'.out]; rfl)
      · have hr' := Lib.hid (show radix base = 0 by rw [hr.out, if_neg (by omega)])
        go_enter Tryd.func27, Tryd.ntmps27
        go_wp2
        go_ret
        exact RetS.mk (by rw [hr'.out]; rfl)
    · have hr' := Lib.hid (show radix base = 0 by rw [hr.out, if_neg (by omega)])
      go_enter Tryd.func27, Tryd.ntmps27
      go_wp2
      go_ret
      exact RetS.mk (by rw [hr'.out]; rfl)

set_option maxHeartbeats 400000 in
theorem RFault_calls (S : Nat → Prop) (base : Int) (v : Value) (d : List Int) (w : World) (hd : Ints S w v d) :
    Calls Tryd.prog 17 #[.int .i64 base, v] w (RetS (.int .i64 (digitsFault base d)) w) := by
  obtain ⟨a, cap, rfl, hlen, hcell⟩ := hd
  by_cases h0 : radix base = 0
  · have e0 : (radix base == 0) = true := by simp [h0]
    have hfin := Lib.hid (show digitsFault base d = 1 by simp [digitsFault, h0])
    clear h0
    go_enter Tryd.func17, Tryd.ntmps17
    go_wp2_with (go_at_call 27; refine (RRadix_calls _ _).mono ?_; rintro e w' ⟨rfl, rfl⟩)
    go_ret
    exact RetS.mk (by rw [hfin.out]; rfl)
  · have e0 : (radix base == 0) = false := by simp [h0]
    by_cases h1 : 60 < d.length
    · have hfin := Lib.hid (show digitsFault base d = 3 by simp [digitsFault, h0, h1])
      clear h0
      have h1' : (60:Int) < d.length := by omega
      clear h1
      go_enter Tryd.func17, Tryd.ntmps17
      go_wp2_with (go_at_call 27; refine (RRadix_calls _ _).mono ?_; rintro e w' ⟨rfl, rfl⟩)
      go_ret
      exact RetS.mk (by rw [hfin.out]; rfl)
    · have hfin := Lib.hid (show digitsFault base d = if d.all (fun x => decide (0 ≤ x ∧ x < radix base)) then 0 else 1 by simp [digitsFault, h0, h1])
      clear h0
      have h1' : ¬ (60:Int) < d.length := by omega
      clear h1
      go_enter Tryd.func17, Tryd.ntmps17
      go_wp2_with (go_at_call 27; refine (RRadix_calls _ _).mono ?_; rintro e w' ⟨rfl, rfl⟩)
      go_loop [6] (fun i => ∃ k : Nat, k ≤ d.length ∧ i = .int .i64 k ∧ Hid (∀ j (h : j < k) (h' : j < d.length), 0 ≤ d[j] ∧ d[j] < radix base)) (fun i => d.length - (intOf i).toNat)
      case atStart => exact ⟨0, by omega, rfl, fun j h => by omega⟩
      case round =>
        obtain ⟨k, hk, rfl, Hall⟩ := hrel
        by_cases hlt : k < d.length
        · obtain ⟨b, off, x, ha, hS, hc, hx, hi⟩ := hcell k hlt
          subst ha hx
          by_cases c1 : 0 ≤ d[k]
          · by_cases c2 : d[k] < radix base
            · go_wp2
              go_round
              case rel => exact ⟨k + 1, by omega, by go_num, fun j h h' => by
                by_cases e : j < k
                · exact Hall.out j e h'
                · obtain rfl : j = k := by omega
                  exact ⟨c1, c2⟩⟩
              case measure => (simp [intOf] <;> omega)
            · have hne := Lib.hid (show (if d.all (fun x => decide (0 ≤ x ∧ x < radix base)) then 0 else 1 : Int) = 1 by
                rw [if_neg]; intro h; rw [List.all_eq_true] at h; have := h d[k] (List.getElem_mem _); simp at this; omega)
              go_wp2
              go_ret
              exact RetS.mk (by rw [hfin.out, hne.out]; rfl)
          · have hne := Lib.hid (show (if d.all (fun x => decide (0 ≤ x ∧ x < radix base)) then 0 else 1 : Int) = 1 by
              rw [if_neg]; intro h; rw [List.all_eq_true] at h; have := h d[k] (List.getElem_mem _); simp at this; omega)
            go_wp2
            go_ret
            exact RetS.mk (by rw [hfin.out, hne.out]; rfl)
        · have hne := Lib.hid (show (if d.all (fun x => decide (0 ≤ x ∧ x < radix base)) then 0 else 1 : Int) = 0 by
            rw [if_pos]; rw [List.all_eq_true]; intro x hx; obtain ⟨j, hj, rfl⟩ := List.mem_iff_getElem.1 hx; have := Hall.out j (by omega) hj; simp; omega)
          go_wp2
          go_ret
          exact RetS.mk (by rw [hfin.out, hne.out]; rfl)

set_option maxHeartbeats 800000 in
theorem RRight_calls (S : Nat → Prop) (base : Int) (v : Value) (d : List Int) (w : World) (hd : Ints S w v d) :
    Calls Tryd.prog 19 #[.int .i64 base, v] w (RetS (.bool (rightOf base d)) w) := by
  obtain ⟨a, cap, rfl, hlen, hcell⟩ := hd
  by_cases hb : base = 1
  · have e1 : (base == 1) = true := by simp [hb]
    have Hb := Lib.hid hb
    clear hb
    go_enter Tryd.func19, Tryd.ntmps19
    go_wp2_with fail
    go_loop [5] (fun i => ∃ k : Nat, i = .int .i64 (k + 1) ∧ (k < d.length ∨ k = 0) ∧ Hid (∀ j, j < k → ¬ (d[j]? = some (1 : Int) ∧ d[j + 1]? = some (1 : Int)))) (fun i => d.length - (intOf i).toNat)
    case atStart => exact ⟨0, rfl, by omega, fun j h => by omega⟩
    case round =>
      obtain ⟨k, rfl, hk, Hall⟩ := hrel
      by_cases hlt : k + 1 < d.length
      · obtain ⟨b, off, x, ha, hS, hc, hx, hi⟩ := hcell k (by omega)
        obtain ⟨b', off', x', ha', hS', hc', hx', hi'⟩ := hcell (k + 1) hlt
        subst ha hx hx'
        obtain ⟨rfl, rfl⟩ : b = b' ∧ off = off' := by simpa using ha'
        have c1 : (k : Int) + 1 < d.length := by omega
        have step : ¬ (d[k] = 1 ∧ d[k + 1] = 1) → ∀ j, j < k + 1 → ¬ (d[j]? = some (1 : Int) ∧ d[j + 1]? = some (1 : Int)) := fun hn j hj => by
          by_cases e : j < k
          · exact Hall.out j e
          · obtain rfl : j = k := by omega
            simpa [List.getElem?_eq_getElem hlt, List.getElem?_eq_getElem (show j < d.length by omega)] using hn
        have Step := Lib.hid step; clear step
        by_cases e3 : d[k + 1] = 1
        · by_cases e2 : d[k] = 1
          · have hno := Lib.hid (show rightOf base d = false by
              unfold rightOf
              rw [Hb.out]
              cases h : noTwo d
              · rfl
              · exact absurd ((noTwo_iff d).1 h k) (by simp [List.getElem?_eq_getElem hlt, List.getElem?_eq_getElem (show k < d.length by omega), e2, e3]))
            have e2' : (d[k] == 1) = true := by simp [e2]
            have e3' : (d[k + 1] == 1) = true := by simp [e3]
            clear e2 e3
            go_wp2
            go_ret
            exact RetS.mk (by rw [hno.out]; rfl)
          · have hs := Lib.hid (Step.out (fun h => e2 h.1))
            have e2' : (d[k] == 1) = false := by simp [e2]
            have e3' : (d[k + 1] == 1) = true := by simp [e3]
            clear e2 e3
            go_wp2
            go_round
            case rel => exact ⟨k + 1, by go_num, by omega, hs.out⟩
            case measure => (simp [intOf] <;> omega)
        · have hs := Lib.hid (Step.out (fun h => e3 h.2))
          have e3' : (d[k + 1] == 1) = false := by simp [e3]
          clear e3
          go_wp2
          go_round
          case rel => exact ⟨k + 1, by go_num, by omega, hs.out⟩
          case measure => (simp [intOf] <;> omega)
      · have c1 : ¬ (k : Int) + 1 < d.length := by omega
        have hyes := Lib.hid (show rightOf base d = true by
          unfold rightOf; rw [Hb.out]; simp only [Bool.or_eq_true]; right
          rw [noTwo_iff]; intro j
          by_cases e : j < k
          · exact Hall.out j e
          · rintro ⟨_, h⟩; have := (List.getElem?_eq_some_iff.1 h).1; omega)
        go_wp2
        go_ret
        exact RetS.mk (by rw [hyes.out]; rfl)
  · have e1 : (base == 1) = false := by simp [hb]
    have hyes := Lib.hid (show rightOf base d = true by simp [rightOf, hb])
    clear hb
    go_enter Tryd.func19, Tryd.ntmps19
    go_wp2_with fail
    go_loop [5] (fun i => ∃ k : Nat, i = .int .i64 (k + 1) ∧ k ≤ d.length) (fun i => d.length + 2 - (intOf i).toNat)
    case atStart => exact ⟨0, rfl, by omega⟩
    case round =>
      obtain ⟨k, rfl, hk⟩ := hrel
      by_cases hlt : (k : Int) + 1 < d.length
      · go_wp2
        go_round
        case rel => exact ⟨k + 1, by go_num, by omega⟩
        case measure => (simp [intOf] <;> omega)
      · go_wp2
        go_ret
        exact RetS.mk (by rw [hyes.out]; rfl)

theorem range_snoc_map (b : Int) (m : Nat) : (List.range (m + 1)).map (W b) = (List.range m).map (W b) ++ [W b m] := by
  rw [List.range_succ, List.map_append]; rfl

set_option maxHeartbeats 1000000 in
set_option maxRecDepth 100000 in
theorem Weights_calls (base : Int) (w : World) (hr : radix base ≠ 0) :
    Calls Tryd.prog 67 #[.int .i64 base] w (RetQ (fun v w' => ∃ ws, Ints (w.heap.size ≤ ·) w' v ws ∧ Weights base ws) w) := by
  have HW := Lib.hid (W_pos hr)
  have HS := Lib.hid (show ∀ m, W base m ≤ 1099511627776 → m ≤ 57 from fun m hm => by
    rcases Nat.lt_or_ge m 58 with c | c
    · omega
    · have := W_big hr c; omega)
  have H6 := Lib.hid (W_six hr)
  have hrp := radix_pos hr
  have hb0 : 1 ≤ base := by omega
  have hb6 : base ≤ 6 := by omega
  have Hrp := Lib.hid hrp
  clear hr hrp
  go_enter Tryd.func67, Tryd.ntmps67
  go_wp2_with fail
  go_loopw [3] (fun out wr => ∃ (m : Nat), Hid (∀ i, i < m → W base i ≤ 1099511627776) ∧ Hid (wr.ownsRow w.heap.size 3 1 out (m + 1) (((List.range (m + 1)).map (W base)).map (Value.int .i64))) ∧ Hid (Below w.heap.size w wr)) (fun out _ => match out with | .slice _ n _ => 64 - n | _ => 0)
  case atStart =>
    refine ⟨0, fun i h => by omega, ?_, (Below.refl _ _).alloc (Nat.le_refl _) _⟩
    have := World.ownsRow_lit (base := w.heap.size) (e := 3) (size := 1) w #[Value.int .i64 1] 1 (Nat.le_refl _) (by decide) rfl
    have e : W base 0 = 1 := by unfold W; split <;> rfl
    simpa [Hid, e, List.range_succ] using this
  case round =>
    obtain ⟨m, HM, HO, HB⟩ := hrel
    obtain ⟨g, cap, rfl, hg, hgl⟩ := own_some HO.out (by omega)
    have hcell : wr.cell? ⟨g, m, none⟩ = some (.int .i64 (W base m)) := by
      rw [HO.out.cellAt m (by omega)]; simp
    have hm58 : m ≤ 58 := by
      rcases Nat.eq_zero_or_pos m with h | h
      · omega
      · have := HS.out (m - 1) (HM.out (m - 1) (by omega)); omega
    have hwp := HW.out m
    by_cases hbig : W base m ≤ 1099511627776
    · have hm57 := HS.out m hbig
      have fin : ∀ (v' : Value) (w' : World), w'.ownsRow w.heap.size 3 1 v' (m + 1 + 1) (((List.range (m + 1)).map (W base)).map (Value.int .i64) ++ [.int .i64 (W base (m + 1))]) → wr.grownBy w' (some g) →
          Hid (∀ i, i < m + 1 → W base i ≤ 1099511627776) ∧ Hid (w'.ownsRow w.heap.size 3 1 v' (m + 1 + 1) (((List.range (m + 1 + 1)).map (W base)).map (Value.int .i64))) ∧ Hid (Below w.heap.size w w') := fun v' w' h1 h2 => by
        refine ⟨fun i hi => ?_, ?_, HB.out.grown h2 HB.out.size (fun k hk => by cases hk; exact hg)⟩
        · by_cases e : i = m
          · subst e; exact hbig
          · exact HM.out i (by omega)
        · rw [range_snoc_map base (m + 1)]
          simpa [Hid] using h1
      have Fin := Lib.hid fin; clear fin
      have hown := HO.out
      generalize hXS : ((List.range (m + 1)).map (W base)).map (Value.int .i64) = XS at hown
      have HXS := Lib.hid hXS; clear hXS
      by_cases hb : base = 1
      · have e1 : (base == 1) = true := by simp [hb]
        have hmul : W base m * base = W base m := by rw [hb]; omega
        by_cases hm0 : m = 0
        · subst hm0
          have hw1 : W base 1 = 2 := by rw [hb]; rfl
          have Hw1 := Lib.hid hw1
          have hm1 : 0 ≤ W base 0 * base := by omega
          have hm2 : W base 0 * base ≤ 6597069766656 := by omega
          clear hb hmul hw1
          go_wp2_with (at_builtin; go_loud (refine appInt rfl _ _ rfl w.heap.size _ _ _ rfl hown _ rfl rfl ?c1 HB.out.size ?_))
          case c1 => omega
          intro v' w' hown' hgrow _
          have Hf := Lib.hid (Fin.out v' w' (by rw [HXS.out, Hw1.out]; exact hown') hgrow)
          obtain ⟨pv, cv, rfl⟩ := own_form hown'
          clear hown' hgrow hown
          go_wp2_with fail
          go_roundw
          case rel => exact ⟨1, Hf.out⟩
          case measure => (simp <;> omega)
        · obtain ⟨q, rfl⟩ : ∃ q, m = q + 1 := ⟨m - 1, by omega⟩
          have hw1 : W base (q + 1 + 1) = W base (q + 1) + W base q := by rw [hb]; simp [W, fibW]
          have Hw1 := Lib.hid hw1
          have hcell2 : wr.cell? ⟨g, q, none⟩ = some (.int .i64 (W base q)) := by
            rw [HO.out.cellAt q (by omega), List.getElem?_map, List.getElem?_map, List.getElem?_range (by omega)]; rfl
          have hwq := HW.out q
          have hwq2 := HM.out q (by omega)
          have hm1 : 0 ≤ W base (q + 1) * base := by omega
          have hm2 : W base (q + 1) * base ≤ 6597069766656 := by omega
          clear hb hmul hw1
          go_wp2_with fail
          go_quiet (fail)
          go_wp2_with (at_builtin; go_loud (refine appInt rfl _ _ rfl w.heap.size _ _ _ rfl hown _ rfl rfl ?c1 HB.out.size ?_))
          case c1 => omega
          intro v' w' hown' hgrow _
          have Hf := Lib.hid (Fin.out v' w' (by rw [HXS.out, Hw1.out]; exact hown') ⟨hgrow.os, hgrow.tape, hgrow.output, hgrow.size, hgrow.block⟩)
          obtain ⟨pv, cv, rfl⟩ := own_form hown'
          clear hown' hgrow hown
          go_wp2_with fail
          go_roundw
          case rel => exact ⟨q + 1 + 1, Hf.out⟩
          case measure => (simp <;> omega)
      · have e1 : (base == 1) = false := by simp [hb]
        have Hw1 := Lib.hid (W_succ_base hb m)
        have hm1 : 0 ≤ W base m * base := Int.mul_nonneg (by omega) (by omega)
        have hm2 : W base m * base ≤ 6597069766656 := by
          have := Int.mul_le_mul hbig hb6 (by omega) (by omega)
          omega
        clear hb
        go_wp2_with (at_builtin; go_loud (refine appInt rfl _ _ rfl w.heap.size _ _ _ rfl hown _ rfl rfl ?c1 HB.out.size ?_))
        case c1 => omega
        intro v' w' hown' hgrow _
        have Hf := Lib.hid (Fin.out v' w' (by rw [HXS.out, Hw1.out]; exact hown') hgrow)
        obtain ⟨pv, cv, rfl⟩ := own_form hown'
        clear hown' hgrow hown
        go_wp2_with fail
        go_roundw
        case rel => exact ⟨m + 1, Hf.out⟩
        case measure => (simp <;> omega)
    · have HWe := Lib.hid (show Weights base ((List.range (m + 1)).map (W base)) from ⟨by simp, by simp, by simp; omega, fun i hi => HM.out i (by simpa using hi), by simp; omega⟩)
      go_wp2_with fail
      go_ret
      refine RetQ.mk ⟨_, Ints.of_own HO.out (by simp) ?_, HWe.out⟩ HB.out
      intro x hx
      obtain ⟨i, hi, rfl⟩ := List.mem_map.1 hx
      have hi' : i < m + 1 := by simpa using hi
      have h1 := HW.out i
      refine ⟨by omega, ?_⟩
      by_cases e : i < m
      · have := HM.out i e; omega
      · obtain rfl : i = m := by omega
        rcases Nat.eq_zero_or_pos i with h0 | h0
        · have : W base i = 1 := by rw [h0]; unfold W; split <;> rfl
          omega
        · have h2 := HM.out (i - 1) (by omega)
          have h3 := H6.out (i - 1)
          rw [show i - 1 + 1 = i by omega] at h3
          omega
end Go.Proofs.YtgglhdbhemcijaaDoor
