/- The walks of Radix, check, Ints, Value, Right, Less: each computes what the plain functions say. Conditions: the values read as lists. -/
import Derived.Test.YtgglhdbhemcijaaDoorBase
import Derived.Test.YtgglhdbhemcijaaDoorChecked
namespace Go.Proofs.YtgglhdbhemcijaaDoor
open Go.RowKit

set_option maxHeartbeats 400000 in
theorem Radix_calls (base : Int) (w : World) :
    Calls Tryd.prog 66 #[.int .i64 base] w (RetS (.int .i64 (radix base)) w) := by
  by_cases h1 : base = 1
  · subst h1
    go_enter Tryd.func66, Tryd.ntmps66
    go_wp2
    go_ret
    exact RetS.mk rfl
  · have hr := Lib.hid (show radix base = if 2 ≤ base ∧ base ≤ 6 then base else 0 by simp [radix, h1])
    have h1' : (base == 1) = false := by simp [h1]
    clear h1
    by_cases h2 : 2 ≤ base
    · by_cases h3 : base ≤ 6
      · have hr' := Lib.hid (show radix base = base by rw [hr.out, if_pos ⟨h2, h3⟩])
        go_enter Tryd.func66, Tryd.ntmps66
        go_wp2
        go_ret
        exact RetS.mk (by rw [hr'.out]; rfl)
      · have hr' := Lib.hid (show radix base = 0 by rw [hr.out, if_neg (by omega)])
        go_enter Tryd.func66, Tryd.ntmps66
        go_wp2
        go_ret
        exact RetS.mk (by rw [hr'.out]; rfl)
    · have hr' := Lib.hid (show radix base = 0 by rw [hr.out, if_neg (by omega)])
      go_enter Tryd.func66, Tryd.ntmps66
      go_wp2
      go_ret
      exact RetS.mk (by rw [hr'.out]; rfl)

set_option maxHeartbeats 400000 in
theorem check_calls (S : Nat → Prop) (base : Int) (v : Value) (d : List Int) (w : World) (hd : Ints S w v d) :
    Calls Tryd.prog 69 #[.int .i64 base, v] w (RetS (errV 27 (digitsFault base d)) w) := by
  obtain ⟨a, cap, rfl, hlen, hcell⟩ := hd
  by_cases h0 : radix base = 0
  · have e0 : (radix base == 0) = true := by simp [h0]
    have hfin := Lib.hid (show digitsFault base d = 1 by simp [digitsFault, h0])
    clear h0
    go_enter Tryd.func69, Tryd.ntmps69
    go_wp2_with (go_at_call 66; refine (Radix_calls _ _).mono ?_; rintro e w' ⟨rfl, rfl⟩)
    go_ret
    exact RetS.mk (by rw [hfin.out]; rfl)
  · have e0 : (radix base == 0) = false := by simp [h0]
    by_cases h1 : 60 < d.length
    · have hfin := Lib.hid (show digitsFault base d = 3 by simp [digitsFault, h0, h1])
      clear h0
      have h1' : (60:Int) < d.length := by omega
      clear h1
      go_enter Tryd.func69, Tryd.ntmps69
      go_wp2_with (go_at_call 66; refine (Radix_calls _ _).mono ?_; rintro e w' ⟨rfl, rfl⟩)
      go_ret
      exact RetS.mk (by rw [hfin.out]; rfl)
    · have hfin := Lib.hid (show digitsFault base d = if d.all (fun x => decide (0 ≤ x ∧ x < radix base)) then 0 else 1 by simp [digitsFault, h0, h1])
      clear h0
      have h1' : ¬ (60:Int) < d.length := by omega
      clear h1
      go_enter Tryd.func69, Tryd.ntmps69
      go_wp2_with (go_at_call 66; refine (Radix_calls _ _).mono ?_; rintro e w' ⟨rfl, rfl⟩)
      go_loop [19] (fun i => ∃ k : Nat, k ≤ d.length ∧ i = .int .i64 k ∧ ∀ j (h : j < k) (h' : j < d.length), 0 ≤ d[j] ∧ d[j] < radix base) (fun i => d.length - (intOf i).toNat)
      case atStart => exact ⟨0, by omega, rfl, fun j h => by omega⟩
      case round =>
        obtain ⟨k, hk, rfl, hall⟩ := hrel
        have Hall := Lib.hid hall; clear hall
        by_cases hlt : k < d.length
        · obtain ⟨b, off, x, ha, hS, hc, hx, hi⟩ := hcell k hlt
          subst ha hx
          by_cases c1 : 0 ≤ d[k]
          · by_cases c2 : d[k] < radix base
            · go_wp2
              go_round
              case rel => exact ⟨k + 1, by omega, by go_num, fun j h h' => by
                by_cases e : j < k
                · exact Hall.out j e h'
                · obtain rfl : j = k := by omega
                  exact ⟨c1, c2⟩⟩
              case measure => (simp [intOf] <;> omega)
            · have hne := Lib.hid (show (if d.all (fun x => decide (0 ≤ x ∧ x < radix base)) then 0 else 1 : Int) = 1 by
                rw [if_neg]; intro h; rw [List.all_eq_true] at h; have := h d[k] (List.getElem_mem _); simp at this; omega)
              go_wp2
              go_ret
              exact RetS.mk (by rw [hfin.out, hne.out]; rfl)
          · have hne := Lib.hid (show (if d.all (fun x => decide (0 ≤ x ∧ x < radix base)) then 0 else 1 : Int) = 1 by
              rw [if_neg]; intro h; rw [List.all_eq_true] at h; have := h d[k] (List.getElem_mem _); simp at this; omega)
            go_wp2
            go_ret
            exact RetS.mk (by rw [hfin.out, hne.out]; rfl)
        · have hne := Lib.hid (show (if d.all (fun x => decide (0 ≤ x ∧ x < radix base)) then 0 else 1 : Int) = 0 by
            rw [if_pos]; rw [List.all_eq_true]; intro x hx; obtain ⟨j, hj, rfl⟩ := List.mem_iff_getElem.1 hx; have := Hall.out j (by omega) hj; simp; omega)
          go_wp2
          go_ret
          exact RetS.mk (by rw [hfin.out, hne.out]; rfl)

set_option maxHeartbeats 400000 in
theorem Ints_calls (S S' : Nat → Prop) (v v' : Value) (d d' : List Int) (w : World) (hd : Ints S w v d) (hd' : Ints S' w v' d') :
    Calls Tryd.prog 16 #[v, v'] w (Ret (.bool (decide (d = d'))) w) := by
  obtain ⟨a, cap, rfl, hlen, hcell⟩ := hd
  obtain ⟨a', cap', rfl, hlen', hcell'⟩ := hd'
  by_cases hl : d.length = d'.length
  · have e0 : ((d.length : Int) != (d'.length : Int)) = false := by simp [hl]
    have hL := Lib.hid hl; clear hl
    go_enter Tryd.func16, Tryd.ntmps16
    go_wp2
    go_loopw [5] (fun i wr => ∃ k : Nat, k ≤ d.length ∧ i = .int .i64 k ∧ d.take k = d'.take k ∧ Below w.heap.size w wr) (fun i _ => d.length - (intOf i).toNat)
    case atStart => exact ⟨0, by omega, rfl, rfl, Below.refl _ _⟩
    case round =>
      obtain ⟨k, hk, rfl, hall, hb⟩ := hrel
      have Hall := Lib.hid hall; clear hall
      have Hb := Lib.hid hb; clear hb
      by_cases hlt : k < d.length
      · have hlt' : k < d'.length := by have := hL.out; omega
        obtain ⟨b, off, x, ha, hS, hc, hx, hi⟩ := hcell k hlt
        obtain ⟨b', off', x', ha', hS', hc', hx', hi'⟩ := hcell' k hlt'
        subst ha hx ha' hx'
        have hc1 := (Hb.out.cell (p := ⟨b, off + k, none⟩) (cell_lt hc)).trans hc
        have hc2 := (Hb.out.cell (p := ⟨b', off' + k, none⟩) (cell_lt hc')).trans hc'
        by_cases heq : d[k] = d'[k]
        · have e1 : (d[k] != d'[k]) = false := by simp [heq]
          have Heq := Lib.hid heq; clear heq
          go_wp2
          go_quiet (fail)
          go_wp2
          go_roundw
          case rel => exact ⟨k + 1, by omega, by go_num, by rw [List.take_succ_eq_append_getElem hlt, List.take_succ_eq_append_getElem hlt', Hall.out, Heq.out], below_drewN Hb.out _⟩
          case measure => (simp [intOf] <;> omega)
        · have e1 : (d[k] != d'[k]) = true := by simp [heq]
          have hne := Lib.hid (show decide (d = d') = false by
            rw [decide_eq_false_iff_not]; rintro rfl; exact heq rfl)
          clear heq
          go_wp2
          go_quiet (fail)
          go_wp2
          go_ret
          exact Ret.mk (by rw [hne.out]; rfl) (below_drewN Hb.out _)
      · have he := Lib.hid (show decide (d = d') = true by
          have h1 := Hall.out
          rw [List.take_of_length_le (by omega), List.take_of_length_le (by have := hL.out; omega)] at h1
          simp [h1])
        go_wp2
        go_ret
        exact Ret.mk (by rw [he.out]; rfl) (Hb.out)
  · have e0 : ((d.length : Int) != (d'.length : Int)) = true := by simp; omega
    have he := Lib.hid (show decide (d = d') = false by rw [decide_eq_false_iff_not]; rintro rfl; exact hl rfl)
    clear hl
    go_enter Tryd.func16, Tryd.ntmps16
    go_wp2
    go_ret
    exact Ret.mk (by rw [he.out]; rfl) (Below.refl _ _)

set_option maxHeartbeats 400000 in
theorem Right_calls (S : Nat → Prop) (base : Int) (v : Value) (d : List Int) (w : World) (hd : Ints S w v d) :
    Calls Tryd.prog 18 #[.int .i64 base, v] w
      (RetS (.tuple #[.bool (rightRes base d), errV 27 (digitsFault base d)]) w) := by
  have hd' := Lib.hid hd
  obtain ⟨a, cap, rfl, hlen, hcell⟩ := hd
  by_cases h0 : digitsFault base d = 0
  · have E0 := Lib.hid (show errV 27 (digitsFault base d) = .nilIface by simp [errV, h0])
    by_cases hb : base = 1
    · have e1 : (base == 1) = true := by simp [hb]
      have Hb := Lib.hid (And.intro h0 hb)
      clear h0 hb
      go_enter Tryd.func18, Tryd.ntmps18
      go_wp2_with (go_at_call 69; refine (check_calls S _ _ _ _ hd'.out).mono ?_; rintro e w' ⟨rfl, rfl⟩; rw [E0.out])
      go_loopw [7] (fun i wr => ∃ k : Nat, i = .int .i64 (k + 1) ∧ (k < d.length ∨ k = 0) ∧ wr = w ∧ ∀ j, j < k → ¬ (d[j]? = some (1 : Int) ∧ d[j + 1]? = some (1 : Int))) (fun i _ => d.length - (intOf i).toNat)
      case atStart => exact ⟨0, rfl, by omega, rfl, fun j h => by omega⟩
      case round =>
        obtain ⟨k, rfl, hk, rfl, hall⟩ := hrel
        have Hall := Lib.hid hall; clear hall
        by_cases hlt : k + 1 < d.length
        · obtain ⟨b, off, x, ha, hS, hc, hx, hi⟩ := hcell k (by omega)
          obtain ⟨b', off', x', ha', hS', hc', hx', hi'⟩ := hcell (k + 1) hlt
          subst ha hx hx'
          obtain ⟨rfl, rfl⟩ : b = b' ∧ off = off' := by simpa using ha'
          have c1 : (k : Int) + 1 < d.length := by omega
          have step : ¬ (d[k] = 1 ∧ d[k + 1] = 1) → ∀ j, j < k + 1 → ¬ (d[j]? = some (1 : Int) ∧ d[j + 1]? = some (1 : Int)) := fun hn j hj => by
            by_cases e : j < k
            · exact Hall.out j e
            · obtain rfl : j = k := by omega
              simpa [List.getElem?_eq_getElem hlt, List.getElem?_eq_getElem (show j < d.length by omega)] using hn
          have Step := Lib.hid step; clear step
          by_cases e2 : d[k] = 1
          · by_cases e3 : d[k + 1] = 1
            · have hno := Lib.hid (show rightRes base d = false by
                unfold rightRes
                rw [decide_eq_false_iff_not]; rintro ⟨_, h⟩
                unfold rightOf at h
                rw [Hb.out.2] at h
                exact (noTwo_iff d).1 (by simpa using h) k (by simp [List.getElem?_eq_getElem hlt, List.getElem?_eq_getElem (show k < d.length by omega), e2, e3]))
              have e2' : (d[k] == 1) = true := by simp [e2]
              have e3' : (d[k + 1] == 1) = true := by simp [e3]
              clear e2 e3
              go_wp2
              go_ret2
              exact RetS.mk (by rw [hno.out, E0.out]; rfl)
            · have hs := Lib.hid (Step.out (fun h => e3 h.2))
              have e2' : (d[k] == 1) = true := by simp [e2]
              have e3' : (d[k + 1] == 1) = false := by simp [e3]
              clear e2 e3
              go_wp2
              go_roundw
              case rel => exact ⟨k + 1, by go_num, by omega, trivial, hs.out⟩
              case measure => (simp [intOf] <;> omega)
          · have hs := Lib.hid (Step.out (fun h => e2 h.1))
            have e2' : (d[k] == 1) = false := by simp [e2]
            clear e2
            go_wp2
            go_roundw
            case rel => exact ⟨k + 1, by go_num, by omega, trivial, hs.out⟩
            case measure => (simp [intOf] <;> omega)
        · have c1 : ¬ (k : Int) + 1 < d.length := by omega
          have hyes := Lib.hid (show rightRes base d = true by
            unfold rightRes
            rw [decide_eq_true_iff]; refine ⟨Hb.out.1, ?_⟩
            unfold rightOf; rw [Hb.out.2]; simp only [Bool.or_eq_true]; right
            rw [noTwo_iff]; intro j
            by_cases e : j < k
            · exact Hall.out j e
            · rintro ⟨_, h⟩; have := (List.getElem?_eq_some_iff.1 h).1; omega)
          go_wp2
          go_ret2
          exact RetS.mk (by rw [hyes.out, E0.out]; rfl)
    · have e1 : (base == 1) = false := by simp [hb]
      have hyes := Lib.hid (show rightRes base d = true by
        unfold rightRes
        rw [decide_eq_true_iff]; exact ⟨h0, by simp [rightOf, hb]⟩)
      clear h0 hb
      go_enter Tryd.func18, Tryd.ntmps18
      go_wp2_with (go_at_call 69; refine (check_calls S _ _ _ _ hd'.out).mono ?_; rintro e w' ⟨rfl, rfl⟩; rw [E0.out])
      go_loopw [7] (fun i wr => i = .int .i64 1 ∧ wr = w) (fun _ _ => 0)
      case atStart => exact ⟨rfl, rfl⟩
      case round =>
        obtain ⟨rfl, rfl⟩ := hrel
        by_cases hlt : (1 : Int) < d.length
        all_goals
          go_wp2
          go_ret2
          exact RetS.mk (by rw [hyes.out, E0.out]; rfl)
  · obtain ⟨e, he⟩ : ∃ e, digitsFault base d = e := ⟨_, rfl⟩
    rw [he] at h0
    have hno := Lib.hid (show rightRes base d = false by
      unfold rightRes
      rw [decide_eq_false_iff_not]; rintro ⟨h, _⟩; omega)
    have E0 := Lib.hid (show errV 27 (digitsFault base d) = .iface 27 (.int .i64 e) by simp [errV, he, h0])
    clear h0 he
    go_enter Tryd.func18, Tryd.ntmps18
    go_wp2_with (go_at_call 69; refine (check_calls S _ _ _ _ hd'.out).mono ?_; rintro e w' ⟨rfl, rfl⟩; rw [E0.out])
    go_ret2
    exact RetS.mk (by rw [hno.out, E0.out]; rfl)

end Go.Proofs.YtgglhdbhemcijaaDoor
