/- The walks of the reference's Fault, LongFault, Behind. Conditions: the values read as an automaton and a word. -/
import Derived.Test.YtgglhdbhemcijaaDoorRefL
import Derived.Test.YtgglhdbhemcijaaDoorAutoC
namespace Go.Proofs.YtgglhdbhemcijaaDoor
open Go.RowKit

set_option maxHeartbeats 2000000 in
set_option maxRecDepth 100000 in
theorem RAFault_calls (S : Nat → Prop) (v : Value) (a : GAuto) (w : World) (hS : ∀ b, S b → b < w.heap.size) (ha : IsAuto S w v a) :
    Calls Tryd.prog 37 #[v] w (Ret (.int .i64 (autoFault a)) w) := by
  obtain ⟨vn, ve, rfl, hn, he⟩ := ha
  obtain ⟨pn, cn, rfl⟩ := hn.form
  obtain ⟨pe, ce, rfl⟩ := he.form
  obtain ⟨W0, hW0⟩ : ∃ W0, w.alloc (.cells #[.int .i64 a.base, .int .i64 a.tracks, .slice pn a.next.length cn, .slice pe a.ends.length ce] 60) = W0 := ⟨_, rfl⟩
  have HB := Lib.hid (show Below w.heap.size w W0 by rw [← hW0]; exact (Below.refl w.heap.size w).alloc (Nat.le_refl _) (.cells #[.int .i64 a.base, .int .i64 a.tracks, .slice pn a.next.length cn, .slice pe a.ends.length ce] 60))
  have hbox2 : W0.cell? ⟨w.heap.size, 2, none⟩ = some (.slice pn a.next.length cn) := by rw [← hW0, World.cell?_alloc_at _ _ _ _ rfl]; rfl
  have Hbox := Lib.hid hbox2
  have Hsz := Lib.hid (show W0.heap.size = w.heap.size + 1 by rw [← hW0]; simp)
  have Hn := Lib.hid (hn.below (S' := (· < w.heap.size + 1)) HB.out (fun b hb _ => by have := hS b hb; omega))
  clear hn he hbox2
  have HW := Lib.hid hW0
  clear hW0
  by_cases h0 : manyErr a.base a.tracks = 0
  · have E0 := Lib.hid h0
    by_cases h1 : a.next.length = 0
    · have R := Lib.hid (show autoFault a = 4 by simp [autoFault, h0, h1])
      have e1 : ((a.next.length : Int) == 0) = true := beq_iff_eq.2 (by omega)
      clear h0 h1
      go_enter Tryd.func37, Tryd.ntmps37
      go_wp2_with (go_at_call 24; refine (RLetters_calls _ _ _).mono ?_; rintro e w' ⟨rfl, rfl⟩; rw [E0.out])
      go_ret
      exact Ret.mk (by rw [R.out]; rfl) (by rw [HW.out]; exact HB.out)
    · have e1 : ((a.next.length : Int) == 0) = false := beq_eq_false_iff_ne.2 (by omega)
      by_cases h2 : 80 < a.next.length
      · have R := Lib.hid (show autoFault a = 3 by simp only [autoFault, h0, if_neg h1, if_pos h2]; simp)
        have e2 : (80 : Int) < a.next.length := by omega
        clear h0 h1 h2
        go_enter Tryd.func37, Tryd.ntmps37
        go_wp2_with (go_at_call 24; refine (RLetters_calls _ _ _).mono ?_; rintro e w' ⟨rfl, rfl⟩; rw [E0.out])
        go_ret
        exact Ret.mk (by rw [R.out]; rfl) (by rw [HW.out]; exact HB.out)
      · have e2 : ¬ (80 : Int) < a.next.length := by omega
        have h80 : a.next.length ≤ 80 := by omega
        by_cases h3 : a.ends.length ≠ a.next.length
        · have R := Lib.hid (show autoFault a = 2 by simp only [autoFault, h0, if_neg h1, if_neg h2, if_pos h3]; simp)
          have e3 : ((a.ends.length : Int) != (a.next.length : Int)) = true := by rw [bne_iff_ne]; omega
          clear h0 h1 h2 h3
          go_enter Tryd.func37, Tryd.ntmps37
          go_wp2_with (go_at_call 24; refine (RLetters_calls _ _ _).mono ?_; rintro e w' ⟨rfl, rfl⟩; rw [E0.out])
          go_ret
          exact Ret.mk (by rw [R.out]; rfl) (by rw [HW.out]; exact HB.out)
        · have R := Lib.hid (show autoFault a = rowsFault (manyOf a.base a.tracks) a.next.length a.next by simp only [autoFault, h0, if_neg h1, if_neg h2, if_neg h3]; simp)
          have e3 : ((a.ends.length : Int) != (a.next.length : Int)) = false := by simp at h3; simp [h3]
          have h36 : manyOf a.base a.tracks ≤ 36 := by have := many_ok h0; omega
          clear h0 h1 h2 h3
          generalize hmo : manyOf a.base a.tracks = n at *
          have Hmo := Lib.hid hmo; clear hmo
          go_enter Tryd.func37, Tryd.ntmps37
          go_wp2_with (go_at_call 24; refine (RLetters_calls _ _ _).mono ?_; rintro e w' ⟨rfl, rfl⟩; rw [E0.out, Hmo.out])
          rw [HW.out]
          go_loopw [5] (fun i wr => ∃ k : Nat, k ≤ a.next.length ∧ i = .int .i64 k ∧ Hid (∀ i (hi : i < a.next.length), i < k → (a.next[i].length : Int) = n ∧ ∀ s ∈ a.next[i], 0 ≤ s ∧ s < (a.next.length : Int)) ∧ Hid (Below (w.heap.size + 1) W0 wr)) (fun i _ => a.next.length - (intOf i).toNat)
          case atStart => exact ⟨0, by omega, rfl, fun i hi h => by omega, Below.refl _ _⟩
          case round =>
            obtain ⟨k, hk, rfl, HA, HBr⟩ := hrel
            have hbox := (HBr.out.cell (p := ⟨w.heap.size, 2, none⟩) (by simp)).trans Hbox.out
            by_cases hlt : k < a.next.length
            · obtain ⟨b, off, x, hp, hSb, hc0, hx⟩ := Hn.out.at k hlt
              obtain ⟨px, cx, rfl⟩ := hx.form
              subst hp
              have hc := (HBr.out.cell (p := ⟨b, off + k, none⟩) hSb).trans hc0
              have Hx := Lib.hid hx
              have Hc0 := Lib.hid hc0
              have HSb := Lib.hid hSb
              clear hx hSb hc0
              have Hat := Lib.hid (rowsFault_at hlt HA.out)
              have hki : (k : Int) < a.next.length := by omega
              by_cases c : (a.next[k].length : Int) = n
              · have c' : ((a.next[k].length : Int) != n) = false := by simp [c]
                have Hc := Lib.hid c
                have hc36 : a.next[k].length ≤ 36 := by omega
                clear c
                go_wp2_with fail
                clear hbox hc
                go_loopw [6] (fun i wr => ∃ q : Nat, q ≤ a.next[k].length ∧ i = .int .i64 q ∧ Hid (∀ i (hi : i < a.next[k].length), i < q → 0 ≤ a.next[k][i] ∧ a.next[k][i] < (a.next.length : Int)) ∧ Hid (Below (w.heap.size + 1) W0 wr)) (fun i _ => a.next[k].length - (intOf i).toNat)
                case atStart => exact ⟨0, by omega, rfl, fun i hi h => by omega, HBr.out⟩
                case round =>
                  obtain ⟨q, hq, rfl, HQ, HBq⟩ := hrel
                  have hbox := (HBq.out.cell (p := ⟨w.heap.size, 2, none⟩) (by simp)).trans Hbox.out
                  have hc := (HBq.out.cell (p := ⟨b, off + k, none⟩) HSb.out).trans Hc0.out
                  by_cases hqt : q < a.next[k].length
                  · obtain ⟨b2, off2, y, hp2, hS2, hc02, hy, hi2⟩ := Hx.out.at q hqt
                    subst hp2 hy
                    have hc2 := (HBq.out.cell (p := ⟨b2, off2 + q, none⟩) hS2).trans hc02
                    have hqn : (q : Int) < n := by have := Hc.out; omega
                    have hql : (q : Int) < a.next[k].length := by omega
                    clear hS2 hc02
                    by_cases d1 : a.next[k][q] < 0
                    · have R2 := Lib.hid (Hat.out.2 Hc.out ⟨_, List.getElem_mem hqt, by omega⟩)
                      have d1' : decide (a.next[k][q] < 0) = true := by simpa using d1
                      go_wp2
                      go_quiet (fail)
                      go_wp2
                      go_ret
                      exact Ret.mk (by rw [R.out, R2.out]; rfl) (HB.out.trans ((below_drewN HBq.out _).mono (by omega)))
                    · have d1' : decide (a.next[k][q] < 0) = false := by simpa using d1
                      by_cases d2 : (a.next.length : Int) ≤ a.next[k][q]
                      · have R2 := Lib.hid (Hat.out.2 Hc.out ⟨_, List.getElem_mem hqt, by omega⟩)
                        have d2' : decide ((a.next.length : Int) ≤ a.next[k][q]) = true := by simpa using d2
                        go_wp2
                        go_quiet (fail)
                        go_wp2
                        go_ret
                        exact Ret.mk (by rw [R.out, R2.out]; rfl) (HB.out.trans ((below_drewN HBq.out _).mono (by omega)))
                      · have HG := Lib.hid (show 0 ≤ a.next[k][q] ∧ a.next[k][q] < (a.next.length : Int) by omega)
                        have d2' : decide ((a.next.length : Int) ≤ a.next[k][q]) = false := by simpa using d2
                        go_wp2
                        go_quiet (fail)
                        go_wp2
                        go_roundw
                        case rel =>
                          refine ⟨q + 1, by omega, by go_num, fun i hi h => ?_, below_drewN HBq.out _⟩
                          by_cases e : i < q
                          · exact HQ.out i hi e
                          · obtain rfl : i = q := by omega
                            exact HG.out
                        case measure => (simp [intOf] <;> omega)
                  · have HK := Lib.hid (show ∀ s ∈ a.next[k], 0 ≤ s ∧ s < (a.next.length : Int) from fun s hs => by
                      obtain ⟨i, hi, rfl⟩ := List.mem_iff_getElem.1 hs
                      exact HQ.out i hi (by omega))
                    have hqn : ¬ (q : Int) < n := by have := Hc.out; omega
                    go_wp2
                    go_roundw
                    case rel =>
                      refine ⟨k + 1, by omega, by go_num, fun i hi h => ?_, HBq.out⟩
                      by_cases e : i < k
                      · exact HA.out i hi e
                      · obtain rfl : i = k := by omega
                        exact ⟨Hc.out, HK.out⟩
                    case measure => (simp [intOf] <;> omega)
              · have c' : ((a.next[k].length : Int) != n) = true := by simpa using c
                have R2 := Lib.hid (Hat.out.1 c)
                clear c
                go_wp2
                go_ret
                exact Ret.mk (by rw [R.out, R2.out]; rfl) (HB.out.trans (HBr.out.mono (by omega)))
            · have R2 := Lib.hid (show rowsFault n a.next.length a.next = 0 by
                rw [rowsFault_zero]
                intro r hr
                obtain ⟨i, hi, rfl⟩ := List.mem_iff_getElem.1 hr
                exact HA.out i hi (by omega))
              go_wp2
              go_ret
              exact Ret.mk (by rw [R.out, R2.out]; rfl) (HB.out.trans (HBr.out.mono (by omega)))
  · have R := Lib.hid (show autoFault a = manyErr a.base a.tracks by simp [autoFault, h0])
    have e0 : (manyErr a.base a.tracks != 0) = true := by simpa using h0
    clear h0
    go_enter Tryd.func37, Tryd.ntmps37
    go_wp2_with (go_at_call 24; refine (RLetters_calls _ _ _).mono ?_; rintro e w' ⟨rfl, rfl⟩)
    go_ret
    exact Ret.mk (by rw [R.out]; rfl) (by rw [HW.out]; exact HB.out)
end Go.Proofs.YtgglhdbhemcijaaDoor
