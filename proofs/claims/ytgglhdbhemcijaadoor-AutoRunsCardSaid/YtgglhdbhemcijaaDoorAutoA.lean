/- The walks of Check, Run, Takes. Condition: the value reads as an automaton. -/
import Derived.Test.YtgglhdbhemcijaaDoorPlainA
import Derived.Test.YtgglhdbhemcijaaDoorLetterA
namespace Go.Proofs.YtgglhdbhemcijaaDoor
open Go.RowKit

/-- A value reads as an automaton. -/
def IsAuto (S : Nat → Prop) (w : World) (v : Value) (a : GAuto) : Prop :=
  ∃ vn ve, v = .agg #[.int .i64 a.base, .int .i64 a.tracks, vn, ve] ∧ Intss S w vn a.next ∧ Bools S w ve a.ends
theorem IsAuto.keep {S S' : Nat → Prop} {w w' : World} {v : Value} {a : GAuto} (h : IsAuto S w v a) (hb : ∀ b, S b → b < w.heap.size → w'.heap[b]? = w.heap[b]? ∧ S' b) : IsAuto S' w' v a := by
  obtain ⟨vn, ve, hv, h1, h2⟩ := h
  exact ⟨vn, ve, hv, h1.keep hb, h2.keep hb⟩
theorem IsAuto.below {S S' : Nat → Prop} {w w' : World} {v : Value} {a : GAuto} (h : IsAuto S w v a) (hb : Below w.heap.size w w') (hS : ∀ b, S b → b < w.heap.size → S' b) : IsAuto S' w' v a :=
  h.keep fun b hb' hlt => ⟨hb.block b hlt, hS b hb' hlt⟩
theorem IsAuto.under {B : Nat} {w w' : World} {v : Value} {a : GAuto} (h : IsAuto (· < B) w v a) (hb : Below B w w') : IsAuto (· < B) w' v a :=
  h.keep fun b hb' _ => ⟨hb.block b hb', hb'⟩

theorem rowsFault_at {n m : Int} {l : List (List Int)} {k : Nat} (hk : k < l.length) (h : ∀ i (hi : i < l.length), i < k → (l[i].length : Int) = n ∧ ∀ s ∈ l[i], 0 ≤ s ∧ s < m) :
    ((l[k].length : Int) ≠ n → rowsFault n m l = 2) ∧ ((l[k].length : Int) = n → (∃ s ∈ l[k], ¬ (0 ≤ s ∧ s < m)) → rowsFault n m l = 1) := by
  induction l generalizing k with
  | nil => simp at hk
  | cons r t ih =>
    cases k with
    | zero =>
      refine ⟨fun h1 => ?_, fun h1 h2 => ?_⟩
      · simp only [List.getElem_cons_zero] at h1
        unfold rowsFault; rw [if_pos h1]
      · simp only [List.getElem_cons_zero] at h1 h2
        obtain ⟨s, hs, hn⟩ := h2
        unfold rowsFault
        rw [if_neg (by omega), if_neg]
        intro hall
        exact hn (by simpa using List.all_eq_true.1 hall s hs)
    | succ k =>
      have h0 := h 0 (by simp) (by omega)
      simp only [List.getElem_cons_zero] at h0
      have e : rowsFault n m (r :: t) = rowsFault n m t := by
        conv => lhs; unfold rowsFault
        rw [if_neg (by omega), if_pos]
        rw [List.all_eq_true]; intro s hs; simpa using h0.2 s hs
      rw [e]
      exact ih (by simpa using hk) (fun i hi hik => h (i + 1) (by simp; omega) (by omega))

set_option maxHeartbeats 2000000 in
set_option maxRecDepth 100000 in
theorem Check_calls (S : Nat → Prop) (v : Value) (a : GAuto) (w : World) (ha : IsAuto S w v a) :
    Calls Tryd.prog 38 #[v] w (Ret (errV 27 (autoFault a)) w) := by
  obtain ⟨vn, ve, rfl, hn, he⟩ := ha
  have HB := Lib.hid ((Below.refl w.heap.size w).alloc (Nat.le_refl _) (.cells #[.int .i64 a.base, .int .i64 a.tracks, vn, ve] 60))
  have Hn := Lib.hid (hn.below (S' := fun _ => True) HB.out (fun _ _ _ => trivial))
  obtain ⟨pn, cn, rfl⟩ := hn.form
  obtain ⟨pe, ce, rfl⟩ := he.form
  clear hn he
  by_cases h0 : manyErr a.base a.tracks = 0
  · have E0 := Lib.hid h0
    by_cases h1 : a.next.length = 0
    · have R := Lib.hid (show autoFault a = 4 by simp [autoFault, h0, h1])
      have e1 : ((a.next.length : Int) == 0) = true := beq_iff_eq.2 (by omega)
      clear h0 h1
      go_enter Tryd.func38, Tryd.ntmps38
      go_wp2_with (go_at_call 23; refine (Many_calls _ _ _).mono ?_; rintro e w' ⟨rfl, rfl⟩; rw [E0.out, errV_zero])
      go_ret
      exact Ret.mk (by rw [R.out]; rfl) HB.out
    · have e1 : ((a.next.length : Int) == 0) = false := beq_eq_false_iff_ne.2 (by omega)
      by_cases h2 : 80 < a.next.length
      · have R := Lib.hid (show autoFault a = 3 by simp only [autoFault, h0, if_neg h1, if_pos h2]; simp)
        have e2 : (80 : Int) < a.next.length := by omega
        clear h0 h1 h2
        go_enter Tryd.func38, Tryd.ntmps38
        go_wp2_with (go_at_call 23; refine (Many_calls _ _ _).mono ?_; rintro e w' ⟨rfl, rfl⟩; rw [E0.out, errV_zero])
        go_ret
        exact Ret.mk (by rw [R.out]; rfl) HB.out
      · have e2 : ¬ (80 : Int) < a.next.length := by omega
        by_cases h3 : a.ends.length ≠ a.next.length
        · have R := Lib.hid (show autoFault a = 2 by simp only [autoFault, h0, if_neg h1, if_neg h2, if_pos h3]; simp)
          have e3 : ((a.ends.length : Int) != (a.next.length : Int)) = true := by rw [bne_iff_ne]; omega
          clear h0 h1 h2 h3
          go_enter Tryd.func38, Tryd.ntmps38
          go_wp2_with (go_at_call 23; refine (Many_calls _ _ _).mono ?_; rintro e w' ⟨rfl, rfl⟩; rw [E0.out, errV_zero])
          go_ret
          exact Ret.mk (by rw [R.out]; rfl) HB.out
        · have R := Lib.hid (show autoFault a = rowsFault (manyOf a.base a.tracks) a.next.length a.next by simp only [autoFault, h0, if_neg h1, if_neg h2, if_neg h3]; simp)
          have e3 : ((a.ends.length : Int) != (a.next.length : Int)) = false := by simp at h3; simp [h3]
          have h36 : manyOf a.base a.tracks ≤ 36 := by have := many_ok h0; omega
          clear h0 h1 h2 h3
          generalize hmo : manyOf a.base a.tracks = n at *
          have Hmo := Lib.hid hmo; clear hmo
          go_enter Tryd.func38, Tryd.ntmps38
          go_wp2_with (go_at_call 23; refine (Many_calls _ _ _).mono ?_; rintro e w' ⟨rfl, rfl⟩; rw [E0.out, errV_zero, Hmo.out])
          go_loop [45] (fun i => ∃ k : Nat, k ≤ a.next.length ∧ i = .int .i64 k ∧ Hid (∀ i (hi : i < a.next.length), i < k → (a.next[i].length : Int) = n ∧ ∀ s ∈ a.next[i], 0 ≤ s ∧ s < (a.next.length : Int))) (fun i => a.next.length - (intOf i).toNat)
          case atStart => exact ⟨0, by omega, rfl, fun i hi h => by omega⟩
          case round =>
            obtain ⟨k, hk, rfl, HA⟩ := hrel
            by_cases hlt : k < a.next.length
            · obtain ⟨b, off, x, hp, hS, hc, hx⟩ := Hn.out.at k hlt
              obtain ⟨px, cx, rfl⟩ := hx.form
              subst hp
              have Hx := Lib.hid hx
              clear hx hS
              have Hat := Lib.hid (rowsFault_at hlt HA.out)
              by_cases c : (a.next[k].length : Int) = n
              · have c' : ((a.next[k].length : Int) != n) = false := by simp [c]
                have Hc := Lib.hid c
                have hc36 : a.next[k].length ≤ 36 := by omega
                clear c
                go_wp2_with fail
                go_loop [56] (fun i => ∃ q : Nat, q ≤ a.next[k].length ∧ i = .int .i64 q ∧ Hid (∀ i (hi : i < a.next[k].length), i < q → 0 ≤ a.next[k][i] ∧ a.next[k][i] < (a.next.length : Int))) (fun i => a.next[k].length - (intOf i).toNat)
                case atStart => exact ⟨0, by omega, rfl, fun i hi h => by omega⟩
                case round =>
                  obtain ⟨q, hq, rfl, HQ⟩ := hrel
                  by_cases hqt : q < a.next[k].length
                  · obtain ⟨b2, off2, y, hp2, hS2, hc2, hy, hi2⟩ := Hx.out.at q hqt
                    subst hp2 hy
                    clear hS2
                    by_cases d1 : a.next[k][q] < 0
                    · have R2 := Lib.hid (Hat.out.2 Hc.out ⟨_, List.getElem_mem hqt, by omega⟩)
                      go_wp2
                      go_ret
                      exact Ret.mk (by rw [R.out, R2.out]; rfl) HB.out
                    · by_cases d2 : (a.next.length : Int) ≤ a.next[k][q]
                      · have R2 := Lib.hid (Hat.out.2 Hc.out ⟨_, List.getElem_mem hqt, by omega⟩)
                        go_wp2
                        go_ret
                        exact Ret.mk (by rw [R.out, R2.out]; rfl) HB.out
                      · have HG := Lib.hid (show 0 ≤ a.next[k][q] ∧ a.next[k][q] < (a.next.length : Int) by omega)
                        go_wp2
                        go_round
                        case rel =>
                          refine ⟨q + 1, by omega, by go_num, fun i hi h => ?_⟩
                          by_cases e : i < q
                          · exact HQ.out i hi e
                          · obtain rfl : i = q := by omega
                            exact HG.out
                        case measure => (simp [intOf] <;> omega)
                  · have HK := Lib.hid (show ∀ s ∈ a.next[k], 0 ≤ s ∧ s < (a.next.length : Int) from fun s hs => by
                      obtain ⟨i, hi, rfl⟩ := List.mem_iff_getElem.1 hs
                      exact HQ.out i hi (by omega))
                    go_wp2
                    go_round
                    case rel =>
                      refine ⟨k + 1, by omega, by go_num, fun i hi h => ?_⟩
                      by_cases e : i < k
                      · exact HA.out i hi e
                      · obtain rfl : i = k := by omega
                        exact ⟨Hc.out, HK.out⟩
                    case measure => (simp [intOf] <;> omega)
              · have c' : ((a.next[k].length : Int) != n) = true := by simpa using c
                have R2 := Lib.hid (Hat.out.1 c)
                clear c
                go_wp2
                go_ret
                exact Ret.mk (by rw [R.out, R2.out]; rfl) HB.out
            · have R2 := Lib.hid (show rowsFault n a.next.length a.next = 0 by
                rw [rowsFault_zero]
                intro r hr
                obtain ⟨i, hi, rfl⟩ := List.mem_iff_getElem.1 hr
                exact HA.out i hi (by omega))
              go_wp2
              go_ret
              exact Ret.mk (by rw [R.out, R2.out]; rfl) HB.out
  · have R := Lib.hid (show autoFault a = manyErr a.base a.tracks by simp [autoFault, h0])
    have E := Lib.hid (errV_ne 27 h0)
    clear h0
    go_enter Tryd.func38, Tryd.ntmps38
    go_wp2_with (go_at_call 23; refine (Many_calls _ _ _).mono ?_; rintro e w' ⟨rfl, rfl⟩; rw [E.out])
    go_ret
    exact Ret.mk (by rw [R.out, E.out]; rfl) HB.out
end Go.Proofs.YtgglhdbhemcijaaDoor
