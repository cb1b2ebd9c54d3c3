/- The walk of AutoRuns: it returns true. Condition: what the laid variable holds. -/
import Derived.Test.YtgglhdbhemcijaaDoorRefB
import Derived.Test.YtgglhdbhemcijaaDoorDigitReadsW
namespace Go.Proofs.YtgglhdbhemcijaaDoor
open Go.RowKit

set_option maxHeartbeats 4000000 in
set_option maxRecDepth 100000 in
theorem AutoRuns_walk (va : Value) (a : GAuto) (vl : Value) (l : List Int) (w : World) (ha : IsAuto (· < w.heap.size) w va a) (hl : Ints (· < w.heap.size) w vl l) (hg : errCell w) :
    Calls Tryd.prog 6 #[va, vl] w (Ret (.bool true) w) := by
  obtain ⟨vn, ve, rfl, hn, he⟩ := id ha
  obtain ⟨pn, cn, rfl⟩ := hn.form
  obtain ⟨pe, ce, rfl⟩ := he.form
  obtain ⟨pl, cl, rfl⟩ := hl.form
  obtain ⟨W0, hW0⟩ : ∃ W0, w.alloc (.cells #[.int .i64 a.base, .int .i64 a.tracks, .slice pn a.next.length cn, .slice pe a.ends.length ce] 60) = W0 := ⟨_, rfl⟩
  have HB := Lib.hid (show Below w.heap.size w W0 by rw [← hW0]; exact (Below.refl w.heap.size w).alloc (Nat.le_refl _) (.cells #[.int .i64 a.base, .int .i64 a.tracks, .slice pn a.next.length cn, .slice pe a.ends.length ce] 60))
  have hsz : W0.heap.size = w.heap.size + 1 := by rw [← hW0]; simp
  have Hsz := Lib.hid hsz
  have Hbox := Lib.hid (show ∀ wk : World, Below W0.heap.size W0 wk → wk.cell? ⟨w.heap.size, 0, none⟩ = some (.int .i64 a.base) ∧ wk.cell? ⟨w.heap.size, 1, none⟩ = some (.int .i64 a.tracks) ∧ wk.cell? ⟨w.heap.size, 2, none⟩ = some (.slice pn a.next.length cn) ∧ wk.cell? ⟨w.heap.size, 3, none⟩ = some (.slice pe a.ends.length ce) from fun wk h => by
    refine ⟨?_, ?_, ?_, ?_⟩ <;> (rw [h.cell (by simp [hsz]), ← hW0, World.cell?_alloc_at _ _ _ _ rfl]; rfl))
  have HA0 := Lib.hid (ha.below (S' := (· < W0.heap.size)) HB.out (fun b hb _ => by have : b < w.heap.size := hb; show b < W0.heap.size; omega))
  have HL0 := Lib.hid (hl.below (S' := (· < W0.heap.size)) HB.out (fun b hb _ => by have : b < w.heap.size := hb; show b < W0.heap.size; omega))
  have Hg0 := Lib.hid (hg.below HB.out)
  have HW := Lib.hid hW0
  have HB0 := Lib.hid (Below.refl W0.heap.size W0)
  clear hn he hl ha hg hW0 hsz
  go_enter Tryd.func6, Tryd.ntmps6
  go_wp2_with fail
  rw [HW.out]
  obtain ⟨b0, b1, b2, b3⟩ := Hbox.out _ HB0.out
  refine (RAFault_calls _ _ a _ (fun b hb => Nat.lt_of_lt_of_le hb HB0.out.size) (HA0.out.under HB0.out)).mono ?_
  rintro e w1 ⟨rfl, hw1⟩
  have HB1 := Lib.hid (HB0.out.trans (hw1.mono HB0.out.size))
  clear hw1 b0 b1 b2 b3
  obtain ⟨b0, b1, b2, b3⟩ := Hbox.out _ HB1.out
  go_wp2_with fail
  refine (Check_calls _ _ a _ (HA0.out.under HB1.out)).mono ?_
  rintro e w2 ⟨rfl, hw2⟩
  have HB2 := Lib.hid (HB1.out.trans (hw2.mono HB1.out.size))
  clear hw2 b0 b1 b2 b3
  obtain ⟨b0, b1, b2, b3⟩ := Hbox.out _ HB2.out
  go_wp2_with fail
  refine (Error_calls _ _ _ (Hg0.out.below HB2.out)).mono ?_
  rintro e w3 ⟨rfl, hw3⟩
  rw [beq_self_int]
  have HB3 := Lib.hid (HB2.out.trans (hw3.mono HB2.out.size))
  clear hw3 b0 b1 b2 b3
  obtain ⟨b0, b1, b2, b3⟩ := Hbox.out _ HB3.out
  by_cases h0 : autoFault a = 0
  · have G := Lib.hid (good_of h0)
    have HE := Lib.hid (show runErr a l = longFault (letters a) l by simp [runErr, h0])
    have e0 : (autoFault a == 0) = true := by simp [h0]
    rw [h0]
    clear h0 e0
    generalize hnn : (manyOf a.base a.tracks).toNat = n at *
    clear hnn
    have hm0 := G.out.m0
    have hm80 := G.out.m80
    have hn36 := G.out.n36
    have HLt := Lib.hid G.out.letters
    have hrow0 : ∃ b off x p c, pn = some ⟨b, off, none⟩ ∧ w3.cell? ⟨b, off, none⟩ = some (.slice p n c) ∧ x = Value.slice p n c := by
      obtain ⟨vn, ve, hv, hnx, _⟩ := HA0.out.under HB3.out
      cases hv
      obtain ⟨b, off, x, hp, _, hc, hx⟩ := hnx.at 0 (by omega)
      obtain ⟨p, c, rfl⟩ := hx.form
      have hl0 : a.next[0].length = n := G.out.rows.row _ (List.getElem_mem (by omega))
      rw [hl0] at hc
      exact ⟨b, off, _, p, c, hp, by simpa using hc, rfl⟩
    obtain ⟨bb, off0, _, p0, c0, hpn, hc0, _⟩ := hrow0
    subst hpn
    go_wp2_with fail
    refine (RLong_calls _ _ _ l _ (HL0.out.under HB3.out)).mono ?_
    rintro e w' ⟨rfl, rfl⟩
    by_cases h1 : runErr a l = 0
    · have hlf : longFault n l = 0 := by rw [← h1, HE.out, HLt.out]
      rw [hlf]
      have hz := (runErr_good G.out l).1 h1
      have hz1 := Lib.hid hz.1
      have hz2 := Lib.hid hz.2
      obtain ⟨s, hs, h2, h3⟩ := takes_yes h1
      have Hrun := Lib.hid (show runFrom a.next 0 l = s by rw [← h2]; simp [runOf, h1])
      clear hz hlf hc0
      go_wp2_with fail
      refine (RBehind_calls _ _ _ a n _ l _ (fun b hb => Nat.lt_of_lt_of_le hb HB3.out.size) (fun b hb => Nat.lt_of_lt_of_le hb HB3.out.size) (HA0.out.under HB3.out) (HL0.out.under HB3.out) G.out hz1.out hz2.out).mono ?_
      rintro e w4 ⟨rfl, hw4⟩
      rw [Hrun.out]
      have HB4 := Lib.hid (HB3.out.trans (hw4.mono HB3.out.size))
      clear hw4 b0 b1 b2 b3
      obtain ⟨b0, b1, b2, b3⟩ := Hbox.out _ HB4.out
      obtain ⟨be, oe, x, hp, hc, hx⟩ : ∃ be oe x, pe = some ⟨be, oe, none⟩ ∧ w4.cell? ⟨be, oe + s, none⟩ = some x ∧ x = .bool a.ends[s] := by
        obtain ⟨vn, ve, hv, _, hee⟩ := HA0.out.under HB4.out
        cases hv
        obtain ⟨b, off, x, hp, _, hc, hx⟩ := hee.at s hs
        exact ⟨b, off, x, hp, hc, hx⟩
      subst hp hx
      obtain ⟨z, hz⟩ : ∃ z, z = a.ends[s] := ⟨_, rfl⟩
      rw [← hz] at hc h3
      have R := Lib.hid (show runErr a l = 0 ∧ runOf a l = s ∧ takesOf a l = z from ⟨h1, h2, h3⟩)
      have hzz : (z == z) = true := by simp
      have hs' : (s : Int) < a.ends.length := by omega
      clear h1 h2 h3 hz
      go_wp2_with fail
      refine (Run_calls _ _ _ a _ l _ (fun b hb => Nat.lt_of_lt_of_le hb HB4.out.size) (fun b hb => Nat.lt_of_lt_of_le hb HB4.out.size) (HA0.out.under HB4.out) (HL0.out.under HB4.out)).mono ?_
      rintro e w5 ⟨rfl, hw5⟩
      rw [R.out.1, R.out.2.1]
      have HB5 := Lib.hid (HB4.out.trans (hw5.mono HB4.out.size))
      clear hw5 b0 b1 b2 b3
      obtain ⟨b0, b1, b2, b3⟩ := Hbox.out _ HB5.out
      go_wp2_with fail
      refine (Error_calls _ _ _ (Hg0.out.below HB5.out)).mono ?_
      rintro e w6 ⟨rfl, hw6⟩
      rw [beq_self_int]
      have HB6 := Lib.hid (HB5.out.trans (hw6.mono HB5.out.size))
      clear hw6 b0 b1 b2 b3
      obtain ⟨b0, b1, b2, b3⟩ := Hbox.out _ HB6.out
      go_wp2_with fail
      refine (Takes_calls _ _ _ a _ l _ (fun b hb => Nat.lt_of_lt_of_le hb HB6.out.size) (fun b hb => Nat.lt_of_lt_of_le hb HB6.out.size) (HA0.out.under HB6.out) (HL0.out.under HB6.out)).mono ?_
      rintro e w7 ⟨rfl, hw7⟩
      rw [R.out.1, R.out.2.2]
      have HB7 := Lib.hid (HB6.out.trans (hw7.mono HB6.out.size))
      clear hw7 b0 b1 b2 b3
      obtain ⟨b0, b1, b2, b3⟩ := Hbox.out _ HB7.out
      go_wp2_with fail
      refine (Error_calls _ _ _ (Hg0.out.below HB7.out)).mono ?_
      rintro e w8 ⟨rfl, hw8⟩
      rw [beq_self_int]
      have HB8 := Lib.hid (HB7.out.trans (hw8.mono HB7.out.size))
      clear hw8 b0 b1 b2 b3
      obtain ⟨b0, b1, b2, b3⟩ := Hbox.out _ HB8.out
      go_wp2
      go_ret
      exact Ret.mk (by rfl) (HB.out.trans (HB8.out.mono HB.out.size))
    · have R := Lib.hid (show runErr a l = longFault n l ∧ runOf a l = 0 ∧ takesOf a l = false from ⟨by rw [HE.out, HLt.out], by simp [runOf, h1], takes_no h1⟩)
      have e1 : (longFault n l == 0) = false := by rw [← R.out.1]; simpa using h1
      clear h1 hc0
      go_wp2_with fail
      refine (Run_calls _ _ _ a _ l _ (fun b hb => Nat.lt_of_lt_of_le hb HB3.out.size) (fun b hb => Nat.lt_of_lt_of_le hb HB3.out.size) (HA0.out.under HB3.out) (HL0.out.under HB3.out)).mono ?_
      rintro e w4 ⟨rfl, hw4⟩
      rw [R.out.1, R.out.2.1]
      have HB4 := Lib.hid (HB3.out.trans (hw4.mono HB3.out.size))
      clear hw4 b0 b1 b2 b3
      obtain ⟨b0, b1, b2, b3⟩ := Hbox.out _ HB4.out
      go_wp2_with fail
      refine (Error_calls _ _ _ (Hg0.out.below HB4.out)).mono ?_
      rintro e w5 ⟨rfl, hw5⟩
      rw [beq_self_int]
      have HB5 := Lib.hid (HB4.out.trans (hw5.mono HB4.out.size))
      clear hw5 b0 b1 b2 b3
      obtain ⟨b0, b1, b2, b3⟩ := Hbox.out _ HB5.out
      go_wp2_with fail
      refine (Takes_calls _ _ _ a _ l _ (fun b hb => Nat.lt_of_lt_of_le hb HB5.out.size) (fun b hb => Nat.lt_of_lt_of_le hb HB5.out.size) (HA0.out.under HB5.out) (HL0.out.under HB5.out)).mono ?_
      rintro e w6 ⟨rfl, hw6⟩
      rw [R.out.1, R.out.2.2]
      have HB6 := Lib.hid (HB5.out.trans (hw6.mono HB5.out.size))
      clear hw6 b0 b1 b2 b3
      obtain ⟨b0, b1, b2, b3⟩ := Hbox.out _ HB6.out
      go_wp2_with fail
      refine (Error_calls _ _ _ (Hg0.out.below HB6.out)).mono ?_
      rintro e w7 ⟨rfl, hw7⟩
      rw [beq_self_int]
      have HB7 := Lib.hid (HB6.out.trans (hw7.mono HB6.out.size))
      clear hw7 b0 b1 b2 b3
      obtain ⟨b0, b1, b2, b3⟩ := Hbox.out _ HB7.out
      go_wp2
      go_ret
      exact Ret.mk (by rfl) (HB.out.trans (HB7.out.mono HB.out.size))
  · have h1 : runErr a l = autoFault a := by simp [runErr, h0]
    have R := Lib.hid (show runErr a l = autoFault a ∧ runOf a l = 0 ∧ takesOf a l = false from ⟨h1, by simp [runOf, h1, h0], takes_no (by rw [h1]; exact h0)⟩)
    have e1 : (autoFault a == 0) = false := by simpa using h0
    clear h0 h1
    go_wp2_with fail
    refine (Run_calls _ _ _ a _ l _ (fun b hb => Nat.lt_of_lt_of_le hb HB3.out.size) (fun b hb => Nat.lt_of_lt_of_le hb HB3.out.size) (HA0.out.under HB3.out) (HL0.out.under HB3.out)).mono ?_
    rintro e w4 ⟨rfl, hw4⟩
    rw [R.out.1, R.out.2.1]
    have HB4 := Lib.hid (HB3.out.trans (hw4.mono HB3.out.size))
    clear hw4 b0 b1 b2 b3
    obtain ⟨b0, b1, b2, b3⟩ := Hbox.out _ HB4.out
    go_wp2_with fail
    refine (Error_calls _ _ _ (Hg0.out.below HB4.out)).mono ?_
    rintro e w5 ⟨rfl, hw5⟩
    rw [beq_self_int]
    have HB5 := Lib.hid (HB4.out.trans (hw5.mono HB4.out.size))
    clear hw5 b0 b1 b2 b3
    obtain ⟨b0, b1, b2, b3⟩ := Hbox.out _ HB5.out
    go_wp2_with fail
    refine (Takes_calls _ _ _ a _ l _ (fun b hb => Nat.lt_of_lt_of_le hb HB5.out.size) (fun b hb => Nat.lt_of_lt_of_le hb HB5.out.size) (HA0.out.under HB5.out) (HL0.out.under HB5.out)).mono ?_
    rintro e w6 ⟨rfl, hw6⟩
    rw [R.out.1, R.out.2.2]
    have HB6 := Lib.hid (HB5.out.trans (hw6.mono HB5.out.size))
    clear hw6 b0 b1 b2 b3
    obtain ⟨b0, b1, b2, b3⟩ := Hbox.out _ HB6.out
    go_wp2_with fail
    refine (Error_calls _ _ _ (Hg0.out.below HB6.out)).mono ?_
    rintro e w7 ⟨rfl, hw7⟩
    rw [beq_self_int]
    have HB7 := Lib.hid (HB6.out.trans (hw7.mono HB6.out.size))
    clear hw7 b0 b1 b2 b3
    obtain ⟨b0, b1, b2, b3⟩ := Hbox.out _ HB7.out
    go_wp2
    go_ret
    exact Ret.mk (by rfl) (HB.out.trans (HB7.out.mono HB.out.size))
end Go.Proofs.YtgglhdbhemcijaaDoor
