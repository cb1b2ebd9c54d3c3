/- The walks of the reference's LongFault and Behind. Conditions: the values read as an automaton and a word. -/
import Derived.Test.YtgglhdbhemcijaaDoorRefA
namespace Go.Proofs.YtgglhdbhemcijaaDoor
open Go.RowKit

theorem longFault_at {n : Int} {l : List Int} (h4 : ¬ 400 < l.length) {k : Nat} (hk : k < l.length) (hx : ¬ (0 ≤ l[k] ∧ l[k] < n)) : longFault n l = 1 := by
  unfold longFault
  rw [if_neg h4, if_neg]
  intro hall
  exact hx (by simpa using List.all_eq_true.1 hall _ (List.getElem_mem hk))
theorem longFault_ok {n : Int} {l : List Int} (h4 : ¬ 400 < l.length) (h : ∀ i (hi : i < l.length), 0 ≤ l[i] ∧ l[i] < n) : longFault n l = 0 :=
  longFault_zero.2 ⟨by omega, fun x hx => by obtain ⟨i, hi, rfl⟩ := List.mem_iff_getElem.1 hx; exact h i hi⟩

set_option maxHeartbeats 2000000 in
theorem RLong_calls (S : Nat → Prop) (n : Int) (v : Value) (l : List Int) (w : World) (hl : Ints S w v l) :
    Calls Tryd.prog 39 #[.int .i64 n, v] w (RetS (.int .i64 (longFault n l)) w) := by
  obtain ⟨pl, cl, rfl⟩ := hl.form
  have HL := Lib.hid hl
  clear hl
  by_cases h4 : 400 < l.length
  · have R := Lib.hid (show longFault n l = 3 by simp [longFault, h4])
    have h4' : (400 : Int) < l.length := by omega
    clear h4
    go_enter Tryd.func39, Tryd.ntmps39
    go_wp2
    go_ret
    exact RetS.mk (by rw [R.out]; rfl)
  · have H4 := Lib.hid h4
    have h4' : ¬ (400 : Int) < l.length := by omega
    have h400 : l.length ≤ 400 := by omega
    clear h4
    go_enter Tryd.func39, Tryd.ntmps39
    go_wp2_with fail
    go_loop [5] (fun i => ∃ k : Nat, k ≤ l.length ∧ i = .int .i64 k ∧ Hid (∀ i (hi : i < l.length), i < k → 0 ≤ l[i] ∧ l[i] < n)) (fun i => l.length - (intOf i).toNat)
    case atStart => exact ⟨0, by omega, rfl, fun i hi h => by omega⟩
    case round =>
      obtain ⟨k, hk, rfl, HQ⟩ := hrel
      by_cases hlt : k < l.length
      · obtain ⟨b, off, x, hp, hS1, hc, hx, hi⟩ := HL.out.at k hlt
        subst hp hx
        clear hS1
        by_cases d1 : l[k] < 0
        · have R := Lib.hid (longFault_at H4.out hlt (n := n) (by omega))
          go_wp2
          go_ret
          exact RetS.mk (by rw [R.out]; rfl)
        · by_cases d2 : n ≤ l[k]
          · have R := Lib.hid (longFault_at H4.out hlt (n := n) (by omega))
            go_wp2
            go_ret
            exact RetS.mk (by rw [R.out]; rfl)
          · have HG := Lib.hid (show 0 ≤ l[k] ∧ l[k] < n by omega)
            go_wp2
            go_round
            case rel =>
              refine ⟨k + 1, by omega, by go_num, fun i hi h => ?_⟩
              by_cases e : i < k
              · exact HQ.out i hi e
              · obtain rfl : i = k := by omega
                exact HG.out
            case measure => (simp [intOf] <;> omega)
      · have R := Lib.hid (longFault_ok H4.out (n := n) fun i hi => HQ.out i hi (by omega))
        go_wp2
        go_ret
        exact RetS.mk (by rw [R.out]; rfl)

set_option maxHeartbeats 2000000 in
set_option maxRecDepth 100000 in
theorem RBehind_calls (S S' : Nat → Prop) (v : Value) (a : GAuto) (n : Nat) (vl : Value) (l : List Int) (w : World) (hS : ∀ b, S b → b < w.heap.size) (hS' : ∀ b, S' b → b < w.heap.size) (ha : IsAuto S w v a) (hl : Ints S' w vl l)
    (g : Good a n a.next.length) (hll : l.length ≤ 400) (hok : ∀ x ∈ l, 0 ≤ x ∧ x < (n : Int)) :
    Calls Tryd.prog 40 #[v, vl] w (Ret (.int .i64 (runFrom a.next 0 l)) w) := by
  obtain ⟨vn, ve, rfl, hn, he⟩ := ha
  obtain ⟨pn, cn, rfl⟩ := hn.form
  obtain ⟨pe, ce, rfl⟩ := he.form
  obtain ⟨pl, cl, rfl⟩ := hl.form
  obtain ⟨W0, hW0⟩ : ∃ W0, w.alloc (.cells #[.int .i64 a.base, .int .i64 a.tracks, .slice pn a.next.length cn, .slice pe a.ends.length ce] 60) = W0 := ⟨_, rfl⟩
  have HB := Lib.hid (show Below w.heap.size w W0 by rw [← hW0]; exact (Below.refl w.heap.size w).alloc (Nat.le_refl _) (.cells #[.int .i64 a.base, .int .i64 a.tracks, .slice pn a.next.length cn, .slice pe a.ends.length ce] 60))
  have hbox2 : W0.cell? ⟨w.heap.size, 2, none⟩ = some (.slice pn a.next.length cn) := by rw [← hW0, World.cell?_alloc_at _ _ _ _ rfl]; rfl
  have Hbox := Lib.hid hbox2
  have Hn := Lib.hid (hn.below (S' := (· < w.heap.size + 1)) HB.out (fun b hb _ => by have := hS b hb; omega))
  have HL := Lib.hid (hl.below (S' := (· < w.heap.size + 1)) HB.out (fun b hb _ => by have := hS' b hb; omega))
  have HW := Lib.hid hW0
  have G := Lib.hid g
  have Hok := Lib.hid (show ∀ i (hi : i < l.length), 0 ≤ l[i] ∧ l[i] < (n : Int) from fun i hi => hok _ (List.getElem_mem hi))
  have hm80 := g.m80
  have hm0 := g.m0
  have hn36 := g.n36
  clear hn he hl hbox2 hW0 g hok
  go_enter Tryd.func40, Tryd.ntmps40
  go_wp2_with fail
  rw [HW.out]
  go_loopw [5, 6] (fun st i wr => ∃ (k s : Nat), k ≤ l.length ∧ i = .int .i64 k ∧ st = .int .i64 s ∧ s < a.next.length ∧ Hid (runFrom a.next 0 (l.take k) = s) ∧ Hid (Below (w.heap.size + 1) W0 wr)) (fun _ i _ => l.length - (intOf i).toNat)
  case atStart => exact ⟨0, 0, by omega, rfl, rfl, hm0, by simp [Hid, runFrom], Below.refl _ _⟩
  case round =>
    obtain ⟨k, s, hk, rfl, rfl, hs, HR, HBr⟩ := hrel
    have hbox := (HBr.out.cell (p := ⟨w.heap.size, 2, none⟩) (by simp)).trans Hbox.out
    by_cases hlt : k < l.length
    · obtain ⟨b, off, x, hp, hS1, hc0, hx, hi⟩ := HL.out.at k hlt
      have hc := (HBr.out.cell (p := ⟨b, off + k, none⟩) hS1).trans hc0
      subst hp hx
      obtain ⟨q, hq⟩ := Int.eq_ofNat_of_zero_le (Hok.out k hlt).1
      have hqn : q < n := by have := (Hok.out k hlt).2; omega
      rw [hq] at hc
      obtain ⟨g1, g2, g3, g4, g5⟩ := nextOf_at G.out.rows (s := s) (q := q) hs hqn
      obtain ⟨z, hz⟩ := Int.eq_ofNat_of_zero_le g4
      rw [hz] at g3 g5
      obtain ⟨bb, oo, x, hp, hS2, hcs0, hx⟩ := Hn.out.at s g1
      have hcs := (HBr.out.cell (p := ⟨bb, oo + s, none⟩) hS2).trans hcs0
      obtain ⟨p2, c2, rfl⟩ := hx.form
      obtain ⟨b3, o3, y3, hp3, hS3, hc3, hy3, hI3⟩ := hx.at q g2
      have hcq := (HBr.out.cell (p := ⟨b3, o3 + q, none⟩) hS3).trans hc3
      subst hp hp3 hy3
      have hl0 : a.next[s].length = n := G.out.rows.row _ (List.getElem_mem g1)
      rw [hl0] at hcs
      rw [hz] at hcq
      have Hz := Lib.hid (show runFrom a.next 0 (l.take (k + 1)) = z by
        rw [List.take_succ_eq_append_getElem hlt, runFrom_snoc, HR.out, hq, g3])
      have hzm : z < a.next.length := by omega
      have hsi : (s : Int) < a.next.length := by omega
      have hqi : (q : Int) < n := by omega
      have hki : (k : Int) < l.length := by omega
      clear hI3 hq hz g3 g4 g5 hS1 hi hc0 hS2 hcs0 hx hS3 hc3 hl0 g1 g2
      go_wp2
      go_quiet (fail)
      go_wp2
      go_roundw
      case rel => exact ⟨k + 1, z, by omega, by go_num, rfl, hzm, Hz.out, below_drewN HBr.out _⟩
      case measure => (simp [intOf] <;> omega)
    · have e : l.take k = l := List.take_of_length_le (by omega)
      have HF := Lib.hid (show runFrom a.next 0 l = s by rw [← HR.out, e])
      clear e
      go_wp2
      go_ret
      exact Ret.mk (by rw [HF.out]; rfl) (HB.out.trans (HBr.out.mono (by omega)))
end Go.Proofs.YtgglhdbhemcijaaDoor
