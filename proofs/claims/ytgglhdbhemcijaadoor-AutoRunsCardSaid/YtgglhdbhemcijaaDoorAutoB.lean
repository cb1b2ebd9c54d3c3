/- The walks of Run and Takes. Conditions: the values read as an automaton and a word. -/
import Derived.Test.YtgglhdbhemcijaaDoorAutoA
namespace Go.Proofs.YtgglhdbhemcijaaDoor
open Go.RowKit

theorem nextOf_at {n m : Nat} {next : List (List Int)} (h : Rows0 n m next) {s q : Nat} (hs : s < m) (hq : q < n) :
    ∃ (h1 : s < next.length) (h2 : q < next[s].length), nextOf next s q = next[s][q] ∧ 0 ≤ next[s][q] ∧ next[s][q] < m := by
  have h1 : s < next.length := by have := h.len; omega
  have h2 : q < next[s].length := by have := h.row _ (List.getElem_mem h1); omega
  refine ⟨h1, h2, ?_, h.ok _ (List.getElem_mem h1) _ (List.getElem_mem h2)⟩
  unfold nextOf
  simp only [Int.toNat_natCast]
  rw [getD_lt h1, getD_lt h2]
theorem runFrom_snoc (next : List (List Int)) (s : Int) (w : List Int) (l : Int) : runFrom next s (w ++ [l]) = nextOf next (runFrom next s w) l := by simp [runFrom, List.foldl_append]

set_option maxHeartbeats 2000000 in
set_option maxRecDepth 100000 in
theorem Run_calls (S S' : Nat → Prop) (v : Value) (a : GAuto) (vl : Value) (l : List Int) (w : World) (hS : ∀ b, S b → b < w.heap.size) (hS' : ∀ b, S' b → b < w.heap.size) (ha : IsAuto S w v a) (hl : Ints S' w vl l) :
    Calls Tryd.prog 41 #[v, vl] w (Ret (.tuple #[.int .i64 (runOf a l), errV 27 (runErr a l)]) w) := by
  have HA := Lib.hid ha
  have HL := Lib.hid hl
  obtain ⟨vn, ve, rfl, hn, he⟩ := ha
  obtain ⟨pn, cn, rfl⟩ := hn.form
  obtain ⟨pe, ce, rfl⟩ := he.form
  obtain ⟨pl, cl, rfl⟩ := hl.form
  have hb0 : Below w.heap.size w (w.alloc (.cells #[.int .i64 a.base, .int .i64 a.tracks, .slice pn a.next.length cn, .slice pe a.ends.length ce] 60)) := (Below.refl w.heap.size w).alloc (Nat.le_refl _) _
  have HB0 := Lib.hid hb0
  have HA1 := Lib.hid (HA.out.below hb0 (S' := (· < w.heap.size + 1)) (fun b hb _ => by have := hS b hb; omega))
  clear hn he hl hb0
  go_enter Tryd.func41, Tryd.ntmps41
  go_wp2_with fail
  refine (Check_calls _ _ a _ HA1.out).mono ?_
  rintro e w1 ⟨rfl, hb1⟩
  have hbox : ∀ j, w1.cell? ⟨w.heap.size, j, none⟩ = (w.alloc (.cells #[.int .i64 a.base, .int .i64 a.tracks, .slice pn a.next.length cn, .slice pe a.ends.length ce] 60)).cell? ⟨w.heap.size, j, none⟩ :=
    fun j => hb1.cell (p := ⟨w.heap.size, j, none⟩) (by simp)
  have hbox2 : w1.cell? ⟨w.heap.size, 2, none⟩ = some (.slice pn a.next.length cn) := by rw [hbox, World.cell?_alloc_at _ _ _ _ rfl]; rfl
  have HB1 := Lib.hid (HB0.out.trans (hb1.mono HB0.out.size))
  clear hbox hb1
  have HA2 := Lib.hid (HA.out.keep (w' := w1) (S' := fun _ => True) fun b hb _ => ⟨HB1.out.block b (hS b hb), trivial⟩)
  have HL2 := Lib.hid (HL.out.keep (w' := w1) (S' := fun _ => True) fun b hb _ => ⟨HB1.out.block b (hS' b hb), trivial⟩)
  by_cases h0 : autoFault a = 0
  · have G := Lib.hid (good_of h0)
    have HE := Lib.hid (show runErr a l = longFault (letters a) l by simp [runErr, h0])
    rw [h0, errV_zero]
    generalize hnn : (manyOf a.base a.tracks).toNat = n at *
    clear hnn h0
    have hm0 := G.out.m0
    have hm80 := G.out.m80
    have hn36 := G.out.n36
    have HLt := Lib.hid G.out.letters
    by_cases h4 : 400 < l.length
    · have R := Lib.hid (show runErr a l = 3 ∧ runOf a l = 0 by
        have : runErr a l = 3 := by rw [HE.out]; simp [longFault, h4]
        exact ⟨this, by simp [runOf, this]⟩)
      have h4' : (400 : Int) < l.length := by omega
      clear h4
      go_wp2
      go_ret2
      exact Ret.mk (by rw [R.out.1, R.out.2]; rfl) HB1.out
    · have h4' : ¬ (400 : Int) < l.length := by omega
      have h400 : l.length ≤ 400 := by omega
      have HLF := Lib.hid (show runErr a l = if l.all (fun x => decide (0 ≤ x ∧ x < (n : Int))) then 0 else 1 by rw [HE.out, HLt.out]; simp [longFault, h4])
      clear h4
      -- the first row
      have hrow0 : ∃ b off x p c, pn = some ⟨b, off, none⟩ ∧ w1.cell? ⟨b, off, none⟩ = some (.slice p n c) ∧ x = Value.slice p n c := by
        obtain ⟨vn, ve, hv, hnx, _⟩ := HA2.out
        cases hv
        obtain ⟨b, off, x, hp, _, hc, hx⟩ := hnx.at 0 (by omega)
        obtain ⟨p, c, rfl⟩ := hx.form
        have hl0 : a.next[0].length = n := G.out.rows.row _ (List.getElem_mem (by omega))
        rw [hl0] at hc
        exact ⟨b, off, _, p, c, hp, by simpa using hc, rfl⟩
      obtain ⟨b0, off0, _, p0, c0, hpn, hc0, _⟩ := hrow0
      subst hpn
      go_wp2_with fail
      go_loop [23] (fun i => ∃ k : Nat, k ≤ l.length ∧ i = .int .i64 k ∧ Hid (∀ i (hi : i < l.length), i < k → 0 ≤ l[i] ∧ l[i] < (n : Int))) (fun i => l.length - (intOf i).toNat)
      case atStart => exact ⟨0, by omega, rfl, fun i hi h => by omega⟩
      case round =>
        obtain ⟨k, hk, rfl, HQ⟩ := hrel
        by_cases hlt : k < l.length
        · obtain ⟨b, off, x, hp, hS1, hc, hx, hi⟩ := HL2.out.at k hlt
          subst hp hx
          clear hS1
          have hbad : ¬ (0 ≤ l[k] ∧ l[k] < (n : Int)) → runErr a l = 1 ∧ runOf a l = 0 := fun hx => by
            have : runErr a l = 1 := by
              rw [HLF.out, if_neg]
              intro hall
              exact hx (by simpa using List.all_eq_true.1 hall _ (List.getElem_mem hlt))
            exact ⟨this, by simp [runOf, this]⟩
          have Hbad := Lib.hid hbad
          clear hbad
          by_cases d1 : l[k] < 0
          · have R := Lib.hid (Hbad.out (by omega))
            go_wp2
            go_ret2
            exact Ret.mk (by rw [R.out.1, R.out.2]; rfl) HB1.out
          · by_cases d2 : (n : Int) ≤ l[k]
            · have R := Lib.hid (Hbad.out (by omega))
              go_wp2
              go_ret2
              exact Ret.mk (by rw [R.out.1, R.out.2]; rfl) HB1.out
            · have HG := Lib.hid (show 0 ≤ l[k] ∧ l[k] < (n : Int) by omega)
              go_wp2
              go_round
              case rel =>
                refine ⟨k + 1, by omega, by go_num, fun i hi h => ?_⟩
                by_cases e : i < k
                · exact HQ.out i hi e
                · obtain rfl : i = k := by omega
                  exact HG.out
              case measure => (simp [intOf] <;> omega)
        · have HAll := Lib.hid (show ∀ i (hi : i < l.length), 0 ≤ l[i] ∧ l[i] < (n : Int) from fun i hi => HQ.out i hi (by omega))
          have R := Lib.hid (show runErr a l = 0 ∧ runOf a l = runFrom a.next 0 l by
            have : runErr a l = 0 := by
              rw [HLF.out, if_pos]
              rw [List.all_eq_true]
              intro x hx
              obtain ⟨i, hi, rfl⟩ := List.mem_iff_getElem.1 hx
              simpa using HAll.out i hi
            exact ⟨this, by simp [runOf, this]⟩)
          go_wp2_with fail
          go_loop [9, 42] (fun st i => ∃ (k s : Nat), k ≤ l.length ∧ i = .int .i64 k ∧ st = .int .i64 s ∧ s < a.next.length ∧ Hid (runFrom a.next 0 (l.take k) = s)) (fun _ i => l.length - (intOf i).toNat)
          case atStart => exact ⟨0, 0, by omega, rfl, rfl, hm0, by simp [Hid, runFrom]⟩
          case round =>
            obtain ⟨k, s, hk, rfl, rfl, hs, HR⟩ := hrel
            by_cases hlt : k < l.length
            · obtain ⟨b, off, x, hp, hS1, hc, hx, hi⟩ := HL2.out.at k hlt
              subst hp hx
              obtain ⟨q, hq⟩ := Int.eq_ofNat_of_zero_le (HAll.out k hlt).1
              have hqn : q < n := by have := (HAll.out k hlt).2; omega
              rw [hq] at hc
              obtain ⟨g1, g2, g3, g4, g5⟩ := nextOf_at G.out.rows (s := s) (q := q) hs hqn
              obtain ⟨z, hz⟩ := Int.eq_ofNat_of_zero_le g4
              rw [hz] at g3 g5
              have hrow : ∃ bb oo p c, Value.slice (some ⟨b0, off0, none⟩) a.next.length cn = .slice (some ⟨bb, oo, none⟩) a.next.length cn ∧ w1.cell? ⟨bb, oo + s, none⟩ = some (.slice p n c) ∧ ∃ b2 o2, p = some ⟨b2, o2, none⟩ ∧ w1.cell? ⟨b2, o2 + q, none⟩ = some (.int .i64 z) := by
                obtain ⟨vn, ve, hv, hnx, _⟩ := HA2.out
                cases hv
                obtain ⟨bb, oo, x, hp, _, hc, hx⟩ := hnx.at s g1
                obtain ⟨p2, c2, rfl⟩ := hx.form
                obtain ⟨b3, o3, y3, hp3, _, hc3, hy3, _⟩ := hx.at q g2
                subst hp3 hy3
                have hl0 : a.next[s].length = n := G.out.rows.row _ (List.getElem_mem g1)
                rw [hl0] at hc
                rw [hz] at hc3
                exact ⟨bb, oo, _, _, by rw [hp], hc, b3, o3, rfl, hc3⟩
              obtain ⟨bb, oo, p, c, hpe, hcs, b2, o2, rfl, hcq⟩ := hrow
              obtain ⟨rfl, rfl⟩ : b0 = bb ∧ off0 = oo := by simpa using hpe
              have Hz := Lib.hid (show runFrom a.next 0 (l.take (k + 1)) = z by
                rw [List.take_succ_eq_append_getElem hlt, runFrom_snoc, HR.out, hq, g3])
              have Hq := Lib.hid hq
              have hzm : z < a.next.length := by omega
              have hsi : (s : Int) < a.next.length := by omega
              have hqi : (q : Int) < n := by omega
              clear hq hz g3 g4 g5 hpe hS1 hi g1 g2
              go_wp2
              go_round
              case rel => exact ⟨k + 1, z, by omega, by go_num, rfl, hzm, Hz.out⟩
              case measure => (simp [intOf] <;> omega)
            · have e : l.take k = l := List.take_of_length_le (by omega)
              have HF := Lib.hid (show runOf a l = s by rw [R.out.2, ← HR.out, e])
              clear e
              go_wp2
              go_ret2
              exact Ret.mk (by rw [R.out.1, HF.out]; rfl) HB1.out
  · have R := Lib.hid (show runErr a l = autoFault a ∧ runOf a l = 0 by
      have : runErr a l = autoFault a := by simp [runErr, h0]
      exact ⟨this, by simp [runOf, this, h0]⟩)
    have E := Lib.hid (errV_ne 27 h0)
    rw [E.out]
    clear h0
    go_wp2
    go_ret2
    exact Ret.mk (by rw [R.out.1, R.out.2, E.out]; rfl) HB1.out
end Go.Proofs.YtgglhdbhemcijaaDoor
