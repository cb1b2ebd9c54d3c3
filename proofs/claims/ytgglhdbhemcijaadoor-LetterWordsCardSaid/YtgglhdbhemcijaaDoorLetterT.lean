/- The walk of split, step by step. No conditions but that the value reads as a list. -/
import Derived.Test.YtgglhdbhemcijaaDoorLetterS
namespace Go.Proofs.YtgglhdbhemcijaaDoor
open Go.RowKit

set_option maxHeartbeats 2000000 in
set_option maxRecDepth 100000 in
theorem split_calls (S : Nat → Prop) (base t : Int) (v : Value) (l : List Int) (w : World) (hS : ∀ b, S b → b < w.heap.size) (hd : Ints S w v l) :
    Calls Tryd.prog 70 #[.int .i64 base, .int .i64 t, v] w
      (RetQ (fun v w' => ∃ x, v = .tuple #[x, errV 27 (splitErr base t l)] ∧ Intss (w.heap.size ≤ ·) w' x (splitOf base t l)) w) := by
  obtain ⟨a, cap, rfl, hlen, hcell⟩ := hd
  by_cases h0 : manyErr base t = 0
  · have E0 := Lib.hid (show errV 27 (manyErr base t) = .nilIface by rw [h0]; rfl)
    by_cases h60 : 60 < l.length
    · have R := Lib.hid (splitErr_long h0 h60)
      have h60' : (60 : Int) < l.length := by omega
      clear h0 h60
      go_enter Tryd.func70, Tryd.ntmps70
      go_wp2_with (go_at_call 23; refine (Many_calls _ _ _).mono ?_; rintro e w' ⟨rfl, rfl⟩; rw [E0.out])
      go_ret2
      exact RetQ.mk ⟨_, by rw [R.out.1]; rfl, by rw [R.out.2]; exact Sl.nil _ _ _⟩ (Below.refl _ _)
    · have HL := Lib.hid (show ∀ i (hi : i < l.length), (l[i] < 0 ∨ manyOf base t ≤ l[i]) → splitErr base t l = 1 ∧ splitOf base t l = [] from fun i hi hx => splitErr_letter h0 h60 hi hx)
      have HO := Lib.hid (show (∀ i (hi : i < l.length), ¬ (l[i] < 0 ∨ manyOf base t ≤ l[i])) → splitErr base t l = 0 ∧ splitOf base t l = (List.range t.toNat).map (trackOf (radix base) t.toNat l) from splitErr_ok h0 h60)
      have h60' : ¬ (60 : Int) < l.length := by omega
      have HM := Lib.hid h0
      obtain ⟨h1, ht0, h5, _, _⟩ := many_ok h0
      obtain ⟨r2, r6⟩ := radix_two h1
      obtain ⟨t, rfl⟩ := Int.eq_ofNat_of_zero_le ht0
      simp only [Int.toNat_natCast] at HO
      have ht5 : t ≤ 5 := by omega
      clear h0 h1 h60
      go_enter Tryd.func70, Tryd.ntmps70
      go_wp2_with fail
      refine (Many_calls _ _ _).mono ?_; rintro e w' ⟨rfl, rfl⟩; rw [E0.out]
      go_wp2_with (at_make; go_loud (refine makeInts rfl _ rfl t rfl ?c1 ?_))
      case c1 => omega
      intro w1 hown hgrow
      have HB := Lib.hid (below_of_grown hgrow (by simp)); clear hgrow
      have Hown := Lib.hid hown; clear hown
      go_wp2_with fail
      go_loopw [34] (fun i wr => ∃ (k : Nat) (xs : List Value), k ≤ l.length ∧ i = .int .i64 k ∧ Hid (∀ i (hi : i < l.length), i < k → ¬ (l[i] < 0 ∨ manyOf base t ≤ l[i])) ∧
        Hid (wr.ownsRow w.heap.size 22 1 (.slice (some ⟨w.heap.size, 0, none⟩) t t) t xs) ∧ Hid (RowsOwn wr w.heap.size xs (trackOf (radix base) t (l.take k))) ∧ Hid (Below w.heap.size w wr)) (fun i _ => l.length - (intOf i).toNat)
      case atStart => exact ⟨0, _, by omega, rfl, fun i hi h => by omega, Hown.out, (RowsOwn.start _ _ _).congr (fun i hi => by simp [trackOf]), HB.out⟩
      case round =>
        obtain ⟨k, xs, hk, rfl, HA, HO1, HR, HB1⟩ := hrel
        have hsz : w.heap.size < wr.heap.size := (HO1.out.lt w.heap.size rfl).2
        have hxl : xs.length = t := by have := HO1.out.1; simpa using this
        have Hxl := Lib.hid hxl; clear hxl
        by_cases hlt : k < l.length
        · obtain ⟨b, off, z, ha, hSb, hc, hx, hi⟩ := hcell k hlt
          subst ha hx
          have hc' := (HB1.out.cell (p := ⟨b, off + k, none⟩) (hS b hSb)).trans hc
          by_cases hbad : l[k] < 0 ∨ manyOf base t ≤ l[k]
          · have R := Lib.hid (HL.out k hlt hbad)
            have R2 := Lib.hid (unpackErr_letter HM.out hbad)
            clear hbad
            go_wp2_with fail
            refine (Unpack_calls _ _ _ _).mono ?_
            rintro e w2 ⟨_, rfl, ⟨x2, rfl, _⟩, hb2⟩
            rw [R2.out.1, errV_ne _ (show (1 : Int) ≠ 0 by decide)]
            have HB2 := Lib.hid (HB1.out.trans (hb2.mono HB1.out.size)); clear hb2
            go_wp2
            go_ret2
            exact RetQ.mk ⟨_, by rw [R.out.1]; rfl, by rw [R.out.2]; exact Sl.nil _ _ _⟩ HB2.out
          · have R2 := Lib.hid (unpackErr_ok HM.out hbad)
            simp only [Int.toNat_natCast] at R2
            have Hbad := Lib.hid hbad; clear hbad
            go_wp2_with fail
            refine (Unpack_calls _ _ _ _).mono ?_
            rintro e w2 ⟨_, rfl, ⟨x2, rfl, hd2⟩, hb2⟩
            rw [R2.out.1, errV_zero]
            rw [R2.out.2] at hd2
            have hdl : (unpack (radix base) t l[k]).length = t := unpack_length _ _ _
            have HS2 := Lib.hid (show ∀ j, trackOf (radix base) t (l.take (k + 1)) j = trackOf (radix base) t (l.take k) j ++ [(unpack (radix base) t l[k]).getD j 0] from fun j => by
              rw [List.take_succ_eq_append_getElem hlt, trackOf_snoc])
            generalize hD : unpack (radix base) t l[k] = D at *
            have HDe := Lib.hid hD; clear hD
            have Hdl := Lib.hid hdl; clear hdl
            obtain ⟨pd, cd, rfl⟩ := Sl.form hd2
            rw [Hdl.out] at hd2 ⊢
            have HO2 := Lib.hid (HO1.out.kept (w' := w2) (row := none) ⟨hb2.os, hb2.tape, hb2.output, hb2.size, fun k hk _ => hb2.block k hk⟩ (by simp [Value.ownBlock]))
            have HR2 := Lib.hid (HR.out.keep (w' := w2) fun k _ hk => hb2.block k hk)
            have HB2 := Lib.hid (HB1.out.trans (hb2.mono HB1.out.size))
            have Hd2 := Lib.hid (show Ints (Clear xs w.heap.size) w2 (.slice pd t cd) D from hd2.keep fun b hb hlt => ⟨rfl, by omega, fun i hi hbi => by have := ((HR.out.own i hi).lt b hbi).2; omega⟩)
            clear hd2 hb2 HO1 HR HB1 hc' hc hSb hi
            go_wp2_with fail
            go_loopw [50] (fun i wr2 => ∃ (q : Nat) (ys : List Value), q ≤ t ∧ i = .int .i64 q ∧ Hid (ys.length = t) ∧ 
              Hid (wr2.ownsRow w.heap.size 22 1 (.slice (some ⟨w.heap.size, 0, none⟩) t t) t ys) ∧ Hid (RowsOwn wr2 w.heap.size ys (fun i => if i < q then trackOf (radix base) t (l.take (k + 1)) i else trackOf (radix base) t (l.take k) i)) ∧
              Hid (Ints (Clear ys w.heap.size) wr2 (.slice pd t cd) D) ∧ Hid (Below w.heap.size w wr2)) (fun i _ => t - (intOf i).toNat)
            case atStart => exact ⟨0, xs, by omega, rfl, Hxl.out, HO2.out, HR2.out.congr (fun i _ => by simp), Hd2.out, HB2.out⟩
            case round =>
              obtain ⟨q, ys, hq, rfl, Hyl, HO3, HR3, Hd3, HB3⟩ := hrel
              have hsz3 : w.heap.size < wr.heap.size := (HO3.out.lt w.heap.size rfl).2
              by_cases hqt : q < t
              · have hqy : q < ys.length := by have := Hyl.out; omega
                obtain ⟨b3, off3, z3, hpd, hcl3, hc3, hz3, hi3⟩ := Hd3.out.at q (by have := Hdl.out; omega)
                subst hpd hz3
                have hown := HR3.out.own q hqy
                simp only [Nat.lt_irrefl, if_false] at hown
                have hlenq : (trackOf (radix base) t (l.take k) q).length = k := by simp [trackOf]; omega
                rw [hlenq] at hown
                obtain ⟨pa, ca, hyq⟩ := own_form hown
                rw [hyq] at hown
                have hcellq : wr.cell? ⟨w.heap.size, q, none⟩ = some (.slice pa k ca) := by
                  rw [HO3.out.cellAt q (by omega), List.getElem?_eq_getElem hqy, hyq]
                have Hyq := Lib.hid hyq
                have Hlenq := Lib.hid hlenq
                have hk60 : k ≤ 60 := by omega
                generalize hx3 : D[q]'(by have := Hdl.out; omega) = x3 at *
                have Hx3 := Lib.hid hx3
                clear hyq hlenq hx3
                go_wp2_with (at_builtin; go_loud (refine appInt rfl _ _ rfl (w.heap.size + 1) _ _ _ rfl hown _ rfl rfl ?c1 ?c2 ?_))
                case c1 => omega
                case c2 => omega
                intro v' w' hown' hgrow hwh
                have hO4 := HO3.out.kept hgrow (by right; intro e; have := hown.lt _ e.symm; dsimp only at this; omega)
                have hR4 := HR3.out.append q hqy v' x3 (by simp only [Nat.lt_irrefl, if_false]; rw [Hlenq.out]; exact hown') (by rw [Hyq.out]; exact hgrow) (by rw [Hyq.out]; exact hwh)
                have hcell4 : w'.cell? ⟨w.heap.size, q, none⟩ = some (.slice pa k ca) := by
                  rw [hO4.cellAt q (by omega), List.getElem?_eq_getElem hqy, Hyq.out]
                have hfr4 := hO4.frozenAt q
                have hB4 := HB3.out.grown hgrow HB3.out.size (fun j hj => by have := (hown.lt j hj).1; omega)
                have hd4 : Ints (Clear (ys.set q v') w.heap.size) w' (.slice (some ⟨b3, off3, none⟩) t cd) D := Hd3.out.keep fun b hb hlt => by
                  refine ⟨hgrow.block b hlt fun e => hb.2 q hqy (by rw [Hyq.out]; exact e.symm), hb.1, fun i hi hbi => ?_⟩
                  by_cases e : i = q
                  · subst e
                    rw [List.getElem_set_self] at hbi
                    rcases hwh with h | h
                    · exact hb.2 i hqy (by rw [Hyq.out, ← h]; exact hbi)
                    · rw [h] at hbi; simp at hbi; omega
                  · rw [List.getElem_set_ne (Ne.symm e)] at hbi
                    exact hb.2 i (by simpa using hi) hbi
                obtain ⟨pv, cv, rfl⟩ := own_form hown'
                have HO4 := Lib.hid hO4
                have HR4 := Lib.hid hR4
                have HB4 := Lib.hid hB4
                have Hd4 := Lib.hid hd4
                clear hO4 hR4 hB4 hd4 hown' hgrow hwh hown
                go_wp2_with fail
                go_roundw
                case rel =>
                  refine ⟨q + 1, ys.set q (.slice pv (k + 1) cv), by omega, by go_num, by have := Hyl.out; simp [Hid]; omega, (HO4.out.stored q _).1, ?_, ?_, HB4.out.setCell (Nat.le_refl _) _⟩
                  · refine (HR4.out.keep (w' := w'.setCell ⟨w.heap.size, q, none⟩ (.slice pv (k + 1) cv)) fun j hj _ => Below.heap_setCell _ _ _ _ (by show j ≠ w.heap.size; omega)).congr fun i hi => ?_
                    by_cases e : i = q
                    · subst e
                      rw [if_pos rfl, if_neg (by omega), if_pos (by omega), HS2.out, getD_lt (by have := Hdl.out; omega), Hx3.out]
                    · rw [if_neg e]
                      by_cases e2 : i < q
                      · rw [if_pos e2, if_pos (by omega)]
                      · rw [if_neg e2, if_neg (by omega)]
                  · exact Hd4.out.keep fun b hb _ => ⟨Below.heap_setCell _ _ _ _ hb.1, hb⟩
                case measure => (simp [intOf] <;> omega)
              · obtain rfl : q = t := by omega
                go_wp2_with fail
                go_roundw
                case rel =>
                  refine ⟨k + 1, ys, by omega, by go_num, fun i hi h => ?_, HO3.out, HR3.out.congr (fun i hi => by rw [if_pos (by have := Hyl.out; omega)]), HB3.out⟩
                  by_cases e : i < k
                  · exact HA.out i hi e
                  · obtain rfl : i = k := by omega
                    exact Hbad.out
                case measure => (simp [intOf] <;> omega)
        · obtain rfl : k = l.length := by omega
          have R := Lib.hid (HO.out fun i hi => HA.out i hi hi)
          go_wp2_with fail
          go_ret2
          refine RetQ.mk ⟨_, by rw [R.out.1]; rfl, ?_⟩ HB1.out
          rw [R.out.2]
          refine Sl.of_own HO1.out _ (by simp) fun i h1 h2 => ?_
          have := HR.out.own i h1
          rw [List.take_length] at this
          simp only [List.getElem_map, List.getElem_range]
          refine (Ints.of_own this rfl ?_).keep fun b hb _ => ⟨rfl, by omega⟩
          intro x hx
          obtain ⟨y, _, rfl⟩ := List.mem_map.1 hx
          rw [List.getD_eq_getElem?_getD]
          rcases hy : (unpack (radix base) t y)[i]? with _ | z
          · exact ⟨by decide, by decide⟩
          · have := unpack_ok r2 _ _ z (List.mem_of_getElem? hy)
            exact ⟨by simp; omega, by simp; omega⟩
  · have R := Lib.hid (splitErr_many (l := l) h0)
    have E := Lib.hid (errV_ne 27 h0)
    clear h0
    go_enter Tryd.func70, Tryd.ntmps70
    go_wp2_with (go_at_call 23; refine (Many_calls _ _ _).mono ?_; rintro e w' ⟨rfl, rfl⟩; rw [E.out])
    go_ret2
    exact RetQ.mk ⟨_, by rw [R.out.1, E.out]; rfl, by rw [R.out.2]; exact Sl.nil _ _ _⟩ (Below.refl _ _)
end Go.Proofs.YtgglhdbhemcijaaDoor
