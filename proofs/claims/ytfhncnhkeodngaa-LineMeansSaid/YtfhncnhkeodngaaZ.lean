/- The law LineMeans returns true at every input and leaves its arguments as they read. No conditions. -/
import Derived.Test.YtfhncnhkeodngaaM6
set_option linter.unusedSimpArgs false
set_option linter.unusedVariables false
set_option linter.unnecessarySimpa false
set_option linter.unusedSectionVars false
namespace Go.Proofs.Ytfhncnhkeodngaa
open Go.RowKit

theorem repNil (S : Nat → Prop) (w : World) : RepT S w (.list []) (.slice none 0 0) :=
  .list [] none 0 1 (fun _ => undef) (Nat.zero_le _) Nat.one_pos (fun x hx => by simp at hx) (fun h => (h rfl).elim) (fun k hk => by simp at hk) (fun k y hy => by simp [flat] at hy) (Nat.le_refl _)
theorem flat_one : ∀ {l : List T}, (∀ x ∈ l, x.cells = [x]) → flat l = l
  | [], _ => rfl
  | x :: t, h => by
    have := flat_one fun y hy => h y (List.mem_cons_of_mem x hy)
    simp only [flat, List.flatMap_cons] at this ⊢
    rw [this, h x List.mem_cons_self]; rfl
/-- What the call made and owns, as data. -/
theorem repOwn {w : World} {B e n : Nat} {v : Value} {xs : List Value} {l : List T} (h : w.ownsRow B e 1 v n xs) (hl : l.length = n) (hc : ∀ x ∈ l, x.cells = [x]) (h1 : ∀ v ∈ xs, v.oneCell' = true)
    (hx : ∀ (i : Nat) (x : Value) (y : T), l[i]? = some y → xs[i]? = some x → RepT (B ≤ ·) w y x) : RepT (B ≤ ·) w (.list l) v := by
  subst hl
  have hxl : xs.length = l.length := by have := h.1; omega
  rcases h.2 with ⟨rfl, h0⟩ | ⟨g, cap, cur, rfl, h2, h3, h4, h5, h6, h7⟩
  · obtain rfl : l = [] := List.length_eq_zero_iff.1 h0
    exact repNil _ _
  · have hcell : ∀ k (hk : k < l.length), cur[k]? = some (xs[k]'(by omega)) := fun k hk => by
      have h8 : (cur.toList.take (l.length * 1))[k]? = some (xs[k]'(by omega)) := by rw [h7]; exact List.getElem?_eq_getElem _
      rw [List.getElem?_take_of_lt (by omega)] at h8
      simpa using h8
    exact .list l (some ⟨g, 0, none⟩) cap 1 (fun k => xs.getD k undef) (by omega) Nat.one_pos (fun x hx => by rw [hc x hx]; rfl)
      (fun _ => ⟨g, 0, rfl, h2, fun k hk => by
        have hk2 : k < l.length := by omega
        rw [Nat.zero_add, World.cell?, h3]
        have := hcell k hk2
        simp only [List.getD_eq_getElem?_getD, List.getElem?_eq_getElem (show k < xs.length by omega), Option.getD_some]
        exact this⟩)
      (fun k hk => by
        simp only [List.getD_eq_getElem?_getD, List.getElem?_eq_getElem (show k < xs.length by omega), Option.getD_some]
        exact h1 _ (List.getElem_mem _))
      (fun k y hy => by
        rw [flat_one hc] at hy
        have hk := (List.getElem?_eq_some_iff.1 hy).1
        simp only [List.getD_eq_getElem?_getD, List.getElem?_eq_getElem (show k < xs.length by omega), Option.getD_some]
        exact hx k _ y hy (List.getElem?_eq_getElem _)) (by omega)

set_option maxHeartbeats 2000000 in
set_option maxRecDepth 100000 in
theorem split_callsB (S : Nat → Prop) (base t : Int) (v : Value) (l : List Int) (w : World) (hS : ∀ b, S b → b < w.heap.size) (hd : Ints S w v l) :
    Calls Try.prog 55 #[.int .i64 base, .int .i64 t, v] w
      (RetQ (fun v w' => ∃ x, v = .tuple #[x, errV 68 (splitErr base t l)] ∧ Intss (w.heap.size ≤ ·) w' x (splitOf base t l) ∧ RepT (w.heap.size ≤ ·) w' (tIntss (splitOf base t l)) x) w) := by
  obtain ⟨a, cap, rfl, hlen, hcell⟩ := hd
  by_cases h0 : manyErr base t = 0
  · have E0 := Lib.hid (show errV 68 (manyErr base t) = .nilIface by rw [h0]; rfl)
    by_cases h60 : 60 < l.length
    · have R := Lib.hid (splitErr_long h0 h60)
      have h60' : (60 : Int) < l.length := by omega
      clear h0 h60
      go_enter Try.func55, Try.ntmps55
      go_wp2_with (go_at_call 40; refine (Many_calls _ _ _).mono ?_; rintro e w' ⟨rfl, rfl⟩; rw [E0.out])
      go_ret2
      exact RetQ.mk ⟨_, by rw [R.out.1]; rfl, by rw [R.out.2]; exact Sl.nil _ _ _, by rw [R.out.2]; exact repNil _ _⟩ (Below.refl _ _)
    · have HL := Lib.hid (show ∀ i (hi : i < l.length), (l[i] < 0 ∨ manyOf base t ≤ l[i]) → splitErr base t l = 1 ∧ splitOf base t l = [] from fun i hi hx => splitErr_letter h0 h60 hi hx)
      have HO := Lib.hid (show (∀ i (hi : i < l.length), ¬ (l[i] < 0 ∨ manyOf base t ≤ l[i])) → splitErr base t l = 0 ∧ splitOf base t l = (List.range t.toNat).map (trackOf (radix base) t.toNat l) from splitErr_ok h0 h60)
      have h60' : ¬ (60 : Int) < l.length := by omega
      have HM := Lib.hid h0
      obtain ⟨h1, ht0, h5, _, _⟩ := many_ok h0
      obtain ⟨r2, r6⟩ := radix_two h1
      obtain ⟨t, rfl⟩ := Int.eq_ofNat_of_zero_le ht0
      simp only [Int.toNat_natCast] at HO
      have ht5 : t ≤ 5 := by omega
      clear h0 h1 h60
      go_enter Try.func55, Try.ntmps55
      go_wp2_with fail
      refine (Many_calls _ _ _).mono ?_; rintro e w' ⟨rfl, rfl⟩; rw [E0.out]
      go_wp2_with (at_make; go_loud (refine makeInts rfl _ rfl t rfl ?c1 ?_))
      case c1 => omega
      intro w1 hown hgrow
      have HB := Lib.hid (below_of_grown hgrow (by simp)); clear hgrow
      have Hown := Lib.hid hown; clear hown
      go_wp2_with fail
      go_loopw [34] (fun i wr => ∃ (k : Nat) (xs : List Value), k ≤ l.length ∧ i = .int .i64 k ∧ Hid (∀ i (hi : i < l.length), i < k → ¬ (l[i] < 0 ∨ manyOf base t ≤ l[i])) ∧
        Hid (wr.ownsRow w.heap.size 24 1 (.slice (some ⟨w.heap.size, 0, none⟩) t t) t xs) ∧ Hid (RowsOwn wr w.heap.size xs (trackOf (radix base) t (l.take k))) ∧ Hid (Below w.heap.size w wr)) (fun i _ => l.length - (intOf i).toNat)
      case atStart => exact ⟨0, _, by omega, rfl, fun i hi h => by omega, Hown.out, (RowsOwn.start _ _ _).congr (fun i hi => by simp [trackOf]), HB.out⟩
      case round =>
        obtain ⟨k, xs, hk, rfl, HA, HO1, HR, HB1⟩ := hrel
        have hsz : w.heap.size < wr.heap.size := (HO1.out.lt w.heap.size rfl).2
        have hxl : xs.length = t := by have := HO1.out.1; simpa using this
        have Hxl := Lib.hid hxl; clear hxl
        by_cases hlt : k < l.length
        · obtain ⟨b, off, z, ha, hSb, hc, hx, hi⟩ := hcell k hlt
          subst ha hx
          have hc' := (HB1.out.cell (p := ⟨b, off + k, none⟩) (hS b hSb)).trans hc
          by_cases hbad : l[k] < 0 ∨ manyOf base t ≤ l[k]
          · have R := Lib.hid (HL.out k hlt hbad)
            have R2 := Lib.hid (unpackErr_letter HM.out hbad)
            clear hbad
            go_wp2_with fail
            refine (Unpack_calls _ _ _ _).mono ?_
            rintro e w2 ⟨_, rfl, ⟨x2, rfl, _⟩, hb2⟩
            rw [R2.out.1, errV_ne _ (show (1 : Int) ≠ 0 by decide)]
            have HB2 := Lib.hid (HB1.out.trans (hb2.mono HB1.out.size)); clear hb2
            go_wp2
            go_ret2
            exact RetQ.mk ⟨_, by rw [R.out.1]; rfl, by rw [R.out.2]; exact Sl.nil _ _ _, by rw [R.out.2]; exact repNil _ _⟩ HB2.out
          · have R2 := Lib.hid (unpackErr_ok HM.out hbad)
            simp only [Int.toNat_natCast] at R2
            have Hbad := Lib.hid hbad; clear hbad
            go_wp2_with fail
            refine (Unpack_calls _ _ _ _).mono ?_
            rintro e w2 ⟨_, rfl, ⟨x2, rfl, hd2⟩, hb2⟩
            rw [R2.out.1, errV_zero]
            rw [R2.out.2] at hd2
            have hdl : (unpack (radix base) t l[k]).length = t := unpack_length _ _ _
            have HS2 := Lib.hid (show ∀ j, trackOf (radix base) t (l.take (k + 1)) j = trackOf (radix base) t (l.take k) j ++ [(unpack (radix base) t l[k]).getD j 0] from fun j => by
              rw [List.take_succ_eq_append_getElem hlt, trackOf_snoc])
            generalize hD : unpack (radix base) t l[k] = D at *
            have HDe := Lib.hid hD; clear hD
            have Hdl := Lib.hid hdl; clear hdl
            obtain ⟨pd, cd, rfl⟩ := Sl.form hd2
            rw [Hdl.out] at hd2 ⊢
            have HO2 := Lib.hid (HO1.out.kept (w' := w2) (row := none) ⟨hb2.os, hb2.tape, hb2.output, hb2.size, fun k hk _ => hb2.block k hk⟩ (by simp [Value.ownBlock]))
            have HR2 := Lib.hid (HR.out.keep (w' := w2) fun k _ hk => hb2.block k hk)
            have HB2 := Lib.hid (HB1.out.trans (hb2.mono HB1.out.size))
            have Hd2 := Lib.hid (show Ints (Clear xs w.heap.size) w2 (.slice pd t cd) D from hd2.keep fun b hb hlt => ⟨rfl, by omega, fun i hi hbi => by have := ((HR.out.own i hi).lt b hbi).2; omega⟩)
            clear hd2 hb2 HO1 HR HB1 hc' hc hSb hi
            go_wp2_with fail
            go_loopw [50] (fun i wr2 => ∃ (q : Nat) (ys : List Value), q ≤ t ∧ i = .int .i64 q ∧ Hid (ys.length = t) ∧ 
              Hid (wr2.ownsRow w.heap.size 24 1 (.slice (some ⟨w.heap.size, 0, none⟩) t t) t ys) ∧ Hid (RowsOwn wr2 w.heap.size ys (fun i => if i < q then trackOf (radix base) t (l.take (k + 1)) i else trackOf (radix base) t (l.take k) i)) ∧
              Hid (Ints (Clear ys w.heap.size) wr2 (.slice pd t cd) D) ∧ Hid (Below w.heap.size w wr2)) (fun i _ => t - (intOf i).toNat)
            case atStart => exact ⟨0, xs, by omega, rfl, Hxl.out, HO2.out, HR2.out.congr (fun i _ => by simp), Hd2.out, HB2.out⟩
            case round =>
              obtain ⟨q, ys, hq, rfl, Hyl, HO3, HR3, Hd3, HB3⟩ := hrel
              have hsz3 : w.heap.size < wr.heap.size := (HO3.out.lt w.heap.size rfl).2
              by_cases hqt : q < t
              · have hqy : q < ys.length := by have := Hyl.out; omega
                obtain ⟨b3, off3, z3, hpd, hcl3, hc3, hz3, hi3⟩ := Hd3.out.at q (by have := Hdl.out; omega)
                subst hpd hz3
                have hown := HR3.out.own q hqy
                simp only [Nat.lt_irrefl, if_false] at hown
                have hlenq : (trackOf (radix base) t (l.take k) q).length = k := by simp [trackOf]; omega
                rw [hlenq] at hown
                obtain ⟨pa, ca, hyq⟩ := own_form hown
                rw [hyq] at hown
                have hcellq : wr.cell? ⟨w.heap.size, q, none⟩ = some (.slice pa k ca) := by
                  rw [HO3.out.cellAt q (by omega), List.getElem?_eq_getElem hqy, hyq]
                have Hyq := Lib.hid hyq
                have Hlenq := Lib.hid hlenq
                have hk60 : k ≤ 60 := by omega
                generalize hx3 : D[q]'(by have := Hdl.out; omega) = x3 at *
                have Hx3 := Lib.hid hx3
                clear hyq hlenq hx3
                go_wp2_with (at_builtin; go_loud (refine appInt rfl _ _ rfl (w.heap.size + 1) _ _ _ rfl hown _ rfl rfl ?c1 ?c2 ?_))
                case c1 => omega
                case c2 => omega
                intro v' w' hown' hgrow hwh
                have hO4 := HO3.out.kept hgrow (by right; intro e; have := hown.lt _ e.symm; dsimp only at this; omega)
                have hR4 := HR3.out.append q hqy v' x3 (by simp only [Nat.lt_irrefl, if_false]; rw [Hlenq.out]; exact hown') (by rw [Hyq.out]; exact hgrow) (by rw [Hyq.out]; exact hwh)
                have hcell4 : w'.cell? ⟨w.heap.size, q, none⟩ = some (.slice pa k ca) := by
                  rw [hO4.cellAt q (by omega), List.getElem?_eq_getElem hqy, Hyq.out]
                have hfr4 := hO4.frozenAt q
                have hB4 := HB3.out.grown hgrow HB3.out.size (fun j hj => by have := (hown.lt j hj).1; omega)
                have hd4 : Ints (Clear (ys.set q v') w.heap.size) w' (.slice (some ⟨b3, off3, none⟩) t cd) D := Hd3.out.keep fun b hb hlt => by
                  refine ⟨hgrow.block b hlt fun e => hb.2 q hqy (by rw [Hyq.out]; exact e.symm), hb.1, fun i hi hbi => ?_⟩
                  by_cases e : i = q
                  · subst e
                    rw [List.getElem_set_self] at hbi
                    rcases hwh with h | h
                    · exact hb.2 i hqy (by rw [Hyq.out, ← h]; exact hbi)
                    · rw [h] at hbi; simp at hbi; omega
                  · rw [List.getElem_set_ne (Ne.symm e)] at hbi
                    exact hb.2 i (by simpa using hi) hbi
                obtain ⟨pv, cv, rfl⟩ := own_form hown'
                have HO4 := Lib.hid hO4
                have HR4 := Lib.hid hR4
                have HB4 := Lib.hid hB4
                have Hd4 := Lib.hid hd4
                clear hO4 hR4 hB4 hd4 hown' hgrow hwh hown
                go_wp2_with fail
                go_roundw
                case rel =>
                  refine ⟨q + 1, ys.set q (.slice pv (k + 1) cv), by omega, by go_num, by have := Hyl.out; simp [Hid]; omega, (HO4.out.stored q _).1, ?_, ?_, HB4.out.setCell (Nat.le_refl _) _⟩
                  · refine (HR4.out.keep (w' := w'.setCell ⟨w.heap.size, q, none⟩ (.slice pv (k + 1) cv)) fun j hj _ => Below.heap_setCell _ _ _ _ (by show j ≠ w.heap.size; omega)).congr fun i hi => ?_
                    by_cases e : i = q
                    · subst e
                      rw [if_pos rfl, if_neg (by omega), if_pos (by omega), HS2.out, getD_lt (by have := Hdl.out; omega), Hx3.out]
                    · rw [if_neg e]
                      by_cases e2 : i < q
                      · rw [if_pos e2, if_pos (by omega)]
                      · rw [if_neg e2, if_neg (by omega)]
                  · exact Hd4.out.keep fun b hb _ => ⟨Below.heap_setCell _ _ _ _ hb.1, hb⟩
                case measure => (simp [intOf] <;> omega)
              · obtain rfl : q = t := by omega
                go_wp2_with fail
                go_roundw
                case rel =>
                  refine ⟨k + 1, ys, by omega, by go_num, fun i hi h => ?_, HO3.out, HR3.out.congr (fun i hi => by rw [if_pos (by have := Hyl.out; omega)]), HB3.out⟩
                  by_cases e : i < k
                  · exact HA.out i hi e
                  · obtain rfl : i = k := by omega
                    exact Hbad.out
                case measure => (simp [intOf] <;> omega)
        · obtain rfl : k = l.length := by omega
          have R := Lib.hid (HO.out fun i hi => HA.out i hi hi)
          go_wp2_with fail
          go_ret2
          have HI : ∀ i, ∀ x ∈ trackOf (radix base) t l i, I64 x := fun i x hx => by
            obtain ⟨y, _, rfl⟩ := List.mem_map.1 hx
            rw [List.getD_eq_getElem?_getD]
            rcases hy : (unpack (radix base) t y)[i]? with _ | z
            · exact ⟨by decide, by decide⟩
            · have := unpack_ok r2 _ _ z (List.mem_of_getElem? hy)
              exact ⟨by simp; omega, by simp; omega⟩
          refine RetQ.mk ⟨_, by rw [R.out.1]; rfl, ?_, ?_⟩ HB1.out
          · rw [R.out.2]
            refine Sl.of_own HO1.out _ (by simp) fun i h1 h2 => ?_
            have := HR.out.own i h1
            rw [List.take_length] at this
            simp only [List.getElem_map, List.getElem_range]
            exact (Ints.of_own this rfl (HI i)).keep fun b hb _ => ⟨rfl, by omega⟩
          · rw [R.out.2]
            refine repOwn HO1.out (l := ((List.range t).map (trackOf (radix base) t l)).map tInts) (by simp) (fun x hx => by obtain ⟨y, _, rfl⟩ := List.mem_map.1 hx; rfl) (fun v hv => ?_) fun i x y hy hx => ?_
            · obtain ⟨i, hi, rfl⟩ := List.mem_iff_getElem.1 hv
              obtain ⟨a, c, e⟩ := own_form (HR.out.own i hi)
              rw [e]; rfl
            · obtain ⟨hi, rfl⟩ := List.getElem?_eq_some_iff.1 hx
              have := HR.out.own i hi
              rw [List.take_length] at this
              simp only [List.getElem?_map, Option.map_eq_some_iff, List.getElem?_range] at hy
              obtain ⟨q, ⟨j, hj, rfl⟩, rfl⟩ := hy
              obtain ⟨_, rfl⟩ := List.getElem?_eq_some_iff.1 hj
              simp only [List.getElem_range]
              exact (repOwnInts this rfl (HI _)).mono fun b hb => by omega
  · have R := Lib.hid (splitErr_many (l := l) h0)
    have E := Lib.hid (errV_ne 68 h0)
    clear h0
    go_enter Try.func55, Try.ntmps55
    go_wp2_with (go_at_call 40; refine (Many_calls _ _ _).mono ?_; rintro e w' ⟨rfl, rfl⟩; rw [E.out])
    go_ret2
    exact RetQ.mk ⟨_, by rw [R.out.1, E.out]; rfl, by rw [R.out.2]; exact Sl.nil _ _ _, by rw [R.out.2]; exact repNil _ _⟩ (Below.refl _ _)
theorem split_calls (S : Nat → Prop) (base t : Int) (v : Value) (l : List Int) (w : World) (hS : ∀ b, S b → b < w.heap.size) (hd : Ints S w v l) :
    Calls Try.prog 55 #[.int .i64 base, .int .i64 t, v] w
      (RetQ (fun v w' => ∃ x, v = .tuple #[x, errV 68 (splitErr base t l)] ∧ Intss (w.heap.size ≤ ·) w' x (splitOf base t l)) w) :=
  (split_callsB S base t v l w hS hd).mono fun e w' h => by
    obtain ⟨v, rfl, ⟨x, rfl, h1, _⟩, hb⟩ := h
    exact RetQ.mk ⟨x, rfl, h1⟩ hb
end Go.Proofs.Ytfhncnhkeodngaa
namespace Go.Proofs.Ytfhncnhkeodngaa
open Go.RowKit

set_option maxHeartbeats 2000000 in
set_option maxRecDepth 100000 in
theorem LRight_calls (S : Nat → Prop) (base t : Int) (v : Value) (l : List Int) (w : World) (hS : ∀ b, S b → b < w.heap.size) (hd : Ints S w v l) :
    Calls Try.prog 25 #[.int .i64 base, .int .i64 t, v] w
      (Ret (.tuple #[.bool (rightWRes base t l), errV 68 (rightWErr base t l)]) w) := by
  have Hd := Lib.hid hd
  obtain ⟨pa, ca, rfl⟩ := hd.form
  clear hd
  go_enter Try.func25, Try.ntmps25
  go_wp2_with fail
  refine (split_calls S _ _ _ _ _ hS Hd.out).mono ?_
  rintro e w1 ⟨_, rfl, ⟨x1, rfl, hr⟩, hb1⟩
  have HB := Lib.hid hb1; clear hb1
  by_cases h0 : splitErr base t l = 0
  · have H0 := Lib.hid h0
    rw [h0, errV_zero]
    clear h0
    have Hr := Lib.hid hr
    obtain ⟨pr, cr, rfl⟩ := hr.form
    clear hr
    have HN := Lib.hid (show rightWErr base t l = firstErr (digitsFault base) (splitOf base t l) by simp [rightWErr, H0.out])
    have hrl : (splitOf base t l).length ≤ 5 := by
      have h := H0.out
      have hm : manyErr base t = 0 := by
        unfold splitErr at h; split at h <;> omega
      have := many_ok hm
      simp [splitOf, H0.out]; omega
    generalize hR : splitOf base t l = R at *
    have HR := Lib.hid hR; clear hR
    go_wp2_with fail
    go_loop [10, 27] (fun ok i => ∃ (k : Nat), k ≤ R.length ∧ i = .int .i64 k ∧ Hid (∀ i (hi : i < R.length), i < k → digitsFault base R[i] = 0) ∧ ok = .bool ((R.take k).all (rightRes base))) (fun _ i => R.length - (intOf i).toNat)
    case atStart => exact ⟨0, by omega, rfl, fun i hi h => by omega, by simp⟩
    case round =>
      obtain ⟨k, hk, rfl, HA, rfl⟩ := hrel
      by_cases hlt : k < R.length
      · obtain ⟨b, off, x, hp, hS1, hc, hx⟩ := Hr.out.at k hlt
        subst hp
        obtain ⟨px, cx, rfl⟩ := hx.form
        have Hx := Lib.hid hx; clear hx
        have Hst := Lib.hid (show (R.take (k + 1)).all (rightRes base) = ((R.take k).all (rightRes base) && rightRes base R[k]) by
          rw [List.take_succ_eq_append_getElem hlt, List.all_append]; simp)
        generalize (R.take k).all (rightRes base) = o at *
        go_wp2_with fail
        refine (Right_calls _ _ _ _ _ Hx.out).mono ?_; rintro e w' ⟨rfl, rfl⟩
        by_cases hv : digitsFault base R[k] = 0
        · rw [hv, errV_zero]
          have Hv := Lib.hid hv; clear hv
          cases o
          all_goals
            go_wp2_with fail
            go_round
            case rel =>
              refine ⟨k + 1, by omega, by go_num, fun i hi h => ?_, by rw [Hst.out]; simp⟩
              by_cases e : i < k
              · exact HA.out i hi e
              · obtain rfl : i = k := by omega
                exact Hv.out
            case measure => (simp [intOf] <;> omega)
        · have RE := Lib.hid (show rightWErr base t l = digitsFault base R[k] ∧ rightWRes base t l = false by
            have : rightWErr base t l = digitsFault base R[k] := by rw [HN.out]; exact firstErr_at hlt HA.out hv
            exact ⟨this, by simp [rightWRes, this, hv]⟩)
          have HE := Lib.hid (errV_ne 68 hv)
          rw [HE.out]
          clear hv
          go_wp2_with fail
          go_ret2
          exact Ret.mk (by rw [RE.out.1, RE.out.2, HE.out]; rfl) HB.out
      · obtain rfl : k = R.length := by omega
        have RE := Lib.hid (show rightWErr base t l = 0 ∧ rightWRes base t l = R.all (rightRes base) by
          have : rightWErr base t l = 0 := by
            rw [HN.out, firstErr_zero]
            intro r hr
            obtain ⟨i, hi, rfl⟩ := List.mem_iff_getElem.1 hr
            exact HA.out i hi hi
          exact ⟨this, by simp [rightWRes, this, HR.out]⟩)
        go_wp2_with fail
        go_ret2
        exact Ret.mk (by rw [RE.out.1, RE.out.2]; rfl) HB.out
  · have RE := Lib.hid (show rightWErr base t l = splitErr base t l ∧ rightWRes base t l = false by
      have : rightWErr base t l = splitErr base t l := by simp [rightWErr, h0]
      exact ⟨this, by simp [rightWRes, this, h0]⟩)
    have HE := Lib.hid (errV_ne 68 h0)
    rw [HE.out]
    clear h0 hr
    go_wp2
    go_ret2
    exact Ret.mk (by rw [RE.out.1, RE.out.2, HE.out]; rfl) HB.out
end Go.Proofs.Ytfhncnhkeodngaa
namespace Go.Proofs.Ytfhncnhkeodngaa
open Go.RowKit

theorem word_back {base : Int} {nums l : List Int} (he : wordErr base nums = 0) (hw : WordIs base nums l) :
    numsErr base nums.length l = 0 ∧ numsOf base nums.length l = nums ∧ rightWErr base nums.length l = 0 ∧ rightWRes base nums.length l = true ∧ (∀ h : 0 < l.length, l[0] ≠ 0) ∧ l.length ≤ 58 := by
  obtain ⟨rows, hr, rfl⟩ := hw.2 he
  have hm : manyErr base nums.length = 0 := by
    unfold wordErr at he; split at he <;> omega
  have hall : ∀ x ∈ nums, 0 ≤ x ∧ x ≤ 1099511627776 := by
    unfold wordErr at he
    rw [if_neg (by omega)] at he
    split at he
    · rename_i h
      intro x hx
      simpa [okNum] using List.all_eq_true.1 h x hx
    · omega
  obtain ⟨r0, _, _, _, hmo⟩ := many_ok hm
  simp only [Int.toNat_natCast] at hmo
  obtain ⟨hrl, hri⟩ := hr
  have hofs : ∀ d ∈ rows, ∃ n ∈ nums, IsOf base n d := by
    intro d hd
    obtain ⟨i, hi, rfl⟩ := List.mem_iff_getElem.1 hd
    exact ⟨_, List.getElem_mem (by omega), hri i (by omega) hi⟩
  have hok : ∀ d ∈ rows, okDigits base d := fun d hd => by obtain ⟨n, _, h⟩ := hofs d hd; exact h.ok
  have hlong : longest rows ≤ 58 := by
    rcases longest_mem rows with h | ⟨d, hd, h⟩
    · omega
    · obtain ⟨n, hn, ho⟩ := hofs d hd
      rw [← h]; exact ho.len r0 (hall n hn).2
  have hlen : (wordRows (radix base) (longest rows) rows).length = longest rows := by simp [wordRows]
  have hs := splitErr_ok (base := base) (t := nums.length) (l := wordRows (radix base) (longest rows) rows) hm (by omega) (fun i hi => by
    have := wordRows_letters r0 hok (longest rows) _ (List.getElem_mem hi)
    rw [hmo, ← hrl]; omega)
  have hsp : splitOf base nums.length (wordRows (radix base) (longest rows) rows) = rows.map (pad (longest rows)) := by
    rw [hs.2]
    simp only [Int.toNat_natCast]
    apply List.ext_getElem
    · simp [hrl]
    · intro i h1 h2
      have hi : i < rows.length := by simpa using h2
      have := trackOf_wordRows r0 hok i hi
      rw [hrl] at this
      simp [this]
  have hpf : ∀ i (hi : i < rows.length), digitsFault base (pad (longest rows) rows[i]) = 0 := fun i hi =>
    fault_zero.2 ⟨r0, by rw [pad_length (longest_ge (List.getElem_mem hi))]; omega, pad_ok r0 (hok _ (List.getElem_mem hi))⟩
  have hpv : ∀ i (hi : i < rows.length), valErr base (pad (longest rows) rows[i]) = 0 ∧ valOf base (pad (longest rows) rows[i]) = nums[i]'(by omega) := fun i hi => by
    have ho := hri i (by omega) hi
    have := valErr_ok (hpf i hi) (by rw [pad_val, ho.val]; exact (hall _ (List.getElem_mem _)).2)
    rw [pad_val, ho.val] at this
    exact this
  have hne : numsErr base nums.length (wordRows (radix base) (longest rows) rows) = 0 := by
    unfold numsErr
    rw [if_neg (by rw [hs.1]; decide), hsp, firstErr_zero]
    intro r hr
    obtain ⟨d, hd, rfl⟩ := List.mem_map.1 hr
    obtain ⟨i, hi, rfl⟩ := List.mem_iff_getElem.1 hd
    exact (hpv i hi).1
  have hre : rightWErr base nums.length (wordRows (radix base) (longest rows) rows) = 0 := by
    unfold rightWErr
    rw [if_neg (by rw [hs.1]; decide), hsp, firstErr_zero]
    intro r hr
    obtain ⟨d, hd, rfl⟩ := List.mem_map.1 hr
    obtain ⟨i, hi, rfl⟩ := List.mem_iff_getElem.1 hd
    exact hpf i hi
  refine ⟨hne, ?_, hre, ?_, ?_, by omega⟩
  · unfold numsOf
    rw [if_pos hne, hsp]
    apply List.ext_getElem
    · simp [hrl]
    · intro i h1 h2
      have hi : i < rows.length := by omega
      simp [(hpv i hi).2]
  · unfold rightWRes
    rw [hre, hsp]
    simp only [decide_true, Bool.true_and]
    rw [List.all_eq_true]
    intro r hr
    obtain ⟨d, hd, rfl⟩ := List.mem_map.1 hr
    obtain ⟨i, hi, rfl⟩ := List.mem_iff_getElem.1 hd
    unfold rightRes
    rw [decide_eq_true_iff]
    exact ⟨hpf i hi, pad_right (hri i (by omega) hi).right⟩
  · intro h
    exact wordRows_lead r0 hok (fun d hd => by obtain ⟨n, _, ho⟩ := hofs d hd; exact ho.lead) h

end Go.Proofs.Ytfhncnhkeodngaa
namespace Go.Proofs.Ytfhncnhkeodngaa

theorem greedy_end {b n : Int} (hb : radix b ≠ 0) : ∀ (j : Nat) (r : Int) (l : List Int), GreedyB b n j r l → ∃ d, IsOf b n d
  | 0, r, l, h => ⟨l, h.done⟩
  | j + 1, r, l, h => by
    by_cases hl : l = []
    · subst hl
      by_cases hr : r < W b j
      · exact greedy_end hb j r [] (h.none hr)
      · refine greedy_end hb j _ _ (h.step hb (.inr ?_))
        have hp := W_pos hb j
        have : 1 ≤ r / W b j := (Int.le_ediv_iff_mul_le (by omega)).2 (by omega)
        omega
    · exact greedy_end hb j _ _ (h.step hb (.inl hl))
theorem ofErr_zero {base n : Int} : ofErr base n = 0 ↔ radix base ≠ 0 ∧ 0 ≤ n ∧ n ≤ 1099511627776 := by
  unfold ofErr; split <;> omega
theorem ofL_is {base n : Int} (h : ofErr base n = 0) : IsOf base n (ofL base n) := by
  obtain ⟨h1, h2, h3⟩ := ofErr_zero.1 h
  obtain ⟨d, hd⟩ := greedy_end h1 58 n [] (.start h2 (by have := W_big h1 (Nat.le_refl 58); omega) (by omega))
  rw [ofL_eq (fun _ => hd) (fun h' => absurd h h')]; exact hd
/-- What is said of a number. -/
noncomputable def said (o : GOut) (n : Int) : Int := o.outs.getD (runFrom o.next 0 (ofL o.base n)).toNat 0
noncomputable def atErr (o : GOut) (n : Int) : Int := if outErr o ≠ 0 then outErr o else if n < 0 ∨ 1099511627776 < n then 1 else 0
noncomputable def atOf (o : GOut) (n : Int) : Int := if atErr o n = 0 then said o n else 0
theorem OkOut.dig {o : GOut} {k m : Nat} (g : OkOut o k m) {n : Int} (h0 : 0 ≤ n) (h1 : n ≤ 1099511627776) : ∀ x ∈ ofL o.base n, 0 ≤ x ∧ x < (k : Int) := fun x hx => by
  have hk := g.k_eq
  have := (ofL_is (ofErr_zero.2 ⟨by have := g.k2; omega, h0, h1⟩)).ok x hx
  omega
theorem OkOut.st {o : GOut} {k m : Nat} (g : OkOut o k m) {n : Int} (h0 : 0 ≤ n) (h1 : n ≤ 1099511627776) : 0 ≤ runFrom o.next 0 (ofL o.base n) ∧ runFrom o.next 0 (ofL o.base n) < (m : Int) :=
  runFrom_ok g.rows _ 0 (by have := g.m0; omega) (g.dig h0 h1)
structure OkRules (rules : List (List Int)) (code : List Int) (k m : Nat) : Prop where
  k2 : 2 ≤ k ∧ k ≤ 6
  m0 : 0 < m
  m20 : m ≤ 20
  row0 : (rules.getD 0 []).length = k
  rows : Rows0 k m rules
  zero : nextOf rules 0 0 = 0
  clen : code.length = m
  rng : ∀ x ∈ code, 0 ≤ x ∧ x ≤ 9
theorem OkRules.out {rules : List (List Int)} {code : List Int} {k m : Nat} (g : OkRules rules code k m) {outs : List Int} (hl : outs.length = m) (hr : ∀ x ∈ outs, 0 ≤ x ∧ x ≤ 9) : OkOut ⟨(k : Int), rules, outs⟩ k m :=
  ⟨by show radix k = k; have := g.k2; unfold radix; rw [if_neg (by omega), if_pos (by omega)], g.k2, g.m0, g.m20, hl, g.rows, hr⟩
theorem OkOut.err {o : GOut} {k m : Nat} (g : OkOut o k m) : outErr o = 0 := by
  have hk := g.k_eq
  have h2 := g.k2
  have hl := g.rows.len
  have ho := g.outs
  have hm := g.m0
  have hm2 := g.m20
  unfold outErr
  rw [if_neg (by omega), if_neg (by omega), if_neg (by omega), if_neg (by omega)]
  refine (outRows_zero _ _ (by omega)).2 fun j hj hk2 => rowFault_zero.2 ⟨?_, fun s hs => ?_, g.rng _ (List.getElem_mem _)⟩
  · rw [hk, g.rows.row _ (List.getElem_mem _)]
  · rw [hl]; exact g.rows.ok _ (List.getElem_mem _) s hs
theorem OkOut.at {o : GOut} {k m : Nat} (g : OkOut o k m) {n : Int} (h0 : 0 ≤ n) (h1 : n ≤ 1099511627776) : atErr o n = 0 ∧ atOf o n = said o n := by
  have h : atErr o n = 0 := by unfold atErr; rw [if_neg (by rw [g.err]; simp), if_neg (by omega)]
  exact ⟨h, by unfold atOf; rw [if_pos h]⟩
end Go.Proofs.Ytfhncnhkeodngaa
namespace Go.Proofs.Ytfhncnhkeodngaa
open Go.RowKit

noncomputable def wordL (base : Int) (nums : List Int) : List Int := if wordErr base nums = 0 then wordRows (radix base) (longest (nums.map (ofL base))) (nums.map (ofL base)) else []
theorem wordErr_zero {base : Int} {nums : List Int} (h : wordErr base nums = 0) : manyErr base nums.length = 0 ∧ ∀ x ∈ nums, 0 ≤ x ∧ x ≤ 1099511627776 := by
  unfold wordErr at h
  split at h
  · omega
  · split at h
    · rename_i h1 h2
      exact ⟨by omega, fun x hx => by simpa [okNum] using List.all_eq_true.1 h2 x hx⟩
    · omega
theorem wordErr_ok {base : Int} {nums : List Int} (h1 : manyErr base nums.length = 0) (h2 : ∀ x ∈ nums, 0 ≤ x ∧ x ≤ 1099511627776) : wordErr base nums = 0 := by
  unfold wordErr
  rw [if_neg (by omega), if_pos]
  rw [List.all_eq_true]
  exact fun x hx => by simpa [okNum] using h2 x hx
theorem wordL_is (base : Int) (nums : List Int) : WordIs base nums (wordL base nums) := by
  refine ⟨fun h => by unfold wordL; rw [if_neg h], fun h => ?_⟩
  obtain ⟨h1, h2⟩ := wordErr_zero h
  refine ⟨nums.map (ofL base), ⟨by simp, fun i h3 h4 => ?_⟩, by unfold wordL; rw [if_pos h]⟩
  rw [List.getElem_map]
  exact ofL_is (ofErr_zero.2 ⟨(many_ok h1).1, h2 _ (List.getElem_mem h3)⟩)
theorem set_mid {α : Type} {A : List α} {k : Nat} {z y : α} {n : Nat} (h : A.length = n) : (A ++ List.replicate (k + 1) z).set n y = (A ++ [y]) ++ List.replicate k z := by
  subst h
  rw [List.set_append_right _ _ (Nat.le_refl _), Nat.sub_self, List.replicate_succ, List.set_cons_zero, List.append_assoc]
  rfl
section
variable {G : World → Prop} (hG : Lasting G)
include hG
set_option maxHeartbeats 8000000 in
set_option maxRecDepth 100000 in
theorem Word_snd (base : Int) (nums : List Int) : Snd Try.prog G 15 [tInt base, tInts nums] (.tup [tInts (wordL base nums), tErr (wordErr base nums)]) := by
  have c1 := Many_snd hG base nums.length
  refine snd_of_body (n := 94) (tm := [(0, .t (tInt base)), (1, .t (tInts nums))]) (rs := [.tmp 4, .tmp 5]) tt_ok Try.func15 rfl rfl rfl rfl rfl ?_
  have bad : ∀ e, wordErr base nums = e → e ≠ 0 → wordL base nums = [] := fun e h1 h2 => by unfold wordL; rw [if_neg (by omega)]
  by_cases h0 : manyErr base nums.length = 0
  · rw [h0] at c1
    obtain ⟨hr, ht0, ht5, _, _⟩ := many_ok h0
    have hr2 := radix_two hr
    have hofl : ∀ x, 0 ≤ x ∧ x ≤ 1099511627776 → IsOf base x (ofL base x) ∧ (ofL base x).length ≤ 58 := fun x hx => by
      have := ofL_is (ofErr_zero.2 ⟨hr, hx⟩)
      exact ⟨this, this.len hr hx.2⟩
    generalize manyOf base nums.length = mo at *
    have htb := Tab.cons c1 Tab.nil
    repeat' (first | (with_reducible first | refine SW_seq ?_ | refine SW_block ?_ | refine SThen_n ?_ | refine SThen_r ?_ | refine SThen_e ?_ | refine SIn_n ?_ | refine SIn_r ?_ | refine SIn_eq ?_ | refine SW_skip ?_ | refine SW_exit ?_ | refine SW_ret ?_ | refine SPost_r ?_) | ((with_reducible refine SIn_ne ?_ ?_); focus decide) | ((with_reducible refine SW_true ?_ ?_); focus exact rfl) | ((with_reducible refine SW_false ?_ ?_); focus exact rfl) | ((first | (with_reducible apply SW_run tt_ok hG htb) | ((with_reducible apply SW_draw rfl tt_ok hG htb); (focus kernel_rfl); (focus (simp only [List.range, List.range.loop, List.size_toArray, List.length_cons, List.length_nil, Nat.reduceAdd])))); focus ((repeat' (first | (with_reducible exact runX_nil) | (with_reducible exact runI_nil) | ((first | (with_reducible apply runX_cons) | (with_reducible apply runI_cons)); focus (simp (discharger := omega) only [go_sem, tErr, ↓reduceIte, reduceIte, Nat.reduceEqDiff, Nat.reduceLT, Nat.reduceLeDiff, Nat.reduceAdd, Nat.reduceSub, Nat.reduceMul, Nat.reduceDiv, Nat.reduceMod, Nat.reduceBEq, Int.reduceEq, Int.reduceLT, Int.reduceLE, Int.reduceNeg, Int.reduceToNat, reduceCtorEq]; with_reducible rfl)))); done)))
    clear htb c1
    refine SW_loop (fun mm s => ∃ (j : Nat) (rt : List T), mm = nums.length - j ∧ s = ⟨94, [(0, .t (tInt base)), (8, .t (tNat (longest ((nums.take j).map (ofL base))))), (9, .sref 0), (34, .t (tInts nums)), (35, .t (tInt nums.length)), (36, .t (tNat j))], [.row 24 1 true rt]⟩ ∧
        rt = ((nums.take j).map (ofL base)).map tInts ++ List.replicate (nums.length - j) (.list []) ∧ j ≤ nums.length ∧ (∀ x ∈ nums.take j, 0 ≤ x ∧ x ≤ 1099511627776)) (nums.length)
      ⟨_, Norm.headS (own := [(9, 24, 1, true)]) (keep := [0, 8, 9, 34, 35, 36]) (by simp (discharger := omega) only [go_sem, ↓reduceIte, reduceIte, Nat.reduceEqDiff, Nat.reduceLT, Nat.reduceLeDiff, Nat.reduceAdd, Nat.reduceSub, Nat.reduceMul, Nat.reduceDiv, Nat.reduceMod, Nat.reduceBEq, Int.reduceEq, Int.reduceLT, Int.reduceLE, Int.reduceNeg, Int.reduceToNat, reduceCtorEq]; with_reducible rfl) (by simp only [go_sem, ↓reduceIte, reduceIte, Nat.reduceEqDiff, Nat.reduceLT, Nat.reduceLeDiff, Nat.reduceAdd, Nat.reduceSub, Nat.reduceMul, Nat.reduceDiv, Nat.reduceMod, Nat.reduceBEq, Int.reduceEq, Int.reduceLT, Int.reduceLE, Int.reduceNeg, Int.reduceToNat, reduceCtorEq]; with_reducible rfl) (by simp only [go_sem, ↓reduceIte, reduceIte, Nat.reduceEqDiff, Nat.reduceLT, Nat.reduceLeDiff, Nat.reduceAdd, Nat.reduceSub, Nat.reduceMul, Nat.reduceDiv, Nat.reduceMod, Nat.reduceBEq, Int.reduceEq, Int.reduceLT, Int.reduceLE, Int.reduceNeg, Int.reduceToNat, reduceCtorEq]; with_reducible rfl) (by simp only [go_sem, ↓reduceIte, reduceIte, Nat.reduceEqDiff, Nat.reduceLT, Nat.reduceLeDiff, Nat.reduceAdd, Nat.reduceSub, Nat.reduceMul, Nat.reduceDiv, Nat.reduceMod, Nat.reduceBEq, Int.reduceEq, Int.reduceLT, Int.reduceLE, Int.reduceNeg, Int.reduceToNat, reduceCtorEq]; with_reducible rfl) (by simp only [go_sem, ↓reduceIte, reduceIte, Nat.reduceEqDiff, Nat.reduceLT, Nat.reduceLeDiff, Nat.reduceAdd, Nat.reduceSub, Nat.reduceMul, Nat.reduceDiv, Nat.reduceMod, Nat.reduceBEq, Int.reduceEq, Int.reduceLT, Int.reduceLE, Int.reduceNeg, Int.reduceToNat, reduceCtorEq]; with_reducible rfl), 0, _, rfl, rfl, by simp, Nat.zero_le _, fun x hx => by simp at hx⟩ ?_
    rintro mm s ⟨j, rt, rfl, rfl, hrt, hj, hA⟩
    have hL58 : longest ((nums.take j).map (ofL base)) ≤ 58 := by
      rcases longest_mem ((nums.take j).map (ofL base)) with h | ⟨d, hd, h⟩
      · omega
      · obtain ⟨x, hx, rfl⟩ := List.mem_map.1 hd
        rw [← h]; exact (hofl x (hA x hx)).2
    have hrl : rt.length = nums.length := by rw [hrt]; simp; omega
    by_cases hlt : j < nums.length
    · obtain ⟨x, hx⟩ : ∃ x, nums[j]! = x := ⟨_, rfl⟩
      have hat := bang_at hx hlt
      have cO := Of_snd (G := G) base x
      by_cases hx0 : 0 ≤ x ∧ x ≤ 1099511627776
      · rw [ofErr_zero.2 ⟨hr, hx0⟩] at cO
        have htk := take_next hx hlt
        obtain ⟨_, hd58⟩ := hofl x hx0
        have hlg : longest ((nums.take (j + 1)).map (ofL base)) = max (longest ((nums.take j).map (ofL base))) (ofL base x).length := by rw [htk, List.map_append]; exact longest_snoc _ _
        have hrt2 : rt.set j (.list ((ofL base x).map tInt)) = ((nums.take (j + 1)).map (ofL base)).map tInts ++ List.replicate (nums.length - (j + 1)) (.list []) := by
          obtain ⟨k, hk⟩ : ∃ k, nums.length - j = k + 1 := ⟨nums.length - j - 1, by omega⟩
          rw [hrt, hk, set_mid (by simp; omega), show nums.length - (j + 1) = k by omega, htk]
          simp [tInts]
        generalize hdE : ofL base x = d at *
        generalize hLE : longest ((nums.take j).map (ofL base)) = L at *
        have hmx : (if (d.length : Int) > (L : Int) then (d.length : Int) else (L : Int)) = ((max L d.length : Nat) : Int) := by split <;> omega
        have htb := Tab.cons cO Tab.nil
        repeat' (first | (with_reducible first | refine SW_seq ?_ | refine SW_block ?_ | refine SThen_n ?_ | refine SThen_r ?_ | refine SThen_e ?_ | refine SIn_n ?_ | refine SIn_r ?_ | refine SIn_eq ?_ | refine SW_skip ?_ | refine SW_exit ?_ | refine SW_ret ?_ | refine SPost_r ?_) | ((with_reducible refine SIn_ne ?_ ?_); focus decide) | ((with_reducible refine SW_true ?_ ?_); focus exact rfl) | ((with_reducible refine SW_false ?_ ?_); focus exact rfl) | ((first | (with_reducible apply SW_run tt_ok hG htb) | ((with_reducible apply SW_draw rfl tt_ok hG htb); (focus kernel_rfl); (focus (simp only [List.range, List.range.loop, List.size_toArray, List.length_cons, List.length_nil, Nat.reduceAdd])))); focus ((repeat' (first | (with_reducible exact runX_nil) | (with_reducible exact runI_nil) | ((first | (with_reducible apply runX_cons) | (with_reducible apply runI_cons)); focus (simp (discharger := omega) only [go_sem, tErr, hx, hmx, ↓reduceIte, reduceIte, Nat.reduceEqDiff, Nat.reduceLT, Nat.reduceLeDiff, Nat.reduceAdd, Nat.reduceSub, Nat.reduceMul, Nat.reduceDiv, Nat.reduceMod, Nat.reduceBEq, Int.reduceEq, Int.reduceLT, Int.reduceLE, Int.reduceNeg, Int.reduceToNat, reduceCtorEq]; with_reducible rfl)))); done)))
        exact ⟨nums.length - (j + 1), _, by omega, Norm.headS (own := [(9, 24, 1, true)]) (keep := [0, 8, 9, 34, 35, 36]) (by simp (discharger := omega) only [go_sem, ↓reduceIte, reduceIte, Nat.reduceEqDiff, Nat.reduceLT, Nat.reduceLeDiff, Nat.reduceAdd, Nat.reduceSub, Nat.reduceMul, Nat.reduceDiv, Nat.reduceMod, Nat.reduceBEq, Int.reduceEq, Int.reduceLT, Int.reduceLE, Int.reduceNeg, Int.reduceToNat, reduceCtorEq]; with_reducible rfl) (by simp only [go_sem, ↓reduceIte, reduceIte, Nat.reduceEqDiff, Nat.reduceLT, Nat.reduceLeDiff, Nat.reduceAdd, Nat.reduceSub, Nat.reduceMul, Nat.reduceDiv, Nat.reduceMod, Nat.reduceBEq, Int.reduceEq, Int.reduceLT, Int.reduceLE, Int.reduceNeg, Int.reduceToNat, reduceCtorEq]; with_reducible rfl) (by simp only [go_sem, ↓reduceIte, reduceIte, Nat.reduceEqDiff, Nat.reduceLT, Nat.reduceLeDiff, Nat.reduceAdd, Nat.reduceSub, Nat.reduceMul, Nat.reduceDiv, Nat.reduceMod, Nat.reduceBEq, Int.reduceEq, Int.reduceLT, Int.reduceLE, Int.reduceNeg, Int.reduceToNat, reduceCtorEq]; with_reducible rfl) (by simp only [go_sem, ↓reduceIte, reduceIte, Nat.reduceEqDiff, Nat.reduceLT, Nat.reduceLeDiff, Nat.reduceAdd, Nat.reduceSub, Nat.reduceMul, Nat.reduceDiv, Nat.reduceMod, Nat.reduceBEq, Int.reduceEq, Int.reduceLT, Int.reduceLE, Int.reduceNeg, Int.reduceToNat, reduceCtorEq]; with_reducible rfl) (by simp only [go_sem, ↓reduceIte, reduceIte, Nat.reduceEqDiff, Nat.reduceLT, Nat.reduceLeDiff, Nat.reduceAdd, Nat.reduceSub, Nat.reduceMul, Nat.reduceDiv, Nat.reduceMod, Nat.reduceBEq, Int.reduceEq, Int.reduceLT, Int.reduceLE, Int.reduceNeg, Int.reduceToNat, reduceCtorEq]; with_reducible rfl), j + 1, _, rfl, by rw [hlg]; rfl, hrt2, by omega, fun y hy => by
          rw [htk] at hy
          rcases List.mem_append.1 hy with h | h
          · exact hA y h
          · simp at h; subst h; exact hx0⟩
      · have e : ofErr base x = 1 := by unfold ofErr; rw [if_pos (by omega)]
        rw [e] at cO
        have he : wordErr base nums = 1 := by
          unfold wordErr
          rw [if_neg (by omega), if_neg]
          intro h
          have := List.all_eq_true.1 h x (by rw [← hat]; exact List.getElem_mem hlt)
          exact hx0 (by simpa [okNum] using this)
        rw [bad 1 he (by decide), he]
        generalize ofL base x = d at *
        generalize longest ((nums.take j).map (ofL base)) = L at *
        have htb := Tab.cons cO Tab.nil
        repeat' (first | (with_reducible first | refine SW_seq ?_ | refine SW_block ?_ | refine SThen_n ?_ | refine SThen_r ?_ | refine SThen_e ?_ | refine SIn_n ?_ | refine SIn_r ?_ | refine SIn_eq ?_ | refine SW_skip ?_ | refine SW_exit ?_ | refine SW_ret ?_ | refine SPost_r ?_) | ((with_reducible refine SIn_ne ?_ ?_); focus decide) | ((with_reducible refine SW_true ?_ ?_); focus exact rfl) | ((with_reducible refine SW_false ?_ ?_); focus exact rfl) | ((first | (with_reducible apply SW_run tt_ok hG htb) | ((with_reducible apply SW_draw rfl tt_ok hG htb); (focus kernel_rfl); (focus (simp only [List.range, List.range.loop, List.size_toArray, List.length_cons, List.length_nil, Nat.reduceAdd])))); focus ((repeat' (first | (with_reducible exact runX_nil) | (with_reducible exact runI_nil) | ((first | (with_reducible apply runX_cons) | (with_reducible apply runI_cons)); focus (simp (discharger := omega) only [go_sem, tErr, hx, ↓reduceIte, reduceIte, Nat.reduceEqDiff, Nat.reduceLT, Nat.reduceLeDiff, Nat.reduceAdd, Nat.reduceSub, Nat.reduceMul, Nat.reduceDiv, Nat.reduceMod, Nat.reduceBEq, Int.reduceEq, Int.reduceLT, Int.reduceLE, Int.reduceNeg, Int.reduceToNat, reduceCtorEq]; with_reducible rfl)))); done)))
        exact (by simp (discharger := omega) only [go_sem, tErr, ↓reduceIte, reduceIte, Nat.reduceEqDiff, Nat.reduceLT, Nat.reduceLeDiff, Nat.reduceAdd, Nat.reduceSub, Nat.reduceMul, Nat.reduceDiv, Nat.reduceMod, Nat.reduceBEq, Int.reduceEq, Int.reduceLT, Int.reduceLE, Int.reduceNeg, Int.reduceToNat, reduceCtorEq])
    · obtain rfl : j = nums.length := by omega
      rw [List.take_length, Nat.sub_self, List.replicate_zero, List.append_nil] at hrt
      rw [List.take_length] at hL58 hA ⊢
      subst hrt
      have he : wordErr base nums = 0 := by
        unfold wordErr
        rw [if_neg (by omega), if_pos]
        rw [List.all_eq_true]
        exact fun x hx => by simpa [okNum] using hA x hx
      have hw : wordL base nums = wordRows (radix base) (longest (nums.map (ofL base))) (nums.map (ofL base)) := by unfold wordL; rw [if_pos he]
      rw [he, hw]
      have hrok : ∀ d ∈ nums.map (ofL base), okDigits base d := fun d hd => by
        obtain ⟨x, hx, rfl⟩ := List.mem_map.1 hd
        exact (hofl x (hA x hx)).1.ok
      have hge := @longest_ge (nums.map (ofL base))
      have hrl2 : (nums.map (ofL base)).length = nums.length := by simp
      generalize hLE : longest (nums.map (ofL base)) = L at *
      generalize nums.map (ofL base) = rows at *
      have cR := Radix_snd hG base
      have htb := Tab.cons cR Tab.nil
      repeat' (first | (with_reducible first | refine SW_seq ?_ | refine SW_block ?_ | refine SThen_n ?_ | refine SThen_r ?_ | refine SThen_e ?_ | refine SIn_n ?_ | refine SIn_r ?_ | refine SIn_eq ?_ | refine SW_skip ?_ | refine SW_exit ?_ | refine SW_ret ?_ | refine SPost_r ?_) | ((with_reducible refine SIn_ne ?_ ?_); focus decide) | ((with_reducible refine SW_true ?_ ?_); focus exact rfl) | ((with_reducible refine SW_false ?_ ?_); focus exact rfl) | ((first | (with_reducible apply SW_run tt_ok hG htb) | ((with_reducible apply SW_draw rfl tt_ok hG htb); (focus kernel_rfl); (focus (simp only [List.range, List.range.loop, List.size_toArray, List.length_cons, List.length_nil, Nat.reduceAdd])))); focus ((repeat' (first | (with_reducible exact runX_nil) | (with_reducible exact runI_nil) | ((first | (with_reducible apply runX_cons) | (with_reducible apply runI_cons)); focus (simp (discharger := omega) only [go_sem, ↓reduceIte, reduceIte, Nat.reduceEqDiff, Nat.reduceLT, Nat.reduceLeDiff, Nat.reduceAdd, Nat.reduceSub, Nat.reduceMul, Nat.reduceDiv, Nat.reduceMod, Nat.reduceBEq, Int.reduceEq, Int.reduceLT, Int.reduceLE, Int.reduceNeg, Int.reduceToNat, reduceCtorEq]; with_reducible rfl)))); done)))
      refine SW_norm ((Norm.frzRow 0 rfl).trans (Norm.datum 9 0 rfl rfl)) ?_
      refine SW_loop (fun mm s => ∃ (a : Nat) (ot : List T), mm = L - a ∧ s = ⟨94, [(0, .t (tInt base)), (8, .t (tNat L)), (9, .t (tIntss rows)), (14, .sref 0), (59, .t (tNat L)), (60, .t (tNat a))], [.row 3 1 false ot]⟩ ∧
          ot = ((wordRows (radix base) L rows).take a).map tInt ∧ a ≤ L) L
        ⟨_, Norm.headS (own := [(14, 3, 1, false)]) (keep := [0, 8, 9, 14, 59, 60]) (by simp (discharger := omega) only [go_sem, ↓reduceIte, reduceIte, Nat.reduceEqDiff, Nat.reduceLT, Nat.reduceLeDiff, Nat.reduceAdd, Nat.reduceSub, Nat.reduceMul, Nat.reduceDiv, Nat.reduceMod, Nat.reduceBEq, Int.reduceEq, Int.reduceLT, Int.reduceLE, Int.reduceNeg, Int.reduceToNat, reduceCtorEq]; with_reducible rfl) (by simp only [go_sem, ↓reduceIte, reduceIte, Nat.reduceEqDiff, Nat.reduceLT, Nat.reduceLeDiff, Nat.reduceAdd, Nat.reduceSub, Nat.reduceMul, Nat.reduceDiv, Nat.reduceMod, Nat.reduceBEq, Int.reduceEq, Int.reduceLT, Int.reduceLE, Int.reduceNeg, Int.reduceToNat, reduceCtorEq]; with_reducible rfl) (by simp only [go_sem, ↓reduceIte, reduceIte, Nat.reduceEqDiff, Nat.reduceLT, Nat.reduceLeDiff, Nat.reduceAdd, Nat.reduceSub, Nat.reduceMul, Nat.reduceDiv, Nat.reduceMod, Nat.reduceBEq, Int.reduceEq, Int.reduceLT, Int.reduceLE, Int.reduceNeg, Int.reduceToNat, reduceCtorEq]; with_reducible rfl) (by simp only [go_sem, ↓reduceIte, reduceIte, Nat.reduceEqDiff, Nat.reduceLT, Nat.reduceLeDiff, Nat.reduceAdd, Nat.reduceSub, Nat.reduceMul, Nat.reduceDiv, Nat.reduceMod, Nat.reduceBEq, Int.reduceEq, Int.reduceLT, Int.reduceLE, Int.reduceNeg, Int.reduceToNat, reduceCtorEq]; with_reducible rfl) (by simp only [go_sem, ↓reduceIte, reduceIte, Nat.reduceEqDiff, Nat.reduceLT, Nat.reduceLeDiff, Nat.reduceAdd, Nat.reduceSub, Nat.reduceMul, Nat.reduceDiv, Nat.reduceMod, Nat.reduceBEq, Int.reduceEq, Int.reduceLT, Int.reduceLE, Int.reduceNeg, Int.reduceToNat, reduceCtorEq]; with_reducible rfl), 0, _, rfl, rfl, by simp, Nat.zero_le _⟩ ?_
      rintro mm s ⟨a, ot, rfl, rfl, hot, ha⟩
      have hwl : (wordRows (radix base) L rows).length = L := by simp [wordRows]
      have hotl : ot.length = a := by rw [hot]; simp; omega
      by_cases hlt2 : a < L
      · repeat' (first | (with_reducible first | refine SW_seq ?_ | refine SW_block ?_ | refine SThen_n ?_ | refine SThen_r ?_ | refine SThen_e ?_ | refine SIn_n ?_ | refine SIn_r ?_ | refine SIn_eq ?_ | refine SW_skip ?_ | refine SW_exit ?_ | refine SW_ret ?_ | refine SPost_r ?_) | ((with_reducible refine SIn_ne ?_ ?_); focus decide) | ((with_reducible refine SW_true ?_ ?_); focus exact rfl) | ((with_reducible refine SW_false ?_ ?_); focus exact rfl) | ((first | (with_reducible apply SW_run tt_ok hG htb) | ((with_reducible apply SW_draw rfl tt_ok hG htb); (focus kernel_rfl); (focus (simp only [List.range, List.range.loop, List.size_toArray, List.length_cons, List.length_nil, Nat.reduceAdd])))); focus ((repeat' (first | (with_reducible exact runX_nil) | (with_reducible exact runI_nil) | ((first | (with_reducible apply runX_cons) | (with_reducible apply runI_cons)); focus (simp (discharger := omega) only [go_sem, ↓reduceIte, reduceIte, Nat.reduceEqDiff, Nat.reduceLT, Nat.reduceLeDiff, Nat.reduceAdd, Nat.reduceSub, Nat.reduceMul, Nat.reduceDiv, Nat.reduceMod, Nat.reduceBEq, Int.reduceEq, Int.reduceLT, Int.reduceLE, Int.reduceNeg, Int.reduceToNat, reduceCtorEq]; with_reducible rfl)))); done)))
        refine SW_loop (fun mm s => ∃ (i : Nat) (l : Int), mm = rows.length - i ∧ s = ⟨94, [(0, .t (tInt base)), (8, .t (tNat L)), (9, .t (tIntss rows)), (14, .sref 0), (15, .t (tNat a)), (16, .t (tInt l)), (59, .t (tNat L)), (60, .t (tNat a)), (63, .t (tIntss rows)), (64, .t (tInt rows.length)), (65, .t (tNat i))], [.row 3 1 false ot]⟩ ∧
            l = pack (radix base) ((column L rows a).take i) ∧ i ≤ rows.length) rows.length
          ⟨_, Norm.headS (own := [(14, 3, 1, false)]) (keep := [0, 8, 9, 14, 15, 16, 59, 60, 63, 64, 65]) (by simp (discharger := omega) only [go_sem, ↓reduceIte, reduceIte, Nat.reduceEqDiff, Nat.reduceLT, Nat.reduceLeDiff, Nat.reduceAdd, Nat.reduceSub, Nat.reduceMul, Nat.reduceDiv, Nat.reduceMod, Nat.reduceBEq, Int.reduceEq, Int.reduceLT, Int.reduceLE, Int.reduceNeg, Int.reduceToNat, reduceCtorEq]; with_reducible rfl) (by simp only [go_sem, ↓reduceIte, reduceIte, Nat.reduceEqDiff, Nat.reduceLT, Nat.reduceLeDiff, Nat.reduceAdd, Nat.reduceSub, Nat.reduceMul, Nat.reduceDiv, Nat.reduceMod, Nat.reduceBEq, Int.reduceEq, Int.reduceLT, Int.reduceLE, Int.reduceNeg, Int.reduceToNat, reduceCtorEq]; with_reducible rfl) (by simp only [go_sem, ↓reduceIte, reduceIte, Nat.reduceEqDiff, Nat.reduceLT, Nat.reduceLeDiff, Nat.reduceAdd, Nat.reduceSub, Nat.reduceMul, Nat.reduceDiv, Nat.reduceMod, Nat.reduceBEq, Int.reduceEq, Int.reduceLT, Int.reduceLE, Int.reduceNeg, Int.reduceToNat, reduceCtorEq]; with_reducible rfl) (by simp only [go_sem, ↓reduceIte, reduceIte, Nat.reduceEqDiff, Nat.reduceLT, Nat.reduceLeDiff, Nat.reduceAdd, Nat.reduceSub, Nat.reduceMul, Nat.reduceDiv, Nat.reduceMod, Nat.reduceBEq, Int.reduceEq, Int.reduceLT, Int.reduceLE, Int.reduceNeg, Int.reduceToNat, reduceCtorEq]; with_reducible rfl) (by simp only [go_sem, ↓reduceIte, reduceIte, Nat.reduceEqDiff, Nat.reduceLT, Nat.reduceLeDiff, Nat.reduceAdd, Nat.reduceSub, Nat.reduceMul, Nat.reduceDiv, Nat.reduceMod, Nat.reduceBEq, Int.reduceEq, Int.reduceLT, Int.reduceLE, Int.reduceNeg, Int.reduceToNat, reduceCtorEq]; with_reducible rfl), 0, _, rfl, rfl, by simp [pack], Nat.zero_le _⟩ ?_
        rintro mm s ⟨i, l, rfl, rfl, hl, hi⟩
        have hcl : (column L rows a).length = rows.length := by simp [column]
        have hcok := column_ok hr (long := L) hrok a
        have hlb := pack_bd hr2.1 ((column L rows a).take i) fun x hx => hcok x (List.mem_of_mem_take hx)
        have hp5 := (powW_bd hr2.1 hr2.2 (j := ((column L rows a).take i).length) (by simp; omega)).2
        rw [← hl] at hlb
        have hlb2 : 0 ≤ l ∧ l < 7776 := by omega
        clear hlb hp5
        by_cases hlt3 : i < rows.length
        · obtain ⟨d, hd⟩ : ∃ d, rows[i]! = d := ⟨_, rfl⟩
          have hdm := bang_mem hd hlt3
          have hdL := hge hdm
          have hdok := hrok d hdm
          have hpa := pad_at L d a hdL hlt2
          obtain ⟨x, hx⟩ : ∃ x, (pad L d).getD a 0 = x := ⟨_, rfl⟩
          rw [hx] at hpa
          have hcx : (column L rows a)[i]! = x := by
            rw [getElem!_pos _ i (by omega)]
            simp only [column, List.getElem_map]
            rw [bang_at hd hlt3, hx]
          have hxb := hcok x (bang_mem hcx (by omega))
          have hnx : pack (radix base) ((column L rows a).take (i + 1)) = l * radix base + x := by rw [take_next hcx (by omega), pack_snoc, ← hl]
          have hlm : 0 ≤ l * radix base ∧ l * radix base ≤ 46656 := by
            have m1 : l * radix base ≤ l * 6 := Int.mul_le_mul_of_nonneg_left hr2.2 (by omega)
            have m2 : 0 ≤ l * radix base := Int.mul_nonneg (by omega) (by omega)
            omega
          repeat' (first | (with_reducible first | refine SW_seq ?_ | refine SW_block ?_ | refine SThen_n ?_ | refine SThen_r ?_ | refine SThen_e ?_ | refine SIn_n ?_ | refine SIn_r ?_ | refine SIn_eq ?_ | refine SW_skip ?_ | refine SW_exit ?_ | refine SW_ret ?_ | refine SPost_r ?_) | ((with_reducible refine SIn_ne ?_ ?_); focus decide) | ((with_reducible refine SW_true ?_ ?_); focus exact rfl) | ((with_reducible refine SW_false ?_ ?_); focus exact rfl) | ((first | (with_reducible apply SW_run tt_ok hG htb) | ((with_reducible apply SW_draw rfl tt_ok hG htb); (focus kernel_rfl); (focus (simp only [List.range, List.range.loop, List.size_toArray, List.length_cons, List.length_nil, Nat.reduceAdd])))); focus ((repeat' (first | (with_reducible exact runX_nil) | (with_reducible exact runI_nil) | ((first | (with_reducible apply runX_cons) | (with_reducible apply runI_cons)); focus (simp (discharger := omega) only [go_sem, hd, ↓reduceIte, reduceIte, Nat.reduceEqDiff, Nat.reduceLT, Nat.reduceLeDiff, Nat.reduceAdd, Nat.reduceSub, Nat.reduceMul, Nat.reduceDiv, Nat.reduceMod, Nat.reduceBEq, Int.reduceEq, Int.reduceLT, Int.reduceLE, Int.reduceNeg, Int.reduceToNat, reduceCtorEq]; with_reducible rfl)))); done)))
          refine SW_meetG ⟨94, [(0, .t (tInt base)), (8, .t (tNat L)), (9, .t (tIntss rows)), (14, .sref 0), (15, .t (tNat a)), (16, .t (tInt l)), (19, .t (tInt x)), (59, .t (tNat L)), (60, .t (tNat a)), (63, .t (tIntss rows)), (64, .t (tInt rows.length)), (65, .t (tNat i))], [.row 3 1 false ot]⟩ Weak.sw (SW_if rfl (fun hp => ?_) (fun hp => ?_)) ?_
          · rw [dif_pos (by omega)] at hpa
            have hxk : d[a + d.length - L]! = x := by rw [getElem!_pos d _ (by omega), hpa]
            have hxe : (a : Int) - ((L : Int) - (d.length : Int)) = ((a + d.length - L : Nat) : Int) := by omega
            have hxe2 : a + d.length - L < d.length := by omega
            clear hpa
            generalize a + d.length - L = kk at *
            repeat' (first | (with_reducible first | refine SW_seq ?_ | refine SW_block ?_ | refine SThen_n ?_ | refine SThen_r ?_ | refine SThen_e ?_ | refine SIn_n ?_ | refine SIn_r ?_ | refine SIn_eq ?_ | refine SW_skip ?_ | refine SW_exit ?_ | refine SW_ret ?_ | refine SPost_r ?_) | ((with_reducible refine SIn_ne ?_ ?_); focus decide) | ((with_reducible refine SW_true ?_ ?_); focus exact rfl) | ((with_reducible refine SW_false ?_ ?_); focus exact rfl) | ((first | (with_reducible apply SW_run tt_ok hG htb) | ((with_reducible apply SW_draw rfl tt_ok hG htb); (focus kernel_rfl); (focus (simp only [List.range, List.range.loop, List.size_toArray, List.length_cons, List.length_nil, Nat.reduceAdd])))); focus ((repeat' (first | (with_reducible exact runX_nil) | (with_reducible exact runI_nil) | ((first | (with_reducible apply runX_cons) | (with_reducible apply runI_cons)); focus (simp (discharger := omega) only [go_sem, hd, hxe, hxk, ↓reduceIte, reduceIte, Nat.reduceEqDiff, Nat.reduceLT, Nat.reduceLeDiff, Nat.reduceAdd, Nat.reduceSub, Nat.reduceMul, Nat.reduceDiv, Nat.reduceMod, Nat.reduceBEq, Int.reduceEq, Int.reduceLT, Int.reduceLE, Int.reduceNeg, Int.reduceToNat, reduceCtorEq]; with_reducible rfl)))); done)))
            exact Meet.h ⟨_, Norm.headS (own := [(14, 3, 1, false)]) (keep := [0, 8, 9, 14, 15, 16, 19, 59, 60, 63, 64, 65]) (by simp (discharger := omega) only [go_sem, ↓reduceIte, reduceIte, Nat.reduceEqDiff, Nat.reduceLT, Nat.reduceLeDiff, Nat.reduceAdd, Nat.reduceSub, Nat.reduceMul, Nat.reduceDiv, Nat.reduceMod, Nat.reduceBEq, Int.reduceEq, Int.reduceLT, Int.reduceLE, Int.reduceNeg, Int.reduceToNat, reduceCtorEq]; with_reducible rfl) (by simp only [go_sem, ↓reduceIte, reduceIte, Nat.reduceEqDiff, Nat.reduceLT, Nat.reduceLeDiff, Nat.reduceAdd, Nat.reduceSub, Nat.reduceMul, Nat.reduceDiv, Nat.reduceMod, Nat.reduceBEq, Int.reduceEq, Int.reduceLT, Int.reduceLE, Int.reduceNeg, Int.reduceToNat, reduceCtorEq]; with_reducible rfl) (by simp only [go_sem, ↓reduceIte, reduceIte, Nat.reduceEqDiff, Nat.reduceLT, Nat.reduceLeDiff, Nat.reduceAdd, Nat.reduceSub, Nat.reduceMul, Nat.reduceDiv, Nat.reduceMod, Nat.reduceBEq, Int.reduceEq, Int.reduceLT, Int.reduceLE, Int.reduceNeg, Int.reduceToNat, reduceCtorEq]; with_reducible rfl) (by simp only [go_sem, ↓reduceIte, reduceIte, Nat.reduceEqDiff, Nat.reduceLT, Nat.reduceLeDiff, Nat.reduceAdd, Nat.reduceSub, Nat.reduceMul, Nat.reduceDiv, Nat.reduceMod, Nat.reduceBEq, Int.reduceEq, Int.reduceLT, Int.reduceLE, Int.reduceNeg, Int.reduceToNat, reduceCtorEq]; with_reducible rfl) (by simp only [go_sem, ↓reduceIte, reduceIte, Nat.reduceEqDiff, Nat.reduceLT, Nat.reduceLeDiff, Nat.reduceAdd, Nat.reduceSub, Nat.reduceMul, Nat.reduceDiv, Nat.reduceMod, Nat.reduceBEq, Int.reduceEq, Int.reduceLT, Int.reduceLE, Int.reduceNeg, Int.reduceToNat, reduceCtorEq]; with_reducible rfl), rfl⟩
          · rw [dif_neg (by omega)] at hpa
            subst hpa
            repeat' (first | (with_reducible first | refine SW_seq ?_ | refine SW_block ?_ | refine SThen_n ?_ | refine SThen_r ?_ | refine SThen_e ?_ | refine SIn_n ?_ | refine SIn_r ?_ | refine SIn_eq ?_ | refine SW_skip ?_ | refine SW_exit ?_ | refine SW_ret ?_ | refine SPost_r ?_) | ((with_reducible refine SIn_ne ?_ ?_); focus decide) | ((with_reducible refine SW_true ?_ ?_); focus exact rfl) | ((with_reducible refine SW_false ?_ ?_); focus exact rfl) | ((first | (with_reducible apply SW_run tt_ok hG htb) | ((with_reducible apply SW_draw rfl tt_ok hG htb); (focus kernel_rfl); (focus (simp only [List.range, List.range.loop, List.size_toArray, List.length_cons, List.length_nil, Nat.reduceAdd])))); focus ((repeat' (first | (with_reducible exact runX_nil) | (with_reducible exact runI_nil) | ((first | (with_reducible apply runX_cons) | (with_reducible apply runI_cons)); focus (simp (discharger := omega) only [go_sem, hd, ↓reduceIte, reduceIte, Nat.reduceEqDiff, Nat.reduceLT, Nat.reduceLeDiff, Nat.reduceAdd, Nat.reduceSub, Nat.reduceMul, Nat.reduceDiv, Nat.reduceMod, Nat.reduceBEq, Int.reduceEq, Int.reduceLT, Int.reduceLE, Int.reduceNeg, Int.reduceToNat, reduceCtorEq]; with_reducible rfl)))); done)))
            exact Meet.h ⟨_, Norm.headS (own := [(14, 3, 1, false)]) (keep := [0, 8, 9, 14, 15, 16, 19, 59, 60, 63, 64, 65]) (by simp (discharger := omega) only [go_sem, ↓reduceIte, reduceIte, Nat.reduceEqDiff, Nat.reduceLT, Nat.reduceLeDiff, Nat.reduceAdd, Nat.reduceSub, Nat.reduceMul, Nat.reduceDiv, Nat.reduceMod, Nat.reduceBEq, Int.reduceEq, Int.reduceLT, Int.reduceLE, Int.reduceNeg, Int.reduceToNat, reduceCtorEq]; with_reducible rfl) (by simp only [go_sem, ↓reduceIte, reduceIte, Nat.reduceEqDiff, Nat.reduceLT, Nat.reduceLeDiff, Nat.reduceAdd, Nat.reduceSub, Nat.reduceMul, Nat.reduceDiv, Nat.reduceMod, Nat.reduceBEq, Int.reduceEq, Int.reduceLT, Int.reduceLE, Int.reduceNeg, Int.reduceToNat, reduceCtorEq]; with_reducible rfl) (by simp only [go_sem, ↓reduceIte, reduceIte, Nat.reduceEqDiff, Nat.reduceLT, Nat.reduceLeDiff, Nat.reduceAdd, Nat.reduceSub, Nat.reduceMul, Nat.reduceDiv, Nat.reduceMod, Nat.reduceBEq, Int.reduceEq, Int.reduceLT, Int.reduceLE, Int.reduceNeg, Int.reduceToNat, reduceCtorEq]; with_reducible rfl) (by simp only [go_sem, ↓reduceIte, reduceIte, Nat.reduceEqDiff, Nat.reduceLT, Nat.reduceLeDiff, Nat.reduceAdd, Nat.reduceSub, Nat.reduceMul, Nat.reduceDiv, Nat.reduceMod, Nat.reduceBEq, Int.reduceEq, Int.reduceLT, Int.reduceLE, Int.reduceNeg, Int.reduceToNat, reduceCtorEq]; with_reducible rfl) (by simp only [go_sem, ↓reduceIte, reduceIte, Nat.reduceEqDiff, Nat.reduceLT, Nat.reduceLeDiff, Nat.reduceAdd, Nat.reduceSub, Nat.reduceMul, Nat.reduceDiv, Nat.reduceMod, Nat.reduceBEq, Int.reduceEq, Int.reduceLT, Int.reduceLE, Int.reduceNeg, Int.reduceToNat, reduceCtorEq]; with_reducible rfl), rfl⟩
          · repeat' (first | (with_reducible first | refine SW_seq ?_ | refine SW_block ?_ | refine SThen_n ?_ | refine SThen_r ?_ | refine SThen_e ?_ | refine SIn_n ?_ | refine SIn_r ?_ | refine SIn_eq ?_ | refine SW_skip ?_ | refine SW_exit ?_ | refine SW_ret ?_ | refine SPost_r ?_) | ((with_reducible refine SIn_ne ?_ ?_); focus decide) | ((with_reducible refine SW_true ?_ ?_); focus exact rfl) | ((with_reducible refine SW_false ?_ ?_); focus exact rfl) | ((first | (with_reducible apply SW_run tt_ok hG htb) | ((with_reducible apply SW_draw rfl tt_ok hG htb); (focus kernel_rfl); (focus (simp only [List.range, List.range.loop, List.size_toArray, List.length_cons, List.length_nil, Nat.reduceAdd])))); focus ((repeat' (first | (with_reducible exact runX_nil) | (with_reducible exact runI_nil) | ((first | (with_reducible apply runX_cons) | (with_reducible apply runI_cons)); focus (simp (discharger := omega) only [go_sem, ↓reduceIte, reduceIte, Nat.reduceEqDiff, Nat.reduceLT, Nat.reduceLeDiff, Nat.reduceAdd, Nat.reduceSub, Nat.reduceMul, Nat.reduceDiv, Nat.reduceMod, Nat.reduceBEq, Int.reduceEq, Int.reduceLT, Int.reduceLE, Int.reduceNeg, Int.reduceToNat, reduceCtorEq]; with_reducible rfl)))); done)))
            exact ⟨rows.length - (i + 1), _, by omega, Norm.headS (own := [(14, 3, 1, false)]) (keep := [0, 8, 9, 14, 15, 16, 59, 60, 63, 64, 65]) (by simp (discharger := omega) only [go_sem, ↓reduceIte, reduceIte, Nat.reduceEqDiff, Nat.reduceLT, Nat.reduceLeDiff, Nat.reduceAdd, Nat.reduceSub, Nat.reduceMul, Nat.reduceDiv, Nat.reduceMod, Nat.reduceBEq, Int.reduceEq, Int.reduceLT, Int.reduceLE, Int.reduceNeg, Int.reduceToNat, reduceCtorEq]; with_reducible rfl) (by simp only [go_sem, ↓reduceIte, reduceIte, Nat.reduceEqDiff, Nat.reduceLT, Nat.reduceLeDiff, Nat.reduceAdd, Nat.reduceSub, Nat.reduceMul, Nat.reduceDiv, Nat.reduceMod, Nat.reduceBEq, Int.reduceEq, Int.reduceLT, Int.reduceLE, Int.reduceNeg, Int.reduceToNat, reduceCtorEq]; with_reducible rfl) (by simp only [go_sem, ↓reduceIte, reduceIte, Nat.reduceEqDiff, Nat.reduceLT, Nat.reduceLeDiff, Nat.reduceAdd, Nat.reduceSub, Nat.reduceMul, Nat.reduceDiv, Nat.reduceMod, Nat.reduceBEq, Int.reduceEq, Int.reduceLT, Int.reduceLE, Int.reduceNeg, Int.reduceToNat, reduceCtorEq]; with_reducible rfl) (by simp only [go_sem, ↓reduceIte, reduceIte, Nat.reduceEqDiff, Nat.reduceLT, Nat.reduceLeDiff, Nat.reduceAdd, Nat.reduceSub, Nat.reduceMul, Nat.reduceDiv, Nat.reduceMod, Nat.reduceBEq, Int.reduceEq, Int.reduceLT, Int.reduceLE, Int.reduceNeg, Int.reduceToNat, reduceCtorEq]; with_reducible rfl) (by simp only [go_sem, ↓reduceIte, reduceIte, Nat.reduceEqDiff, Nat.reduceLT, Nat.reduceLeDiff, Nat.reduceAdd, Nat.reduceSub, Nat.reduceMul, Nat.reduceDiv, Nat.reduceMod, Nat.reduceBEq, Int.reduceEq, Int.reduceLT, Int.reduceLE, Int.reduceNeg, Int.reduceToNat, reduceCtorEq]; with_reducible rfl), i + 1, _, rfl, rfl, hnx.symm, by omega⟩
        · obtain rfl : i = rows.length := by omega
          rw [List.take_of_length_le (by omega)] at hl
          have hwa : (wordRows (radix base) L rows)[a]! = l := by
            rw [getElem!_pos _ a (by omega), hl]
            simp [wordRows]
          have htk := take_next hwa (by omega)
          repeat' (first | (with_reducible first | refine SW_seq ?_ | refine SW_block ?_ | refine SThen_n ?_ | refine SThen_r ?_ | refine SThen_e ?_ | refine SIn_n ?_ | refine SIn_r ?_ | refine SIn_eq ?_ | refine SW_skip ?_ | refine SW_exit ?_ | refine SW_ret ?_ | refine SPost_r ?_) | ((with_reducible refine SIn_ne ?_ ?_); focus decide) | ((with_reducible refine SW_true ?_ ?_); focus exact rfl) | ((with_reducible refine SW_false ?_ ?_); focus exact rfl) | ((first | (with_reducible apply SW_run tt_ok hG htb) | ((with_reducible apply SW_draw rfl tt_ok hG htb); (focus kernel_rfl); (focus (simp only [List.range, List.range.loop, List.size_toArray, List.length_cons, List.length_nil, Nat.reduceAdd])))); focus ((repeat' (first | (with_reducible exact runX_nil) | (with_reducible exact runI_nil) | ((first | (with_reducible apply runX_cons) | (with_reducible apply runI_cons)); focus (simp (discharger := omega) only [go_sem, ↓reduceIte, reduceIte, Nat.reduceEqDiff, Nat.reduceLT, Nat.reduceLeDiff, Nat.reduceAdd, Nat.reduceSub, Nat.reduceMul, Nat.reduceDiv, Nat.reduceMod, Nat.reduceBEq, Int.reduceEq, Int.reduceLT, Int.reduceLE, Int.reduceNeg, Int.reduceToNat, reduceCtorEq]; with_reducible rfl)))); done)))
          exact ⟨L - (a + 1), _, by omega, Norm.headS (own := [(14, 3, 1, false)]) (keep := [0, 8, 9, 14, 59, 60]) (by simp (discharger := omega) only [go_sem, ↓reduceIte, reduceIte, Nat.reduceEqDiff, Nat.reduceLT, Nat.reduceLeDiff, Nat.reduceAdd, Nat.reduceSub, Nat.reduceMul, Nat.reduceDiv, Nat.reduceMod, Nat.reduceBEq, Int.reduceEq, Int.reduceLT, Int.reduceLE, Int.reduceNeg, Int.reduceToNat, reduceCtorEq]; with_reducible rfl) (by simp only [go_sem, ↓reduceIte, reduceIte, Nat.reduceEqDiff, Nat.reduceLT, Nat.reduceLeDiff, Nat.reduceAdd, Nat.reduceSub, Nat.reduceMul, Nat.reduceDiv, Nat.reduceMod, Nat.reduceBEq, Int.reduceEq, Int.reduceLT, Int.reduceLE, Int.reduceNeg, Int.reduceToNat, reduceCtorEq]; with_reducible rfl) (by simp only [go_sem, ↓reduceIte, reduceIte, Nat.reduceEqDiff, Nat.reduceLT, Nat.reduceLeDiff, Nat.reduceAdd, Nat.reduceSub, Nat.reduceMul, Nat.reduceDiv, Nat.reduceMod, Nat.reduceBEq, Int.reduceEq, Int.reduceLT, Int.reduceLE, Int.reduceNeg, Int.reduceToNat, reduceCtorEq]; with_reducible rfl) (by simp only [go_sem, ↓reduceIte, reduceIte, Nat.reduceEqDiff, Nat.reduceLT, Nat.reduceLeDiff, Nat.reduceAdd, Nat.reduceSub, Nat.reduceMul, Nat.reduceDiv, Nat.reduceMod, Nat.reduceBEq, Int.reduceEq, Int.reduceLT, Int.reduceLE, Int.reduceNeg, Int.reduceToNat, reduceCtorEq]; with_reducible rfl) (by simp only [go_sem, ↓reduceIte, reduceIte, Nat.reduceEqDiff, Nat.reduceLT, Nat.reduceLeDiff, Nat.reduceAdd, Nat.reduceSub, Nat.reduceMul, Nat.reduceDiv, Nat.reduceMod, Nat.reduceBEq, Int.reduceEq, Int.reduceLT, Int.reduceLE, Int.reduceNeg, Int.reduceToNat, reduceCtorEq]; with_reducible rfl), a + 1, _, rfl, rfl, by rw [htk, List.map_append, hot]; rfl, by omega⟩
      · obtain rfl : a = L := by omega
        rw [List.take_of_length_le (by omega)] at hot
        generalize wordRows (radix base) a rows = wd at *
        subst hot
        repeat' (first | (with_reducible first | refine SW_seq ?_ | refine SW_block ?_ | refine SThen_n ?_ | refine SThen_r ?_ | refine SThen_e ?_ | refine SIn_n ?_ | refine SIn_r ?_ | refine SIn_eq ?_ | refine SW_skip ?_ | refine SW_exit ?_ | refine SW_ret ?_ | refine SPost_r ?_) | ((with_reducible refine SIn_ne ?_ ?_); focus decide) | ((with_reducible refine SW_true ?_ ?_); focus exact rfl) | ((with_reducible refine SW_false ?_ ?_); focus exact rfl) | ((first | (with_reducible apply SW_run tt_ok hG htb) | ((with_reducible apply SW_draw rfl tt_ok hG htb); (focus kernel_rfl); (focus (simp only [List.range, List.range.loop, List.size_toArray, List.length_cons, List.length_nil, Nat.reduceAdd])))); focus ((repeat' (first | (with_reducible exact runX_nil) | (with_reducible exact runI_nil) | ((first | (with_reducible apply runX_cons) | (with_reducible apply runI_cons)); focus (simp (discharger := omega) only [go_sem, ↓reduceIte, reduceIte, Nat.reduceEqDiff, Nat.reduceLT, Nat.reduceLeDiff, Nat.reduceAdd, Nat.reduceSub, Nat.reduceMul, Nat.reduceDiv, Nat.reduceMod, Nat.reduceBEq, Int.reduceEq, Int.reduceLT, Int.reduceLE, Int.reduceNeg, Int.reduceToNat, reduceCtorEq]; with_reducible rfl)))); done)))
        exact (by simp (discharger := omega) only [go_sem, tErr, ↓reduceIte, reduceIte, Nat.reduceEqDiff, Nat.reduceLT, Nat.reduceLeDiff, Nat.reduceAdd, Nat.reduceSub, Nat.reduceMul, Nat.reduceDiv, Nat.reduceMod, Nat.reduceBEq, Int.reduceEq, Int.reduceLT, Int.reduceLE, Int.reduceNeg, Int.reduceToNat, reduceCtorEq])
  · have he : wordErr base nums = manyErr base nums.length := by unfold wordErr; rw [if_pos h0]
    rw [bad _ he h0, he]
    generalize manyErr base nums.length = f at *
    generalize manyOf base nums.length = mo at *
    have htb := Tab.cons c1 Tab.nil
    repeat' (first | (with_reducible first | refine SW_seq ?_ | refine SW_block ?_ | refine SThen_n ?_ | refine SThen_r ?_ | refine SThen_e ?_ | refine SIn_n ?_ | refine SIn_r ?_ | refine SIn_eq ?_ | refine SW_skip ?_ | refine SW_exit ?_ | refine SW_ret ?_ | refine SPost_r ?_) | ((with_reducible refine SIn_ne ?_ ?_); focus decide) | ((with_reducible refine SW_true ?_ ?_); focus exact rfl) | ((with_reducible refine SW_false ?_ ?_); focus exact rfl) | ((first | (with_reducible apply SW_run tt_ok hG htb) | ((with_reducible apply SW_draw rfl tt_ok hG htb); (focus kernel_rfl); (focus (simp only [List.range, List.range.loop, List.size_toArray, List.length_cons, List.length_nil, Nat.reduceAdd])))); focus ((repeat' (first | (with_reducible exact runX_nil) | (with_reducible exact runI_nil) | ((first | (with_reducible apply runX_cons) | (with_reducible apply runI_cons)); focus (simp (discharger := omega) only [go_sem, tErr, h0, ↓reduceIte, reduceIte, Nat.reduceEqDiff, Nat.reduceLT, Nat.reduceLeDiff, Nat.reduceAdd, Nat.reduceSub, Nat.reduceMul, Nat.reduceDiv, Nat.reduceMod, Nat.reduceBEq, Int.reduceEq, Int.reduceLT, Int.reduceLE, Int.reduceNeg, Int.reduceToNat, reduceCtorEq]; with_reducible rfl)))); done)))
    exact (by simp (discharger := omega) only [go_sem, tErr, h0, ↓reduceIte, reduceIte, Nat.reduceEqDiff, Nat.reduceLT, Nat.reduceLeDiff, Nat.reduceAdd, Nat.reduceSub, Nat.reduceMul, Nat.reduceDiv, Nat.reduceMod, Nat.reduceBEq, Int.reduceEq, Int.reduceLT, Int.reduceLE, Int.reduceNeg, Int.reduceToNat, reduceCtorEq])
end
end Go.Proofs.Ytfhncnhkeodngaa
namespace Go.Proofs.Ytfhncnhkeodngaa
open Go.RowKit

theorem ints_of_rep {S : Nat → Prop} {w : World} {l : List Int} {v : Value} (h : RepT S w (tInts l) v) (hI : I64s l) : Ints S w v l := by
  obtain ⟨a, cap, sz, xs, rfl, hm, h0, hf, ha, h1, hx⟩ := h.listInv
  have hlen : (l.map tInt).length = l.length := by simp
  have hfl : flat (l.map tInt) = l.map tInt := flat_one fun x hx => by obtain ⟨n, _, rfl⟩ := List.mem_map.1 hx; rfl
  rw [hlen] at hm ha h1 ⊢
  refine ⟨a, cap, rfl, by simp only [maxLen] at hm; omega, fun i hi => ?_⟩
  have hne : l.map tInt ≠ [] := by
    intro e
    have : (l.map tInt).length = 0 := by rw [e]; rfl
    omega
  have hsz : sz = 1 := by
    have := hf (tInt l[i]) (List.mem_map.2 ⟨_, List.getElem_mem hi, rfl⟩)
    simpa [tInt, T.cells] using this.symm
  subst hsz
  obtain ⟨b, off, rfl, hS, hc⟩ := ha hne
  have hxi := hx i (tInt l[i]) (by rw [hfl, List.getElem?_map, List.getElem?_eq_getElem hi]; rfl)
  exact ⟨b, off, xs i, rfl, hS, hc i (by omega), intInv hxi, hI _ (List.getElem_mem hi)⟩
theorem rep_err (S : Nat → Prop) (w : World) (e : Int) : RepT S w (tErr e) (errV 68 e) := by
  unfold tErr errV
  split
  · exact .nilI
  · exact .iface _ _ _ (.int _ _)
section
variable {G : World → Prop}
theorem split_snd (base t : Int) (l : List Int) (hl : I64s l) : Snd Try.prog G 55 [tInt base, tInt t, tInts l] (.tup [tIntss (splitOf base t l), tErr (splitErr base t l)]) := by
  refine ⟨enter_of Try.func55 rfl rfl, fun S w vs hG hs hr => ?_⟩
  obtain ⟨q⟩ := vs
  match q, hs with
  | [v0, v1, v2], _ =>
    obtain rfl := intInv (hr 0 _ v0 rfl rfl)
    obtain rfl := intInv (hr 1 _ v1 rfl rfl)
    have h2 := ints_of_rep ((hr 2 _ v2 rfl rfl).keep (S' := fun b => S b ∧ b < w.heap.size) ⟨Nat.le_refl _, fun b hb hlt => ⟨rfl, hb, hlt⟩⟩) hl
    refine (split_callsB _ base t v2 l w (fun b hb => hb.2) h2).mono ?_
    rintro e w' ⟨v, rfl, ⟨x, rfl, _, hx⟩, hb⟩
    refine ⟨_, rfl, ?_, hb⟩
    refine .tup _ _ rfl fun k z q a b => ?_
    match k, a, b with
    | 0, a, b => cases a; cases b; exact hx.mono fun b hb => .inr hb
    | 1, a, b => cases a; cases b; exact rep_err _ _ _
theorem LRight_snd (base t : Int) (l : List Int) (hl : I64s l) : Snd Try.prog G 25 [tInt base, tInt t, tInts l] (.tup [.bool (rightWRes base t l), tErr (rightWErr base t l)]) := by
  refine ⟨enter_of Try.func25 rfl rfl, fun S w vs hG hs hr => ?_⟩
  obtain ⟨q⟩ := vs
  match q, hs with
  | [v0, v1, v2], _ =>
    obtain rfl := intInv (hr 0 _ v0 rfl rfl)
    obtain rfl := intInv (hr 1 _ v1 rfl rfl)
    have h2 := ints_of_rep ((hr 2 _ v2 rfl rfl).keep (S' := fun b => S b ∧ b < w.heap.size) ⟨Nat.le_refl _, fun b hb hlt => ⟨rfl, hb, hlt⟩⟩) hl
    refine (LRight_calls _ base t v2 l w (fun b hb => hb.2) h2).mono ?_
    rintro e w' ⟨rfl, hb⟩
    refine ⟨_, rfl, ?_, hb⟩
    refine .tup _ _ rfl fun k z q a b => ?_
    match k, a, b with
    | 0, a, b => cases a; cases b; exact .bool _
    | 1, a, b => cases a; cases b; exact rep_err _ _ _
theorem Value_snd (base : Int) (l : List Int) (hl : I64s l) : Snd Try.prog G 56 [tInt base, tInts l] (.tup [tInt (valOf base l), tErr (valErr base l)]) := by
  refine ⟨enter_of Try.func56 rfl rfl, fun S w vs hG hs hr => ?_⟩
  obtain ⟨q⟩ := vs
  match q, hs with
  | [v0, v1], _ =>
    obtain rfl := intInv (hr 0 _ v0 rfl rfl)
    have h2 := ints_of_rep (hr 1 _ v1 rfl rfl) hl
    refine (Value_calls _ base v1 l w h2).mono ?_
    rintro e w' ⟨rfl, rfl⟩
    refine ⟨_, rfl, ?_, Below.refl _ _⟩
    refine .tup _ _ rfl fun k z q a b => ?_
    match k, a, b with
    | 0, a, b => cases a; cases b; exact .int _ _
    | 1, a, b => cases a; cases b; exact rep_err _ _ _
theorem trackOf_i64 {base : Int} (t : Nat) (w : List Int) (hr : radix base ≠ 0) : ∀ r ∈ (List.range t).map (trackOf (radix base) t w), I64s r := fun r hr' x hx => by
  obtain ⟨i, _, rfl⟩ := List.mem_map.1 hr'
  obtain ⟨y, _, rfl⟩ := List.mem_map.1 hx
  have r2 := radix_two hr
  have := digitAt_ok r2.1 t y i
  unfold digitAt at this
  unfold I64; omega
theorem splitOf_i64 {base t : Int} {w : List Int} : ∀ r ∈ splitOf base t w, I64s r := fun r hr => by
  unfold splitOf at hr
  split at hr
  · rename_i h
    have hm : manyErr base t = 0 := by
      unfold splitErr at h
      split at h <;> omega
    exact trackOf_i64 _ _ (many_ok hm).1 r hr
  · simp at hr
variable (hG : Lasting G)
include hG
set_option maxHeartbeats 4000000 in
theorem Nums_snd (base t : Int) (w : List Int) (hw : I64s w) : Snd Try.prog G 24 [tInt base, tInt t, tInts w] (.tup [tInts (numsOf base t w), tErr (numsErr base t w)]) := by
  have c1 := split_snd (G := G) base t w hw
  refine snd_of_body (n := 46) (tm := [(0, .t (tInt base)), (1, .t (tInt t)), (2, .t (tInts w))]) (rs := [.tmp 6, .tmp 7]) tt_ok Try.func24 rfl rfl rfl rfl rfl ?_
  by_cases h0 : splitErr base t w = 0
  · rw [h0] at c1
    have hI := @splitOf_i64 base t w
    have e1 : numsErr base t w = firstErr (valErr base) (splitOf base t w) := by unfold numsErr; rw [if_neg (by omega)]
    have e2 : numsOf base t w = if firstErr (valErr base) (splitOf base t w) = 0 then (splitOf base t w).map (valOf base) else [] := by unfold numsOf; rw [e1]
    have hl5 : (splitOf base t w).length ≤ 5 := by
      have hm : manyErr base t = 0 := by
        have h := h0
        unfold splitErr at h
        split at h <;> omega
      have := many_ok hm
      unfold splitOf
      rw [if_pos h0]
      simp
      omega
    rw [e1, e2]
    generalize splitOf base t w = rows at *
    have htb := Tab.cons c1 Tab.nil
    repeat' (first | (with_reducible first | refine SW_seq ?_ | refine SW_block ?_ | refine SThen_n ?_ | refine SThen_r ?_ | refine SThen_e ?_ | refine SIn_n ?_ | refine SIn_r ?_ | refine SIn_eq ?_ | refine SW_skip ?_ | refine SW_exit ?_ | refine SW_ret ?_ | refine SPost_r ?_) | ((with_reducible refine SIn_ne ?_ ?_); focus decide) | ((with_reducible refine SW_true ?_ ?_); focus exact rfl) | ((with_reducible refine SW_false ?_ ?_); focus exact rfl) | ((first | (with_reducible apply SW_run tt_ok hG htb) | ((with_reducible apply SW_draw rfl tt_ok hG htb); (focus kernel_rfl); (focus (simp only [List.range, List.range.loop, List.size_toArray, List.length_cons, List.length_nil, Nat.reduceAdd])))); focus ((repeat' (first | (with_reducible exact runX_nil) | (with_reducible exact runI_nil) | ((first | (with_reducible apply runX_cons) | (with_reducible apply runI_cons)); focus (simp (discharger := omega) only [go_sem, tErr, ↓reduceIte, reduceIte, Nat.reduceEqDiff, Nat.reduceLT, Nat.reduceLeDiff, Nat.reduceAdd, Nat.reduceSub, Nat.reduceMul, Nat.reduceDiv, Nat.reduceMod, Nat.reduceBEq, Int.reduceEq, Int.reduceLT, Int.reduceLE, Int.reduceNeg, Int.reduceToNat, reduceCtorEq]; with_reducible rfl)))); done)))
    clear htb
    refine SW_loop (fun mm s => ∃ (j : Nat) (ot : List T), mm = rows.length - j ∧ s = ⟨46, [(0, .t (tInt base)), (10, .sref 0), (25, .t (tIntss rows)), (26, .t (tInt rows.length)), (27, .t (tNat j))], [.row 3 1 false ot]⟩ ∧
        ot = ((rows.take j).map (valOf base)).map tInt ∧ j ≤ rows.length ∧ ∀ i (hi : i < rows.length), i < j → valErr base rows[i] = 0) rows.length
      ⟨_, Norm.headS (own := [(10, 3, 1, false)]) (keep := [0, 10, 25, 26, 27]) (by simp (discharger := omega) only [go_sem, ↓reduceIte, reduceIte, Nat.reduceEqDiff, Nat.reduceLT, Nat.reduceLeDiff, Nat.reduceAdd, Nat.reduceSub, Nat.reduceMul, Nat.reduceDiv, Nat.reduceMod, Nat.reduceBEq, Int.reduceEq, Int.reduceLT, Int.reduceLE, Int.reduceNeg, Int.reduceToNat, reduceCtorEq]; with_reducible rfl) (by simp only [go_sem, ↓reduceIte, reduceIte, Nat.reduceEqDiff, Nat.reduceLT, Nat.reduceLeDiff, Nat.reduceAdd, Nat.reduceSub, Nat.reduceMul, Nat.reduceDiv, Nat.reduceMod, Nat.reduceBEq, Int.reduceEq, Int.reduceLT, Int.reduceLE, Int.reduceNeg, Int.reduceToNat, reduceCtorEq]; with_reducible rfl) (by simp only [go_sem, ↓reduceIte, reduceIte, Nat.reduceEqDiff, Nat.reduceLT, Nat.reduceLeDiff, Nat.reduceAdd, Nat.reduceSub, Nat.reduceMul, Nat.reduceDiv, Nat.reduceMod, Nat.reduceBEq, Int.reduceEq, Int.reduceLT, Int.reduceLE, Int.reduceNeg, Int.reduceToNat, reduceCtorEq]; with_reducible rfl) (by simp only [go_sem, ↓reduceIte, reduceIte, Nat.reduceEqDiff, Nat.reduceLT, Nat.reduceLeDiff, Nat.reduceAdd, Nat.reduceSub, Nat.reduceMul, Nat.reduceDiv, Nat.reduceMod, Nat.reduceBEq, Int.reduceEq, Int.reduceLT, Int.reduceLE, Int.reduceNeg, Int.reduceToNat, reduceCtorEq]; with_reducible rfl) (by simp only [go_sem, ↓reduceIte, reduceIte, Nat.reduceEqDiff, Nat.reduceLT, Nat.reduceLeDiff, Nat.reduceAdd, Nat.reduceSub, Nat.reduceMul, Nat.reduceDiv, Nat.reduceMod, Nat.reduceBEq, Int.reduceEq, Int.reduceLT, Int.reduceLE, Int.reduceNeg, Int.reduceToNat, reduceCtorEq]; with_reducible rfl), 0, _, rfl, rfl, by simp, Nat.zero_le _, fun i hi h => by omega⟩ ?_
    rintro mm s ⟨j, ot, rfl, rfl, hot, hj, hA⟩
    have hol : ot.length = j := by rw [hot]; simp; omega
    by_cases hlt : j < rows.length
    · obtain ⟨d, hd⟩ : ∃ d, rows[j]! = d := ⟨_, rfl⟩
      have hat := bang_at hd hlt
      have cV := Value_snd (G := G) base d (hI d (bang_mem hd hlt))
      have htb := Tab.cons cV Tab.nil
      by_cases hv : valErr base d = 0
      · rw [hv] at cV htb
        have htk := take_next hd hlt
        generalize hvE : valOf base d = v at *
        repeat' (first | (with_reducible first | refine SW_seq ?_ | refine SW_block ?_ | refine SThen_n ?_ | refine SThen_r ?_ | refine SThen_e ?_ | refine SIn_n ?_ | refine SIn_r ?_ | refine SIn_eq ?_ | refine SW_skip ?_ | refine SW_exit ?_ | refine SW_ret ?_ | refine SPost_r ?_) | ((with_reducible refine SIn_ne ?_ ?_); focus decide) | ((with_reducible refine SW_true ?_ ?_); focus exact rfl) | ((with_reducible refine SW_false ?_ ?_); focus exact rfl) | ((first | (with_reducible apply SW_run tt_ok hG htb) | ((with_reducible apply SW_draw rfl tt_ok hG htb); (focus kernel_rfl); (focus (simp only [List.range, List.range.loop, List.size_toArray, List.length_cons, List.length_nil, Nat.reduceAdd])))); focus ((repeat' (first | (with_reducible exact runX_nil) | (with_reducible exact runI_nil) | ((first | (with_reducible apply runX_cons) | (with_reducible apply runI_cons)); focus (simp (discharger := omega) only [go_sem, tErr, hd, ↓reduceIte, reduceIte, Nat.reduceEqDiff, Nat.reduceLT, Nat.reduceLeDiff, Nat.reduceAdd, Nat.reduceSub, Nat.reduceMul, Nat.reduceDiv, Nat.reduceMod, Nat.reduceBEq, Int.reduceEq, Int.reduceLT, Int.reduceLE, Int.reduceNeg, Int.reduceToNat, reduceCtorEq]; with_reducible rfl)))); done)))
        exact ⟨rows.length - (j + 1), _, by omega, Norm.headS (own := [(10, 3, 1, false)]) (keep := [0, 10, 25, 26, 27]) (by simp (discharger := omega) only [go_sem, ↓reduceIte, reduceIte, Nat.reduceEqDiff, Nat.reduceLT, Nat.reduceLeDiff, Nat.reduceAdd, Nat.reduceSub, Nat.reduceMul, Nat.reduceDiv, Nat.reduceMod, Nat.reduceBEq, Int.reduceEq, Int.reduceLT, Int.reduceLE, Int.reduceNeg, Int.reduceToNat, reduceCtorEq]; with_reducible rfl) (by simp only [go_sem, ↓reduceIte, reduceIte, Nat.reduceEqDiff, Nat.reduceLT, Nat.reduceLeDiff, Nat.reduceAdd, Nat.reduceSub, Nat.reduceMul, Nat.reduceDiv, Nat.reduceMod, Nat.reduceBEq, Int.reduceEq, Int.reduceLT, Int.reduceLE, Int.reduceNeg, Int.reduceToNat, reduceCtorEq]; with_reducible rfl) (by simp only [go_sem, ↓reduceIte, reduceIte, Nat.reduceEqDiff, Nat.reduceLT, Nat.reduceLeDiff, Nat.reduceAdd, Nat.reduceSub, Nat.reduceMul, Nat.reduceDiv, Nat.reduceMod, Nat.reduceBEq, Int.reduceEq, Int.reduceLT, Int.reduceLE, Int.reduceNeg, Int.reduceToNat, reduceCtorEq]; with_reducible rfl) (by simp only [go_sem, ↓reduceIte, reduceIte, Nat.reduceEqDiff, Nat.reduceLT, Nat.reduceLeDiff, Nat.reduceAdd, Nat.reduceSub, Nat.reduceMul, Nat.reduceDiv, Nat.reduceMod, Nat.reduceBEq, Int.reduceEq, Int.reduceLT, Int.reduceLE, Int.reduceNeg, Int.reduceToNat, reduceCtorEq]; with_reducible rfl) (by simp only [go_sem, ↓reduceIte, reduceIte, Nat.reduceEqDiff, Nat.reduceLT, Nat.reduceLeDiff, Nat.reduceAdd, Nat.reduceSub, Nat.reduceMul, Nat.reduceDiv, Nat.reduceMod, Nat.reduceBEq, Int.reduceEq, Int.reduceLT, Int.reduceLE, Int.reduceNeg, Int.reduceToNat, reduceCtorEq]; with_reducible rfl), j + 1, _, rfl, rfl, by rw [htk, List.map_append, List.map_append, hot, ← hvE]; rfl, by omega, fun i hi h => by
          by_cases e : i = j
          · subst e; rw [hat]; exact hv
          · exact hA i hi (by omega)⟩
      · have hf := firstErr_at (f := valErr base) hlt (fun i hi h => hA i hi h) (by rw [hat]; exact hv)
        rw [hat] at hf
        rw [hf, if_neg hv]
        generalize valErr base d = f at *
        generalize valOf base d = v at *
        repeat' (first | (with_reducible first | refine SW_seq ?_ | refine SW_block ?_ | refine SThen_n ?_ | refine SThen_r ?_ | refine SThen_e ?_ | refine SIn_n ?_ | refine SIn_r ?_ | refine SIn_eq ?_ | refine SW_skip ?_ | refine SW_exit ?_ | refine SW_ret ?_ | refine SPost_r ?_) | ((with_reducible refine SIn_ne ?_ ?_); focus decide) | ((with_reducible refine SW_true ?_ ?_); focus exact rfl) | ((with_reducible refine SW_false ?_ ?_); focus exact rfl) | ((first | (with_reducible apply SW_run tt_ok hG htb) | ((with_reducible apply SW_draw rfl tt_ok hG htb); (focus kernel_rfl); (focus (simp only [List.range, List.range.loop, List.size_toArray, List.length_cons, List.length_nil, Nat.reduceAdd])))); focus ((repeat' (first | (with_reducible exact runX_nil) | (with_reducible exact runI_nil) | ((first | (with_reducible apply runX_cons) | (with_reducible apply runI_cons)); focus (simp (discharger := omega) only [go_sem, tErr, hd, hv, ↓reduceIte, reduceIte, Nat.reduceEqDiff, Nat.reduceLT, Nat.reduceLeDiff, Nat.reduceAdd, Nat.reduceSub, Nat.reduceMul, Nat.reduceDiv, Nat.reduceMod, Nat.reduceBEq, Int.reduceEq, Int.reduceLT, Int.reduceLE, Int.reduceNeg, Int.reduceToNat, reduceCtorEq]; with_reducible rfl)))); done)))
        exact (by simp (discharger := omega) only [go_sem, tErr, hv, ↓reduceIte, reduceIte, Nat.reduceEqDiff, Nat.reduceLT, Nat.reduceLeDiff, Nat.reduceAdd, Nat.reduceSub, Nat.reduceMul, Nat.reduceDiv, Nat.reduceMod, Nat.reduceBEq, Int.reduceEq, Int.reduceLT, Int.reduceLE, Int.reduceNeg, Int.reduceToNat, reduceCtorEq])
    · obtain rfl : j = rows.length := by omega
      rw [List.take_length] at hot
      have hz : firstErr (valErr base) rows = 0 := firstErr_zero.2 fun r hr => by
        obtain ⟨i, hi, rfl⟩ := List.mem_iff_getElem.1 hr
        exact hA i hi hi
      rw [hz, if_pos rfl]
      generalize rows.map (valOf base) = out at *
      subst hot
      have htb : Tab.ok Try.prog G [] := Tab.nil
      repeat' (first | (with_reducible first | refine SW_seq ?_ | refine SW_block ?_ | refine SThen_n ?_ | refine SThen_r ?_ | refine SThen_e ?_ | refine SIn_n ?_ | refine SIn_r ?_ | refine SIn_eq ?_ | refine SW_skip ?_ | refine SW_exit ?_ | refine SW_ret ?_ | refine SPost_r ?_) | ((with_reducible refine SIn_ne ?_ ?_); focus decide) | ((with_reducible refine SW_true ?_ ?_); focus exact rfl) | ((with_reducible refine SW_false ?_ ?_); focus exact rfl) | ((first | (with_reducible apply SW_run tt_ok hG htb) | ((with_reducible apply SW_draw rfl tt_ok hG htb); (focus kernel_rfl); (focus (simp only [List.range, List.range.loop, List.size_toArray, List.length_cons, List.length_nil, Nat.reduceAdd])))); focus ((repeat' (first | (with_reducible exact runX_nil) | (with_reducible exact runI_nil) | ((first | (with_reducible apply runX_cons) | (with_reducible apply runI_cons)); focus (simp (discharger := omega) only [go_sem, ↓reduceIte, reduceIte, Nat.reduceEqDiff, Nat.reduceLT, Nat.reduceLeDiff, Nat.reduceAdd, Nat.reduceSub, Nat.reduceMul, Nat.reduceDiv, Nat.reduceMod, Nat.reduceBEq, Int.reduceEq, Int.reduceLT, Int.reduceLE, Int.reduceNeg, Int.reduceToNat, reduceCtorEq]; with_reducible rfl)))); done)))
      exact (by simp (discharger := omega) only [go_sem, tErr, ↓reduceIte, reduceIte, Nat.reduceEqDiff, Nat.reduceLT, Nat.reduceLeDiff, Nat.reduceAdd, Nat.reduceSub, Nat.reduceMul, Nat.reduceDiv, Nat.reduceMod, Nat.reduceBEq, Int.reduceEq, Int.reduceLT, Int.reduceLE, Int.reduceNeg, Int.reduceToNat, reduceCtorEq])
  · have e1 : numsErr base t w = splitErr base t w := by unfold numsErr; rw [if_pos h0]
    have e2 : numsOf base t w = [] := by unfold numsOf; rw [e1, if_neg h0]
    rw [e1, e2]
    generalize splitErr base t w = f at *
    generalize splitOf base t w = rows at *
    have htb := Tab.cons c1 Tab.nil
    repeat' (first | (with_reducible first | refine SW_seq ?_ | refine SW_block ?_ | refine SThen_n ?_ | refine SThen_r ?_ | refine SThen_e ?_ | refine SIn_n ?_ | refine SIn_r ?_ | refine SIn_eq ?_ | refine SW_skip ?_ | refine SW_exit ?_ | refine SW_ret ?_ | refine SPost_r ?_) | ((with_reducible refine SIn_ne ?_ ?_); focus decide) | ((with_reducible refine SW_true ?_ ?_); focus exact rfl) | ((with_reducible refine SW_false ?_ ?_); focus exact rfl) | ((first | (with_reducible apply SW_run tt_ok hG htb) | ((with_reducible apply SW_draw rfl tt_ok hG htb); (focus kernel_rfl); (focus (simp only [List.range, List.range.loop, List.size_toArray, List.length_cons, List.length_nil, Nat.reduceAdd])))); focus ((repeat' (first | (with_reducible exact runX_nil) | (with_reducible exact runI_nil) | ((first | (with_reducible apply runX_cons) | (with_reducible apply runI_cons)); focus (simp (discharger := omega) only [go_sem, tErr, h0, ↓reduceIte, reduceIte, Nat.reduceEqDiff, Nat.reduceLT, Nat.reduceLeDiff, Nat.reduceAdd, Nat.reduceSub, Nat.reduceMul, Nat.reduceDiv, Nat.reduceMod, Nat.reduceBEq, Int.reduceEq, Int.reduceLT, Int.reduceLE, Int.reduceNeg, Int.reduceToNat, reduceCtorEq]; with_reducible rfl)))); done)))
    exact (by simp (discharger := omega) only [go_sem, tErr, h0, ↓reduceIte, reduceIte, Nat.reduceEqDiff, Nat.reduceLT, Nat.reduceLeDiff, Nat.reduceAdd, Nat.reduceSub, Nat.reduceMul, Nat.reduceDiv, Nat.reduceMod, Nat.reduceBEq, Int.reduceEq, Int.reduceLT, Int.reduceLE, Int.reduceNeg, Int.reduceToNat, reduceCtorEq])
end
end Go.Proofs.Ytfhncnhkeodngaa
namespace Go.Proofs.Ytfhncnhkeodngaa
open Go.RowKit

section
variable {G : World → Prop} (hG : Lasting G)
include hG
set_option maxHeartbeats 2000000 in
theorem Run_snd (a : GAuto) (w : List Int) : Snd Try.prog G 43 [tAuto a, tInts w] (.tup [tInt (runOf a w), tErr (runErr a w)]) := by
  have htb := Tab.cons (Check_snd hG a) Tab.nil
  refine snd_of_body (n := 56) (tm := [(0, .t (tAuto a)), (1, .t (tInts w))]) (rs := [.tmp 4, .tmp 5]) tt_ok Try.func43 rfl rfl rfl rfl rfl ?_
  by_cases h0 : autoFault a = 0
  · have g := good_of h0
    have hlet : letters a = ((manyOf a.base a.tracks).toNat : Nat) := g.letters
    generalize (manyOf a.base a.tracks).toNat = n at g hlet
    generalize hm : a.next.length = m at g
    have hm0 := g.m0
    have hm80 := g.m80
    have hn36 := g.n36
    have e0 : runErr a w = longFault n w := by unfold runErr; rw [if_neg (by omega), hlet]
    have htb' := htb
    rw [h0] at htb
    clear htb'
    by_cases h4 : 400 < w.length
    · have e1 : runErr a w = 3 := by rw [e0]; unfold longFault; rw [if_pos h4]
      have e2 : runOf a w = 0 := by unfold runOf; rw [e1]; rfl
      rw [e1, e2]
      repeat' (first | (with_reducible first | refine SW_seq ?_ | refine SW_block ?_ | refine SThen_n ?_ | refine SThen_r ?_ | refine SThen_e ?_ | refine SIn_n ?_ | refine SIn_r ?_ | refine SIn_eq ?_ | refine SW_skip ?_ | refine SW_exit ?_ | refine SW_ret ?_ | refine SPost_r ?_) | ((with_reducible refine SIn_ne ?_ ?_); focus decide) | ((with_reducible refine SW_true ?_ ?_); focus exact rfl) | ((with_reducible refine SW_false ?_ ?_); focus exact rfl) | ((first | (with_reducible apply SW_run tt_ok hG htb) | ((with_reducible apply SW_draw rfl tt_ok hG htb); (focus kernel_rfl); (focus (simp only [List.range, List.range.loop, List.size_toArray, List.length_cons, List.length_nil, Nat.reduceAdd])))); focus ((repeat' (first | (with_reducible exact runX_nil) | (with_reducible exact runI_nil) | ((first | (with_reducible apply runX_cons) | (with_reducible apply runI_cons)); focus (simp (discharger := omega) only [go_sem, tAuto, tErr, ↓reduceIte, reduceIte, Nat.reduceEqDiff, Nat.reduceLT, Nat.reduceLeDiff, Nat.reduceAdd, Nat.reduceSub, Nat.reduceMul, Nat.reduceDiv, Nat.reduceMod, Nat.reduceBEq, Int.reduceEq, Int.reduceLT, Int.reduceLE, Int.reduceNeg, Int.reduceToNat, reduceCtorEq]; with_reducible rfl)))); done)))
      exact (by simp (discharger := omega) only [go_sem, tErr, ↓reduceIte, reduceIte, Nat.reduceEqDiff, Nat.reduceLT, Nat.reduceLeDiff, Nat.reduceAdd, Nat.reduceSub, Nat.reduceMul, Nat.reduceDiv, Nat.reduceMod, Nat.reduceBEq, Int.reduceEq, Int.reduceLT, Int.reduceLE, Int.reduceNeg, Int.reduceToNat, reduceCtorEq])
    · obtain ⟨r0, hr0⟩ : ∃ r, a.next[0]! = r := ⟨_, rfl⟩
      have hr0l : r0.length = n := g.rows.row _ (bang_mem hr0 (by omega))
      repeat' (first | (with_reducible first | refine SW_seq ?_ | refine SW_block ?_ | refine SThen_n ?_ | refine SThen_r ?_ | refine SThen_e ?_ | refine SIn_n ?_ | refine SIn_r ?_ | refine SIn_eq ?_ | refine SW_skip ?_ | refine SW_exit ?_ | refine SW_ret ?_ | refine SPost_r ?_) | ((with_reducible refine SIn_ne ?_ ?_); focus decide) | ((with_reducible refine SW_true ?_ ?_); focus exact rfl) | ((with_reducible refine SW_false ?_ ?_); focus exact rfl) | ((first | (with_reducible apply SW_run tt_ok hG htb) | ((with_reducible apply SW_draw rfl tt_ok hG htb); (focus kernel_rfl); (focus (simp only [List.range, List.range.loop, List.size_toArray, List.length_cons, List.length_nil, Nat.reduceAdd])))); focus ((repeat' (first | (with_reducible exact runX_nil) | (with_reducible exact runI_nil) | ((first | (with_reducible apply runX_cons) | (with_reducible apply runI_cons)); focus (simp (discharger := omega) only [go_sem, tAuto, tErr, ↓reduceIte, reduceIte, Nat.reduceEqDiff, Nat.reduceLT, Nat.reduceLeDiff, Nat.reduceAdd, Nat.reduceSub, Nat.reduceMul, Nat.reduceDiv, Nat.reduceMod, Nat.reduceBEq, Int.reduceEq, Int.reduceLT, Int.reduceLE, Int.reduceNeg, Int.reduceToNat, reduceCtorEq]; with_reducible rfl)))); done)))
      refine SW_loop (fun k s => ∃ i : Nat, k = w.length - i ∧ s = ⟨56, [(1, .t (tInts w)), (2, .bptr 0 0), (21, .t (tInts w)), (22, .t (tInt w.length)), (23, .t (tInt i))], [.box [.t (tInt a.base), .t (tInt a.tracks), .t (tIntss a.next), .t (tBools a.ends)]]⟩ ∧ i ≤ w.length ∧ ∀ j (hj : j < w.length), j < i → 0 ≤ w[j] ∧ w[j] < (n : Int)) w.length
        ⟨_, Norm.headS (own := []) (keep := [1, 2, 21, 22, 23]) (by simp (discharger := omega) only [go_sem, ↓reduceIte, reduceIte, Nat.reduceEqDiff, Nat.reduceLT, Nat.reduceLeDiff, Nat.reduceAdd, Nat.reduceSub, Nat.reduceMul, Nat.reduceDiv, Nat.reduceMod, Nat.reduceBEq, Int.reduceEq, Int.reduceLT, Int.reduceLE, Int.reduceNeg, Int.reduceToNat, reduceCtorEq]; with_reducible rfl) (by simp only [go_sem, ↓reduceIte, reduceIte, Nat.reduceEqDiff, Nat.reduceLT, Nat.reduceLeDiff, Nat.reduceAdd, Nat.reduceSub, Nat.reduceMul, Nat.reduceDiv, Nat.reduceMod, Nat.reduceBEq, Int.reduceEq, Int.reduceLT, Int.reduceLE, Int.reduceNeg, Int.reduceToNat, reduceCtorEq]; with_reducible rfl) (by simp only [go_sem, ↓reduceIte, reduceIte, Nat.reduceEqDiff, Nat.reduceLT, Nat.reduceLeDiff, Nat.reduceAdd, Nat.reduceSub, Nat.reduceMul, Nat.reduceDiv, Nat.reduceMod, Nat.reduceBEq, Int.reduceEq, Int.reduceLT, Int.reduceLE, Int.reduceNeg, Int.reduceToNat, reduceCtorEq]; with_reducible rfl) (by simp only [go_sem, ↓reduceIte, reduceIte, Nat.reduceEqDiff, Nat.reduceLT, Nat.reduceLeDiff, Nat.reduceAdd, Nat.reduceSub, Nat.reduceMul, Nat.reduceDiv, Nat.reduceMod, Nat.reduceBEq, Int.reduceEq, Int.reduceLT, Int.reduceLE, Int.reduceNeg, Int.reduceToNat, reduceCtorEq]; with_reducible rfl) (by simp only [go_sem, ↓reduceIte, reduceIte, Nat.reduceEqDiff, Nat.reduceLT, Nat.reduceLeDiff, Nat.reduceAdd, Nat.reduceSub, Nat.reduceMul, Nat.reduceDiv, Nat.reduceMod, Nat.reduceBEq, Int.reduceEq, Int.reduceLT, Int.reduceLE, Int.reduceNeg, Int.reduceToNat, reduceCtorEq]; with_reducible rfl), 0, rfl, rfl, Nat.zero_le _, fun j hj h => by omega⟩ ?_
      rintro k s ⟨i, rfl, rfl, hi, hA⟩
      by_cases hlt : i < w.length
      · obtain ⟨x, hx⟩ : ∃ x, w[i]! = x := ⟨_, rfl⟩
        have hat := bang_at hx hlt
        by_cases hx0 : 0 ≤ x
        · by_cases hxn : x < (n : Int)
          · repeat' (first | (with_reducible first | refine SW_seq ?_ | refine SW_block ?_ | refine SThen_n ?_ | refine SThen_r ?_ | refine SThen_e ?_ | refine SIn_n ?_ | refine SIn_r ?_ | refine SIn_eq ?_ | refine SW_skip ?_ | refine SW_exit ?_ | refine SW_ret ?_ | refine SPost_r ?_) | ((with_reducible refine SIn_ne ?_ ?_); focus decide) | ((with_reducible refine SW_true ?_ ?_); focus exact rfl) | ((with_reducible refine SW_false ?_ ?_); focus exact rfl) | ((first | (with_reducible apply SW_run tt_ok hG htb) | ((with_reducible apply SW_draw rfl tt_ok hG htb); (focus kernel_rfl); (focus (simp only [List.range, List.range.loop, List.size_toArray, List.length_cons, List.length_nil, Nat.reduceAdd])))); focus ((repeat' (first | (with_reducible exact runX_nil) | (with_reducible exact runI_nil) | ((first | (with_reducible apply runX_cons) | (with_reducible apply runI_cons)); focus (simp (discharger := omega) only [go_sem, hx, hr0, ↓reduceIte, reduceIte, Nat.reduceEqDiff, Nat.reduceLT, Nat.reduceLeDiff, Nat.reduceAdd, Nat.reduceSub, Nat.reduceMul, Nat.reduceDiv, Nat.reduceMod, Nat.reduceBEq, Int.reduceEq, Int.reduceLT, Int.reduceLE, Int.reduceNeg, Int.reduceToNat, reduceCtorEq]; with_reducible rfl)))); done)))
            exact ⟨w.length - (i + 1), _, by omega, Norm.headS (own := []) (keep := [1, 2, 21, 22, 23]) (by simp (discharger := omega) only [go_sem, ↓reduceIte, reduceIte, Nat.reduceEqDiff, Nat.reduceLT, Nat.reduceLeDiff, Nat.reduceAdd, Nat.reduceSub, Nat.reduceMul, Nat.reduceDiv, Nat.reduceMod, Nat.reduceBEq, Int.reduceEq, Int.reduceLT, Int.reduceLE, Int.reduceNeg, Int.reduceToNat, reduceCtorEq]; with_reducible rfl) (by simp only [go_sem, ↓reduceIte, reduceIte, Nat.reduceEqDiff, Nat.reduceLT, Nat.reduceLeDiff, Nat.reduceAdd, Nat.reduceSub, Nat.reduceMul, Nat.reduceDiv, Nat.reduceMod, Nat.reduceBEq, Int.reduceEq, Int.reduceLT, Int.reduceLE, Int.reduceNeg, Int.reduceToNat, reduceCtorEq]; with_reducible rfl) (by simp only [go_sem, ↓reduceIte, reduceIte, Nat.reduceEqDiff, Nat.reduceLT, Nat.reduceLeDiff, Nat.reduceAdd, Nat.reduceSub, Nat.reduceMul, Nat.reduceDiv, Nat.reduceMod, Nat.reduceBEq, Int.reduceEq, Int.reduceLT, Int.reduceLE, Int.reduceNeg, Int.reduceToNat, reduceCtorEq]; with_reducible rfl) (by simp only [go_sem, ↓reduceIte, reduceIte, Nat.reduceEqDiff, Nat.reduceLT, Nat.reduceLeDiff, Nat.reduceAdd, Nat.reduceSub, Nat.reduceMul, Nat.reduceDiv, Nat.reduceMod, Nat.reduceBEq, Int.reduceEq, Int.reduceLT, Int.reduceLE, Int.reduceNeg, Int.reduceToNat, reduceCtorEq]; with_reducible rfl) (by simp only [go_sem, ↓reduceIte, reduceIte, Nat.reduceEqDiff, Nat.reduceLT, Nat.reduceLeDiff, Nat.reduceAdd, Nat.reduceSub, Nat.reduceMul, Nat.reduceDiv, Nat.reduceMod, Nat.reduceBEq, Int.reduceEq, Int.reduceLT, Int.reduceLE, Int.reduceNeg, Int.reduceToNat, reduceCtorEq]; with_reducible rfl), i + 1, rfl, rfl, by omega, fun j hj h => by
              by_cases e : j = i
              · subst e; rw [hat]; omega
              · exact hA j hj (by omega)⟩
          · have e1 : runErr a w = 1 := by rw [e0]; exact longFault_at h4 hlt (by rw [hat]; omega)
            have e2 : runOf a w = 0 := by unfold runOf; rw [e1]; rfl
            rw [e1, e2]
            repeat' (first | (with_reducible first | refine SW_seq ?_ | refine SW_block ?_ | refine SThen_n ?_ | refine SThen_r ?_ | refine SThen_e ?_ | refine SIn_n ?_ | refine SIn_r ?_ | refine SIn_eq ?_ | refine SW_skip ?_ | refine SW_exit ?_ | refine SW_ret ?_ | refine SPost_r ?_) | ((with_reducible refine SIn_ne ?_ ?_); focus decide) | ((with_reducible refine SW_true ?_ ?_); focus exact rfl) | ((with_reducible refine SW_false ?_ ?_); focus exact rfl) | ((first | (with_reducible apply SW_run tt_ok hG htb) | ((with_reducible apply SW_draw rfl tt_ok hG htb); (focus kernel_rfl); (focus (simp only [List.range, List.range.loop, List.size_toArray, List.length_cons, List.length_nil, Nat.reduceAdd])))); focus ((repeat' (first | (with_reducible exact runX_nil) | (with_reducible exact runI_nil) | ((first | (with_reducible apply runX_cons) | (with_reducible apply runI_cons)); focus (simp (discharger := omega) only [go_sem, hx, hr0, ↓reduceIte, reduceIte, Nat.reduceEqDiff, Nat.reduceLT, Nat.reduceLeDiff, Nat.reduceAdd, Nat.reduceSub, Nat.reduceMul, Nat.reduceDiv, Nat.reduceMod, Nat.reduceBEq, Int.reduceEq, Int.reduceLT, Int.reduceLE, Int.reduceNeg, Int.reduceToNat, reduceCtorEq]; with_reducible rfl)))); done)))
            exact (by simp (discharger := omega) only [go_sem, tErr, ↓reduceIte, reduceIte, Nat.reduceEqDiff, Nat.reduceLT, Nat.reduceLeDiff, Nat.reduceAdd, Nat.reduceSub, Nat.reduceMul, Nat.reduceDiv, Nat.reduceMod, Nat.reduceBEq, Int.reduceEq, Int.reduceLT, Int.reduceLE, Int.reduceNeg, Int.reduceToNat, reduceCtorEq])
        · have e1 : runErr a w = 1 := by rw [e0]; exact longFault_at h4 hlt (by rw [hat]; omega)
          have e2 : runOf a w = 0 := by unfold runOf; rw [e1]; rfl
          rw [e1, e2]
          repeat' (first | (with_reducible first | refine SW_seq ?_ | refine SW_block ?_ | refine SThen_n ?_ | refine SThen_r ?_ | refine SThen_e ?_ | refine SIn_n ?_ | refine SIn_r ?_ | refine SIn_eq ?_ | refine SW_skip ?_ | refine SW_exit ?_ | refine SW_ret ?_ | refine SPost_r ?_) | ((with_reducible refine SIn_ne ?_ ?_); focus decide) | ((with_reducible refine SW_true ?_ ?_); focus exact rfl) | ((with_reducible refine SW_false ?_ ?_); focus exact rfl) | ((first | (with_reducible apply SW_run tt_ok hG htb) | ((with_reducible apply SW_draw rfl tt_ok hG htb); (focus kernel_rfl); (focus (simp only [List.range, List.range.loop, List.size_toArray, List.length_cons, List.length_nil, Nat.reduceAdd])))); focus ((repeat' (first | (with_reducible exact runX_nil) | (with_reducible exact runI_nil) | ((first | (with_reducible apply runX_cons) | (with_reducible apply runI_cons)); focus (simp (discharger := omega) only [go_sem, hx, hr0, ↓reduceIte, reduceIte, Nat.reduceEqDiff, Nat.reduceLT, Nat.reduceLeDiff, Nat.reduceAdd, Nat.reduceSub, Nat.reduceMul, Nat.reduceDiv, Nat.reduceMod, Nat.reduceBEq, Int.reduceEq, Int.reduceLT, Int.reduceLE, Int.reduceNeg, Int.reduceToNat, reduceCtorEq]; with_reducible rfl)))); done)))
          exact (by simp (discharger := omega) only [go_sem, tErr, ↓reduceIte, reduceIte, Nat.reduceEqDiff, Nat.reduceLT, Nat.reduceLeDiff, Nat.reduceAdd, Nat.reduceSub, Nat.reduceMul, Nat.reduceDiv, Nat.reduceMod, Nat.reduceBEq, Int.reduceEq, Int.reduceLT, Int.reduceLE, Int.reduceNeg, Int.reduceToNat, reduceCtorEq])
      · obtain rfl : i = w.length := by omega
        have e1 : runErr a w = 0 := by rw [e0]; exact longFault_ok h4 fun j hj => hA j hj hj
        have e2 : runOf a w = runFrom a.next 0 w := by unfold runOf; rw [e1]; rfl
        rw [e1, e2]
        repeat' (first | (with_reducible first | refine SW_seq ?_ | refine SW_block ?_ | refine SThen_n ?_ | refine SThen_r ?_ | refine SThen_e ?_ | refine SIn_n ?_ | refine SIn_r ?_ | refine SIn_eq ?_ | refine SW_skip ?_ | refine SW_exit ?_ | refine SW_ret ?_ | refine SPost_r ?_) | ((with_reducible refine SIn_ne ?_ ?_); focus decide) | ((with_reducible refine SW_true ?_ ?_); focus exact rfl) | ((with_reducible refine SW_false ?_ ?_); focus exact rfl) | ((first | (with_reducible apply SW_run tt_ok hG htb) | ((with_reducible apply SW_draw rfl tt_ok hG htb); (focus kernel_rfl); (focus (simp only [List.range, List.range.loop, List.size_toArray, List.length_cons, List.length_nil, Nat.reduceAdd])))); focus ((repeat' (first | (with_reducible exact runX_nil) | (with_reducible exact runI_nil) | ((first | (with_reducible apply runX_cons) | (with_reducible apply runI_cons)); focus (simp (discharger := omega) only [go_sem, ↓reduceIte, reduceIte, Nat.reduceEqDiff, Nat.reduceLT, Nat.reduceLeDiff, Nat.reduceAdd, Nat.reduceSub, Nat.reduceMul, Nat.reduceDiv, Nat.reduceMod, Nat.reduceBEq, Int.reduceEq, Int.reduceLT, Int.reduceLE, Int.reduceNeg, Int.reduceToNat, reduceCtorEq]; with_reducible rfl)))); done)))
        refine SW_loop (fun k s => ∃ (i : Nat) (q : Int), k = w.length - i ∧ s = ⟨56, [(2, .bptr 0 0), (9, .t (tInt q)), (40, .t (tInts w)), (41, .t (tInt w.length)), (42, .t (tInt i))], [.box [.t (tInt a.base), .t (tInt a.tracks), .t (tIntss a.next), .t (tBools a.ends)]]⟩ ∧ i ≤ w.length ∧ q = runFrom a.next 0 (w.take i)) w.length
          ⟨_, Norm.headS (own := []) (keep := [2, 9, 40, 41, 42]) (by simp (discharger := omega) only [go_sem, ↓reduceIte, reduceIte, Nat.reduceEqDiff, Nat.reduceLT, Nat.reduceLeDiff, Nat.reduceAdd, Nat.reduceSub, Nat.reduceMul, Nat.reduceDiv, Nat.reduceMod, Nat.reduceBEq, Int.reduceEq, Int.reduceLT, Int.reduceLE, Int.reduceNeg, Int.reduceToNat, reduceCtorEq]; with_reducible rfl) (by simp only [go_sem, ↓reduceIte, reduceIte, Nat.reduceEqDiff, Nat.reduceLT, Nat.reduceLeDiff, Nat.reduceAdd, Nat.reduceSub, Nat.reduceMul, Nat.reduceDiv, Nat.reduceMod, Nat.reduceBEq, Int.reduceEq, Int.reduceLT, Int.reduceLE, Int.reduceNeg, Int.reduceToNat, reduceCtorEq]; with_reducible rfl) (by simp only [go_sem, ↓reduceIte, reduceIte, Nat.reduceEqDiff, Nat.reduceLT, Nat.reduceLeDiff, Nat.reduceAdd, Nat.reduceSub, Nat.reduceMul, Nat.reduceDiv, Nat.reduceMod, Nat.reduceBEq, Int.reduceEq, Int.reduceLT, Int.reduceLE, Int.reduceNeg, Int.reduceToNat, reduceCtorEq]; with_reducible rfl) (by simp only [go_sem, ↓reduceIte, reduceIte, Nat.reduceEqDiff, Nat.reduceLT, Nat.reduceLeDiff, Nat.reduceAdd, Nat.reduceSub, Nat.reduceMul, Nat.reduceDiv, Nat.reduceMod, Nat.reduceBEq, Int.reduceEq, Int.reduceLT, Int.reduceLE, Int.reduceNeg, Int.reduceToNat, reduceCtorEq]; with_reducible rfl) (by simp only [go_sem, ↓reduceIte, reduceIte, Nat.reduceEqDiff, Nat.reduceLT, Nat.reduceLeDiff, Nat.reduceAdd, Nat.reduceSub, Nat.reduceMul, Nat.reduceDiv, Nat.reduceMod, Nat.reduceBEq, Int.reduceEq, Int.reduceLT, Int.reduceLE, Int.reduceNeg, Int.reduceToNat, reduceCtorEq]; with_reducible rfl), 0, 0, rfl, rfl, Nat.zero_le _, rfl⟩ ?_
        rintro k s ⟨i, q, rfl, rfl, hi, hq⟩
        have hAm : ∀ x ∈ w, 0 ≤ x ∧ x < (n : Int) := fun x hx => by obtain ⟨j, hj, rfl⟩ := List.mem_iff_getElem.1 hx; exact hA j hj hj
        have hqm : 0 ≤ q ∧ q < (m : Int) := by rw [hq]; exact runFrom_ok g.rows _ 0 (by omega) fun x hx => hAm x (List.mem_of_mem_take hx)
        by_cases hlt : i < w.length
        · obtain ⟨x, hx⟩ : ∃ x, w[i]! = x := ⟨_, rfl⟩
          have hxn := hAm x (bang_mem hx hlt)
          obtain ⟨row, hrow⟩ : ∃ row, a.next[q.toNat]! = row := ⟨_, rfl⟩
          have hrl : row.length = n := g.rows.row _ (bang_mem hrow (by omega))
          obtain ⟨u, hu⟩ : ∃ u, row[x.toNat]! = u := ⟨_, rfl⟩
          have hstep := runFrom_take a.next hx hlt 0
          rw [← hq, nextOf_bang hrow (by omega) hu (by omega)] at hstep
          repeat' (first | (with_reducible first | refine SW_seq ?_ | refine SW_block ?_ | refine SThen_n ?_ | refine SThen_r ?_ | refine SThen_e ?_ | refine SIn_n ?_ | refine SIn_r ?_ | refine SIn_eq ?_ | refine SW_skip ?_ | refine SW_exit ?_ | refine SW_ret ?_ | refine SPost_r ?_) | ((with_reducible refine SIn_ne ?_ ?_); focus decide) | ((with_reducible refine SW_true ?_ ?_); focus exact rfl) | ((with_reducible refine SW_false ?_ ?_); focus exact rfl) | ((first | (with_reducible apply SW_run tt_ok hG htb) | ((with_reducible apply SW_draw rfl tt_ok hG htb); (focus kernel_rfl); (focus (simp only [List.range, List.range.loop, List.size_toArray, List.length_cons, List.length_nil, Nat.reduceAdd])))); focus ((repeat' (first | (with_reducible exact runX_nil) | (with_reducible exact runI_nil) | ((first | (with_reducible apply runX_cons) | (with_reducible apply runI_cons)); focus (simp (discharger := omega) only [go_sem, hx, hrow, hu, ↓reduceIte, reduceIte, Nat.reduceEqDiff, Nat.reduceLT, Nat.reduceLeDiff, Nat.reduceAdd, Nat.reduceSub, Nat.reduceMul, Nat.reduceDiv, Nat.reduceMod, Nat.reduceBEq, Int.reduceEq, Int.reduceLT, Int.reduceLE, Int.reduceNeg, Int.reduceToNat, reduceCtorEq]; with_reducible rfl)))); done)))
          exact ⟨w.length - (i + 1), _, by omega, Norm.headS (own := []) (keep := [2, 9, 40, 41, 42]) (by simp (discharger := omega) only [go_sem, ↓reduceIte, reduceIte, Nat.reduceEqDiff, Nat.reduceLT, Nat.reduceLeDiff, Nat.reduceAdd, Nat.reduceSub, Nat.reduceMul, Nat.reduceDiv, Nat.reduceMod, Nat.reduceBEq, Int.reduceEq, Int.reduceLT, Int.reduceLE, Int.reduceNeg, Int.reduceToNat, reduceCtorEq]; with_reducible rfl) (by simp only [go_sem, ↓reduceIte, reduceIte, Nat.reduceEqDiff, Nat.reduceLT, Nat.reduceLeDiff, Nat.reduceAdd, Nat.reduceSub, Nat.reduceMul, Nat.reduceDiv, Nat.reduceMod, Nat.reduceBEq, Int.reduceEq, Int.reduceLT, Int.reduceLE, Int.reduceNeg, Int.reduceToNat, reduceCtorEq]; with_reducible rfl) (by simp only [go_sem, ↓reduceIte, reduceIte, Nat.reduceEqDiff, Nat.reduceLT, Nat.reduceLeDiff, Nat.reduceAdd, Nat.reduceSub, Nat.reduceMul, Nat.reduceDiv, Nat.reduceMod, Nat.reduceBEq, Int.reduceEq, Int.reduceLT, Int.reduceLE, Int.reduceNeg, Int.reduceToNat, reduceCtorEq]; with_reducible rfl) (by simp only [go_sem, ↓reduceIte, reduceIte, Nat.reduceEqDiff, Nat.reduceLT, Nat.reduceLeDiff, Nat.reduceAdd, Nat.reduceSub, Nat.reduceMul, Nat.reduceDiv, Nat.reduceMod, Nat.reduceBEq, Int.reduceEq, Int.reduceLT, Int.reduceLE, Int.reduceNeg, Int.reduceToNat, reduceCtorEq]; with_reducible rfl) (by simp only [go_sem, ↓reduceIte, reduceIte, Nat.reduceEqDiff, Nat.reduceLT, Nat.reduceLeDiff, Nat.reduceAdd, Nat.reduceSub, Nat.reduceMul, Nat.reduceDiv, Nat.reduceMod, Nat.reduceBEq, Int.reduceEq, Int.reduceLT, Int.reduceLE, Int.reduceNeg, Int.reduceToNat, reduceCtorEq]; with_reducible rfl), i + 1, u, rfl, rfl, by omega, hstep.symm⟩
        · obtain rfl : i = w.length := by omega
          rw [List.take_length] at hq
          rw [← hq]
          repeat' (first | (with_reducible first | refine SW_seq ?_ | refine SW_block ?_ | refine SThen_n ?_ | refine SThen_r ?_ | refine SThen_e ?_ | refine SIn_n ?_ | refine SIn_r ?_ | refine SIn_eq ?_ | refine SW_skip ?_ | refine SW_exit ?_ | refine SW_ret ?_ | refine SPost_r ?_) | ((with_reducible refine SIn_ne ?_ ?_); focus decide) | ((with_reducible refine SW_true ?_ ?_); focus exact rfl) | ((with_reducible refine SW_false ?_ ?_); focus exact rfl) | ((first | (with_reducible apply SW_run tt_ok hG htb) | ((with_reducible apply SW_draw rfl tt_ok hG htb); (focus kernel_rfl); (focus (simp only [List.range, List.range.loop, List.size_toArray, List.length_cons, List.length_nil, Nat.reduceAdd])))); focus ((repeat' (first | (with_reducible exact runX_nil) | (with_reducible exact runI_nil) | ((first | (with_reducible apply runX_cons) | (with_reducible apply runI_cons)); focus (simp (discharger := omega) only [go_sem, ↓reduceIte, reduceIte, Nat.reduceEqDiff, Nat.reduceLT, Nat.reduceLeDiff, Nat.reduceAdd, Nat.reduceSub, Nat.reduceMul, Nat.reduceDiv, Nat.reduceMod, Nat.reduceBEq, Int.reduceEq, Int.reduceLT, Int.reduceLE, Int.reduceNeg, Int.reduceToNat, reduceCtorEq]; with_reducible rfl)))); done)))
          exact (by simp (discharger := omega) only [go_sem, tErr, ↓reduceIte, reduceIte, Nat.reduceEqDiff, Nat.reduceLT, Nat.reduceLeDiff, Nat.reduceAdd, Nat.reduceSub, Nat.reduceMul, Nat.reduceDiv, Nat.reduceMod, Nat.reduceBEq, Int.reduceEq, Int.reduceLT, Int.reduceLE, Int.reduceNeg, Int.reduceToNat, reduceCtorEq])
  · have e1 : runErr a w = autoFault a := by unfold runErr; rw [if_pos h0]
    have e2 : runOf a w = 0 := by unfold runOf; rw [e1, if_neg h0]
    rw [e1, e2]
    generalize autoFault a = e at *
    repeat' (first | (with_reducible first | refine SW_seq ?_ | refine SW_block ?_ | refine SThen_n ?_ | refine SThen_r ?_ | refine SThen_e ?_ | refine SIn_n ?_ | refine SIn_r ?_ | refine SIn_eq ?_ | refine SW_skip ?_ | refine SW_exit ?_ | refine SW_ret ?_ | refine SPost_r ?_) | ((with_reducible refine SIn_ne ?_ ?_); focus decide) | ((with_reducible refine SW_true ?_ ?_); focus exact rfl) | ((with_reducible refine SW_false ?_ ?_); focus exact rfl) | ((first | (with_reducible apply SW_run tt_ok hG htb) | ((with_reducible apply SW_draw rfl tt_ok hG htb); (focus kernel_rfl); (focus (simp only [List.range, List.range.loop, List.size_toArray, List.length_cons, List.length_nil, Nat.reduceAdd])))); focus ((repeat' (first | (with_reducible exact runX_nil) | (with_reducible exact runI_nil) | ((first | (with_reducible apply runX_cons) | (with_reducible apply runI_cons)); focus (simp (discharger := omega) only [go_sem, tAuto, tErr, h0, ↓reduceIte, reduceIte, Nat.reduceEqDiff, Nat.reduceLT, Nat.reduceLeDiff, Nat.reduceAdd, Nat.reduceSub, Nat.reduceMul, Nat.reduceDiv, Nat.reduceMod, Nat.reduceBEq, Int.reduceEq, Int.reduceLT, Int.reduceLE, Int.reduceNeg, Int.reduceToNat, reduceCtorEq]; with_reducible rfl)))); done)))
    exact (by simp (discharger := omega) only [go_sem, tErr, h0, ↓reduceIte, reduceIte, Nat.reduceEqDiff, Nat.reduceLT, Nat.reduceLeDiff, Nat.reduceAdd, Nat.reduceSub, Nat.reduceMul, Nat.reduceDiv, Nat.reduceMod, Nat.reduceBEq, Int.reduceEq, Int.reduceLT, Int.reduceLE, Int.reduceNeg, Int.reduceToNat, reduceCtorEq])
theorem Takes_snd (a : GAuto) (w : List Int) : Snd Try.prog G 16 [tAuto a, tInts w] (.tup [.bool (takesOf a w), tErr (runErr a w)]) := by
  have htb := Tab.cons (Run_snd hG a w) Tab.nil
  refine snd_of_body (n := 24) (tm := [(0, .t (tAuto a)), (1, .t (tInts w))]) (rs := [.tmp 4, .tmp 5]) tt_ok Try.func16 rfl rfl rfl rfl rfl ?_
  by_cases h0 : runErr a w = 0
  · obtain ⟨h1, h2, h3⟩ := runErr_zero h0
    have g := good_of h1
    have hq := runFrom_ok g.rows w 0 (by have := g.m0; omega) (by rw [← g.letters]; exact h3)
    have e2 : runOf a w = runFrom a.next 0 w := by unfold runOf; rw [h0]; rfl
    have he := g.ends
    have e3 : takesOf a w = a.ends[(runFrom a.next 0 w).toNat]! := by
      unfold takesOf endOf; rw [h0, getD_lt (by omega), getElem!_pos a.ends _ (by omega)]; rfl
    rw [e3, h0]
    rw [h0, e2] at htb
    generalize runFrom a.next 0 w = q at *
    repeat' (first | (with_reducible first | refine SW_seq ?_ | refine SW_block ?_ | refine SThen_n ?_ | refine SThen_r ?_ | refine SThen_e ?_ | refine SIn_n ?_ | refine SIn_r ?_ | refine SIn_eq ?_ | refine SW_skip ?_ | refine SW_exit ?_ | refine SW_ret ?_ | refine SPost_r ?_) | ((with_reducible refine SIn_ne ?_ ?_); focus decide) | ((with_reducible refine SW_true ?_ ?_); focus exact rfl) | ((with_reducible refine SW_false ?_ ?_); focus exact rfl) | ((first | (with_reducible apply SW_run tt_ok hG htb) | ((with_reducible apply SW_draw rfl tt_ok hG htb); (focus kernel_rfl); (focus (simp only [List.range, List.range.loop, List.size_toArray, List.length_cons, List.length_nil, Nat.reduceAdd])))); focus ((repeat' (first | (with_reducible exact runX_nil) | (with_reducible exact runI_nil) | ((first | (with_reducible apply runX_cons) | (with_reducible apply runI_cons)); focus (simp (discharger := omega) only [go_sem, tAuto, tErr, ↓reduceIte, reduceIte, Nat.reduceEqDiff, Nat.reduceLT, Nat.reduceLeDiff, Nat.reduceAdd, Nat.reduceSub, Nat.reduceMul, Nat.reduceDiv, Nat.reduceMod, Nat.reduceBEq, Int.reduceEq, Int.reduceLT, Int.reduceLE, Int.reduceNeg, Int.reduceToNat, reduceCtorEq]; with_reducible rfl)))); done)))
    exact (by simp (discharger := omega) only [go_sem, tErr, ↓reduceIte, reduceIte, Nat.reduceEqDiff, Nat.reduceLT, Nat.reduceLeDiff, Nat.reduceAdd, Nat.reduceSub, Nat.reduceMul, Nat.reduceDiv, Nat.reduceMod, Nat.reduceBEq, Int.reduceEq, Int.reduceLT, Int.reduceLE, Int.reduceNeg, Int.reduceToNat, reduceCtorEq])
  · have e2 : takesOf a w = false := by unfold takesOf; simp [h0]
    rw [e2]
    generalize runErr a w = e at *
    repeat' (first | (with_reducible first | refine SW_seq ?_ | refine SW_block ?_ | refine SThen_n ?_ | refine SThen_r ?_ | refine SThen_e ?_ | refine SIn_n ?_ | refine SIn_r ?_ | refine SIn_eq ?_ | refine SW_skip ?_ | refine SW_exit ?_ | refine SW_ret ?_ | refine SPost_r ?_) | ((with_reducible refine SIn_ne ?_ ?_); focus decide) | ((with_reducible refine SW_true ?_ ?_); focus exact rfl) | ((with_reducible refine SW_false ?_ ?_); focus exact rfl) | ((first | (with_reducible apply SW_run tt_ok hG htb) | ((with_reducible apply SW_draw rfl tt_ok hG htb); (focus kernel_rfl); (focus (simp only [List.range, List.range.loop, List.size_toArray, List.length_cons, List.length_nil, Nat.reduceAdd])))); focus ((repeat' (first | (with_reducible exact runX_nil) | (with_reducible exact runI_nil) | ((first | (with_reducible apply runX_cons) | (with_reducible apply runI_cons)); focus (simp (discharger := omega) only [go_sem, tAuto, tErr, h0, ↓reduceIte, reduceIte, Nat.reduceEqDiff, Nat.reduceLT, Nat.reduceLeDiff, Nat.reduceAdd, Nat.reduceSub, Nat.reduceMul, Nat.reduceDiv, Nat.reduceMod, Nat.reduceBEq, Int.reduceEq, Int.reduceLT, Int.reduceLE, Int.reduceNeg, Int.reduceToNat, reduceCtorEq]; with_reducible rfl)))); done)))
    exact (by simp (discharger := omega) only [go_sem, tErr, h0, ↓reduceIte, reduceIte, Nat.reduceEqDiff, Nat.reduceLT, Nat.reduceLeDiff, Nat.reduceAdd, Nat.reduceSub, Nat.reduceMul, Nat.reduceDiv, Nat.reduceMod, Nat.reduceBEq, Int.reduceEq, Int.reduceLT, Int.reduceLE, Int.reduceNeg, Int.reduceToNat, reduceCtorEq])
end
end Go.Proofs.Ytfhncnhkeodngaa
namespace Go.Proofs.Ytfhncnhkeodngaa
open Go.ChangeShapes Go.WideShapes Go.ChangeAt Go.RowKit Go.Joins Go.Deep

section
variable {H : Type} {enc : TypeId × Value → H} {w : World} {sp : Nat → Bool} {held : Bool}
/-- One cell that reads as a datum. -/
def OpensT (enc : TypeId × Value → H) (w : World) (sp : Nat → Bool) (held : Bool) (T : TypeId) (Q : Go.Proofs.Ytfhncnhkeodngaa.T → Prop) : Prop :=
  ∀ n v y, DataW.trod enc Try.prog w 0 sp held n T [v] = some y → v.oneCell' = true ∧ ∃ x, Q x ∧ x.cells = [x] ∧ RepT (· < w.heap.size) w x v
theorem flat_cells : ∀ {l : List Go.Proofs.Ytfhncnhkeodngaa.T}, (∀ x ∈ l, x.cells = [x]) → Go.Proofs.Ytfhncnhkeodngaa.flat l = l
  | [], _ => rfl
  | a :: t, h => by
    have := flat_cells fun x hx => h x (List.mem_cons_of_mem a hx)
    simp only [Go.Proofs.Ytfhncnhkeodngaa.flat, List.flatMap_cons] at this ⊢
    rw [this, h a List.mem_cons_self]; rfl
theorem opensT_int {T : TypeId} (ht : Try.prog.underlying T = some (.int .i64)) : OpensT enc w sp held T fun x => ∃ n, x = tInt n ∧ I64 n := by
  intro n v y h
  obtain ⟨a, rfl, h2⟩ := opens_int ht n v y h
  exact ⟨rfl, _, ⟨a, rfl, h2⟩, rfl, .int _ _⟩
theorem opensT_slice {T e : TypeId} {Q : Go.Proofs.Ytfhncnhkeodngaa.T → Prop} (ht : Try.prog.underlying T = some (.slice e)) (hc : Try.prog.cellsOf e = 1) (hE : OpensT enc w sp held e Q) :
    OpensT enc w sp held T fun x => ∃ l, x = .list l ∧ ∀ y ∈ l, Q y := by
  intro n v y h
  rcases open_slice1 ht hc h with ⟨hcs, _⟩ | ⟨a, len, cap, m, n', V, D, Pl, hcs, _, hl, hcap, hm, _, hx⟩
  · obtain rfl : v = .slice none 0 0 := by simpa using hcs
    exact ⟨rfl, _, ⟨[], rfl, fun y hy => by simp at hy⟩, rfl, .list [] none 0 1 (fun _ => undef) (Nat.zero_le _) Nat.one_pos (fun x hx => by simp at hx) (fun h => (h rfl).elim) (fun k hk => by simp at hk) (fun k y hy => by simp [Go.Proofs.Ytfhncnhkeodngaa.flat] at hy) (Nat.le_refl _)⟩
  · obtain rfl : v = .slice (some a) len cap := by simpa using hcs
    have hlm : len ≤ m := by rw [hm]; split <;> omega
    have hall : ∀ i, i < len → (V i).oneCell' = true ∧ ∃ b, Q b ∧ b.cells = [b] ∧ RepT (· < w.heap.size) w b (V i) := fun i hi => hE _ _ _ (hx i (by omega)).2
    have key : ∀ k, k ≤ len → ∃ l : List Go.Proofs.Ytfhncnhkeodngaa.T, l.length = k ∧ ∀ i (hi : i < l.length), Q l[i] ∧ l[i].cells = [l[i]] ∧ RepT (· < w.heap.size) w l[i] (V i) := by
      intro k
      induction k with
      | zero => intro _; exact ⟨[], rfl, fun i hi => absurd hi (by simp)⟩
      | succ k ih =>
        intro hk
        obtain ⟨l, hl1, hl2⟩ := ih (by omega)
        obtain ⟨_, b, hb⟩ := hall k (by omega)
        refine ⟨l ++ [b], by simp [hl1], fun i hi => ?_⟩
        rw [List.getElem_append]
        split
        · exact hl2 i ‹_›
        · obtain rfl : i = k := by simp at hi; omega
          simpa using hb
    obtain ⟨l, hl1, hl2⟩ := key len (Nat.le_refl _)
    subst hl1
    have hcells : ∀ x ∈ l, x.cells = [x] := fun x hx => by obtain ⟨i, hi, rfl⟩ := List.mem_iff_getElem.1 hx; exact (hl2 i hi).2.1
    have hfl := flat_cells hcells
    refine ⟨rfl, _, ⟨l, rfl, fun y hy => by obtain ⟨i, hi, rfl⟩ := List.mem_iff_getElem.1 hy; exact (hl2 i hi).1⟩, rfl, ?_⟩
    refine .list l (some a) cap 1 V (by simp only [maxLen] at hcap ⊢; omega) Nat.one_pos (fun x hx => by rw [hcells x hx]; rfl) (fun hne => ?_) (fun k hk => (hall k (by omega)).1) (fun k y hy => ?_) (by omega)
    · obtain ⟨b, off, spot⟩ := a
      have hpos : 0 < l.length := List.length_pos_iff.2 hne
      have hc1 := (hx 0 (by omega)).1
      have hspot : spot = none := by simpa [Addr.add] using World.cell?_spot hc1
      subst hspot
      have hadd : ∀ i, (⟨b, off, none⟩ : Addr).add i = ⟨b, off + i, none⟩ := fun i => by unfold Addr.add; split <;> simp_all
      refine ⟨b, off, rfl, ?_, fun k hk => ?_⟩
      · rw [hadd] at hc1; exact cell_lt hc1
      · have := (hx k (by omega)).1
        rw [hadd] at this; exact this
    · rw [hfl] at hy
      obtain ⟨hk, rfl⟩ := List.getElem?_eq_some_iff.1 hy
      exact (hl2 k hk).2.2
theorem allMap {α : Type} {f : α → Go.Proofs.Ytfhncnhkeodngaa.T} {Q : α → Prop} : ∀ {l : List Go.Proofs.Ytfhncnhkeodngaa.T}, (∀ y ∈ l, ∃ a, y = f a ∧ Q a) → ∃ q : List α, l = q.map f ∧ ∀ a ∈ q, Q a
  | [], _ => ⟨[], rfl, fun a ha => by simp at ha⟩
  | x :: t, h => by
    obtain ⟨a, rfl, ha⟩ := h x List.mem_cons_self
    obtain ⟨q, rfl, hq⟩ := allMap fun y hy => h y (List.mem_cons_of_mem _ hy)
    exact ⟨a :: q, rfl, fun b hb => by
      rcases List.mem_cons.1 hb with rfl | hb
      · exact ha
      · exact hq b hb⟩
theorem opensT_ints {T : TypeId} (h : OpensT enc w sp held T fun x => ∃ l, x = .list l ∧ ∀ y ∈ l, ∃ n, y = tInt n ∧ I64 n) : OpensT enc w sp held T fun x => ∃ l, x = tInts l ∧ I64s l := fun n v y hy => by
  obtain ⟨h1, x, ⟨l, rfl, hl⟩, h2, h3⟩ := h n v y hy
  obtain ⟨q, rfl, hq⟩ := allMap hl
  exact ⟨h1, _, ⟨q, rfl, hq⟩, rfl, h3⟩
theorem opensIntsT : OpensT enc w sp held 24 fun x => ∃ l, x = tInts l ∧ I64s l := opensT_ints (opensT_slice Try.underlying24 (by kernel_rfl) (opensT_int Try.underlying3))
/-- An argument that reads as a list of numbers. -/
def ReadsInts (w : World) (v : Value) (l : List Int) : Prop := I64s l ∧ RepT (· < w.heap.size) w (tInts l) v
theorem openIntsT {v : Value} (hv : v.cells = #[v]) {d : DataW H} {p : List MemPlace} (hd : DataW.Trod enc Try.prog w 0 sp held 24 v d p) : ∃ l, ReadsInts w v l := by
  obtain ⟨n, hn⟩ := hd
  rw [hv] at hn
  obtain ⟨_, x, ⟨l, rfl, hl⟩, _, h3⟩ := opensIntsT n v _ hn
  exact ⟨l, hl, h3⟩
end
theorem walkN {P : Program} {G : World → Prop} {f : Nat} {xs : List T} {w : World} {vs : Array Value} (h : Snd P G f xs (.bool true)) (hG : G w) (hl : vs.size = xs.length) (hx : ∀ (k : Nat) (y : T) (v : Value), xs[k]? = some y → vs[k]? = some v → RepT (· < w.heap.size) w y v) : Calls P f vs w (Ret (.bool true) w) :=
  (h.calls (· < w.heap.size) w vs hG hl hx).mono fun e w' hq => by obtain ⟨u, h1, h2, h3⟩ := hq; cases h2; exact ⟨h1, h3⟩
end Go.Proofs.Ytfhncnhkeodngaa
namespace Go.Proofs.Ytfhncnhkeodngaa
open Go.RowKit

section
variable {base : Int} {coefs : List Int} {c : Int} {n : Nat}
/-- It holds of a word's numbers just if the sum comes to that. -/
theorem line_means (g : LineOk base coefs c n) (less : Bool) {w : List Int} (hN : numsErr base coefs.length w = 0) :
    holdsErr coefs c (numsOf base coefs.length w) = 0 ∧ holdsOf coefs c less (numsOf base coefs.length w) = lnEnd less c (lnRun base (addL base coefs) (w.map Int.toNat)) := by
  obtain ⟨_, hl, hj⟩ := nums_get hN
  have hs := g.sz
  have hc := g.c60
  have ht := g.t5
  have h1 : ¬ (5 < coefs.length ∨ 12 < sizeA coefs ∨ c < -60 ∨ 60 < c) := by omega
  have e : holdsErr coefs c (numsOf base coefs.length w) = 0 := nums_fine h1 hl fun j hjl => by
    have h2 := hj j (by omega)
    rw [getD_lt hjl] at h2
    omega
  refine ⟨e, ?_⟩
  have hv : sumV coefs c (numsOf base coefs.length w) = c + (lnRun base (addL base coefs) (w.map Int.toNat)).1 := by
    unfold sumV
    rw [lnRun_nums]
    congr 1
    exact dotN_ext coefs _ fun j hjl => (hj j hjl).1
  unfold holdsOf
  rw [e, hv]
  unfold lnEnd
  have q1 : (c + (lnRun base (addL base coefs) (w.map Int.toNat)).1 + 0 < 0) ↔ ((lnRun base (addL base coefs) (w.map Int.toNat)).1 + c < 0) := by omega
  have q2 : (c + (lnRun base (addL base coefs) (w.map Int.toNat)).1 + 0 = 0) ↔ ((lnRun base (addL base coefs) (w.map Int.toNat)).1 + c = 0) := by omega
  simp only [decide_true, Bool.true_and, q1, q2]
theorem line_word (g : LineOk base coefs c n) {less : Bool} {m : GAuto} {ms : Nat} (gm : Good m n ms) (hm : IsLeast m n base coefs.length (lineL base coefs c less)) {w : List Int} (hN : splitErr base coefs.length w = 0) :
    runErr m w = 0 ∧ takesOf m w = (lnEnd less c (lnRun base (addL base coefs) (w.map Int.toNat)) && rightWd base coefs.length (w.map Int.toNat)) := by
  obtain ⟨_, h60, hl, _⟩ := split_zero hN
  have hr : w.length ≤ 400 ∧ ∀ l ∈ w, 0 ≤ l ∧ l < (n : Int) := ⟨by omega, fun l hlw => by have := hl l hlw; have := g.n_eq; omega⟩
  refine ⟨(runErr_good gm w).2 hr, ?_⟩
  rw [takes_lng' gm hr, hm.lng (ltr_toNat' hr.2)]
  rfl
end
theorem holdsErr_zero {coefs : List Int} {c : Int} {nums : List Int} (h : holdsErr coefs c nums = 0) : nums.length = coefs.length ∧ ∀ x ∈ nums, 0 ≤ x ∧ x ≤ 1099511627776 := by
  unfold holdsErr at h
  split at h
  · omega
  · split at h
    · omega
    · split at h
      · omega
      · rename_i h1 h2 h3
        refine ⟨by omega, fun x hx => ?_⟩
        have h3 : nums.all (fun n => decide (0 ≤ n ∧ n ≤ 1099511627776)) = true := by simpa using h3
        simpa using List.all_eq_true.1 h3 x hx
section
variable {G : World → Prop} (hG : Lasting G)
include hG
set_option maxHeartbeats 8000000 in
set_option maxRecDepth 100000 in
theorem LineMeans_snd (base : Int) (coefs : List Int) (c : Int) (less : Bool) (nums w : List Int) (hw : I64s w) : Snd Try.prog G 6 [tInt base, tInts coefs, tInt c, .bool less, tInts nums, tInts w] (.bool true) := by
  have cF := LOf_snd hG 2 [1, 1, -1] 0 false
  rw [plus_of.1, plus_of.2] at cF
  have hpl : plusN.length = 3 := rfl
  generalize plusN = pn at *
  generalize plusE = pe at *
  have cO := LOf_snd hG base coefs c less
  have cH := Holds_snd hG coefs c less nums
  have cW := Word_snd hG base nums
  refine snd_of_body (n := 133) (tm := [(0, .t (tInt base)), (1, .t (tInts coefs)), (2, .t (tInt c)), (3, .t (.bool less)), (4, .t (tInts nums)), (5, .t (tInts w))]) (rs := [.tmp 12]) tt_ok Try.func6 rfl rfl rfl rfl rfl ?_
  have htb := Tab.cons cF Tab.nil
  repeat' (first | (with_reducible first | refine SW_seq ?_ | refine SW_block ?_ | refine SThen_n ?_ | refine SThen_r ?_ | refine SThen_e ?_ | refine SIn_n ?_ | refine SIn_r ?_ | refine SIn_eq ?_ | refine SW_skip ?_ | refine SW_exit ?_ | refine SW_ret ?_ | refine SPost_r ?_) | ((with_reducible refine SIn_ne ?_ ?_); focus decide) | ((with_reducible refine SW_true ?_ ?_); focus exact rfl) | ((with_reducible refine SW_false ?_ ?_); focus exact rfl) | ((first | (with_reducible apply SW_run tt_ok hG htb) | ((with_reducible apply SW_draw rfl tt_ok hG htb); (focus kernel_rfl); (focus (simp only [List.range, List.range.loop, List.size_toArray, List.length_cons, List.length_nil, Nat.reduceAdd])))); focus ((repeat' (first | (with_reducible exact runX_nil) | (with_reducible exact runI_nil) | ((first | (with_reducible apply runX_cons) | (with_reducible apply runI_cons)); focus (simp (discharger := omega) only [go_sem, tAuto, tErr0, hpl, ↓reduceIte, reduceIte, Nat.reduceEqDiff, Nat.reduceLT, Nat.reduceLeDiff, Nat.reduceAdd, Nat.reduceSub, Nat.reduceMul, Nat.reduceDiv, Nat.reduceMod, Nat.reduceBEq, Int.reduceEq, Int.reduceLT, Int.reduceLE, Int.reduceNeg, Int.reduceToNat, reduceCtorEq]; with_reducible rfl)))); done)))
  clear htb
  by_cases he : lineErr base coefs c less = 0
  · rw [he] at cO
    obtain ⟨n, g, _, _, _, hm, h80, gm⟩ := lineOf_ok he
    generalize lineOf base coefs c less = m at *
    have cT := Takes_snd hG m w
    have htb := Tab.cons cO Tab.nil
    repeat' (first | (with_reducible first | refine SW_seq ?_ | refine SW_block ?_ | refine SThen_n ?_ | refine SThen_r ?_ | refine SThen_e ?_ | refine SIn_n ?_ | refine SIn_r ?_ | refine SIn_eq ?_ | refine SW_skip ?_ | refine SW_exit ?_ | refine SW_ret ?_ | refine SPost_r ?_) | ((with_reducible refine SIn_ne ?_ ?_); focus decide) | ((with_reducible refine SW_true ?_ ?_); focus exact rfl) | ((with_reducible refine SW_false ?_ ?_); focus exact rfl) | ((first | (with_reducible apply SW_run tt_ok hG htb) | ((with_reducible apply SW_draw rfl tt_ok hG htb); (focus kernel_rfl); (focus (simp only [List.range, List.range.loop, List.size_toArray, List.length_cons, List.length_nil, Nat.reduceAdd])))); focus ((repeat' (first | (with_reducible exact runX_nil) | (with_reducible exact runI_nil) | ((first | (with_reducible apply runX_cons) | (with_reducible apply runI_cons)); focus (simp (discharger := omega) only [go_sem, tAuto, tErr0, ↓reduceIte, reduceIte, Nat.reduceEqDiff, Nat.reduceLT, Nat.reduceLeDiff, Nat.reduceAdd, Nat.reduceSub, Nat.reduceMul, Nat.reduceDiv, Nat.reduceMod, Nat.reduceBEq, Int.reduceEq, Int.reduceLT, Int.reduceLE, Int.reduceNeg, Int.reduceToNat, reduceCtorEq]; with_reducible rfl)))); done)))
    clear htb
    have htb := Tab.cons cH (Tab.cons cW Tab.nil)
    repeat' (first | (with_reducible first | refine SW_seq ?_ | refine SW_block ?_ | refine SThen_n ?_ | refine SThen_r ?_ | refine SThen_e ?_ | refine SIn_n ?_ | refine SIn_r ?_ | refine SIn_eq ?_ | refine SW_skip ?_ | refine SW_exit ?_ | refine SW_ret ?_ | refine SPost_r ?_) | ((with_reducible refine SIn_ne ?_ ?_); focus decide) | ((with_reducible refine SW_true ?_ ?_); focus exact rfl) | ((with_reducible refine SW_false ?_ ?_); focus exact rfl) | ((first | (with_reducible apply SW_run tt_ok hG htb) | ((with_reducible apply SW_draw rfl tt_ok hG htb); (focus kernel_rfl); (focus (simp only [List.range, List.range.loop, List.size_toArray, List.length_cons, List.length_nil, Nat.reduceAdd])))); focus ((repeat' (first | (with_reducible exact runX_nil) | (with_reducible exact runI_nil) | ((first | (with_reducible apply runX_cons) | (with_reducible apply runI_cons)); focus (simp (discharger := omega) only [go_sem, tAuto, tErr0, tErr_flat, ↓reduceIte, reduceIte, Nat.reduceEqDiff, Nat.reduceLT, Nat.reduceLeDiff, Nat.reduceAdd, Nat.reduceSub, Nat.reduceMul, Nat.reduceDiv, Nat.reduceMod, Nat.reduceBEq, Int.reduceEq, Int.reduceLT, Int.reduceLE, Int.reduceNeg, Int.reduceToNat, reduceCtorEq]; with_reducible rfl)))); done)))
    clear htb
    refine SW_meet2 ⟨133, [(0, .t (tInt base)), (1, .t (tInts coefs)), (2, .t (tInt c)), (3, .t (.bool less)), (5, .t (tInts w)), (15, .bptr 0 0)], [.box [.t (tInt m.base), .t (tInt m.tracks), .t (tIntss m.next), .t (tBools m.ends)]]⟩ Weak.sw ?_ ?_
    · by_cases hh : holdsErr coefs c nums = 0
      · obtain ⟨k1, k2⟩ := holdsErr_zero hh
        have hwe : wordErr base nums = 0 := wordErr_ok (by rw [k1]; exact g.many) k2
        obtain ⟨b1, b2, b3, b4, _, _⟩ := word_back hwe (wordL_is base nums)
        rw [k1] at b1 b2 b3 b4
        obtain ⟨l1, l2⟩ := line_means g less b1
        obtain ⟨l3, l4⟩ := line_word g gm hm (nums_get b1).1
        obtain ⟨_, l5⟩ := rightW_get b3
        rw [b2] at l1 l2
        rw [b4] at l5
        rw [← l5, Bool.and_true, ← l2] at l4
        have cT1 := Takes_snd hG m (wordL base nums)
        rw [l3, l4] at cT1
        rw [hwe, hh]
        generalize holdsOf coefs c less nums = is at *
        generalize wordL base nums = wd at *
        have htb := Tab.cons cT1 Tab.nil
        repeat' (first | (with_reducible first | refine SW_seq ?_ | refine SW_block ?_ | refine SThen_n ?_ | refine SThen_r ?_ | refine SThen_e ?_ | refine SIn_n ?_ | refine SIn_r ?_ | refine SIn_eq ?_ | refine SW_skip ?_ | refine SW_exit ?_ | refine SW_ret ?_ | refine SPost_r ?_) | ((with_reducible refine SIn_ne ?_ ?_); focus decide) | ((with_reducible refine SW_true ?_ ?_); focus exact rfl) | ((with_reducible refine SW_false ?_ ?_); focus exact rfl) | ((first | (with_reducible apply SW_run tt_ok hG htb) | ((with_reducible apply SW_draw rfl tt_ok hG htb); (focus kernel_rfl); (focus (simp only [List.range, List.range.loop, List.size_toArray, List.length_cons, List.length_nil, Nat.reduceAdd])))); focus ((repeat' (first | (with_reducible exact runX_nil) | (with_reducible exact runI_nil) | ((first | (with_reducible apply runX_cons) | (with_reducible apply runI_cons)); focus (simp (discharger := omega) only [go_sem, tAuto, tErr0, bne_self_eq_false, ↓reduceIte, reduceIte, Nat.reduceEqDiff, Nat.reduceLT, Nat.reduceLeDiff, Nat.reduceAdd, Nat.reduceSub, Nat.reduceMul, Nat.reduceDiv, Nat.reduceMod, Nat.reduceBEq, Int.reduceEq, Int.reduceLT, Int.reduceLE, Int.reduceNeg, Int.reduceToNat, reduceCtorEq]; with_reducible rfl)))); done)))
        exact Meet.h ⟨_, Norm.headS (own := []) (keep := [0, 1, 2, 3, 5, 15]) (by simp (discharger := omega) only [go_sem, ↓reduceIte, reduceIte, Nat.reduceEqDiff, Nat.reduceLT, Nat.reduceLeDiff, Nat.reduceAdd, Nat.reduceSub, Nat.reduceMul, Nat.reduceDiv, Nat.reduceMod, Nat.reduceBEq, Int.reduceEq, Int.reduceLT, Int.reduceLE, Int.reduceNeg, Int.reduceToNat, reduceCtorEq]; with_reducible rfl) (by simp only [go_sem, ↓reduceIte, reduceIte, Nat.reduceEqDiff, Nat.reduceLT, Nat.reduceLeDiff, Nat.reduceAdd, Nat.reduceSub, Nat.reduceMul, Nat.reduceDiv, Nat.reduceMod, Nat.reduceBEq, Int.reduceEq, Int.reduceLT, Int.reduceLE, Int.reduceNeg, Int.reduceToNat, reduceCtorEq]; with_reducible rfl) (by simp only [go_sem, ↓reduceIte, reduceIte, Nat.reduceEqDiff, Nat.reduceLT, Nat.reduceLeDiff, Nat.reduceAdd, Nat.reduceSub, Nat.reduceMul, Nat.reduceDiv, Nat.reduceMod, Nat.reduceBEq, Int.reduceEq, Int.reduceLT, Int.reduceLE, Int.reduceNeg, Int.reduceToNat, reduceCtorEq]; with_reducible rfl) (by simp only [go_sem, ↓reduceIte, reduceIte, Nat.reduceEqDiff, Nat.reduceLT, Nat.reduceLeDiff, Nat.reduceAdd, Nat.reduceSub, Nat.reduceMul, Nat.reduceDiv, Nat.reduceMod, Nat.reduceBEq, Int.reduceEq, Int.reduceLT, Int.reduceLE, Int.reduceNeg, Int.reduceToNat, reduceCtorEq]; with_reducible rfl) (by simp only [go_sem, ↓reduceIte, reduceIte, Nat.reduceEqDiff, Nat.reduceLT, Nat.reduceLeDiff, Nat.reduceAdd, Nat.reduceSub, Nat.reduceMul, Nat.reduceDiv, Nat.reduceMod, Nat.reduceBEq, Int.reduceEq, Int.reduceLT, Int.reduceLE, Int.reduceNeg, Int.reduceToNat, reduceCtorEq]; with_reducible rfl), rfl⟩
      · generalize holdsErr coefs c nums = f at *
        have htb : Tab.ok Try.prog G [] := Tab.nil
        repeat' (first | (with_reducible first | refine SW_seq ?_ | refine SW_block ?_ | refine SThen_n ?_ | refine SThen_r ?_ | refine SThen_e ?_ | refine SIn_n ?_ | refine SIn_r ?_ | refine SIn_eq ?_ | refine SW_skip ?_ | refine SW_exit ?_ | refine SW_ret ?_ | refine SPost_r ?_) | ((with_reducible refine SIn_ne ?_ ?_); focus decide) | ((with_reducible refine SW_true ?_ ?_); focus exact rfl) | ((with_reducible refine SW_false ?_ ?_); focus exact rfl) | ((first | (with_reducible apply SW_run tt_ok hG htb) | ((with_reducible apply SW_draw rfl tt_ok hG htb); (focus kernel_rfl); (focus (simp only [List.range, List.range.loop, List.size_toArray, List.length_cons, List.length_nil, Nat.reduceAdd])))); focus ((repeat' (first | (with_reducible exact runX_nil) | (with_reducible exact runI_nil) | ((first | (with_reducible apply runX_cons) | (with_reducible apply runI_cons)); focus (simp (discharger := omega) only [go_sem, tAuto, tErr, hh, ↓reduceIte, reduceIte, Nat.reduceEqDiff, Nat.reduceLT, Nat.reduceLeDiff, Nat.reduceAdd, Nat.reduceSub, Nat.reduceMul, Nat.reduceDiv, Nat.reduceMod, Nat.reduceBEq, Int.reduceEq, Int.reduceLT, Int.reduceLE, Int.reduceNeg, Int.reduceToNat, reduceCtorEq]; with_reducible rfl)))); done)))
        exact Meet.h ⟨_, Norm.headS (own := []) (keep := [0, 1, 2, 3, 5, 15]) (by simp (discharger := omega) only [go_sem, ↓reduceIte, reduceIte, Nat.reduceEqDiff, Nat.reduceLT, Nat.reduceLeDiff, Nat.reduceAdd, Nat.reduceSub, Nat.reduceMul, Nat.reduceDiv, Nat.reduceMod, Nat.reduceBEq, Int.reduceEq, Int.reduceLT, Int.reduceLE, Int.reduceNeg, Int.reduceToNat, reduceCtorEq]; with_reducible rfl) (by simp only [go_sem, ↓reduceIte, reduceIte, Nat.reduceEqDiff, Nat.reduceLT, Nat.reduceLeDiff, Nat.reduceAdd, Nat.reduceSub, Nat.reduceMul, Nat.reduceDiv, Nat.reduceMod, Nat.reduceBEq, Int.reduceEq, Int.reduceLT, Int.reduceLE, Int.reduceNeg, Int.reduceToNat, reduceCtorEq]; with_reducible rfl) (by simp only [go_sem, ↓reduceIte, reduceIte, Nat.reduceEqDiff, Nat.reduceLT, Nat.reduceLeDiff, Nat.reduceAdd, Nat.reduceSub, Nat.reduceMul, Nat.reduceDiv, Nat.reduceMod, Nat.reduceBEq, Int.reduceEq, Int.reduceLT, Int.reduceLE, Int.reduceNeg, Int.reduceToNat, reduceCtorEq]; with_reducible rfl) (by simp only [go_sem, ↓reduceIte, reduceIte, Nat.reduceEqDiff, Nat.reduceLT, Nat.reduceLeDiff, Nat.reduceAdd, Nat.reduceSub, Nat.reduceMul, Nat.reduceDiv, Nat.reduceMod, Nat.reduceBEq, Int.reduceEq, Int.reduceLT, Int.reduceLE, Int.reduceNeg, Int.reduceToNat, reduceCtorEq]; with_reducible rfl) (by simp only [go_sem, ↓reduceIte, reduceIte, Nat.reduceEqDiff, Nat.reduceLT, Nat.reduceLeDiff, Nat.reduceAdd, Nat.reduceSub, Nat.reduceMul, Nat.reduceDiv, Nat.reduceMod, Nat.reduceBEq, Int.reduceEq, Int.reduceLT, Int.reduceLE, Int.reduceNeg, Int.reduceToNat, reduceCtorEq]; with_reducible rfl), rfl⟩
    · clear cH cW cF
      have cN := Nums_snd hG base coefs.length w hw
      have cR := LRight_snd (G := G) base coefs.length w hw
      by_cases f2 : numsErr base coefs.length w = 0
      · by_cases f3 : rightWErr base coefs.length w = 0
        · obtain ⟨l1, l2⟩ := line_means g less f2
          obtain ⟨l3, l4⟩ := line_word g gm hm (nums_get f2).1
          obtain ⟨_, l5⟩ := rightW_get f3
          have cH := Holds_snd hG coefs c less (numsOf base coefs.length w)
          rw [l1, l2] at cH
          rw [l3, l4] at cT
          rw [f3, l5] at cR
          rw [f2] at cN
          generalize numsOf base coefs.length w = nw at *
          generalize lnEnd less c (lnRun base (addL base coefs) (w.map Int.toNat)) = x at *
          generalize rightWd base coefs.length (w.map Int.toNat) = y at *
          have htb := Tab.cons cT (Tab.cons cN (Tab.cons cR (Tab.cons cH Tab.nil)))
          cases x <;> cases y
          · repeat' (first | (with_reducible first | refine SW_seq ?_ | refine SW_block ?_ | refine SThen_n ?_ | refine SThen_r ?_ | refine SThen_e ?_ | refine SIn_n ?_ | refine SIn_r ?_ | refine SIn_eq ?_ | refine SW_skip ?_ | refine SW_exit ?_ | refine SW_ret ?_ | refine SPost_r ?_) | ((with_reducible refine SIn_ne ?_ ?_); focus decide) | ((with_reducible refine SW_true ?_ ?_); focus exact rfl) | ((with_reducible refine SW_false ?_ ?_); focus exact rfl) | ((first | (with_reducible apply SW_run tt_ok hG htb) | ((with_reducible apply SW_draw rfl tt_ok hG htb); (focus kernel_rfl); (focus (simp only [List.range, List.range.loop, List.size_toArray, List.length_cons, List.length_nil, Nat.reduceAdd])))); focus ((repeat' (first | (with_reducible exact runX_nil) | (with_reducible exact runI_nil) | ((first | (with_reducible apply runX_cons) | (with_reducible apply runI_cons)); focus (simp (discharger := omega) only [go_sem, tAuto, tErr0, ↓reduceIte, reduceIte, Nat.reduceEqDiff, Nat.reduceLT, Nat.reduceLeDiff, Nat.reduceAdd, Nat.reduceSub, Nat.reduceMul, Nat.reduceDiv, Nat.reduceMod, Nat.reduceBEq, Int.reduceEq, Int.reduceLT, Int.reduceLE, Int.reduceNeg, Int.reduceToNat, reduceCtorEq]; with_reducible rfl)))); done)))
            exact (by simp (discharger := omega) only [go_sem, ↓reduceIte, reduceIte, Nat.reduceEqDiff, Nat.reduceLT, Nat.reduceLeDiff, Nat.reduceAdd, Nat.reduceSub, Nat.reduceMul, Nat.reduceDiv, Nat.reduceMod, Nat.reduceBEq, Int.reduceEq, Int.reduceLT, Int.reduceLE, Int.reduceNeg, Int.reduceToNat, reduceCtorEq])
          · repeat' (first | (with_reducible first | refine SW_seq ?_ | refine SW_block ?_ | refine SThen_n ?_ | refine SThen_r ?_ | refine SThen_e ?_ | refine SIn_n ?_ | refine SIn_r ?_ | refine SIn_eq ?_ | refine SW_skip ?_ | refine SW_exit ?_ | refine SW_ret ?_ | refine SPost_r ?_) | ((with_reducible refine SIn_ne ?_ ?_); focus decide) | ((with_reducible refine SW_true ?_ ?_); focus exact rfl) | ((with_reducible refine SW_false ?_ ?_); focus exact rfl) | ((first | (with_reducible apply SW_run tt_ok hG htb) | ((with_reducible apply SW_draw rfl tt_ok hG htb); (focus kernel_rfl); (focus (simp only [List.range, List.range.loop, List.size_toArray, List.length_cons, List.length_nil, Nat.reduceAdd])))); focus ((repeat' (first | (with_reducible exact runX_nil) | (with_reducible exact runI_nil) | ((first | (with_reducible apply runX_cons) | (with_reducible apply runI_cons)); focus (simp (discharger := omega) only [go_sem, tAuto, tErr0, ↓reduceIte, reduceIte, Nat.reduceEqDiff, Nat.reduceLT, Nat.reduceLeDiff, Nat.reduceAdd, Nat.reduceSub, Nat.reduceMul, Nat.reduceDiv, Nat.reduceMod, Nat.reduceBEq, Int.reduceEq, Int.reduceLT, Int.reduceLE, Int.reduceNeg, Int.reduceToNat, reduceCtorEq]; with_reducible rfl)))); done)))
            exact (by simp (discharger := omega) only [go_sem, ↓reduceIte, reduceIte, Nat.reduceEqDiff, Nat.reduceLT, Nat.reduceLeDiff, Nat.reduceAdd, Nat.reduceSub, Nat.reduceMul, Nat.reduceDiv, Nat.reduceMod, Nat.reduceBEq, Int.reduceEq, Int.reduceLT, Int.reduceLE, Int.reduceNeg, Int.reduceToNat, reduceCtorEq])
          · repeat' (first | (with_reducible first | refine SW_seq ?_ | refine SW_block ?_ | refine SThen_n ?_ | refine SThen_r ?_ | refine SThen_e ?_ | refine SIn_n ?_ | refine SIn_r ?_ | refine SIn_eq ?_ | refine SW_skip ?_ | refine SW_exit ?_ | refine SW_ret ?_ | refine SPost_r ?_) | ((with_reducible refine SIn_ne ?_ ?_); focus decide) | ((with_reducible refine SW_true ?_ ?_); focus exact rfl) | ((with_reducible refine SW_false ?_ ?_); focus exact rfl) | ((first | (with_reducible apply SW_run tt_ok hG htb) | ((with_reducible apply SW_draw rfl tt_ok hG htb); (focus kernel_rfl); (focus (simp only [List.range, List.range.loop, List.size_toArray, List.length_cons, List.length_nil, Nat.reduceAdd])))); focus ((repeat' (first | (with_reducible exact runX_nil) | (with_reducible exact runI_nil) | ((first | (with_reducible apply runX_cons) | (with_reducible apply runI_cons)); focus (simp (discharger := omega) only [go_sem, tAuto, tErr0, ↓reduceIte, reduceIte, Nat.reduceEqDiff, Nat.reduceLT, Nat.reduceLeDiff, Nat.reduceAdd, Nat.reduceSub, Nat.reduceMul, Nat.reduceDiv, Nat.reduceMod, Nat.reduceBEq, Int.reduceEq, Int.reduceLT, Int.reduceLE, Int.reduceNeg, Int.reduceToNat, reduceCtorEq]; with_reducible rfl)))); done)))
            exact (by simp (discharger := omega) only [go_sem, ↓reduceIte, reduceIte, Nat.reduceEqDiff, Nat.reduceLT, Nat.reduceLeDiff, Nat.reduceAdd, Nat.reduceSub, Nat.reduceMul, Nat.reduceDiv, Nat.reduceMod, Nat.reduceBEq, Int.reduceEq, Int.reduceLT, Int.reduceLE, Int.reduceNeg, Int.reduceToNat, reduceCtorEq])
          · repeat' (first | (with_reducible first | refine SW_seq ?_ | refine SW_block ?_ | refine SThen_n ?_ | refine SThen_r ?_ | refine SThen_e ?_ | refine SIn_n ?_ | refine SIn_r ?_ | refine SIn_eq ?_ | refine SW_skip ?_ | refine SW_exit ?_ | refine SW_ret ?_ | refine SPost_r ?_) | ((with_reducible refine SIn_ne ?_ ?_); focus decide) | ((with_reducible refine SW_true ?_ ?_); focus exact rfl) | ((with_reducible refine SW_false ?_ ?_); focus exact rfl) | ((first | (with_reducible apply SW_run tt_ok hG htb) | ((with_reducible apply SW_draw rfl tt_ok hG htb); (focus kernel_rfl); (focus (simp only [List.range, List.range.loop, List.size_toArray, List.length_cons, List.length_nil, Nat.reduceAdd])))); focus ((repeat' (first | (with_reducible exact runX_nil) | (with_reducible exact runI_nil) | ((first | (with_reducible apply runX_cons) | (with_reducible apply runI_cons)); focus (simp (discharger := omega) only [go_sem, tAuto, tErr0, ↓reduceIte, reduceIte, Nat.reduceEqDiff, Nat.reduceLT, Nat.reduceLeDiff, Nat.reduceAdd, Nat.reduceSub, Nat.reduceMul, Nat.reduceDiv, Nat.reduceMod, Nat.reduceBEq, Int.reduceEq, Int.reduceLT, Int.reduceLE, Int.reduceNeg, Int.reduceToNat, reduceCtorEq]; with_reducible rfl)))); done)))
            exact (by simp (discharger := omega) only [go_sem, ↓reduceIte, reduceIte, Nat.reduceEqDiff, Nat.reduceLT, Nat.reduceLeDiff, Nat.reduceAdd, Nat.reduceSub, Nat.reduceMul, Nat.reduceDiv, Nat.reduceMod, Nat.reduceBEq, Int.reduceEq, Int.reduceLT, Int.reduceLE, Int.reduceNeg, Int.reduceToNat, reduceCtorEq])
        · rw [f2] at cN
          generalize numsOf base coefs.length w = nw at *
          generalize rightWRes base coefs.length w = ok at *
          generalize rightWErr base coefs.length w = e3 at *
          generalize takesOf m w = tk at *
          generalize runErr m w = e1 at *
          by_cases f1 : e1 = 0
          · subst f1
            have htb := Tab.cons cT (Tab.cons cN Tab.nil)
            repeat' (first | (with_reducible first | refine SW_seq ?_ | refine SW_block ?_ | refine SThen_n ?_ | refine SThen_r ?_ | refine SThen_e ?_ | refine SIn_n ?_ | refine SIn_r ?_ | refine SIn_eq ?_ | refine SW_skip ?_ | refine SW_exit ?_ | refine SW_ret ?_ | refine SPost_r ?_) | ((with_reducible refine SIn_ne ?_ ?_); focus decide) | ((with_reducible refine SW_true ?_ ?_); focus exact rfl) | ((with_reducible refine SW_false ?_ ?_); focus exact rfl) | ((first | (with_reducible apply SW_run tt_ok hG htb) | ((with_reducible apply SW_draw rfl tt_ok hG htb); (focus kernel_rfl); (focus (simp only [List.range, List.range.loop, List.size_toArray, List.length_cons, List.length_nil, Nat.reduceAdd])))); focus ((repeat' (first | (with_reducible exact runX_nil) | (with_reducible exact runI_nil) | ((first | (with_reducible apply runX_cons) | (with_reducible apply runI_cons)); focus (simp (discharger := omega) only [go_sem, tAuto, tErr0, ↓reduceIte, reduceIte, Nat.reduceEqDiff, Nat.reduceLT, Nat.reduceLeDiff, Nat.reduceAdd, Nat.reduceSub, Nat.reduceMul, Nat.reduceDiv, Nat.reduceMod, Nat.reduceBEq, Int.reduceEq, Int.reduceLT, Int.reduceLE, Int.reduceNeg, Int.reduceToNat, reduceCtorEq]; with_reducible rfl)))); done)))
            clear htb
            have htb := Tab.cons cR Tab.nil
            repeat' (first | (with_reducible first | refine SW_seq ?_ | refine SW_block ?_ | refine SThen_n ?_ | refine SThen_r ?_ | refine SThen_e ?_ | refine SIn_n ?_ | refine SIn_r ?_ | refine SIn_eq ?_ | refine SW_skip ?_ | refine SW_exit ?_ | refine SW_ret ?_ | refine SPost_r ?_) | ((with_reducible refine SIn_ne ?_ ?_); focus decide) | ((with_reducible refine SW_true ?_ ?_); focus exact rfl) | ((with_reducible refine SW_false ?_ ?_); focus exact rfl) | ((first | (with_reducible apply SW_run tt_ok hG htb) | ((with_reducible apply SW_draw rfl tt_ok hG htb); (focus kernel_rfl); (focus (simp only [List.range, List.range.loop, List.size_toArray, List.length_cons, List.length_nil, Nat.reduceAdd])))); focus ((repeat' (first | (with_reducible exact runX_nil) | (with_reducible exact runI_nil) | ((first | (with_reducible apply runX_cons) | (with_reducible apply runI_cons)); focus (simp (discharger := omega) only [go_sem, tAuto, tErr, f3, ↓reduceIte, reduceIte, Nat.reduceEqDiff, Nat.reduceLT, Nat.reduceLeDiff, Nat.reduceAdd, Nat.reduceSub, Nat.reduceMul, Nat.reduceDiv, Nat.reduceMod, Nat.reduceBEq, Int.reduceEq, Int.reduceLT, Int.reduceLE, Int.reduceNeg, Int.reduceToNat, reduceCtorEq]; with_reducible rfl)))); done)))
            exact (by simp (discharger := omega) only [go_sem, ↓reduceIte, reduceIte, Nat.reduceEqDiff, Nat.reduceLT, Nat.reduceLeDiff, Nat.reduceAdd, Nat.reduceSub, Nat.reduceMul, Nat.reduceDiv, Nat.reduceMod, Nat.reduceBEq, Int.reduceEq, Int.reduceLT, Int.reduceLE, Int.reduceNeg, Int.reduceToNat, reduceCtorEq])
          · have htb := Tab.cons cT Tab.nil
            repeat' (first | (with_reducible first | refine SW_seq ?_ | refine SW_block ?_ | refine SThen_n ?_ | refine SThen_r ?_ | refine SThen_e ?_ | refine SIn_n ?_ | refine SIn_r ?_ | refine SIn_eq ?_ | refine SW_skip ?_ | refine SW_exit ?_ | refine SW_ret ?_ | refine SPost_r ?_) | ((with_reducible refine SIn_ne ?_ ?_); focus decide) | ((with_reducible refine SW_true ?_ ?_); focus exact rfl) | ((with_reducible refine SW_false ?_ ?_); focus exact rfl) | ((first | (with_reducible apply SW_run tt_ok hG htb) | ((with_reducible apply SW_draw rfl tt_ok hG htb); (focus kernel_rfl); (focus (simp only [List.range, List.range.loop, List.size_toArray, List.length_cons, List.length_nil, Nat.reduceAdd])))); focus ((repeat' (first | (with_reducible exact runX_nil) | (with_reducible exact runI_nil) | ((first | (with_reducible apply runX_cons) | (with_reducible apply runI_cons)); focus (simp (discharger := omega) only [go_sem, tAuto, tErr, f1, ↓reduceIte, reduceIte, Nat.reduceEqDiff, Nat.reduceLT, Nat.reduceLeDiff, Nat.reduceAdd, Nat.reduceSub, Nat.reduceMul, Nat.reduceDiv, Nat.reduceMod, Nat.reduceBEq, Int.reduceEq, Int.reduceLT, Int.reduceLE, Int.reduceNeg, Int.reduceToNat, reduceCtorEq]; with_reducible rfl)))); done)))
            clear htb
            have htb := Tab.cons cN (Tab.cons cR Tab.nil)
            repeat' (first | (with_reducible first | refine SW_seq ?_ | refine SW_block ?_ | refine SThen_n ?_ | refine SThen_r ?_ | refine SThen_e ?_ | refine SIn_n ?_ | refine SIn_r ?_ | refine SIn_eq ?_ | refine SW_skip ?_ | refine SW_exit ?_ | refine SW_ret ?_ | refine SPost_r ?_) | ((with_reducible refine SIn_ne ?_ ?_); focus decide) | ((with_reducible refine SW_true ?_ ?_); focus exact rfl) | ((with_reducible refine SW_false ?_ ?_); focus exact rfl) | ((first | (with_reducible apply SW_run tt_ok hG htb) | ((with_reducible apply SW_draw rfl tt_ok hG htb); (focus kernel_rfl); (focus (simp only [List.range, List.range.loop, List.size_toArray, List.length_cons, List.length_nil, Nat.reduceAdd])))); focus ((repeat' (first | (with_reducible exact runX_nil) | (with_reducible exact runI_nil) | ((first | (with_reducible apply runX_cons) | (with_reducible apply runI_cons)); focus (simp (discharger := omega) only [go_sem, tAuto, tErr, f1, f3, ↓reduceIte, reduceIte, Nat.reduceEqDiff, Nat.reduceLT, Nat.reduceLeDiff, Nat.reduceAdd, Nat.reduceSub, Nat.reduceMul, Nat.reduceDiv, Nat.reduceMod, Nat.reduceBEq, Int.reduceEq, Int.reduceLT, Int.reduceLE, Int.reduceNeg, Int.reduceToNat, reduceCtorEq]; with_reducible rfl)))); done)))
            exact (by simp (discharger := omega) only [go_sem, ↓reduceIte, reduceIte, Nat.reduceEqDiff, Nat.reduceLT, Nat.reduceLeDiff, Nat.reduceAdd, Nat.reduceSub, Nat.reduceMul, Nat.reduceDiv, Nat.reduceMod, Nat.reduceBEq, Int.reduceEq, Int.reduceLT, Int.reduceLE, Int.reduceNeg, Int.reduceToNat, reduceCtorEq])
      · generalize numsOf base coefs.length w = nw at *
        generalize numsErr base coefs.length w = e2 at *
        generalize rightWRes base coefs.length w = ok at *
        generalize rightWErr base coefs.length w = e3 at *
        generalize takesOf m w = tk at *
        generalize runErr m w = e1 at *
        by_cases f1 : e1 = 0
        · subst f1
          have htb := Tab.cons cT (Tab.cons cN (Tab.cons cR Tab.nil))
          by_cases f3 : e3 = 0
          · repeat' (first | (with_reducible first | refine SW_seq ?_ | refine SW_block ?_ | refine SThen_n ?_ | refine SThen_r ?_ | refine SThen_e ?_ | refine SIn_n ?_ | refine SIn_r ?_ | refine SIn_eq ?_ | refine SW_skip ?_ | refine SW_exit ?_ | refine SW_ret ?_ | refine SPost_r ?_) | ((with_reducible refine SIn_ne ?_ ?_); focus decide) | ((with_reducible refine SW_true ?_ ?_); focus exact rfl) | ((with_reducible refine SW_false ?_ ?_); focus exact rfl) | ((first | (with_reducible apply SW_run tt_ok hG htb) | ((with_reducible apply SW_draw rfl tt_ok hG htb); (focus kernel_rfl); (focus (simp only [List.range, List.range.loop, List.size_toArray, List.length_cons, List.length_nil, Nat.reduceAdd])))); focus ((repeat' (first | (with_reducible exact runX_nil) | (with_reducible exact runI_nil) | ((first | (with_reducible apply runX_cons) | (with_reducible apply runI_cons)); focus (simp (discharger := omega) only [go_sem, tAuto, tErr, f2, f3, ↓reduceIte, reduceIte, Nat.reduceEqDiff, Nat.reduceLT, Nat.reduceLeDiff, Nat.reduceAdd, Nat.reduceSub, Nat.reduceMul, Nat.reduceDiv, Nat.reduceMod, Nat.reduceBEq, Int.reduceEq, Int.reduceLT, Int.reduceLE, Int.reduceNeg, Int.reduceToNat, reduceCtorEq]; with_reducible rfl)))); done)))
            exact (by simp (discharger := omega) only [go_sem, ↓reduceIte, reduceIte, Nat.reduceEqDiff, Nat.reduceLT, Nat.reduceLeDiff, Nat.reduceAdd, Nat.reduceSub, Nat.reduceMul, Nat.reduceDiv, Nat.reduceMod, Nat.reduceBEq, Int.reduceEq, Int.reduceLT, Int.reduceLE, Int.reduceNeg, Int.reduceToNat, reduceCtorEq])
          · repeat' (first | (with_reducible first | refine SW_seq ?_ | refine SW_block ?_ | refine SThen_n ?_ | refine SThen_r ?_ | refine SThen_e ?_ | refine SIn_n ?_ | refine SIn_r ?_ | refine SIn_eq ?_ | refine SW_skip ?_ | refine SW_exit ?_ | refine SW_ret ?_ | refine SPost_r ?_) | ((with_reducible refine SIn_ne ?_ ?_); focus decide) | ((with_reducible refine SW_true ?_ ?_); focus exact rfl) | ((with_reducible refine SW_false ?_ ?_); focus exact rfl) | ((first | (with_reducible apply SW_run tt_ok hG htb) | ((with_reducible apply SW_draw rfl tt_ok hG htb); (focus kernel_rfl); (focus (simp only [List.range, List.range.loop, List.size_toArray, List.length_cons, List.length_nil, Nat.reduceAdd])))); focus ((repeat' (first | (with_reducible exact runX_nil) | (with_reducible exact runI_nil) | ((first | (with_reducible apply runX_cons) | (with_reducible apply runI_cons)); focus (simp (discharger := omega) only [go_sem, tAuto, tErr, f2, f3, ↓reduceIte, reduceIte, Nat.reduceEqDiff, Nat.reduceLT, Nat.reduceLeDiff, Nat.reduceAdd, Nat.reduceSub, Nat.reduceMul, Nat.reduceDiv, Nat.reduceMod, Nat.reduceBEq, Int.reduceEq, Int.reduceLT, Int.reduceLE, Int.reduceNeg, Int.reduceToNat, reduceCtorEq]; with_reducible rfl)))); done)))
            exact (by simp (discharger := omega) only [go_sem, ↓reduceIte, reduceIte, Nat.reduceEqDiff, Nat.reduceLT, Nat.reduceLeDiff, Nat.reduceAdd, Nat.reduceSub, Nat.reduceMul, Nat.reduceDiv, Nat.reduceMod, Nat.reduceBEq, Int.reduceEq, Int.reduceLT, Int.reduceLE, Int.reduceNeg, Int.reduceToNat, reduceCtorEq])
        · have htb := Tab.cons cT (Tab.cons cN (Tab.cons cR Tab.nil))
          by_cases f3 : e3 = 0
          · repeat' (first | (with_reducible first | refine SW_seq ?_ | refine SW_block ?_ | refine SThen_n ?_ | refine SThen_r ?_ | refine SThen_e ?_ | refine SIn_n ?_ | refine SIn_r ?_ | refine SIn_eq ?_ | refine SW_skip ?_ | refine SW_exit ?_ | refine SW_ret ?_ | refine SPost_r ?_) | ((with_reducible refine SIn_ne ?_ ?_); focus decide) | ((with_reducible refine SW_true ?_ ?_); focus exact rfl) | ((with_reducible refine SW_false ?_ ?_); focus exact rfl) | ((first | (with_reducible apply SW_run tt_ok hG htb) | ((with_reducible apply SW_draw rfl tt_ok hG htb); (focus kernel_rfl); (focus (simp only [List.range, List.range.loop, List.size_toArray, List.length_cons, List.length_nil, Nat.reduceAdd])))); focus ((repeat' (first | (with_reducible exact runX_nil) | (with_reducible exact runI_nil) | ((first | (with_reducible apply runX_cons) | (with_reducible apply runI_cons)); focus (simp (discharger := omega) only [go_sem, tAuto, tErr, f1, f2, f3, ↓reduceIte, reduceIte, Nat.reduceEqDiff, Nat.reduceLT, Nat.reduceLeDiff, Nat.reduceAdd, Nat.reduceSub, Nat.reduceMul, Nat.reduceDiv, Nat.reduceMod, Nat.reduceBEq, Int.reduceEq, Int.reduceLT, Int.reduceLE, Int.reduceNeg, Int.reduceToNat, reduceCtorEq]; with_reducible rfl)))); done)))
            exact (by simp (discharger := omega) only [go_sem, ↓reduceIte, reduceIte, Nat.reduceEqDiff, Nat.reduceLT, Nat.reduceLeDiff, Nat.reduceAdd, Nat.reduceSub, Nat.reduceMul, Nat.reduceDiv, Nat.reduceMod, Nat.reduceBEq, Int.reduceEq, Int.reduceLT, Int.reduceLE, Int.reduceNeg, Int.reduceToNat, reduceCtorEq])
          · repeat' (first | (with_reducible first | refine SW_seq ?_ | refine SW_block ?_ | refine SThen_n ?_ | refine SThen_r ?_ | refine SThen_e ?_ | refine SIn_n ?_ | refine SIn_r ?_ | refine SIn_eq ?_ | refine SW_skip ?_ | refine SW_exit ?_ | refine SW_ret ?_ | refine SPost_r ?_) | ((with_reducible refine SIn_ne ?_ ?_); focus decide) | ((with_reducible refine SW_true ?_ ?_); focus exact rfl) | ((with_reducible refine SW_false ?_ ?_); focus exact rfl) | ((first | (with_reducible apply SW_run tt_ok hG htb) | ((with_reducible apply SW_draw rfl tt_ok hG htb); (focus kernel_rfl); (focus (simp only [List.range, List.range.loop, List.size_toArray, List.length_cons, List.length_nil, Nat.reduceAdd])))); focus ((repeat' (first | (with_reducible exact runX_nil) | (with_reducible exact runI_nil) | ((first | (with_reducible apply runX_cons) | (with_reducible apply runI_cons)); focus (simp (discharger := omega) only [go_sem, tAuto, tErr, f1, f2, f3, ↓reduceIte, reduceIte, Nat.reduceEqDiff, Nat.reduceLT, Nat.reduceLeDiff, Nat.reduceAdd, Nat.reduceSub, Nat.reduceMul, Nat.reduceDiv, Nat.reduceMod, Nat.reduceBEq, Int.reduceEq, Int.reduceLT, Int.reduceLE, Int.reduceNeg, Int.reduceToNat, reduceCtorEq]; with_reducible rfl)))); done)))
            exact (by simp (discharger := omega) only [go_sem, ↓reduceIte, reduceIte, Nat.reduceEqDiff, Nat.reduceLT, Nat.reduceLeDiff, Nat.reduceAdd, Nat.reduceSub, Nat.reduceMul, Nat.reduceDiv, Nat.reduceMod, Nat.reduceBEq, Int.reduceEq, Int.reduceLT, Int.reduceLE, Int.reduceNeg, Int.reduceToNat, reduceCtorEq])
  · generalize lineOf base coefs c less = m at *
    generalize lineErr base coefs c less = er at *
    have htb := Tab.cons cO Tab.nil
    repeat' (first | (with_reducible first | refine SW_seq ?_ | refine SW_block ?_ | refine SThen_n ?_ | refine SThen_r ?_ | refine SThen_e ?_ | refine SIn_n ?_ | refine SIn_r ?_ | refine SIn_eq ?_ | refine SW_skip ?_ | refine SW_exit ?_ | refine SW_ret ?_ | refine SPost_r ?_) | ((with_reducible refine SIn_ne ?_ ?_); focus decide) | ((with_reducible refine SW_true ?_ ?_); focus exact rfl) | ((with_reducible refine SW_false ?_ ?_); focus exact rfl) | ((first | (with_reducible apply SW_run tt_ok hG htb) | ((with_reducible apply SW_draw rfl tt_ok hG htb); (focus kernel_rfl); (focus (simp only [List.range, List.range.loop, List.size_toArray, List.length_cons, List.length_nil, Nat.reduceAdd])))); focus ((repeat' (first | (with_reducible exact runX_nil) | (with_reducible exact runI_nil) | ((first | (with_reducible apply runX_cons) | (with_reducible apply runI_cons)); focus (simp (discharger := omega) only [go_sem, tAuto, tErr, he, ↓reduceIte, reduceIte, Nat.reduceEqDiff, Nat.reduceLT, Nat.reduceLeDiff, Nat.reduceAdd, Nat.reduceSub, Nat.reduceMul, Nat.reduceDiv, Nat.reduceMod, Nat.reduceBEq, Int.reduceEq, Int.reduceLT, Int.reduceLE, Int.reduceNeg, Int.reduceToNat, reduceCtorEq]; with_reducible rfl)))); done)))
    exact (by simp (discharger := omega) only [go_sem, ↓reduceIte, reduceIte, Nat.reduceEqDiff, Nat.reduceLT, Nat.reduceLeDiff, Nat.reduceAdd, Nat.reduceSub, Nat.reduceMul, Nat.reduceDiv, Nat.reduceMod, Nat.reduceBEq, Int.reduceEq, Int.reduceLT, Int.reduceLE, Int.reduceNeg, Int.reduceToNat, reduceCtorEq])
end
theorem LineMeans_walk (base : Int) (v : Value) (coefs : List Int) (c : Int) (less : Bool) (u : Value) (nums : List Int) (x : Value) (l : List Int) (w : World) (_ : I64 base) (h : ReadsInts w v coefs) (_ : I64 c) (h' : ReadsInts w u nums) (h'' : ReadsInts w x l) : Calls Try.prog 6 #[.int .i64 base, v, .int .i64 c, .bool less, u, x] w (Ret (.bool true) w) :=
  walkN (LineMeans_snd (G := fun _ => True) (fun _ _ _ _ => trivial) base coefs c less nums l h''.1) trivial rfl fun k y z p q => by
    match k, p, q with
    | 0, p, q => cases p; cases q; exact .int _ _
    | 1, p, q => cases p; cases q; exact h.2
    | 2, p, q => cases p; cases q; exact .int _ _
    | 3, p, q => cases p; cases q; exact .bool _
    | 4, p, q => cases p; cases q; exact h'.2
    | 5, p, q => cases p; cases q; exact h''.2
end Go.Proofs.Ytfhncnhkeodngaa
namespace Go.Proofs.Ytfhncnhkeodngaa.lineMeans
open Go.ChangeShapes Go.WideShapes Go.ChangeAt Go.RowKit

set_option maxRecDepth 100000 in
theorem lifted (os : Os) (started : os.Started) (H : Type) (enc : TypeId × Value → H) :
    ReturnsInHanded {} Try.checked os 6 .any (Rows.lineMeansSpec.pre6 enc Try.prog Try.f6 Rows.lineMeansRow.domain false) (Rows.lineMeansSpec.post enc Try.prog Try.f6 false true false false) := by
  refine returnsInHanded_of_change (C := Try.checked) own started (by kernel_rfl) Try.func6
    (ChangeSpec.witness6 (enc := enc) (C := Try.checked) false ⟨#[], #[.int .i64 0, .slice none 0 0, .int .i64 0, .bool false, .slice none 0 0, .slice none 0 0], []⟩ 8 (by kernel_rfl) (by kernel_rfl) (by kernel_rfl) (by kernel_rfl)) ?_
  intro W base args ds gs before hval0 hW hcnd _
  have hval : ∀ (j : Nat) t v, Try.f6.params[j]? = some t → args[j]? = some v → Value.okWide Try.prog W .any base t v := hval0
  have hW' := hW
  obtain ⟨p, q, hA0, hV, rfl, hfz, hnd⟩ := hW
  have hA : DataW.TrodAll enc Try.prog W 0 (fun _ => true) true Try.f6.params.toList args.toList ds p := hA0
  rw [Try.params6] at hA hval
  obtain ⟨v0, vs0, d0, ds0, p0, q0, hargs, rfl, rfl, h0, r0⟩ := trodAll_cons hA
  obtain ⟨v1, vs1, d1, ds1, p1, q1, rfl, rfl, rfl, h1, r1⟩ := trodAll_cons r0
  obtain ⟨v2, vs2, d2, ds2, p2, q2, rfl, rfl, rfl, h2, r2⟩ := trodAll_cons r1
  obtain ⟨v3, vs3, d3, ds3, p3, q3, rfl, rfl, rfl, h3, r3⟩ := trodAll_cons r2
  obtain ⟨v4, vs4, d4, ds4, p4, q4, rfl, rfl, rfl, h4, r4⟩ := trodAll_cons r3
  obtain ⟨v5, vs5, d5, ds5, p5, q5, rfl, rfl, rfl, h5, r5⟩ := trodAll_cons r4
  obtain ⟨rfl, rfl, rfl⟩ := trodAll_nil r5
  obtain rfl : args = #[v0, v1, v2, v3, v4, v5] := by cases args; simp_all
  obtain ⟨rfl, rfl⟩ := trodVars_none hV
  obtain ⟨a0, rfl, rfl, rfl, w0⟩ := open_int Try.underlying3 (hval 0 3 v0 rfl rfl) h0
  obtain ⟨b1, len1, cap1, rfl⟩ := okWide_slice Try.underlying24 (hval 1 24 v1 rfl rfl)
  have k1 := h1
  have lt1 : ∀ x ∈ p1, x.block < W.heap.size := by obtain ⟨m, hm⟩ := k1; exact DataW.trod_lt m _ _ _ hm
  obtain ⟨a1, w1⟩ := openIntsT rfl h1
  obtain ⟨a2, rfl, rfl, rfl, w2⟩ := open_int Try.underlying3 (hval 2 3 v2 rfl rfl) h2
  obtain ⟨a3, rfl, rfl, rfl⟩ := open_bool Try.underlying4 (hval 3 4 v3 rfl rfl) h3
  obtain ⟨b4, len4, cap4, rfl⟩ := okWide_slice Try.underlying24 (hval 4 24 v4 rfl rfl)
  have k4 := h4
  have lt4 : ∀ x ∈ p4, x.block < W.heap.size := by obtain ⟨m, hm⟩ := k4; exact DataW.trod_lt m _ _ _ hm
  obtain ⟨a4, w4⟩ := openIntsT rfl h4
  obtain ⟨b5, len5, cap5, rfl⟩ := okWide_slice Try.underlying24 (hval 5 24 v5 rfl rfl)
  have k5 := h5
  have lt5 : ∀ x ∈ p5, x.block < W.heap.size := by obtain ⟨m, hm⟩ := k5; exact DataW.trod_lt m _ _ _ hm
  obtain ⟨a5, w5⟩ := openIntsT rfl h5
  clear hA0 hval0
  refine (LineMeans_walk a0 _ a1 a2 a3 _ a4 _ a5 W (i64_of_wf w0) w1 (i64_of_wf w2) w4 w5).mono fun e W' ⟨he, bel⟩ => ?_
  subst he
  exact ⟨_, rfl, _, _, _, [], _, [], hW', trodAll_mk1 (shut_bool Try.underlying4 _), (trodAll_cons_mk (shut_int Try.underlying3 w0) (trodAll_cons_mk (Below.trod laidOut (by kernel_rfl) (of_decide_eq_true (by kernel_rfl)) k1 bel lt1) (trodAll_cons_mk (shut_int Try.underlying3 w2) (trodAll_cons_mk (shut_bool Try.underlying4 _) (trodAll_cons_mk (Below.trod laidOut (by kernel_rfl) (of_decide_eq_true (by kernel_rfl)) k4 bel lt4) (trodAll_cons_mk (Below.trod laidOut (by kernel_rfl) (of_decide_eq_true (by kernel_rfl)) k5 bel lt5) trodAll_mk0)))))), rfl, bel.frame _, fun h => by cases h⟩

theorem over : Rows.lineMeansRow.holds Try.pinned (OpenSpec.ofChange Rows.lineMeansSpec) :=
  OpenClaim.holds_of_wide 6 Try.f6 rfl rfl rfl rfl rfl rfl rfl ⟨rfl, rfl, rfl, rfl, rfl⟩ rfl rfl rfl rfl rfl (by kernel_rfl) Try.func6 (by kernel_rfl)
    (of_decide_eq_true (by kernel_rfl)) (by unfold Func.isWrapper; first | (rw [if_pos (by decide +kernel)]; kernel_rfl) | (rw [if_neg (by decide +kernel)]; exact ⟨rfl, rfl⟩))
    (fun os started H enc _ => lifted os started H enc)

/-- THE STATEMENT. -/
theorem proved : Rows.LineMeansSaid := over
#print axioms proved
end Go.Proofs.Ytfhncnhkeodngaa.lineMeans
