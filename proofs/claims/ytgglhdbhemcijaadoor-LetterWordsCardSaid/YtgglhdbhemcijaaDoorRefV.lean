/- The walk of the reference's WordOf. No conditions but that the value reads as a list. -/
import Derived.Test.YtgglhdbhemcijaaDoorRefW
import Derived.Test.YtgglhdbhemcijaaDoorRefE
import Derived.Test.YtgglhdbhemcijaaDoorLetterW
namespace Go.Proofs.YtgglhdbhemcijaaDoor
open Go.RowKit

theorem own_below {w w' : World} {B e s n : Nat} {v : Value} {xs : List Value} (h : w.ownsRow B e s v n xs) (hb : Below w.heap.size w w') : w'.ownsRow B e s v n xs :=
  h.kept (row := none) ⟨hb.os, hb.tape, hb.output, hb.size, fun k hk _ => hb.block k hk⟩ (by cases v.ownBlock <;> simp)

set_option maxHeartbeats 2000000 in
set_option maxRecDepth 100000 in
theorem RWordOf_calls (S : Nat → Prop) (base : Int) (v : Value) (nums : List Int) (w : World) (hS : ∀ b, S b → b < w.heap.size) (hd : Ints S w v nums) :
    Calls Tryd.prog 31 #[.int .i64 base, v] w
      (RetQ (fun v w' => ∃ x l, v = .tuple #[x, .int .i64 (wordErr base nums)] ∧ Ints (w.heap.size ≤ ·) w' x l ∧ WordIs base nums l) w) := by
  have HD := Lib.hid hd
  obtain ⟨a, cap, rfl, hlen, hcell⟩ := hd
  by_cases h0 : manyErr base nums.length = 0
  · have E0 := Lib.hid h0
    have HWE := Lib.hid (show wordErr base nums = if nums.all okNum then 0 else 1 by simp [wordErr, h0])
    obtain ⟨h1, _, h5, _, _⟩ := many_ok h0
    obtain ⟨r2, r6⟩ := radix_two h1
    have Hr0 := Lib.hid h1
    have hl5 : nums.length ≤ 5 := by omega
    have HP := Lib.hid (show ∀ j, j ≤ 5 → 1 ≤ powW (radix base) j ∧ powW (radix base) j ≤ 7776 from fun j hj => powW_bd r2 r6 hj)
    clear h0 h1 h5 hlen
    go_enter Tryd.func31, Tryd.ntmps31
    go_wp2_with fail
    refine (RLetters_calls _ _ _).mono ?_; rintro e w' ⟨rfl, rfl⟩; rw [E0.out]
    go_wp2_with fail
    go_loopw [8, 9, 10] (fun lg rv i wr => ∃ (j : Nat) (L : List (List Int)), j ≤ nums.length ∧ i = .int .i64 j ∧ lg = .int .i64 (longest L) ∧ longest L ≤ 58 ∧ L.length = j ∧
      Hid (∀ i (h1 : i < nums.length) (h2 : i < L.length), IsOf base nums[i] L[i] ∧ okNum nums[i] = true) ∧
      Hid (Acc Ints w.heap.size 22 wr rv L) ∧ Hid (Below w.heap.size w wr)) (fun _ _ i _ => nums.length - (intOf i).toNat)
    case atStart => exact ⟨0, [], by omega, rfl, rfl, by simp [longest], rfl, fun i h1 h2 => absurd h2 (by simp), Acc.nil _ _ _ _, Below.refl _ _⟩
    case round =>
      obtain ⟨j, L, hj, rfl, rfl, h58, hLl, HI, HA, HB⟩ := hrel
      have HLl := Lib.hid hLl; clear hLl
      obtain ⟨pv, cv, rfl⟩ := HA.out.len
      by_cases hlt : j < nums.length
      · obtain ⟨b, off, z, ha, hS', hc, hx, hi⟩ := hcell j hlt
        subst ha hx
        have hc' := (HB.out.cell (p := ⟨b, off + j, none⟩) (hS b hS')).trans hc
        go_wp2_with fail
        refine (ROf_calls _ _ _).mono ?_
        rintro e w2 ⟨_, rfl, ⟨x2, l, rfl, hl, hof, _⟩, hb2⟩
        by_cases hbad : ofFault base nums[j] = 0
        · have Hof := Lib.hid (hof hbad)
          have hnum : okNum nums[j] = true := by
            have h := hbad
            unfold ofFault at h
            split at h
            · omega
            · simp [okNum]; omega
          have Hnum := Lib.hid hnum
          have hll := Hof.out.len Hr0.out (by simp [okNum] at hnum; omega)
          rw [hbad]
          obtain ⟨pl, cl, rfl⟩ := hl.form
          have HA2 := Lib.hid (HA.out.below movInts hb2)
          have HB2 := Lib.hid (HB.out.trans (hb2.mono HB.out.size))
          have hy : Ints (fun b => w.heap.size ≤ b ∧ some b ≠ (Value.slice pv L.length cv).ownBlock) w2 (.slice pl l.length cl) l := hl.keep fun b hb hlt => by
            refine ⟨rfl, Nat.le_trans HB.out.size hb, fun e => ?_⟩
            have := HA.out.lt b e.symm
            omega
          have Hy := Lib.hid hy
          clear hof hbad hnum hl hb2 hy hc' hc
          go_wp2_with (at_builtin; go_loud (refine appRow rfl _ _ rfl w.heap.size (.slice pv L.length cv) L rfl HA2.out (.slice pl l.length cl) l Hy.out rfl ?c1 HB2.out.size ?_))
          case c1 => have := HLl.out; omega
          intro v' w3 hacc _ hb3
          have HA3 := Lib.hid hacc
          have HB3 := Lib.hid (HB2.out.trans hb3)
          obtain ⟨pw, cw, rfl⟩ := hacc.len
          clear hacc hb3
          by_cases hlong : longest L < l.length
          · have hlong' : (longest L : Int) < (l.length : Int) := by omega
            go_wp2_with fail
            go_roundw
            case rel =>
              refine ⟨j + 1, L ++ [l], by omega, by go_num, by rw [longest_snoc, Nat.max_eq_right (by omega)], by rw [longest_snoc]; omega, by have := HLl.out; simp; omega, ?_, HA3.out, HB3.out⟩
              intro i h1 h2
              rw [List.getElem_append]
              split
              · exact HI.out i h1 ‹_›
              · have hij : i = j := by have := HLl.out; simp at h2; omega
                subst hij
                simp only [List.getElem_singleton]
                exact ⟨Hof.out, Hnum.out⟩
            case measure => (simp [intOf] <;> omega)
          · have hlong' : ¬ (longest L : Int) < (l.length : Int) := by omega
            go_wp2_with fail
            go_roundw
            case rel =>
              refine ⟨j + 1, L ++ [l], by omega, by go_num, by rw [longest_snoc, Nat.max_eq_left (by omega)], by rw [longest_snoc]; omega, by have := HLl.out; simp; omega, ?_, HA3.out, HB3.out⟩
              intro i h1 h2
              rw [List.getElem_append]
              split
              · exact HI.out i h1 ‹_›
              · have hij : i = j := by have := HLl.out; simp at h2; omega
                subst hij
                simp only [List.getElem_singleton]
                exact ⟨Hof.out, Hnum.out⟩
            case measure => (simp [intOf] <;> omega)
        · have h1 : ofFault base nums[j] = 1 := by unfold ofFault at hbad ⊢; split <;> simp_all
          have hE : wordErr base nums = 1 := by
            rw [HWE.out, if_neg]
            intro hall
            have := List.all_eq_true.1 hall nums[j] (List.getElem_mem _)
            simp [okNum] at this
            have := Hr0.out
            unfold ofFault at h1
            split at h1
            · omega
            · omega
          have R := Lib.hid hE
          rw [h1]
          have HB2 := Lib.hid (HB.out.trans (hb2.mono HB.out.size))
          clear hE h1 hbad hof hb2 hl
          go_wp2_with fail
          go_ret2
          exact RetQ.mk ⟨_, [], by rw [R.out]; rfl, Sl.nil _ _ _, fun _ => rfl, fun h => absurd h (by rw [R.out]; decide)⟩ HB2.out
      · obtain rfl : j = nums.length := by omega
        have HE := Lib.hid (show wordErr base nums = 0 by
          rw [HWE.out, if_pos]
          rw [List.all_eq_true]
          intro x hx
          obtain ⟨i, hi, rfl⟩ := List.mem_iff_getElem.1 hx
          exact (HI.out i hi (by have := HLl.out; omega)).2)
        have HRO := Lib.hid (show RowsOf base nums L from ⟨HLl.out, fun i h1 h2 => (HI.out i h1 h2).1⟩)
        have Hokd := Lib.hid (show ∀ d ∈ L, okDigits base d from fun d hd => by
          obtain ⟨i, hi, rfl⟩ := List.mem_iff_getElem.1 hd
          exact (HI.out i (by have := HLl.out; omega) hi).1.ok)
        have hL5 : L.length ≤ 5 := by have := HLl.out; omega
        have HR := Lib.hid (show Intss (· < wr.heap.size) wr (.slice pv L.length cv) L from by
          obtain ⟨a, cap, hv, hl, hc⟩ := HA.out.done movInts
          refine ⟨a, cap, hv, hl, fun i hi => ?_⟩
          obtain ⟨b, off, x, ha, hS, hcell, hx⟩ := hc i hi
          exact ⟨b, off, x, ha, cell_lt hcell, hcell, hx.keep fun b _ hlt => ⟨rfl, hlt⟩⟩)
        obtain ⟨wo, rfl⟩ : ∃ wo : World, wo = wr := ⟨_, rfl⟩
        clear HI HA
        go_wp2_with fail
        go_loopw [13, 14] (fun out i wr => ∃ (j : Nat) (ls : List Int), j ≤ longest L ∧ i = .int .i64 j ∧ ls.length = j ∧ Hid (ls = (wordRows (radix base) (longest L) L).take j) ∧
          Hid (wr.ownsRow wo.heap.size 3 1 out j (ls.map (Value.int .i64))) ∧ Hid (Below wo.heap.size wo wr)) (fun _ i _ => longest L - (intOf i).toNat)
        case atStart => exact ⟨0, [], by omega, rfl, rfl, by simp [Hid], World.ownsRow_nil _ _ _ _, Below.refl _ _⟩
        case round =>
          obtain ⟨j, ls, hj, rfl, hll, HL, HO2, HB2⟩ := hrel
          have Hll := Lib.hid hll; clear hll
          obtain ⟨po, co, rfl⟩ := own_form HO2.out
          by_cases hlt : j < longest L
          · have hcl : (column (longest L) L j).length = L.length := by simp [column]
            have Hcl := Lib.hid hcl; clear hcl
            have Hcok := Lib.hid (column_ok Hr0.out Hokd.out (long := longest L) j)
            obtain ⟨wq, rfl⟩ : ∃ wq : World, wq = wr := ⟨_, rfl⟩
            go_wp2_with fail
            go_loopw [15, 16] (fun dv i wr => ∃ q : Nat, q ≤ L.length ∧ i = .int .i64 q ∧ Hid (wr.ownsRow wq.heap.size 3 1 dv q (((column (longest L) L j).take q).map (Value.int .i64))) ∧ Hid (Below wq.heap.size wq wr)) (fun _ i _ => L.length - (intOf i).toNat)
            case atStart => exact ⟨0, by omega, rfl, World.ownsRow_nil _ _ _ _, Below.refl _ _⟩
            case round =>
              obtain ⟨q, hq, rfl, HO3, HB3⟩ := hrel
              obtain ⟨pd, cd, rfl⟩ := own_form HO3.out
              have hown := HO3.out
              generalize hXS : ((column (longest L) L j).take q).map (Value.int .i64) = XS at hown
              have HXS := Lib.hid hXS; clear hXS
              have HBq := Lib.hid (HB2.out.trans (HB3.out.mono HB2.out.size))
              by_cases hqn : q < L.length
              · have hcq : q < (column (longest L) L j).length := by have := Hcl.out; omega
                obtain ⟨b1, o1, x1, hp1, hS1, hc1, hx1⟩ := (HR.out.under HBq.out).at q hqn
                obtain ⟨pb, cb, hxf⟩ := hx1.form
                subst hp1 hxf
                have hdlen : L[q].length ≤ longest L := longest_ge (List.getElem_mem hqn)
                have hpa := pad_at (longest L) L[q] j hdlen hlt
                have hcol : (column (longest L) L j)[q] = (pad (longest L) L[q]).getD j 0 := by simp [column]
                have hts : (column (longest L) L j).take (q + 1) = (column (longest L) L j).take q ++ [(pad (longest L) L[q]).getD j 0] := by
                  rw [List.take_succ_eq_append_getElem hcq, hcol]
                have Hcol := Lib.hid hcol
                have fin : ∀ (v' : Value) (w' : World), w'.ownsRow wq.heap.size 3 1 v' (q + 1) (XS ++ [.int .i64 ((pad (longest L) L[q]).getD j 0)]) → wr.grownBy w' (Value.slice pd q cd).ownBlock →
                    Hid (w'.ownsRow wq.heap.size 3 1 v' (q + 1) (((column (longest L) L j).take (q + 1)).map (Value.int .i64))) ∧ Hid (Below wq.heap.size wq w') := fun v' w' h1 h2 => by
                  refine ⟨?_, HB3.out.grown h2 HB3.out.size (fun k hk => (hown.lt k hk).1)⟩
                  rw [hts, List.map_append, HXS.out]
                  exact h1
                have Fin := Lib.hid fin
                clear fin hts hcol
                by_cases hin : longest L ≤ j + L[q].length
                · rw [dif_pos hin] at hpa
                  rw [hpa] at Fin
                  obtain ⟨b, off, z, hpbv, hSb, hcz, hz, hi⟩ := hx1.at (j + L[q].length - longest L) (by omega)
                  subst hpbv hz
                  generalize hx : L[q][j + L[q].length - longest L]'(by omega) = x at *
                  clear hx hpa hSb hi hx1 hS1
                  have hr : (j : Int) - (longest L : Int) + (L[q].length : Int) = ((j + L[q].length - longest L : Nat) : Int) := by omega
                  generalize j + L[q].length - longest L = r at *
                  have r0 : (0 : Int) ≤ (r : Int) := by omega
                  have r1 : (r : Int) < (L[q].length : Int) := by omega
                  have r3 : (longest L : Int) - (L[q].length : Int) ≤ (j : Int) := by omega
                  go_wp2_with fail
                  go_quiet (fail)
                  go_wp2_with (at_builtin; go_loud (refine appInt rfl _ _ rfl wq.heap.size _ _ _ rfl hown _ rfl rfl ?c1 HB3.out.size ?_))
                  case c1 => omega
                  intro v' w' hown' hgrow _
                  have Hf := Lib.hid (Fin.out v' w' hown' ⟨hgrow.os, hgrow.tape, hgrow.output, hgrow.size, hgrow.block⟩)
                  clear hown' hgrow hown hr
                  go_wp2_with fail
                  go_roundw
                  case rel => exact ⟨q + 1, by omega, by go_num, Hf.out.1, Hf.out.2⟩
                  case measure => (simp [intOf] <;> omega)
                · rw [dif_neg hin] at hpa
                  rw [hpa] at Fin
                  have r3 : ¬ (longest L : Int) - (L[q].length : Int) ≤ (j : Int) := by omega
                  clear hpa hx1 hS1 hin
                  go_wp2_with (at_builtin; go_loud (refine appInt rfl _ _ rfl wq.heap.size _ _ _ rfl hown _ rfl rfl ?c1 HB3.out.size ?_))
                  case c1 => omega
                  intro v' w' hown' hgrow _
                  have Hf := Lib.hid (Fin.out v' w' hown' hgrow)
                  clear hown' hgrow hown
                  go_wp2_with fail
                  go_roundw
                  case rel => exact ⟨q + 1, by omega, by go_num, Hf.out.1, Hf.out.2⟩
                  case measure => (simp [intOf] <;> omega)
              · obtain rfl : q = L.length := by omega
                have e : (column (longest L) L j).take L.length = column (longest L) L j := List.take_of_length_le (by have := Hcl.out; omega)
                have hdI : Ints (wq.heap.size ≤ ·) wr (.slice pd L.length cd) (column (longest L) L j) := by
                  have h := HO3.out
                  rw [e] at h
                  exact Ints.of_own h Hcl.out fun x hx => by
                    have := Hcok.out x hx
                    exact ⟨by omega, by omega⟩
                have HdI := Lib.hid (show Ints (· < wr.heap.size) wr (.slice pd L.length cd) (column (longest L) L j) from hdI.keep fun b _ hlt => ⟨rfl, hlt⟩)
                clear hdI e hown
                go_wp2_with fail
                refine (RPackOf_calls _ base _ (column (longest L) L j) _ Hr0.out (by have := Hcl.out; omega) Hcok.out (fun b hb => hb) HdI.out).mono ?_
                rintro e w5 ⟨rfl, hb5⟩
                have hown5 := own_below HO2.out (HB3.out.trans (hb5.mono HB3.out.size))
                have HB5 := Lib.hid (HBq.out.trans (hb5.mono HBq.out.size))
                clear hb5
                go_wp2_with (at_builtin; go_loud (refine appInt rfl _ _ rfl wo.heap.size _ _ _ rfl hown5 _ rfl rfl ?c1 HB5.out.size ?_))
                case c1 => omega
                intro v' w' hown' hgrow _
                have HBn := Lib.hid (HB5.out.grown hgrow HB5.out.size (fun k hk => (hown5.lt k hk).1))
                have Hown' := Lib.hid hown'
                clear hown' hgrow hown5
                go_wp2_with fail
                go_roundw
                case rel =>
                  refine ⟨j + 1, ls ++ [pack (radix base) (column (longest L) L j)], by omega, by go_num, by have := Hll.out; simp; omega, ?_, by simpa [Hid] using Hown'.out, HBn.out⟩
                  show _ = _
                  have hw : j < (wordRows (radix base) (longest L) L).length := by simp [wordRows]; omega
                  rw [List.take_succ_eq_append_getElem hw, ← HL.out]
                  simp [wordRows]
                case measure => (simp [intOf] <;> omega)
          · have e : ls = wordRows (radix base) (longest L) L := by
              rw [HL.out]; exact List.take_of_length_le (by simp [wordRows]; omega)
            have He := Lib.hid e; clear e
            go_wp2_with fail
            go_ret2
            refine RetQ.mk ⟨_, ls, by rw [HE.out]; rfl, ?_, fun h => absurd HE.out h, fun _ => ⟨L, HRO.out, He.out⟩⟩ (HB.out.trans (HB2.out.mono HB.out.size))
            refine (Ints.of_own HO2.out Hll.out ?_).keep fun b hb _ => ⟨rfl, Nat.le_trans HB.out.size hb⟩
            intro x hx
            rw [He.out] at hx
            have h1 := wordRows_letters Hr0.out Hokd.out _ x hx
            have h2 := (HP.out L.length (by have := HLl.out; omega)).2
            exact ⟨by omega, by omega⟩
  · have R := Lib.hid (show wordErr base nums = manyErr base nums.length by simp [wordErr, h0])
    have e0 : (manyErr base nums.length != 0) = true := by simpa using h0
    have H0 := Lib.hid h0
    clear h0 hlen
    go_enter Tryd.func31, Tryd.ntmps31
    go_wp2_with (go_at_call 24; refine (RLetters_calls _ _ _).mono ?_; rintro e w' ⟨rfl, rfl⟩)
    go_ret2
    exact RetQ.mk ⟨_, [], by rw [R.out]; rfl, Sl.nil _ _ _, fun _ => rfl, fun h => absurd (R.out ▸ h) H0.out⟩ (Below.refl _ _)
end Go.Proofs.YtgglhdbhemcijaaDoor
