/- The walk of Word: the word of numbers. No conditions but that the value reads as a list. -/
import Derived.Test.YtgglhdbhemcijaaDoorLetterA
import Derived.Test.YtgglhdbhemcijaaDoorDigitF
namespace Go.Proofs.YtgglhdbhemcijaaDoor
open Go.RowKit

def okNum (n : Int) : Bool := decide (0 ≤ n ∧ n ≤ 1099511627776)
def wordErr (base : Int) (nums : List Int) : Int := if manyErr base nums.length ≠ 0 then manyErr base nums.length else if nums.all okNum then 0 else 1
/-- Rows of digits of numbers. -/
def RowsOf (base : Int) (nums : List Int) (rows : List (List Int)) : Prop := rows.length = nums.length ∧ ∀ i (h1 : i < nums.length) (h2 : i < rows.length), IsOf base nums[i] rows[i]
/-- What Word answers. -/
def WordIs (base : Int) (nums : List Int) (l : List Int) : Prop :=
  (wordErr base nums ≠ 0 → l = []) ∧ (wordErr base nums = 0 → ∃ rows, RowsOf base nums rows ∧ l = wordRows (radix base) (longest rows) rows)

theorem pad_at (long : Nat) (d : List Int) (i : Nat) (hd : d.length ≤ long) (hi : i < long) :
    (pad long d).getD i 0 = if h : long ≤ i + d.length then d[i + d.length - long]'(by omega) else 0 := by
  unfold pad
  rw [List.getD_eq_getElem?_getD, List.getElem?_append]
  by_cases h : long ≤ i + d.length
  · rw [dif_pos h, if_neg (by simp; omega)]
    have : i - (List.replicate (long - d.length) (0 : Int)).length = i + d.length - long := by simp; omega
    rw [this, List.getElem?_eq_getElem (by omega)]; rfl
  · rw [dif_neg h, if_pos (by simp; omega)]
    rw [List.getElem?_replicate, if_pos (by omega)]; rfl

set_option maxHeartbeats 2000000 in
set_option maxRecDepth 100000 in
theorem Word_calls (S : Nat → Prop) (base : Int) (v : Value) (nums : List Int) (w : World) (hS : ∀ b, S b → b < w.heap.size) (hd : Ints S w v nums) :
    Calls Tryd.prog 30 #[.int .i64 base, v] w
      (RetQ (fun v w' => ∃ x l, v = .tuple #[x, errV 27 (wordErr base nums)] ∧ Ints (w.heap.size ≤ ·) w' x l ∧ WordIs base nums l) w) := by
  have HD := Lib.hid hd
  obtain ⟨a, cap, rfl, hlen, hcell⟩ := hd
  by_cases h0 : manyErr base nums.length = 0
  · have E0 := Lib.hid (show errV 27 (manyErr base nums.length) = .nilIface by rw [h0]; rfl)
    have HWE := Lib.hid (show wordErr base nums = if nums.all okNum then 0 else 1 by simp [wordErr, h0])
    obtain ⟨h1, _, h5, _, _⟩ := many_ok h0
    obtain ⟨r2, r6⟩ := radix_two h1
    have Hr0 := Lib.hid h1
    have hl5 : nums.length ≤ 5 := by omega
    have HP := Lib.hid (show ∀ j, j ≤ 5 → 1 ≤ powW (radix base) j ∧ powW (radix base) j ≤ 7776 from fun j hj => powW_bd r2 r6 hj)
    clear h0 h1 h5 hlen
    go_enter Tryd.func30, Tryd.ntmps30
    go_wp2_with fail
    refine (Many_calls _ _ _).mono ?_; rintro e w' ⟨rfl, rfl⟩; rw [E0.out]
    go_wp2_with (at_make; go_loud (refine makeInts rfl _ rfl nums.length rfl ?c1 ?_))
    case c1 => omega
    intro w1 hown hgrow
    have HB := Lib.hid ((Below.refl w.heap.size w).grown hgrow (Nat.le_refl _) (by simp)); clear hgrow
    have Hown := Lib.hid hown; clear hown
    go_wp2_with fail
    go_loopw [8, 36] (fun lg i wr => ∃ (j : Nat) (rows : List (List Int)) (xs : List Value), j ≤ nums.length ∧ i = .int .i64 j ∧ lg = .int .i64 (longest rows) ∧ longest rows ≤ 58 ∧ rows.length = j ∧
      Hid (∀ i (h1 : i < nums.length) (h2 : i < rows.length), IsOf base nums[i] rows[i] ∧ okNum nums[i] = true) ∧
      Hid (wr.ownsRow w.heap.size 22 1 (.slice (some ⟨w.heap.size, 0, none⟩) nums.length nums.length) nums.length xs) ∧
      Hid (∀ i (h1 : i < rows.length) (h2 : i < xs.length), Ints (w.heap.size < ·) wr xs[i] rows[i]) ∧ Hid (Below w.heap.size w wr)) (fun _ i _ => nums.length - (intOf i).toNat)
    case atStart => exact ⟨0, [], _, by omega, rfl, rfl, by simp [longest], rfl, fun i h1 h2 => absurd h2 (by simp), Hown.out, fun i h1 => absurd h1 (by simp), HB.out⟩
    case round =>
      obtain ⟨j, rows, xs, hj, rfl, rfl, h58, hrl, HI, HO, HX, HB'⟩ := hrel
      have Hrl := Lib.hid hrl; clear hrl
      by_cases hlt : j < nums.length
      · obtain ⟨b, off, z, ha, hS', hc, hx, hi⟩ := hcell j hlt
        subst ha hx
        have hc' := (HB'.out.cell (p := ⟨b, off + j, none⟩) (hS b hS')).trans hc
        by_cases hbad : radix base = 0 ∨ nums[j] < 0 ∨ 1099511627776 < nums[j]
        · have hE : wordErr base nums = 1 := by
            rw [HWE.out, if_neg]
            intro hall
            have := List.all_eq_true.1 hall nums[j] (List.getElem_mem _)
            simp [okNum] at this
            have := Hr0.out
            omega
          have R := Lib.hid hE; clear hE
          go_wp2_with fail
          refine (Of_bad _ _ _ hbad).mono ?_
          rintro e w' ⟨rfl, rfl⟩
          clear hbad
          go_wp2
          go_ret2
          exact RetQ.mk ⟨_, [], by rw [R.out]; rfl, Sl.nil _ _ _, fun _ => rfl, fun h => absurd h (by rw [R.out]; decide)⟩ HB'.out
        · go_wp2_with fail
          refine (Of_good base nums[j] _ (by omega) (by omega) (by omega)).mono ?_
          rintro e w2 ⟨_, rfl, ⟨x2, l, rfl, hl, hof⟩, hb2⟩
          obtain ⟨pa, ca, rfl⟩ := Sl.form hl
          have Hof := Lib.hid hof
          have hll := hof.len Hr0.out (by omega)
          have Hnum := Lib.hid (show okNum nums[j] = true by simp [okNum]; omega)
          clear hof hbad
          have hsz : w.heap.size < wr.heap.size := by have := (HO.out.lt w.heap.size rfl).2; exact this
          have hO2 := HO.out.kept (w' := w2) (row := none) ⟨hb2.os, hb2.tape, hb2.output, hb2.size, fun k hk _ => hb2.block k hk⟩ (by simp [Value.ownBlock])
          have hxl : xs.length = nums.length := by have := hO2.1; simpa using this
          have HX2 := Lib.hid (show ∀ i (h1 : i < rows.length) (h2 : i < xs.length), Ints (w.heap.size < ·) w2 xs[i] rows[i] from fun i h1 h2 => (HX.out i h1 h2).below hb2 (fun _ h _ => h))
          have Hl2 := Lib.hid (show Ints (w.heap.size < ·) w2 (.slice pa l.length ca) l from hl.keep fun b hb hlt => ⟨rfl, by omega⟩)
          have HB2 := Lib.hid (HB'.out.trans (hb2.mono HB'.out.size))
          obtain ⟨y, hcell2⟩ : ∃ y, w2.cell? ⟨w.heap.size, j, none⟩ = some y := ⟨xs[j]'(by omega), by rw [hO2.cellAt j (by omega)]; exact List.getElem?_eq_getElem _⟩
          have hfr2 : w2.frozen? ⟨w.heap.size, j, none⟩ = false := hO2.frozenAt j
          have HO2 := Lib.hid hO2
          have Hxl := Lib.hid hxl
          clear hb2 hl hO2 hxl HX HO HB' hc'
          go_wp2_with fail
          go_roundw
          case rel =>
            refine ⟨j + 1, rows ++ [l], xs.set j (.slice pa l.length ca), by omega, by go_num, ?_, ?_, by have := Hrl.out; simp; omega, ?_, (HO2.out.stored j _).1, ?_, HB2.out.setCell (Nat.le_refl _) _⟩
            · rw [longest_snoc]
              congr 1
              split <;> omega
            · rw [longest_snoc]; omega
            · intro i h1 h2
              rw [List.getElem_append]
              split
              · exact HI.out i h1 ‹_›
              · have hij : i = j := by have := Hrl.out; simp at h2; omega
                subst hij
                simp only [List.getElem_singleton]
                exact ⟨Hof.out, Hnum.out⟩
            · intro i h1 h2
              have hk : ∀ b, w.heap.size < b → b < w2.heap.size → (w2.setCell ⟨w.heap.size, j, none⟩ (.slice pa l.length ca)).heap[b]? = w2.heap[b]? ∧ w.heap.size < b :=
                fun b hb _ => ⟨Below.heap_setCell _ _ _ _ (by show b ≠ w.heap.size; omega), hb⟩
              rw [List.getElem_append]
              split
              · have hij : j ≠ i := by have := Hrl.out; omega
                rw [List.getElem_set_ne hij]
                exact (HX2.out i ‹_› (by simpa using h2)).keep hk
              · have hij : i = j := by have := Hrl.out; simp at h1; omega
                subst hij
                rw [List.getElem_set_self]
                simp only [List.getElem_singleton]
                exact Hl2.out.keep hk
          case measure => (simp [intOf] <;> omega)
      · obtain rfl : j = nums.length := by omega
        have hxl : xs.length = nums.length := by have := HO.out.1; simpa using this
        have Hxl := Lib.hid hxl; clear hxl
        have HE := Lib.hid (show wordErr base nums = 0 by
          rw [HWE.out, if_pos]
          rw [List.all_eq_true]
          intro x hx
          obtain ⟨i, hi, rfl⟩ := List.mem_iff_getElem.1 hx
          exact (HI.out i hi (by have := Hrl.out; omega)).2)
        have HRO := Lib.hid (show RowsOf base nums rows from ⟨Hrl.out, fun i h1 h2 => (HI.out i h1 h2).1⟩)
        have Hokd := Lib.hid (show ∀ d ∈ rows, okDigits base d from fun d hd => by
          obtain ⟨i, hi, rfl⟩ := List.mem_iff_getElem.1 hd
          exact (HI.out i (by have := Hrl.out; omega) hi).1.ok)
        have hszw : w.heap.size < wr.heap.size := (HO.out.lt w.heap.size rfl).2
        go_wp2_with fail
        obtain ⟨wo, rfl⟩ : ∃ wo : World, wo = wr := ⟨_, rfl⟩
        go_loopw [14, 60] (fun out i wr' => ∃ (j : Nat) (ls : List Int), j ≤ longest rows ∧ i = .int .i64 j ∧ ls.length = j ∧ Hid (ls = (wordRows (radix base) (longest rows) rows).take j) ∧
          Hid (wr'.ownsRow wo.heap.size 3 1 out j (ls.map (Value.int .i64))) ∧ Hid (Below wo.heap.size wo wr')) (fun _ i _ => longest rows - (intOf i).toNat)
        case atStart => exact ⟨0, [], by omega, rfl, rfl, by simp [Hid], World.ownsRow_nil _ _ _ _, Below.refl _ _⟩
        case round =>
          obtain ⟨j, ls, hj, rfl, hll, HL, HO2, HB2⟩ := hrel
          have Hll := Lib.hid hll; clear hll
          obtain ⟨pa, ca, rfl⟩ := own_form HO2.out
          by_cases hlt : j < longest rows
          · have hcl : (column (longest rows) rows j).length = nums.length := by have := Hrl.out; simp [column]; omega
            have Hcl := Lib.hid hcl; clear hcl
            have Hcok := Lib.hid (column_ok Hr0.out Hokd.out (long := longest rows) j)
            go_wp2_with fail
            go_loop [16, 65] (fun l i => ∃ q : Nat, q ≤ nums.length ∧ i = .int .i64 q ∧ l = .int .i64 (pack (radix base) ((column (longest rows) rows j).take q))) (fun _ i => nums.length - (intOf i).toNat)
            case atStart => exact ⟨0, by omega, rfl, rfl⟩
            case round =>
              obtain ⟨q, hq, rfl, rfl⟩ := hrel
              have hpb := pack_bd r2 ((column (longest rows) rows j).take q) (fun x hx => Hcok.out x (List.mem_of_mem_take hx))
              have hp0 := hpb.1
              have hp1 : pack (radix base) ((column (longest rows) rows j).take q) ≤ 7776 := by
                have := (HP.out ((column (longest rows) rows j).take q).length (by have := Hcl.out; simp; omega)).2
                omega
              clear hpb
              by_cases hqn : q < nums.length
              · have hq1 : q < rows.length := by have := Hrl.out; omega
                have hq2 : q < xs.length := by have := Hxl.out; omega
                have hcq : q < (column (longest rows) rows j).length := by have := Hcl.out; omega
                have hX := (HX.out q hq1 hq2)
                obtain ⟨pb, cb, hxf⟩ := Sl.form hX
                rw [hxf] at hX
                have hcellr : wr.cell? ⟨w.heap.size, q, none⟩ = some (.slice pb rows[q].length cb) := by
                  rw [HB2.out.cell (p := ⟨w.heap.size, q, none⟩) hszw, HO.out.cellAt q (by omega), List.getElem?_eq_getElem hq2, hxf]
                have hdlen : rows[q].length ≤ longest rows := longest_ge (List.getElem_mem hq1)
                have hpa := pad_at (longest rows) rows[q] j hdlen hlt
                have hcol : (column (longest rows) rows j)[q] = (pad (longest rows) rows[q]).getD j 0 := by simp [column]
                have hsn : pack (radix base) ((column (longest rows) rows j).take (q + 1)) = pack (radix base) ((column (longest rows) rows j).take q) * radix base + (pad (longest rows) rows[q]).getD j 0 := by
                  rw [List.take_succ_eq_append_getElem hcq, pack_snoc, hcol]
                have hdb := Hcok.out _ (List.getElem_mem hcq)
                rw [hcol] at hdb
                generalize hp : pack (radix base) ((column (longest rows) rows j).take q) = p at *
                have Hp := Lib.hid hp; clear hp hxf hcol
                have p3 : 0 ≤ p * radix base := Int.mul_nonneg (by omega) (by omega)
                have p4 : p * radix base ≤ 46656 := by
                  have := Int.mul_le_mul hp1 r6 (by omega) (by omega)
                  omega
                by_cases hin : longest rows ≤ j + rows[q].length
                · rw [dif_pos hin] at hpa
                  rw [hpa] at hsn hdb
                  obtain ⟨b, off, z, hpbv, hSb, hcz, hz, hi⟩ := hX.at (j + rows[q].length - longest rows) (by omega)
                  subst hpbv hz
                  have hcz' : wr.cell? ⟨b, off + (j + rows[q].length - longest rows), none⟩ = some (.int .i64 (rows[q][j + rows[q].length - longest rows]'(by omega))) :=
                    (HB2.out.cell (p := ⟨b, off + (j + rows[q].length - longest rows), none⟩) (cell_lt hcz)).trans hcz
                  generalize hx : rows[q][j + rows[q].length - longest rows]'(by omega) = x at *
                  have Hsn := Lib.hid hsn
                  have d1 := hdb.1
                  have d2 := hdb.2
                  clear hsn hdb hpa hx hcz hX hSb hi
                  have hr : (j : Int) - ((longest rows : Int) - (rows[q].length : Int)) = ((j + rows[q].length - longest rows : Nat) : Int) := by omega
                  generalize j + rows[q].length - longest rows = r at *
                  have r0 : (0 : Int) ≤ (r : Int) := by omega
                  have r1 : (r : Int) < (rows[q].length : Int) := by omega
                  go_wp2_with (go_at_call 66; refine (Radix_calls _ _).mono ?_; rintro e w' ⟨rfl, rfl⟩)
                  go_round
                  case rel => exact ⟨q + 1, by omega, by go_num, by rw [Hsn.out]⟩
                  case measure => (simp [intOf] <;> omega)
                · rw [dif_neg hin] at hpa
                  rw [hpa] at hsn
                  have Hsn := Lib.hid hsn
                  have hr : (j : Int) - ((longest rows : Int) - (rows[q].length : Int)) < 0 := by omega
                  clear hsn hdb hpa hX hin
                  go_wp2_with (go_at_call 66; refine (Radix_calls _ _).mono ?_; rintro e w' ⟨rfl, rfl⟩)
                  go_round
                  case rel => exact ⟨q + 1, by omega, by go_num, by rw [Hsn.out]; simp⟩
                  case measure => (simp [intOf] <;> omega)
              · obtain rfl : q = nums.length := by omega
                have e : (column (longest rows) rows j).take nums.length = column (longest rows) rows j := List.take_of_length_le (by have := Hcl.out; omega)
                rw [e] at hp0 hp1 ⊢
                clear e
                have hown2 := HO2.out
                go_wp2_with (at_builtin; go_loud (refine appInt rfl _ _ rfl wo.heap.size _ _ _ rfl hown2 _ rfl rfl ?c1 HB2.out.size ?_))
                case c1 => omega
                intro v' w' hown' hgrow _
                have HBn := Lib.hid (HB2.out.grown hgrow HB2.out.size (fun k hk => (hown2.lt k hk).1))
                have Hown' := Lib.hid hown'
                clear hown' hgrow hown2
                go_wp2_with fail
                go_roundw
                case rel =>
                  refine ⟨j + 1, ls ++ [pack (radix base) (column (longest rows) rows j)], by omega, by go_num, by have := Hll.out; simp; omega, ?_, by simpa [Hid] using Hown'.out, HBn.out⟩
                  show _ = _
                  have hw : j < (wordRows (radix base) (longest rows) rows).length := by simp [wordRows]; omega
                  rw [List.take_succ_eq_append_getElem hw, ← HL.out]
                  simp [wordRows]
                case measure => (simp [intOf] <;> omega)
          · have e : ls = wordRows (radix base) (longest rows) rows := by
              rw [HL.out]; exact List.take_of_length_le (by simp [wordRows]; omega)
            have He := Lib.hid e; clear e
            go_wp2_with fail
            go_ret2
            refine RetQ.mk ⟨_, ls, by rw [HE.out]; rfl, ?_, fun h => absurd HE.out h, fun _ => ⟨rows, HRO.out, He.out⟩⟩ (HB'.out.trans (HB2.out.mono HB'.out.size))
            refine (Ints.of_own HO2.out Hll.out ?_).keep fun b hb _ => ⟨rfl, Nat.le_trans HB'.out.size hb⟩
            intro x hx
            rw [He.out] at hx
            have h1 := wordRows_letters Hr0.out Hokd.out _ x hx
            have h2 := (HP.out rows.length (by have := Hrl.out; omega)).2
            exact ⟨by omega, by omega⟩
  · have R := Lib.hid (show wordErr base nums = manyErr base nums.length by simp [wordErr, h0])
    have E := Lib.hid (errV_ne 27 h0)
    have H0 := Lib.hid h0
    clear h0 hlen
    go_enter Tryd.func30, Tryd.ntmps30
    go_wp2_with (go_at_call 23; refine (Many_calls _ _ _).mono ?_; rintro e w' ⟨rfl, rfl⟩; rw [E.out])
    go_ret2
    exact RetQ.mk ⟨_, [], by rw [R.out, E.out]; rfl, Sl.nil _ _ _, fun _ => rfl, fun h => absurd (R.out ▸ h) H0.out⟩ (Below.refl _ _)
end Go.Proofs.YtgglhdbhemcijaaDoor
