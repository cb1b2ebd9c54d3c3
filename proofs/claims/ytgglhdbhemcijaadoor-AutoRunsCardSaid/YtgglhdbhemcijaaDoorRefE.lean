/- The walks of the reference's DigitsOf and ValueOf. Conditions: the values read as lists. -/
import Derived.Test.YtgglhdbhemcijaaDoorRefD
import Derived.Test.YtgglhdbhemcijaaDoorDigitF
import Derived.Test.YtgglhdbhemcijaaDoorPlainL
namespace Go.Proofs.YtgglhdbhemcijaaDoor
open Go.RowKit

set_option maxHeartbeats 1000000 in
set_option maxRecDepth 100000 in
theorem ROf_calls (base n : Int) (w : World) :
    Calls Tryd.prog 14 #[.int .i64 base, .int .i64 n] w
      (RetQ (fun v w' => ∃ x l, v = .tuple #[x, .int .i64 (ofFault base n)] ∧ Ints (w.heap.size ≤ ·) w' x l ∧ (ofFault base n = 0 → IsOf base n l) ∧ (ofFault base n ≠ 0 → l = [])) w) := by
  by_cases hbad : radix base = 0 ∨ n < 0 ∨ 1099511627776 < n
  · have H := Lib.hid (show ofFault base n = 1 by simp [ofFault, hbad])
    by_cases h1 : radix base = 0
    · have e0 : (radix base == 0) = true := by simp [h1]
      clear hbad h1
      go_enter Tryd.func14, Tryd.ntmps14
      go_wp2_with (go_at_call 27; refine (RRadix_calls _ _).mono ?_; rintro e w' ⟨rfl, rfl⟩)
      go_ret2
      exact RetQ.mk ⟨_, [], by rw [H.out]; rfl, Sl.nil _ _ _, fun h => by rw [H.out] at h; omega, fun _ => rfl⟩ (Below.refl _ _)
    · have e0 : (radix base == 0) = false := by simp [h1]
      by_cases h2 : n < 0
      · clear hbad h1
        go_enter Tryd.func14, Tryd.ntmps14
        go_wp2_with (go_at_call 27; refine (RRadix_calls _ _).mono ?_; rintro e w' ⟨rfl, rfl⟩)
        go_ret2
        exact RetQ.mk ⟨_, [], by rw [H.out]; rfl, Sl.nil _ _ _, fun h => by rw [H.out] at h; omega, fun _ => rfl⟩ (Below.refl _ _)
      · have h3 : 1099511627776 < n := by omega
        clear hbad h1
        go_enter Tryd.func14, Tryd.ntmps14
        go_wp2_with (go_at_call 27; refine (RRadix_calls _ _).mono ?_; rintro e w' ⟨rfl, rfl⟩)
        go_ret2
        exact RetQ.mk ⟨_, [], by rw [H.out]; rfl, Sl.nil _ _ _, fun h => by rw [H.out] at h; omega, fun _ => rfl⟩ (Below.refl _ _)
  · have H := Lib.hid (show ofFault base n = 0 by simp [ofFault, hbad])
    have h1 : radix base ≠ 0 := by omega
    have e0 : (radix base == 0) = false := by simp [h1]
    have h2 : ¬ n < 0 := by omega
    have h3 : ¬ 1099511627776 < n := by omega
    have Hr := Lib.hid h1
    have H23 := Lib.hid (And.intro h2 h3)
    clear hbad h1
    go_enter Tryd.func14, Tryd.ntmps14
    go_wp2_with (go_at_call 27; refine (RRadix_calls _ _).mono ?_; rintro e w' ⟨rfl, rfl⟩)
    refine (Weights_calls _ _ Hr.out).mono ?_
    rintro e w1 ⟨x1, rfl, ⟨ws, hws, hW⟩, hb1⟩
    have HB := Lib.hid hb1; clear hb1
    have HW := Lib.hid hW
    have Hws := Lib.hid hws
    obtain ⟨pw, cw, rfl⟩ := hws.form
    have hwl := hW.le
    have hwp := hW.pos
    have HG := Lib.hid (GreedyB.start (b := base) (n := n) (m := ws.length) (by have := H23.out; omega) (by
      have h := hW.big
      have h2 := W_le Hr.out (show ws.length - 1 ≤ ws.length by omega)
      have := H23.out
      omega) (by omega))
    clear hws hW
    go_wp2_with fail
    obtain ⟨wo, rfl⟩ : ∃ wo : World, wo = w1 := ⟨_, rfl⟩
    clear h2 h3
    go_loopw [1, 7, 8] (fun q out i wr => ∃ (j : Nat) (r : Int) (l : List Int), j ≤ ws.length ∧ i = .int .i64 ((j : Int) - 1) ∧ q = .int .i64 r ∧ Hid (GreedyB base n j r l) ∧
      Hid (wr.ownsRow wo.heap.size 3 1 out l.length (l.map (Value.int .i64))) ∧ Hid (Below wo.heap.size wo wr)) (fun _ _ i _ => (intOf i + 1).toNat)
    case atStart => exact ⟨ws.length, n, [], Nat.le_refl _, rfl, rfl, HG.out, World.ownsRow_nil _ _ _ _, Below.refl _ _⟩
    case round =>
      obtain ⟨j, r, l, hj, rfl, rfl, G, HO, HB2⟩ := hrel
      obtain ⟨po, co, rfl⟩ := own_form HO.out
      rcases Nat.eq_zero_or_pos j with hj0 | hj0
      · subst hj0
        have D := Lib.hid G.out.done
        go_wp2
        go_ret2
        refine RetQ.mk ⟨_, l, by rw [H.out]; rfl, ?_, fun _ => D.out, fun h => absurd H.out h⟩ (HB.out.trans (HB2.out.mono HB.out.size))
        refine (Ints.of_own HO.out rfl ?_).keep fun b hb _ => ⟨rfl, Nat.le_trans HB.out.size hb⟩
        intro x hx
        have h1 := D.out.ok x hx
        have h2 := radix_two Hr.out
        exact ⟨by omega, by omega⟩
      · obtain ⟨j, rfl⟩ : ∃ j', j = j' + 1 := ⟨j - 1, by omega⟩
        have hpos : (0 : Int) ≤ ((j + 1 : Nat) : Int) - 1 := by omega
        have hjl : ((j + 1 : Nat) : Int) - 1 < (ws.length : Int) := by omega
        obtain ⟨b, off, x, hp, hS, hc, hx, hi⟩ := Hws.out.at j (by omega)
        have hwj : ws[j]'(by omega) = W base j := by
          have := HW.out.eq
          rw [List.getElem_of_eq this]; simp
        rw [hwj] at hx hi
        subst hp hx
        have hc' : wr.cell? ⟨b, off + j, none⟩ = some (.int .i64 (W base j)) := (HB2.out.cell (p := ⟨b, off + j, none⟩) (cell_lt hc)).trans hc
        have hwj1 := W_pos Hr.out j
        have hr0 := G.out.r0
        have hrn : r ≤ 1099511627776 := by
          have h1 := G.out.val
          have h2 := wv_nonneg Hr.out (d := l ++ List.replicate (j + 1) 0) (by
            intro x hx
            rcases List.mem_append.1 hx with hx | hx
            · exact G.out.ok x hx
            · have := List.eq_of_mem_replicate hx; subst this; have := radix_two Hr.out; omega)
          have := H23.out
          omega
        have hl64 := G.out.len
        have d0 : 0 ≤ r / W base j := Int.ediv_nonneg hr0 (by omega)
        have d1 : r / W base j ≤ r := Int.ediv_le_self _ hr0
        have m0 : 0 ≤ r / W base j * W base j := Int.mul_nonneg d0 (by omega)
        have m1 : r / W base j * W base j ≤ r := Int.ediv_mul_le _ (by omega)
        clear hc hwj hi
        by_cases hd : 0 < r / W base j
        · have D := Lib.hid (G.out.step Hr.out (.inr hd))
          have hown := HO.out
          go_wp2_with (at_builtin; go_loud (refine appInt rfl _ _ rfl wo.heap.size _ _ _ rfl hown _ rfl rfl ?c1 HB2.out.size ?_))
          case c1 => omega
          intro v' w' hown' hgrow _
          have HBn := Lib.hid (HB2.out.grown hgrow HB2.out.size (fun k hk => (hown.lt k hk).1))
          have Hown' := Lib.hid hown'
          clear hown' hgrow hown
          go_wp2_with fail
          go_roundw
          case rel => exact ⟨j, _, _, by omega, by go_num, rfl, D.out, by simpa [Hid] using Hown'.out, HBn.out⟩
          case measure => (simp [intOf] <;> omega)
        · by_cases hl : l = []
          · have D := Lib.hid (show GreedyB base n j r l by
              subst hl
              refine G.out.none ?_
              rcases Int.lt_or_le r (W base j) with c | c
              · exact c
              · have : 1 ≤ r / W base j := by
                  rw [Int.le_ediv_iff_mul_le (by omega)]; omega
                omega)
            have hz : (l.length : Int) ≤ 0 := by subst hl; simp
            have hd0 : r / W base j = 0 := by omega
            have hown := HO.out
            clear hl hd d0 d1
            go_wp2_with fail
            go_roundw
            case rel => exact ⟨j, r, l, by omega, by go_num, by simp, D.out, HO.out, HB2.out⟩
            case measure => (simp [intOf] <;> omega)
          · have D := Lib.hid (G.out.step Hr.out (.inl hl))
            have hz : (0 : Int) < (l.length : Int) := by have := List.length_pos_iff.2 hl; omega
            have hown := HO.out
            clear hl
            go_wp2_with (at_builtin; go_loud (refine appInt rfl _ _ rfl wo.heap.size _ _ _ rfl hown _ rfl rfl ?c1 HB2.out.size ?_))
            case c1 => omega
            intro v' w' hown' hgrow _
            have HBn := Lib.hid (HB2.out.grown hgrow HB2.out.size (fun k hk => (hown.lt k hk).1))
            have Hown' := Lib.hid hown'
            clear hown' hgrow hown
            go_wp2_with fail
            go_roundw
            case rel => exact ⟨j, _, _, by omega, by go_num, rfl, D.out, by simpa [Hid] using Hown'.out, HBn.out⟩
            case measure => (simp [intOf] <;> omega)

set_option maxHeartbeats 1000000 in
set_option maxRecDepth 100000 in
theorem RValue_calls (S : Nat → Prop) (base : Int) (v : Value) (d : List Int) (w : World) (_hS : ∀ b, S b → b < w.heap.size) (hd : Ints S w v d) :
    Calls Tryd.prog 20 #[.int .i64 base, v] w (Ret (.tuple #[.int .i64 (valOf base d), .int .i64 (valErr base d)]) w) := by
  have Hd := Lib.hid hd
  obtain ⟨pa, ca, rfl⟩ := hd.form
  clear hd
  by_cases h0 : digitsFault base d = 0
  · obtain ⟨hr, hl60, hok⟩ := fault_zero.1 h0
    have H0 := Lib.hid h0; clear h0
    have Hok := Lib.hid hok; clear hok
    have Hr := Lib.hid hr; clear hr
    go_enter Tryd.func20, Tryd.ntmps20
    go_wp2_with fail
    refine (RFault_calls _ _ _ _ _ Hd.out).mono ?_; rintro e w' ⟨rfl, rfl⟩; rw [H0.out]
    go_wp2_with fail
    refine (Weights_calls _ _ Hr.out).mono ?_
    rintro e w1 ⟨x1, rfl, ⟨ws, hws, hW⟩, hb1⟩
    have HB := Lib.hid hb1
    have Hd1 := Lib.hid (Hd.out.keep (S' := fun _ => True) fun b hb hlt => ⟨hb1.block b hlt, trivial⟩)
    have HW := Lib.hid hW
    have Hws := Lib.hid hws
    obtain ⟨pw, cw, rfl⟩ := hws.form
    have hwl := hW.le
    have hwp := hW.pos
    clear hws hW hb1
    go_wp2_with fail
    go_loop [8, 9] (fun sum i => ∃ (k : Nat), k ≤ d.length ∧ i = .int .i64 k ∧ sum = .int .i64 (wv base (d.drop (d.length - k))) ∧ wv base (d.drop (d.length - k)) ≤ 1099511627776) (fun _ i => d.length - (intOf i).toNat)
    case atStart => exact ⟨0, by omega, rfl, by simp [wv], by simp [wv]⟩
    case round =>
      obtain ⟨k, hk, rfl, rfl, hsm⟩ := hrel
      have hs0 : 0 ≤ wv base (d.drop (d.length - k)) := wv_nonneg Hr.out fun x hx => Hok.out x (List.mem_of_mem_drop hx)
      by_cases hlt : k < d.length
      · have hst := wv_drop base k d hlt
        have hle := wv_drop_le Hr.out Hok.out (d.length - 1 - k)
        have e1 : d.length - (k + 1) = d.length - 1 - k := by omega
        obtain ⟨b, off, x, hp, hS1, hc, hx, hi⟩ := Hd1.out.at (d.length - 1 - k) (by omega)
        subst hp hx
        rw [getD_lt (show d.length - 1 - k < d.length by omega)] at hst
        have hxd := Hok.out _ (List.getElem_mem (show d.length - 1 - k < d.length by omega))
        have hr2 := radix_two Hr.out
        have hidx : (d.length : Int) - 1 - (k : Int) = ((d.length - 1 - k : Nat) : Int) := by omega
        have hil : ((d.length - 1 - k : Nat) : Int) < (d.length : Int) := by omega
        generalize hs : wv base (d.drop (d.length - k)) = s at *
        generalize hx : d[d.length - 1 - k]'(by omega) = x at *
        have x0 := hxd.1
        have x6 : x ≤ 6 := by omega
        have Hst := Lib.hid hst
        have Hle := Lib.hid hle
        have He1 := Lib.hid e1
        clear hxd hst hle e1 hs hx
        generalize d.length - 1 - k = q at *
        by_cases hz : x = 0
        · have hz' : (x == 0) = true := by simp [hz]
          have Hz := Lib.hid hz
          clear hz
          go_wp2
          go_round
          case rel =>
            refine ⟨k + 1, by omega, by go_num, ?_, ?_⟩
            · rw [He1.out, Hst.out, Hz.out]; simp
            · rw [He1.out, Hst.out, Hz.out]; omega
          case measure => (simp [intOf] <;> omega)
        · have hz' : (x == 0) = false := by simp [hz]
          have x1 : 1 ≤ x := by omega
          clear hz
          by_cases hkw : k < ws.length
          · obtain ⟨b2, off2, y, hp2, hS2, hc2, hy, hi2⟩ := Hws.out.at k hkw
            have hwj : ws[k] = W base k := by
              have := HW.out.eq
              rw [List.getElem_of_eq this]; simp
            rw [hwj] at hy hi2
            subst hp2 hy
            have hwk := W_pos Hr.out k
            have hw6 : W base k ≤ 6597069766656 := by
              rcases Nat.eq_zero_or_pos k with h | h
              · have : W base k = 1 := by rw [h]; unfold W; split <;> rfl
                omega
              · have h1 := HW.out.small (k - 1) (by omega)
                have h2 := W_six Hr.out (k - 1)
                rw [show k - 1 + 1 = k by omega] at h2
                omega
            have p0 : 0 ≤ x * W base k := Int.mul_nonneg x0 (by omega)
            have p1 : x * W base k ≤ 39582418599936 := by
              have := Int.mul_le_mul x6 hw6 (by omega) (by omega)
              omega
            clear hwj
            by_cases hbig : 1099511627776 - s < x * W base k
            · have hv := Lib.hid (valErr_full H0.out (show 1099511627776 < wv base d by have := Hle.out; have := Hst.out; omega))
              go_wp2
              go_ret2
              exact Ret.mk (by rw [hv.out.1, hv.out.2]; rfl) HB.out
            · go_wp2
              go_round
              case rel =>
                refine ⟨k + 1, by omega, by go_num, ?_, ?_⟩
                · rw [He1.out, Hst.out, Int.add_comm]
                · rw [He1.out, Hst.out]; omega
              case measure => (simp [intOf] <;> omega)
          · have hv := Lib.hid (valErr_full H0.out (show 1099511627776 < wv base d by
              have h1 := Hle.out
              have h2 := Hst.out
              have h3 := HW.out.big
              have h4 := W_le Hr.out (show ws.length - 1 ≤ k by omega)
              have h5 : 1 * W base k ≤ x * W base k := Int.mul_le_mul_of_nonneg_right x1 (by omega)
              omega))
            have hkw' : (ws.length : Int) ≤ (k : Int) := by omega
            go_wp2
            go_ret2
            exact Ret.mk (by rw [hv.out.1, hv.out.2]; rfl) HB.out
      · obtain rfl : k = d.length := by omega
        have e : d.drop (d.length - d.length) = d := by simp
        rw [e] at hsm hs0 ⊢
        have hv := Lib.hid (valErr_ok H0.out hsm)
        clear e
        go_wp2
        go_ret2
        exact Ret.mk (by rw [hv.out.1, hv.out.2]; rfl) HB.out
  · have hv := valErr_fault h0
    have Hv := Lib.hid hv; clear hv
    obtain ⟨e, he⟩ : ∃ e, digitsFault base d = e := ⟨_, rfl⟩
    rw [he] at Hv h0
    have h0' : (e != 0) = true := by simpa using h0
    have He := Lib.hid he
    clear h0 he
    go_enter Tryd.func20, Tryd.ntmps20
    go_wp2_with fail
    refine (RFault_calls _ _ _ _ _ Hd.out).mono ?_; rintro e w' ⟨rfl, rfl⟩; rw [He.out]
    go_wp2_with fail
    go_ret2
    exact Ret.mk (by rw [Hv.out.1, Hv.out.2]; rfl) (Below.refl _ _)
end Go.Proofs.YtgglhdbhemcijaaDoor
