/- The walks of the reference's TrackOf, WordFault, RightWord. Conditions: the letters may be. -/
import Derived.Test.YtgglhdbhemcijaaDoorRefL
import Derived.Test.YtgglhdbhemcijaaDoorLetterS
namespace Go.Proofs.YtgglhdbhemcijaaDoor
open Go.RowKit

theorem trackOf_digitAt (k : Int) (t : Nat) (w : List Int) (i : Nat) : trackOf k t w i = w.map fun l => digitAt k t l i := rfl

set_option maxHeartbeats 1000000 in
set_option maxRecDepth 100000 in
theorem RTrackOf_calls (S : Nat → Prop) (base : Int) (t : Nat) (v : Value) (l : List Int) (i : Nat) (w : World) (hr : radix base ≠ 0) (ht : t ≤ 5) (hi : i < t) (hll : l.length ≤ 1000)
    (hok : ∀ x ∈ l, 0 ≤ x ∧ x ≤ 7776) (hS : ∀ b, S b → b < w.heap.size) (hd : Ints S w v l) :
    Calls Tryd.prog 35 #[.int .i64 base, .int .i64 t, v, .int .i64 i] w (RetQ (fun x w' => Ints (w.heap.size ≤ ·) w' x (trackOf (radix base) t l i)) w) := by
  have Hd := Lib.hid hd
  obtain ⟨pa, ca, rfl⟩ := hd.form
  have HDg := Lib.hid (show ∀ (x : Int) (w : World), (0 ≤ x ∧ x ≤ 7776) → Calls Tryd.prog 26 #[.int .i64 base, .int .i64 t, .int .i64 x, .int .i64 i] w (RetS (.int .i64 (digitAt (radix base) t x i)) w) from
    fun x w hx => RDigitOf_calls base t x i w hr ht hx.1 hx.2 hi)
  have Hok := Lib.hid (show ∀ j (hj : j < l.length), 0 ≤ l[j] ∧ l[j] ≤ 7776 from fun j hj => hok _ (List.getElem_mem hj))
  have Hr2 := Lib.hid (radix_two hr).1
  have Hr6 := Lib.hid (radix_two hr).2
  clear hd hr hok
  go_enter Tryd.func35, Tryd.ntmps35
  go_wp2_with fail
  go_loopw [9, 10] (fun out j wr => ∃ k : Nat, k ≤ l.length ∧ j = .int .i64 k ∧ Hid (wr.ownsRow w.heap.size 3 1 out k ((trackOf (radix base) t (l.take k) i).map (Value.int .i64))) ∧ Hid (Below w.heap.size w wr)) (fun _ j _ => l.length - (intOf j).toNat)
  case atStart => exact ⟨0, by omega, rfl, World.ownsRow_nil _ _ _ _, Below.refl _ _⟩
  case round =>
    obtain ⟨k, hk, rfl, HO, HB⟩ := hrel
    obtain ⟨po, co, rfl⟩ := own_form HO.out
    by_cases hlt : k < l.length
    · obtain ⟨b, off, x, hp, hSb, hc, hx, hi'⟩ := Hd.out.at k hlt
      subst hp hx
      have hc' := (HB.out.cell (p := ⟨b, off + k, none⟩) (hS b hSb)).trans hc
      have hown := HO.out
      have Hst := Lib.hid (show trackOf (radix base) t (l.take (k + 1)) i = trackOf (radix base) t (l.take k) i ++ [digitAt (radix base) t l[k] i] by
        rw [List.take_succ_eq_append_getElem hlt]; exact trackOf_snoc _ _ _ _ _)
      generalize hXS : (trackOf (radix base) t (l.take k) i).map (Value.int .i64) = XS at hown
      have HXS := Lib.hid hXS; clear hXS
      go_wp2_with fail
      refine (HDg.out _ _ (Hok.out k hlt)).mono ?_
      rintro e w' ⟨rfl, rfl⟩
      go_wp2_with (at_builtin; go_loud (refine appInt rfl _ _ rfl w.heap.size _ _ _ rfl hown _ rfl rfl ?c1 HB.out.size ?_))
      case c1 => omega
      intro v' w' hown' hgrow _
      have HBn := Lib.hid (HB.out.grown hgrow HB.out.size (fun k hk => (hown.lt k hk).1))
      have Hown' := Lib.hid hown'
      clear hown' hgrow hown
      go_wp2_with fail
      go_roundw
      case rel =>
        refine ⟨k + 1, by omega, by go_num, ?_, HBn.out⟩
        rw [Hst.out, List.map_append, HXS.out]
        exact Hown'.out
      case measure => (simp [intOf] <;> omega)
    · obtain rfl : k = l.length := by omega
      have ho := HO.out
      rw [List.take_length] at ho
      have Ho := Lib.hid ho
      clear ho
      go_wp2_with fail
      go_ret
      refine RetQ.mk (Ints.of_own Ho.out (by simp [trackOf]) fun x hx => ?_) HB.out
      obtain ⟨y, _, rfl⟩ := List.mem_map.1 hx
      have h2 := Hr2.out
      have h6 := Hr6.out
      rw [List.getD_eq_getElem?_getD]
      rcases hy : (unpack (radix base) t y)[i]? with _ | z
      · exact ⟨by decide, by decide⟩
      · have := unpack_ok h2 _ _ z (List.mem_of_getElem? hy)
        exact ⟨by simp; omega, by simp; omega⟩

/-- The fault of a word that is to be read as numbers, and split's. -/
theorem RWordFault_calls (S : Nat → Prop) (base t : Int) (v : Value) (l : List Int) (w : World) (hd : Ints S w v l) :
    Calls Tryd.prog 32 #[.int .i64 base, .int .i64 t, v] w (RetS (.int .i64 (splitErr base t l)) w) := by
  obtain ⟨a, cap, rfl, hlen, hcell⟩ := hd
  by_cases h0 : manyErr base t = 0
  · have E0 := Lib.hid h0
    by_cases h60 : 60 < l.length
    · have R := Lib.hid (splitErr_long h0 h60)
      have h60' : (60 : Int) < l.length := by omega
      clear h0 h60
      go_enter Tryd.func32, Tryd.ntmps32
      go_wp2_with (go_at_call 24; refine (RLetters_calls _ _ _).mono ?_; rintro e w' ⟨rfl, rfl⟩; rw [E0.out])
      go_ret
      exact RetS.mk (by rw [R.out.1]; rfl)
    · have HL := Lib.hid (show ∀ i (hi : i < l.length), (l[i] < 0 ∨ manyOf base t ≤ l[i]) → splitErr base t l = 1 from fun i hi hx => (splitErr_letter h0 h60 hi hx).1)
      have HO := Lib.hid (show (∀ i (hi : i < l.length), ¬ (l[i] < 0 ∨ manyOf base t ≤ l[i])) → splitErr base t l = 0 from fun h => (splitErr_ok h0 h60 h).1)
      have h60' : ¬ (60 : Int) < l.length := by omega
      clear h0 h60
      go_enter Tryd.func32, Tryd.ntmps32
      go_wp2_with (go_at_call 24; refine (RLetters_calls _ _ _).mono ?_; rintro e w' ⟨rfl, rfl⟩; rw [E0.out])
      go_loop [9] (fun i => ∃ k : Nat, k ≤ l.length ∧ i = .int .i64 k ∧ Hid (∀ i (hi : i < l.length), i < k → ¬ (l[i] < 0 ∨ manyOf base t ≤ l[i]))) (fun i => l.length - (intOf i).toNat)
      case atStart => exact ⟨0, by omega, rfl, fun i hi h => by omega⟩
      case round =>
        obtain ⟨k, hk, rfl, HA⟩ := hrel
        by_cases hlt : k < l.length
        · obtain ⟨b, off, x, ha, hS, hc, hx, hi⟩ := hcell k hlt
          subst ha hx
          by_cases c1 : l[k] < 0
          · have R := Lib.hid (HL.out k hlt (.inl c1))
            go_wp2
            go_ret
            exact RetS.mk (by rw [R.out]; rfl)
          · by_cases c2 : manyOf base t ≤ l[k]
            · have R := Lib.hid (HL.out k hlt (.inr c2))
              go_wp2
              go_ret
              exact RetS.mk (by rw [R.out]; rfl)
            · have HG := Lib.hid (show ¬ (l[k] < 0 ∨ manyOf base t ≤ l[k]) by omega)
              go_wp2
              go_round
              case rel =>
                refine ⟨k + 1, by omega, by go_num, fun i hi h => ?_⟩
                by_cases e : i < k
                · exact HA.out i hi e
                · obtain rfl : i = k := by omega
                  exact HG.out
              case measure => (simp [intOf] <;> omega)
        · obtain rfl : k = l.length := by omega
          have R := Lib.hid (HO.out fun i hi => HA.out i hi hi)
          go_wp2
          go_ret
          exact RetS.mk (by rw [R.out]; rfl)
  · have R := Lib.hid (splitErr_many (l := l) h0)
    have e0 : (manyErr base t != 0) = true := by simpa using h0
    clear h0
    go_enter Tryd.func32, Tryd.ntmps32
    go_wp2_with (go_at_call 24; refine (RLetters_calls _ _ _).mono ?_; rintro e w' ⟨rfl, rfl⟩)
    go_ret
    exact RetS.mk (by rw [R.out.1]; rfl)

set_option maxHeartbeats 1000000 in
set_option maxRecDepth 100000 in
theorem RRightWord_calls (S : Nat → Prop) (base : Int) (t : Nat) (v : Value) (l : List Int) (w : World) (hr : radix base ≠ 0) (ht : t ≤ 5) (hll : l.length ≤ 1000)
    (hok : ∀ x ∈ l, 0 ≤ x ∧ x ≤ 7776) (hS : ∀ b, S b → b < w.heap.size) (hd : Ints S w v l) :
    Calls Tryd.prog 34 #[.int .i64 base, .int .i64 t, v] w (Ret (.bool ((List.range t).all fun i => rightOf base (trackOf (radix base) t l i))) w) := by
  have Hd := Lib.hid hd
  obtain ⟨pa, ca, rfl⟩ := hd.form
  have Hr := Lib.hid hr
  have Hok := Lib.hid hok
  clear hd hr hok
  go_enter Tryd.func34, Tryd.ntmps34
  go_wp2_with fail
  go_loopw [7] (fun i wr => ∃ k : Nat, k ≤ t ∧ i = .int .i64 k ∧ Hid (∀ j, j < k → rightOf base (trackOf (radix base) t l j) = true) ∧ Hid (Below w.heap.size w wr)) (fun i _ => t - (intOf i).toNat)
  case atStart => exact ⟨0, by omega, rfl, fun i h => by omega, Below.refl _ _⟩
  case round =>
    obtain ⟨k, hk, rfl, HA, HB⟩ := hrel
    by_cases hlt : k < t
    · go_wp2_with fail
      refine (RTrackOf_calls _ base t _ l k _ Hr.out ht hlt hll Hok.out (fun b hb => Nat.lt_of_lt_of_le (hS b hb) HB.out.size) (Hd.out.keep fun b hb hlt => ⟨HB.out.block b (hS b hb), hb⟩)).mono ?_
      rintro e w2 ⟨x2, rfl, hx2, hb2⟩
      have HB2 := Lib.hid (HB.out.trans (hb2.mono HB.out.size))
      have Hx2 := Lib.hid hx2
      clear hb2 hx2
      go_wp2_with fail
      refine (RRight_calls _ _ _ _ _ Hx2.out).mono ?_
      rintro e w' ⟨rfl, rfl⟩
      by_cases c : rightOf base (trackOf (radix base) t l k) = true
      · have Hc := Lib.hid c
        rw [c]
        clear c
        go_wp2_with fail
        go_roundw
        case rel =>
          refine ⟨k + 1, by omega, by go_num, fun j hj => ?_, HB2.out⟩
          by_cases e : j < k
          · exact HA.out j e
          · obtain rfl : j = k := by omega
            exact Hc.out
        case measure => (simp [intOf] <;> omega)
      · have Hc := Lib.hid (show ((List.range t).all fun i => rightOf base (trackOf (radix base) t l i)) = false by
          rw [List.all_eq_false]; exact ⟨k, by simpa using hlt, c⟩)
        have c' : rightOf base (trackOf (radix base) t l k) = false := by simpa using c
        rw [c']
        clear c c'
        go_wp2_with fail
        go_ret
        exact Ret.mk (by rw [Hc.out]; rfl) HB2.out
    · obtain rfl : k = t := by omega
      have Hc := Lib.hid (show ((List.range k).all fun i => rightOf base (trackOf (radix base) k l i)) = true by
        rw [List.all_eq_true]; intro j hj; exact HA.out j (by simpa using hj))
      go_wp2_with fail
      go_ret
      exact Ret.mk (by rw [Hc.out]; rfl) HB.out
end Go.Proofs.YtgglhdbhemcijaaDoor
