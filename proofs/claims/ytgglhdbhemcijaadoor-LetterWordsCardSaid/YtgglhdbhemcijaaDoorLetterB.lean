/- The walk of Unpack. No conditions. -/
import Derived.Test.YtgglhdbhemcijaaDoorLetterA
namespace Go.Proofs.YtgglhdbhemcijaaDoor
open Go.RowKit

theorem unpackErr_many {base t l : Int} (h : manyErr base t ≠ 0) : unpackErr base t l = manyErr base t ∧ unpackOf base t l = [] := by
  have : unpackErr base t l = manyErr base t := by simp [unpackErr, h]
  exact ⟨this, by simp [unpackOf, this, h]⟩
theorem unpackErr_letter {base t l : Int} (h : manyErr base t = 0) (hl : l < 0 ∨ manyOf base t ≤ l) : unpackErr base t l = 1 ∧ unpackOf base t l = [] := by
  have : unpackErr base t l = 1 := by simp [unpackErr, h, hl]
  exact ⟨this, by simp [unpackOf, this]⟩
theorem unpackErr_ok {base t l : Int} (h : manyErr base t = 0) (hl : ¬ (l < 0 ∨ manyOf base t ≤ l)) : unpackErr base t l = 0 ∧ unpackOf base t l = unpack (radix base) t.toNat l := by
  have : unpackErr base t l = 0 := by simp only [unpackErr, h, if_neg hl]; simp
  exact ⟨this, by simp [unpackOf, this]⟩

set_option maxHeartbeats 1000000 in
set_option maxRecDepth 100000 in
theorem Unpack_calls (base t l : Int) (w : World) :
    Calls Tryd.prog 25 #[.int .i64 base, .int .i64 t, .int .i64 l] w
      (RetQ (fun v w' => ∃ x, v = .tuple #[x, errV 27 (unpackErr base t l)] ∧ Ints (w.heap.size ≤ ·) w' x (unpackOf base t l)) w) := by
  by_cases h0 : manyErr base t = 0
  · have E0 := Lib.hid (show errV 27 (manyErr base t) = .nilIface by rw [h0]; rfl)
    by_cases hl : l < 0 ∨ manyOf base t ≤ l
    · have R := Lib.hid (unpackErr_letter h0 hl)
      by_cases hl0 : l < 0
      · clear hl h0
        go_enter Tryd.func25, Tryd.ntmps25
        go_wp2_with (go_at_call 23; refine (Many_calls _ _ _).mono ?_; rintro e w' ⟨rfl, rfl⟩; rw [E0.out])
        go_ret2
        exact RetQ.mk ⟨_, by rw [R.out.1]; rfl, by rw [R.out.2]; exact Sl.nil _ _ _⟩ (Below.refl _ _)
      · have hl1 : manyOf base t ≤ l := by omega
        clear hl h0
        go_enter Tryd.func25, Tryd.ntmps25
        go_wp2_with (go_at_call 23; refine (Many_calls _ _ _).mono ?_; rintro e w' ⟨rfl, rfl⟩; rw [E0.out])
        go_ret2
        exact RetQ.mk ⟨_, by rw [R.out.1]; rfl, by rw [R.out.2]; exact Sl.nil _ _ _⟩ (Below.refl _ _)
    · have R := Lib.hid (unpackErr_ok h0 hl)
      have hl0 : ¬ l < 0 := by omega
      have hl1 : ¬ manyOf base t ≤ l := by omega
      obtain ⟨h1, ht0, h5, hp36, hmo⟩ := many_ok h0
      obtain ⟨r2, r6⟩ := radix_two h1
      obtain ⟨t, rfl⟩ := Int.eq_ofNat_of_zero_le ht0
      simp only [Int.toNat_natCast] at R hp36 hmo
      have hl36 : l ≤ 36 := by omega
      have ht5 : t ≤ 5 := by omega
      clear hl h0 h1 hp36 hmo
      generalize hk : radix base = k at *
      have Hk := Lib.hid hk; clear hk
      obtain ⟨i0, hi, hz0, hz1, hz2⟩ := info_parts infoInt
      go_enter Tryd.func25, Tryd.ntmps25
      go_wp2_with fail
      refine (Many_calls _ _ _).mono ?_; rintro e w' ⟨rfl, rfl⟩; rw [E0.out]
      go_wp2_with fail
      refine (Radix_calls _ _).mono ?_; rintro e w' ⟨rfl, rfl⟩; rw [Hk.out]
      go_wp2_with (at_make; go_loud (refine wpList_make_full w rfl _ _ 22 rfl w.heap.size 3 i0 (.int .i64 0) 1 Tryd.underlying22 hi hz0 hz1 .i64 .i64 _ _ t rfl rfl rfl rfl ?c1 ?c2 (Nat.le_refl _) ?_))
      case c1 => rw [hz2]; omega
      case c2 => simp only [maxLen]; omega
      intro w1 hown hgrow
      have HB := Lib.hid ((Below.refl w.heap.size w).grown hgrow (Nat.le_refl _) (by simp)); clear hgrow
      have hown' : w1.ownsRow w.heap.size 3 1 (.slice (some ⟨w.heap.size, 0, none⟩) t t) t ((List.replicate t 0 ++ ([] : List Int)).map (Value.int .i64)) := by
        have e : (madeCells (Value.int .i64 0).cells (t * 1)).toList = (List.replicate t 0 ++ ([] : List Int)).map (Value.int .i64) := by
          show (madeCells #[Value.int .i64 0] (t * 1)).toList = _
          rw [toList_madeCells_one]; simp
        rw [← e, Nat.mul_one]; exact hown
      clear hown
      have Hown := Lib.hid hown'; clear hown'
      go_wp2_with fail
      go_loopw [2, 35] (fun m i wr => ∃ (j : Nat) (q : Int) (u : List Int), j ≤ t ∧ i = .int .i64 j ∧ m = .int .i64 q ∧ 0 ≤ q ∧ q ≤ 36 ∧ u.length = j ∧ Hid (unpack k t l = unpack k (t - j) q ++ u) ∧
        Hid (wr.ownsRow w.heap.size 3 1 (.slice (some ⟨w.heap.size, 0, none⟩) t t) t ((List.replicate (t - j) 0 ++ u).map (Value.int .i64))) ∧ Hid (Below w.heap.size w wr)) (fun _ i _ => t - (intOf i).toNat)
      case atStart => exact ⟨0, l, [], by omega, rfl, rfl, by omega, hl36, rfl, by simp [Hid], Hown.out, HB.out⟩
      case round =>
        obtain ⟨j, q, u, hj, rfl, rfl, q0, q36, hu, HU, HO, HB'⟩ := hrel
        have Hu := Lib.hid hu; clear hu
        by_cases hlt : j < t
        · have q1 : 0 ≤ q % k := Int.emod_nonneg _ (by omega)
          have q2 : q % k < k := Int.emod_lt_of_pos _ (by omega)
          have q3 : 0 ≤ q / k := Int.ediv_nonneg q0 (by omega)
          have q4 : q / k ≤ q := Int.ediv_le_self _ q0
          obtain ⟨r, hr⟩ : ∃ r : Nat, (t : Int) - 1 - j = r := ⟨t - 1 - j, by omega⟩
          have hr' : t - j = r + 1 := by omega
          have HO' := Lib.hid (show wr.ownsRow w.heap.size 3 1 (.slice (some ⟨w.heap.size, 0, none⟩) t t) t ((List.replicate (r + 1) 0 ++ u).map (Value.int .i64)) by rw [← hr']; exact HO.out)
          have hcell : wr.cell? ⟨w.heap.size, r, none⟩ = some (.int .i64 0) := by
            rw [HO'.out.cellAt r (by omega)]
            simp [List.replicate_succ']
          have hfr : wr.frozen? ⟨w.heap.size, r, none⟩ = false := HO'.out.frozenAt r
          have r0 : (r : Int) < t := by omega
          have Hr := Lib.hid hr'; clear hr' HO
          go_wp2
          go_roundw
          case rel =>
            refine ⟨j + 1, q / k, (q % k) :: u, by omega, by go_num, rfl, by omega, by omega, by have := Hu.out; simp; omega, ?_, ?_, ?_⟩
            · have e : t - (j + 1) = r := by have := Hr.out; omega
              show unpack k t l = unpack k (t - (j + 1)) (q / k) ++ q % k :: u
              rw [HU.out, e, Hr.out, unpack, List.append_assoc]; rfl
            · have e : t - (j + 1) = r := by have := Hr.out; omega
              have := (HO'.out.stored r (.int .i64 (q % k))).1
              have e2 : ((List.replicate (r + 1) 0 ++ u).map (Value.int .i64)).set r (.int .i64 (q % k)) = (List.replicate (t - (j + 1)) 0 ++ (q % k) :: u).map (Value.int .i64) := by
                rw [e, List.replicate_succ', List.append_assoc, List.map_append, List.map_append, List.set_append_right (h := by simp)]
                simp
              rw [e2] at this
              exact this
            · exact HB'.out.setCell (Nat.le_refl _) _
          case measure => (simp [intOf] <;> omega)
        · obtain rfl : j = t := by omega
          have Hfin := Lib.hid (show unpackOf base j l = u by rw [R.out.2, HU.out]; simp [unpack])
          have HO' := Lib.hid (show wr.ownsRow w.heap.size 3 1 (.slice (some ⟨w.heap.size, 0, none⟩) j j) j (u.map (Value.int .i64)) by simpa using HO.out)
          clear HO
          go_wp2
          go_ret2
          refine RetQ.mk ⟨_, by rw [R.out.1]; rfl, ?_⟩ HB'.out
          rw [Hfin.out]
          refine Ints.of_own HO'.out Hu.out fun x hx => ?_
          have hx' : x ∈ unpack k j l := by rw [HU.out]; simp [hx]
          have := unpack_ok r2 _ _ x hx'
          exact ⟨by omega, by omega⟩
  · have R := Lib.hid (unpackErr_many (l := l) h0)
    have E := Lib.hid (errV_ne 27 h0)
    clear h0
    go_enter Tryd.func25, Tryd.ntmps25
    go_wp2_with (go_at_call 23; refine (Many_calls _ _ _).mono ?_; rintro e w' ⟨rfl, rfl⟩; rw [E.out])
    go_ret2
    exact RetQ.mk ⟨_, by rw [R.out.1, E.out]; rfl, by rw [R.out.2]; exact Sl.nil _ _ _⟩ (Below.refl _ _)
end Go.Proofs.YtgglhdbhemcijaaDoor
