/- Plain laws, data behind worlds, and contracts of functions, for the last text. No conditions. -/
import Derived.Test.YtfhncnhkeodngaaM4
import Derived.StillTailTactics
set_option linter.unusedSimpArgs false
set_option linter.unusedVariables false
set_option linter.unnecessarySimpa false
set_option linter.unusedSectionVars false
namespace Go.Proofs.Ytfhncnhkeodngaa
open Go.RowKit

theorem repNilInts (S : Nat → Prop) (w : World) : RepT S w (tInts []) (.slice none 0 0) :=
  .list [] none 0 1 (fun _ => undef) (Nat.zero_le _) Nat.one_pos (fun x hx => by simp at hx) (fun h => (h rfl).elim) (fun k hk => by simp at hk) (fun k y hy => by simp [flat] at hy) (Nat.le_refl _)
theorem repOwnInts {w : World} {B e n : Nat} {v : Value} {l : List Int} (h : w.ownsRow B e 1 v n (l.map (Value.int .i64))) (hl : l.length = n) (_ : ∀ x ∈ l, I64 x) : RepT (B ≤ ·) w (tInts l) v := by
  subst hl
  rcases h.2 with ⟨rfl, h0⟩ | ⟨g, cap, cur, rfl, h1, h2, h3, h4, h5, h6⟩
  · obtain rfl : l = [] := List.length_eq_zero_iff.1 h0
    exact repNilInts _ _
  · have hfl : ∀ l : List Int, flat (l.map tInt) = l.map tInt := fun l => by
      induction l with
      | nil => rfl
      | cons x t ih =>
        simp only [flat, List.map_cons, List.flatMap_cons] at ih ⊢
        rw [ih]; rfl
    have hlen : (l.map tInt).length = l.length := by simp
    have hcell : ∀ k (hk : k < l.length), cur[k]? = some (Value.int .i64 l[k]) := fun k hk => by
      have h7 : (cur.toList.take (l.length * 1))[k]? = some (Value.int .i64 l[k]) := by rw [h6]; simp [hk]
      rw [List.getElem?_take_of_lt (by omega)] at h7
      simpa using h7
    have := RepT.list (S := (B ≤ ·)) (w := w) (l.map tInt) (some ⟨g, 0, none⟩) cap 1 (fun k => if h : k < l.length then Value.int .i64 l[k] else undef) (by simp; omega) Nat.one_pos (fun x hx => by obtain ⟨n, _, rfl⟩ := List.mem_map.1 hx; rfl)
      (fun _ => ⟨g, 0, rfl, h1, fun k hk => by
        have hk2 : k < l.length := by simpa using hk
        rw [Nat.zero_add, World.cell?, h2]
        simp only [hk2, dif_pos]
        exact hcell k hk2⟩)
      (fun k hk => by
        have hk2 : k < l.length := by simpa using hk
        simp only [hk2, dif_pos]; rfl)
      (fun k y hy => by
        rw [hfl, List.getElem?_map, Option.map_eq_some_iff] at hy
        obtain ⟨n, hn, rfl⟩ := hy
        obtain ⟨hk2, rfl⟩ := List.getElem?_eq_some_iff.1 hn
        simp only [hk2, dif_pos]
        exact .int _ _) (by simp; omega)
    rw [hlen] at this
    exact this

set_option maxHeartbeats 1000000 in
set_option maxRecDepth 100000 in
theorem Of_baseT (base n : Int) (w : World) (hb2 : 2 ≤ base) (hb6 : base ≤ 6) (hn0 : 0 < n) (hn1 : n ≤ 1099511627776) :
    Calls Try.prog 41 #[.int .i64 base, .int .i64 n] w
      (RetQ (fun v w' => ∃ x l, v = .tuple #[x, .nilIface] ∧ RepT (w.heap.size ≤ ·) w' (tInts l) x ∧ IsOf base n l) w) := by
  have hr : radix base = base := by simp [radix]; omega
  have e0 : (base == 0) = false := by simp; omega
  have e1 : (base != 1) = true := by simp; omega
  have e2 : decide (n < 0) = false := by simp; omega
  have e3 : decide (1099511627776 < n) = false := by simp; omega
  have Hr := Lib.hid hr; clear hr
  have Hrz := Lib.hid (show radix base ≠ 0 by rw [Hr.out]; omega)
  have Hb1 := Lib.hid (show base ≠ 1 by omega)
  go_enter Try.func41, Try.ntmps41
  go_wp2_with (go_at_call 42; refine (Radix_calls _ _).mono ?_; rintro e w' ⟨rfl, rfl⟩; rw [Hr.out])
  go_loopw [1, 8] (fun q at_ wr => ∃ (k : Nat) (m : Int) (t : List Int) (C : Array Value), at_ = .int .i64 k ∧ q = .int .i64 m ∧ 0 ≤ m ∧ m ≤ 1099511627776 ∧ k + t.length = 64 ∧ k ≤ 64 ∧ Hid (m * W base t.length + wv base t = n ∧ okDigits base t ∧ (m = 0 → noLead t ∧ t ≠ [])) ∧
      Hid (wr.heap[w.heap.size]? = some (.cells C 118 (0, 0)) ∧ C.toList.drop k = t.map (Value.int .i64) ∧ C.size = 64) ∧ Hid (Below w.heap.size w wr)) (fun q _ _ => (intOf q).toNat)
  case atStart => exact ⟨64, n, [], _, rfl, rfl, by omega, by omega, rfl, by omega, ⟨by simp [W, powW, wv, Hb1.out], by simp [okDigits], fun h => by omega⟩, ⟨heap_alloc_new w _, rfl, rfl⟩, (Below.refl _ _).alloc (Nat.le_refl _) _⟩
  case round =>
    obtain ⟨k, m, t, C, rfl, rfl, hm0, hm1, hkt, hk64, Hm, HC, HB⟩ := hrel
    by_cases hlt : 0 < m
    · have hk : 1 ≤ k := by
        have h1 := Hm.out.1
        have h2 := wv_nonneg Hrz.out Hm.out.2.1
        rcases Nat.lt_or_ge t.length 58 with c | c
        · omega
        · have := W_big Hrz.out c
          have : 1 * W base t.length ≤ m * W base t.length := Int.mul_le_mul_of_nonneg_right (by omega) (by omega)
          omega
      obtain ⟨j, rfl⟩ : ∃ j, k = j + 1 := ⟨k - 1, by omega⟩
      have q0 : 0 ≤ m % base := Int.emod_nonneg _ (by omega)
      have q1 : m % base < base := Int.emod_lt_of_pos _ (by omega)
      have q2 : 0 ≤ m / base := Int.ediv_nonneg hm0 (by omega)
      have q3 : m / base < m := Int.ediv_lt_self_of_pos_of_ne_one (by omega) (by omega)
      have q5 : m / base ≤ 1099511627776 := by omega
      have Q4 := Lib.hid (show m = base * (m / base) + m % base from (Int.mul_ediv_add_emod m base).symm)
      have hcell : wr.cell? ⟨w.heap.size, j, none⟩ = some (C[j]'(by have := HC.out.2.2; omega)) := by
        rw [cell_of_row wr _ j C 118 (0, 0) HC.out.1]; exact Array.getElem?_eq_getElem _
      have hfr : wr.frozen? ⟨w.heap.size, j, none⟩ = false := frozen_of_block HC.out.1 j
      go_wp2
      go_roundw
      case rel =>
        refine ⟨j, m / base, (m % base) :: t, C.setIfInBounds j (.int .i64 (m % base)), by go_num, rfl, q2, q5, by simp at hkt ⊢; omega, by omega, ⟨?_, ?_, ?_⟩, ⟨?_, ?_, ?_⟩, ?_⟩
        · have h1 := Hm.out.1
          have e : W base ((m % base) :: t).length = W base t.length * base := by simp [W, Hb1.out, powW]
          rw [e]
          show m / base * (W base t.length * base) + (m % base * W base t.length + wv base t) = n
          have : m * W base t.length = (base * (m / base) + m % base) * W base t.length := by rw [← Q4.out]
          rw [this, Int.add_mul] at h1
          rw [← Int.mul_assoc, Int.mul_comm (m / base * W base t.length) base, ← Int.mul_assoc]
          omega
        · intro x hx
          rcases List.mem_cons.1 hx with rfl | hx
          · rw [Hr.out]; exact ⟨q0, q1⟩
          · exact Hm.out.2.1 x hx
        · intro hz
          refine ⟨?_, by simp⟩
          intro hl
          have h4 := Q4.out
          simp at hl
          rw [hz, hl] at h4
          simp at h4
          omega
        · exact heap_setCell_at HC.out.1 _
        · have h2 := HC.out.2.1
          have h3 := HC.out.2.2
          rw [List.map_cons, ← h2, Array.toList_setIfInBounds, List.drop_set]
          simp
          rw [List.drop_eq_getElem_cons (by simp; omega)]
          simp
        · have := HC.out.2.2; simp; omega
        · exact HB.out.setCell (Nat.le_refl _) _
      case measure => (simp [intOf] <;> omega)
    · obtain rfl : m = 0 := by omega
      have ht0 : t ≠ [] := (Hm.out.2.2 rfl).2
      have hk' : (k : Int) < 64 := by
        have : 0 < t.length := List.length_pos_iff.2 ht0
        omega
      clear ht0
      obtain ⟨i0, hi, hz0, hz1, hz2⟩ := info_parts infoInt
      have hsl := slice64 wr w.heap.size k (by omega)
      go_wp2_with (at_builtin; go_loud (refine wpList_append_own _ rfl _ _ 24 rfl w.heap.size 3 i0 (.int .i64 0) 1 8 Try.underlying24 hi hz0 hz1 hz2 rfl (by decide) _ _ _ rfl (World.ownsRow_nil _ _ _ _) ⟨w.heap.size, k, none⟩ (64 - k) (64 - k) (t.map (Value.int .i64)) rfl ?c1 ?c2 ?c3 ?c4 ?c5 ?c6 ?_))
      case c1 => omega
      case c2 =>
        intro j u hj
        have h2 := HC.out.2.1
        rw [cell_of_row wr _ (k + j) C 118 (0, 0) HC.out.1, ← Array.getElem?_toList, ← List.getElem?_drop, h2]
        simp [hj]
      case c3 => intro u _; rfl
      case c4 => simp only [maxLen]; omega
      case c5 => omega
      case c6 => exact HB.out.size
      intro v' w' hown hgrow hnil
      go_wp2
      go_ret2
      refine RetQ.mk ⟨_, t, rfl, repOwnInts hown (by omega) ?_, ⟨Hm.out.2.1, ?_, (Hm.out.2.2 (by trivial)).1, ?_⟩⟩ (HB.out.grown hgrow HB.out.size (by simp [Value.ownBlock]))
      · intro x hx
        have := Hm.out.2.1 x hx
        rw [Hr.out] at this
        exact ⟨by omega, by omega⟩
      · simp [rightOf, Hb1.out]
      · have := Hm.out.1; omega

set_option maxHeartbeats 1000000 in
set_option maxRecDepth 100000 in
theorem Of_fibT (n : Int) (w : World) (hn0 : 0 ≤ n) (hn1 : n ≤ 1099511627776) :
    Calls Try.prog 41 #[.int .i64 1, .int .i64 n] w
      (RetQ (fun v w' => ∃ x l, v = .tuple #[x, .nilIface] ∧ RepT (w.heap.size ≤ ·) w' (tInts l) x ∧ IsOf 1 n l) w) := by
  have Hr := Lib.hid (show radix 1 = 2 from rfl)
  have e2 : decide (n < 0) = false := by simp; omega
  have e3 : decide (1099511627776 < n) = false := by simp; omega
  go_enter Try.func41, Try.ntmps41
  go_wp2_with (go_at_call 42; refine (Radix_calls _ _).mono ?_; rintro e w' ⟨rfl, rfl⟩; rw [Hr.out])
  go_loopw [10] (fun q wr => ∃ (m : Nat) (C : Array Value), q = .int .i64 ((m : Int) + 2) ∧ Hid (m = 0 ∨ fibW m ≤ n) ∧
      Hid (wr.heap[w.heap.size + 1]? = some (.cells C 118 (0, 0)) ∧ C.size = 64 ∧ ∀ i, i < m + 2 → C[i]? = some (.int .i64 (fibW i))) ∧ Hid (Below w.heap.size w wr)) (fun q _ => 64 - (intOf q).toNat)
  case atStart => 
    refine ⟨0, _, rfl, .inl rfl, ⟨heap_alloc_at _ _ (by simp), by simp, ?_⟩, ?_⟩
    · intro i hi
      have : i = 0 ∨ i = 1 := by omega
      rcases this with rfl | rfl <;> rfl
    · exact ((Below.refl _ _).alloc (Nat.le_refl _) _).alloc (by simp) _
  case round =>
    obtain ⟨m, C, rfl, Hm, HC, HB⟩ := hrel
    have hm : m ≤ 57 := by
      rcases Hm.out with h | h
      · omega
      · exact fibW_small h hn1
    have hcell : wr.cell? ⟨w.heap.size + 1, m + 1, none⟩ = some (.int .i64 (fibW (m + 1))) := by
      rw [cell_of_row wr _ _ C 118 (0, 0) HC.out.1]; exact HC.out.2.2 _ (by omega)
    have hcell0 : wr.cell? ⟨w.heap.size + 1, m, none⟩ = some (.int .i64 (fibW m)) := by
      rw [cell_of_row wr _ _ C 118 (0, 0) HC.out.1]; exact HC.out.2.2 _ (by omega)
    by_cases hle : fibW (m + 1) ≤ n
    · have hp := (fibW_pos m)
      have hp1 := hp.1
      have hp2 := hp.2
      clear hp
      have hcell2 : wr.cell? ⟨w.heap.size + 1, m + 2, none⟩ = some (C[m + 2]'(by have := HC.out.2.1; omega)) := by
        rw [cell_of_row wr _ _ C 118 (0, 0) HC.out.1]; exact Array.getElem?_eq_getElem _
      have hfr : wr.frozen? ⟨w.heap.size + 1, m + 2, none⟩ = false := frozen_of_block HC.out.1 _
      go_wp2
      go_region
      go_wp2
      go_roundw
      case rel =>
        refine ⟨m + 1, C.setIfInBounds (m + 2) (.int .i64 (fibW (m + 2))), by go_num, .inr hle, ⟨?_, ?_, ?_⟩, ?_⟩
        · exact heap_setCell_at HC.out.1 _
        · simpa using HC.out.2.1
        · intro i hi
          rw [Array.getElem?_setIfInBounds]
          by_cases e : m + 2 = i
          · subst e; rw [if_pos rfl, if_pos (by have := HC.out.2.1; omega)]
          · rw [if_neg e]; exact HC.out.2.2 i (by omega)
        · exact (HB.out.setCell (p := ⟨w.heap.size + 1, m + 2, none⟩) (by simp) _).drew
      case measure => (simp [intOf] <;> omega)
    · have G := Lib.hid (Greedy.start hn0 (show n < fibW (m + 1) by omega) (by omega))
      have H0 := Lib.hid (And.intro hn0 hn1)
      clear hcell0 e2 e3
      obtain ⟨i0, hi, hz0, hz1, hz2⟩ := info_parts infoInt
      go_wp2_with fail
      clear hcell hle hn0 hn1
      go_loopw [1, 11, 12] (fun q out i wr' => ∃ (j : Nat) (r : Int) (l : List Int), q = .int .i64 r ∧ i = .int .i64 ((j : Int) - 1) ∧ j ≤ m + 2 ∧ Hid (Greedy n j r l) ∧ wr'.ownsRow (w.heap.size + 2) 3 1 out l.length (l.map (Value.int .i64)) ∧
        Hid (wr'.heap[w.heap.size + 1]? = some (.cells C 118 (0, 0))) ∧ Hid (Below w.heap.size w wr')) (fun _ _ i _ => (intOf i + 1).toNat)
      case atStart => exact ⟨m + 2, n, [], rfl, by go_num, Nat.le_refl _, G.out, World.ownsRow_nil _ _ _ _, HC.out.1, HB.out⟩
      case round =>
        obtain ⟨j, r, l, rfl, rfl, hj, HG, hown, HC', HB'⟩ := hrel
        obtain ⟨a, cap, rfl⟩ := own_form hown
        have hbase : w.heap.size + 2 ≤ wr.heap.size := by have := block_lt HC'.out; omega
        rcases Nat.eq_zero_or_pos j with hj0 | hj0
        · subst hj0
          have D := Lib.hid HG.out.done
          go_wp2
          go_ret2
          refine RetQ.mk ⟨_, l, rfl, ?_, D.out⟩ HB'.out
          refine (repOwnInts hown rfl ?_).mono (fun b (hb : w.heap.size + 2 ≤ b) => show w.heap.size ≤ b by omega)
          intro x hx
          have := D.out.ok x hx
          simp [radix] at this
          exact ⟨by omega, by omega⟩
        · obtain ⟨j', rfl⟩ : ∃ j', j = j' + 1 := ⟨j - 1, by omega⟩
          have hpos : (0 : Int) ≤ ((j' + 1 : Nat) : Int) - 1 := by omega
          have hj64 : ((j' + 1 : Nat) : Int) - 1 < 64 := by omega
          have hcell : wr.cell? ⟨w.heap.size + 1, j', none⟩ = some (.int .i64 (fibW j')) := by
            rw [cell_of_row wr _ _ C 118 (0, 0) HC'.out]; exact HC.out.2.2 _ (by omega)
          have hr0 := HG.out.r0
          have hr1 : r ≤ 1099511627776 := by
            have h1 := HG.out.val
            have h2 := wv_nonneg (b := 1) (d := l ++ List.replicate (j' + 1) 0) (by simp [radix]) (by
              intro x hx
              rcases List.mem_append.1 hx with hx | hx
              · exact HG.out.ok x hx
              · have := List.eq_of_mem_replicate hx; subst this; simp [radix])
            have := H0.out
            omega
          have hf1 := (fibW_pos j').1
          by_cases hle : fibW j' ≤ r
          · have D := Lib.hid (HG.out.one hle)
            have hlen64 := HG.out.len
            go_wp2_with (at_builtin; go_loud (refine wpList_append_own _ rfl _ _ 24 rfl (w.heap.size + 2) 3 i0 (.int .i64 0) 1 8 Try.underlying24 hi hz0 hz1 hz2 rfl (by decide) _ _ _ rfl (hown.alloc _) ⟨wr.heap.size, 0, none⟩ 1 1 [.int .i64 1] rfl rfl ?c1 ?c2 ?c3 ?c4 ?c5 ?_))
            case c1 => exact cell_one_new _ _ _
            case c2 => simp [Value.oneCell']
            case c3 => simp only [maxLen]; omega
            case c4 => omega
            case c5 => simp; omega
            intro v' w' hown' hgrow _
            have HBn := Lib.hid ((HB'.out.alloc HB'.out.size _).grown hgrow (by have := HB'.out.size; simp; omega) (fun k hk => by have := hown.lt k (by rw [hk]); omega))
            have HCn := Lib.hid (show w'.heap[w.heap.size + 1]? = some (.cells C 118 (0, 0)) by
              rw [hgrow.block _ (by simp; omega) (fun e => by have := hown.lt _ e.symm; omega), Below.heap_alloc _ _ _ (by omega)]; exact HC'.out)
            clear hgrow hown
            go_wp2
            go_roundw
            case rel => exact ⟨j', _, l ++ [1], rfl, by go_num, by omega, D.out, by simpa using hown', HCn.out, HBn.out⟩
            case measure => (simp [intOf] <;> omega)
          · have hlt : r < fibW j' := by omega
            clear hle
            by_cases hl : l = []
            · have D := Lib.hid (show Greedy n j' r l by subst hl; exact HG.out.none hlt)
              have hz : (l.length : Int) ≤ 0 := by subst hl; simp
              clear hl
              go_wp2
              go_roundw
              case rel => exact ⟨j', r, l, rfl, by go_num, by omega, D.out, hown, HC'.out, HB'.out⟩
              case measure => (simp [intOf] <;> omega)
            · have D := Lib.hid (HG.out.zero hlt hl)
              have hz : (0 : Int) < (l.length : Int) := by have := List.length_pos_iff.2 hl; omega
              have hlen64 := HG.out.len
              clear hl
              go_wp2_with (at_builtin; go_loud (refine wpList_append_own _ rfl _ _ 24 rfl (w.heap.size + 2) 3 i0 (.int .i64 0) 1 8 Try.underlying24 hi hz0 hz1 hz2 rfl (by decide) _ _ _ rfl (hown.alloc _) ⟨wr.heap.size, 0, none⟩ 1 1 [.int .i64 0] rfl rfl ?c1 ?c2 ?c3 ?c4 ?c5 ?_))
              case c1 => exact cell_one_new _ _ _
              case c2 => simp [Value.oneCell']
              case c3 => simp only [maxLen]; omega
              case c4 => omega
              case c5 => simp; omega
              intro v' w' hown' hgrow _
              have HBn := Lib.hid ((HB'.out.alloc HB'.out.size _).grown hgrow (by have := HB'.out.size; simp; omega) (fun k hk => by have := hown.lt k (by rw [hk]); omega))
              have HCn := Lib.hid (show w'.heap[w.heap.size + 1]? = some (.cells C 118 (0, 0)) by
                rw [hgrow.block _ (by simp; omega) (fun e => by have := hown.lt _ e.symm; omega), Below.heap_alloc _ _ _ (by omega)]; exact HC'.out)
              clear hgrow hown
              go_wp2
              go_roundw
              case rel => exact ⟨j', _, l ++ [0], rfl, by go_num, by omega, D.out, by simpa using hown', HCn.out, HBn.out⟩
              case measure => (simp [intOf] <;> omega)

theorem isOf_zeroT (b : Int) : IsOf b 0 [] := ⟨by simp [okDigits], by simp [rightOf, noTwo], by simp [noLead], rfl⟩

set_option maxHeartbeats 1000000 in
set_option maxRecDepth 100000 in
theorem Of_zeroT (base : Int) (w : World) (hb2 : 2 ≤ base) (hb6 : base ≤ 6) :
    Calls Try.prog 41 #[.int .i64 base, .int .i64 0] w
      (RetQ (fun v w' => ∃ x l, v = .tuple #[x, .nilIface] ∧ RepT (w.heap.size ≤ ·) w' (tInts l) x ∧ IsOf base 0 l) w) := by
  have hr : radix base = base := by simp [radix]; omega
  have e0 : (base == 0) = false := by simp; omega
  have e1 : (base != 1) = true := by simp; omega
  have Hr := Lib.hid hr; clear hr
  go_enter Try.func41, Try.ntmps41
  go_wp2_with (go_at_call 42; refine (Radix_calls _ _).mono ?_; rintro e w' ⟨rfl, rfl⟩; rw [Hr.out])
  refine wp_loop_rounds 1 ?_
  rw [rounds_succ]
  go_wp2
  go_ret2
  exact RetQ.mk ⟨_, [], rfl, repNilInts _ _, isOf_zeroT base⟩ ((Below.refl _ _).alloc (Nat.le_refl _) _)

def ofErr (base n : Int) : Int := if radix base = 0 ∨ n < 0 ∨ 1099511627776 < n then 1 else 0

set_option maxHeartbeats 1000000 in
set_option maxRecDepth 100000 in
theorem Of_badT (base n : Int) (w : World) (h : radix base = 0 ∨ n < 0 ∨ 1099511627776 < n) :
    Calls Try.prog 41 #[.int .i64 base, .int .i64 n] w (RetS (.tuple #[.slice none 0 0, .iface 68 (.int .i64 1)]) w) := by
  by_cases h1 : radix base = 0
  · have e0 : (radix base == 0) = true := by simp [h1]
    clear h h1
    go_enter Try.func41, Try.ntmps41
    go_wp2_with (go_at_call 42; refine (Radix_calls _ _).mono ?_; rintro e w' ⟨rfl, rfl⟩)
    go_ret2
    exact RetS.mk rfl
  · have e0 : (radix base == 0) = false := by simp [h1]
    by_cases h2 : n < 0
    · clear h h1
      go_enter Try.func41, Try.ntmps41
      go_wp2_with (go_at_call 42; refine (Radix_calls _ _).mono ?_; rintro e w' ⟨rfl, rfl⟩)
      go_ret2
      exact RetS.mk rfl
    · have h3 : 1099511627776 < n := by omega
      clear h h1
      go_enter Try.func41, Try.ntmps41
      go_wp2_with (go_at_call 42; refine (Radix_calls _ _).mono ?_; rintro e w' ⟨rfl, rfl⟩)
      go_ret2
      exact RetS.mk rfl

theorem Of_goodT (base n : Int) (w : World) (h : radix base ≠ 0) (hn0 : 0 ≤ n) (hn1 : n ≤ 1099511627776) :
    Calls Try.prog 41 #[.int .i64 base, .int .i64 n] w
      (RetQ (fun v w' => ∃ x l, v = .tuple #[x, .nilIface] ∧ RepT (w.heap.size ≤ ·) w' (tInts l) x ∧ IsOf base n l) w) := by
  rcases radix_pos h with ⟨rfl, _⟩ | ⟨h2, h6, _⟩
  · exact Of_fibT n w hn0 hn1
  · rcases Int.lt_or_eq_of_le hn0 with h0 | h0
    · exact Of_baseT base n w h2 h6 h0 hn1
    · subst h0; exact Of_zeroT base w h2 h6
theorem Of_callsT (base n : Int) (w : World) :
    Calls Try.prog 41 #[.int .i64 base, .int .i64 n] w
      (RetQ (fun v w' => ∃ x l, v = .tuple #[x, errV 68 (ofErr base n)] ∧ RepT (w.heap.size ≤ ·) w' (tInts l) x ∧ (ofErr base n = 0 → IsOf base n l) ∧ (ofErr base n ≠ 0 → l = [])) w) := by
  by_cases hbad : radix base = 0 ∨ n < 0 ∨ 1099511627776 < n
  · have H : ofErr base n = 1 := by simp [ofErr, hbad]
    refine (Of_badT base n w hbad).mono ?_
    rintro e w' ⟨rfl, rfl⟩
    exact RetQ.mk ⟨_, [], by rw [H]; rfl, repNilInts _ _, fun h => by omega, fun _ => rfl⟩ (Below.refl _ _)
  · have H : ofErr base n = 0 := by simp [ofErr, hbad]
    refine (Of_goodT base n w (by omega) (by omega) (by omega)).mono ?_
    rintro e w' ⟨v, rfl, ⟨x, l, rfl, hl, hof⟩, hb⟩
    exact RetQ.mk ⟨_, l, by rw [H]; rfl, hl, fun _ => hof, fun h => absurd H h⟩ hb
open Classical in
/-- The digits of a number, nothing of what is none. -/
noncomputable def ofL (base n : Int) : List Int := if h : ofErr base n = 0 ∧ ∃ l, IsOf base n l then Classical.choose h.2 else []
theorem ofL_eq {base n : Int} {l : List Int} (h1 : ofErr base n = 0 → IsOf base n l) (h2 : ofErr base n ≠ 0 → l = []) : ofL base n = l := by
  unfold ofL
  by_cases h : ofErr base n = 0
  · have hr : radix base ≠ 0 := by
      intro hr; simp [ofErr, hr] at h
    have hx : ofErr base n = 0 ∧ ∃ l, IsOf base n l := ⟨h, l, h1 h⟩
    rw [dif_pos hx]
    exact (Classical.choose_spec hx.2).unique hr (h1 h)
  · rw [dif_neg (fun hx => h hx.1), h2 h]
section
variable {G : World → Prop}
theorem Of_snd (base n : Int) : Snd Try.prog G 41 [tInt base, tInt n] (.tup [tInts (ofL base n), tErr (ofErr base n)]) := by
  refine ⟨enter_of Try.func41 rfl rfl, fun S w vs hG hs hr => ?_⟩
  obtain ⟨l⟩ := vs
  match l, hs with
  | [v0, v1], _ =>
    obtain rfl := intInv (hr 0 _ v0 rfl rfl)
    obtain rfl := intInv (hr 1 _ v1 rfl rfl)
    refine (Of_callsT base n w).mono ?_
    rintro e w' ⟨v, rfl, ⟨x, l, rfl, hl, hof, hno⟩, hb⟩
    refine ⟨_, rfl, ?_, hb⟩
    rw [ofL_eq hof hno]
    refine .tup _ _ rfl fun k z q a b => ?_
    match k, a, b with
    | 0, a, b => cases a; cases b; exact hl.mono fun b hb => .inr hb
    | 1, a, b =>
      cases a; cases b
      unfold tErr errV
      split
      · exact .nilI
      · exact .iface _ _ _ (.int _ _)
    | k + 2, a, b => cases a
end
end Go.Proofs.Ytfhncnhkeodngaa
namespace Go.Proofs.Ytfhncnhkeodngaa

theorem greedy_end {b n : Int} (hb : radix b ≠ 0) : ∀ (j : Nat) (r : Int) (l : List Int), GreedyB b n j r l → ∃ d, IsOf b n d
  | 0, r, l, h => ⟨l, h.done⟩
  | j + 1, r, l, h => by
    by_cases hl : l = []
    · subst hl
      by_cases hr : r < W b j
      · exact greedy_end hb j r [] (h.none hr)
      · refine greedy_end hb j _ _ (h.step hb (.inr ?_))
        have hp := W_pos hb j
        have : 1 ≤ r / W b j := (Int.le_ediv_iff_mul_le (by omega)).2 (by omega)
        omega
    · exact greedy_end hb j _ _ (h.step hb (.inl hl))
theorem ofErr_zero {base n : Int} : ofErr base n = 0 ↔ radix base ≠ 0 ∧ 0 ≤ n ∧ n ≤ 1099511627776 := by
  unfold ofErr; split <;> omega
theorem ofL_is {base n : Int} (h : ofErr base n = 0) : IsOf base n (ofL base n) := by
  obtain ⟨h1, h2, h3⟩ := ofErr_zero.1 h
  obtain ⟨d, hd⟩ := greedy_end h1 58 n [] (.start h2 (by have := W_big h1 (Nat.le_refl 58); omega) (by omega))
  rw [ofL_eq (fun _ => hd) (fun h' => absurd h h')]; exact hd
/-- What is said of a number. -/
noncomputable def said (o : GOut) (n : Int) : Int := o.outs.getD (runFrom o.next 0 (ofL o.base n)).toNat 0
noncomputable def atErr (o : GOut) (n : Int) : Int := if outErr o ≠ 0 then outErr o else if n < 0 ∨ 1099511627776 < n then 1 else 0
noncomputable def atOf (o : GOut) (n : Int) : Int := if atErr o n = 0 then said o n else 0
theorem OkOut.dig {o : GOut} {k m : Nat} (g : OkOut o k m) {n : Int} (h0 : 0 ≤ n) (h1 : n ≤ 1099511627776) : ∀ x ∈ ofL o.base n, 0 ≤ x ∧ x < (k : Int) := fun x hx => by
  have hk := g.k_eq
  have := (ofL_is (ofErr_zero.2 ⟨by have := g.k2; omega, h0, h1⟩)).ok x hx
  omega
theorem OkOut.st {o : GOut} {k m : Nat} (g : OkOut o k m) {n : Int} (h0 : 0 ≤ n) (h1 : n ≤ 1099511627776) : 0 ≤ runFrom o.next 0 (ofL o.base n) ∧ runFrom o.next 0 (ofL o.base n) < (m : Int) :=
  runFrom_ok g.rows _ 0 (by have := g.m0; omega) (g.dig h0 h1)
structure OkRules (rules : List (List Int)) (code : List Int) (k m : Nat) : Prop where
  k2 : 2 ≤ k ∧ k ≤ 6
  m0 : 0 < m
  m20 : m ≤ 20
  row0 : (rules.getD 0 []).length = k
  rows : Rows0 k m rules
  zero : nextOf rules 0 0 = 0
  clen : code.length = m
  rng : ∀ x ∈ code, 0 ≤ x ∧ x ≤ 9
theorem OkRules.out {rules : List (List Int)} {code : List Int} {k m : Nat} (g : OkRules rules code k m) {outs : List Int} (hl : outs.length = m) (hr : ∀ x ∈ outs, 0 ≤ x ∧ x ≤ 9) : OkOut ⟨(k : Int), rules, outs⟩ k m :=
  ⟨by show radix k = k; have := g.k2; unfold radix; rw [if_neg (by omega), if_pos (by omega)], g.k2, g.m0, g.m20, hl, g.rows, hr⟩
theorem OkOut.err {o : GOut} {k m : Nat} (g : OkOut o k m) : outErr o = 0 := by
  have hk := g.k_eq
  have h2 := g.k2
  have hl := g.rows.len
  have ho := g.outs
  have hm := g.m0
  have hm2 := g.m20
  unfold outErr
  rw [if_neg (by omega), if_neg (by omega), if_neg (by omega), if_neg (by omega)]
  refine (outRows_zero _ _ (by omega)).2 fun j hj hk2 => rowFault_zero.2 ⟨?_, fun s hs => ?_, g.rng _ (List.getElem_mem _)⟩
  · rw [hk, g.rows.row _ (List.getElem_mem _)]
  · rw [hl]; exact g.rows.ok _ (List.getElem_mem _) s hs
theorem OkOut.at {o : GOut} {k m : Nat} (g : OkOut o k m) {n : Int} (h0 : 0 ≤ n) (h1 : n ≤ 1099511627776) : atErr o n = 0 ∧ atOf o n = said o n := by
  have h : atErr o n = 0 := by unfold atErr; rw [if_neg (by rw [g.err]; simp), if_neg (by omega)]
  exact ⟨h, by unfold atOf; rw [if_pos h]⟩
end Go.Proofs.Ytfhncnhkeodngaa
namespace Go.Proofs.Ytfhncnhkeodngaa
open Go.RowKit

def tOut (o : GOut) : T := .agg [tInt o.base, tIntss o.next, tInts o.outs]
theorem rowFault_len {k m : Int} {r : List Int} {x : Int} (h : ¬ (r.length : Int) = k) : rowFault k m r x = 2 := by unfold rowFault; rw [if_pos h]
theorem rowFault_ent {k m : Int} {r : List Int} {x : Int} (h : (r.length : Int) = k) {s : Int} (hs : s ∈ r) (hb : ¬ (0 ≤ s ∧ s < m)) : rowFault k m r x = 1 := by
  unfold rowFault
  rw [if_neg (by omega), if_pos]
  rw [Bool.eq_false_iff]; intro hc
  have := List.all_eq_true.1 hc s hs
  exact hb (by simpa using this)
theorem rowFault_out {k m : Int} {r : List Int} {x : Int} (h : (r.length : Int) = k) (hs : ∀ s ∈ r, 0 ≤ s ∧ s < m) (hx : x < 0 ∨ 9 < x) : rowFault k m r x = 1 := by
  unfold rowFault
  have h4 : r.all (fun s => decide (0 ≤ s ∧ s < m)) = true := List.all_eq_true.2 fun s hh => by simpa using hs s hh
  rw [if_neg (by omega), if_neg (by rw [h4]; decide), if_pos hx]
section
variable {G : World → Prop} (hG : Lasting G)
include hG
set_option maxHeartbeats 4000000 in
theorem WCheck_snd (o : GOut) : Snd Try.prog G 34 [tOut o] (tErr (outErr o)) := by
  have htb := Tab.cons (Radix_snd hG o.base) Tab.nil
  refine snd_of_body (n := 82) (tm := [(0, .t (tOut o))]) (rs := [.tmp 2]) tt_ok Try.func34 rfl rfl rfl rfl rfl ?_
  unfold outErr
  generalize hmo : radix o.base = mo at *
  by_cases h0 : mo = 0
  · subst h0
    repeat' (first | (with_reducible first | refine SW_seq ?_ | refine SW_block ?_ | refine SThen_n ?_ | refine SThen_r ?_ | refine SThen_e ?_ | refine SIn_n ?_ | refine SIn_r ?_ | refine SIn_eq ?_ | refine SW_skip ?_ | refine SW_exit ?_ | refine SW_ret ?_ | refine SPost_r ?_) | ((with_reducible refine SIn_ne ?_ ?_); focus decide) | ((with_reducible refine SW_true ?_ ?_); focus exact rfl) | ((with_reducible refine SW_false ?_ ?_); focus exact rfl) | ((first | (with_reducible apply SW_run tt_ok hG htb) | ((with_reducible apply SW_draw rfl tt_ok hG htb); (focus kernel_rfl); (focus (simp only [List.range, List.range.loop, List.size_toArray, List.length_cons, List.length_nil, Nat.reduceAdd])))); focus ((repeat' (first | (with_reducible exact runX_nil) | (with_reducible exact runI_nil) | ((first | (with_reducible apply runX_cons) | (with_reducible apply runI_cons)); focus (simp (discharger := omega) only [go_sem, tOut, tErr, ↓reduceIte, reduceIte, Nat.reduceEqDiff, Nat.reduceLT, Nat.reduceLeDiff, Nat.reduceAdd, Nat.reduceSub, Nat.reduceMul, Nat.reduceDiv, Nat.reduceMod, Nat.reduceBEq, Int.reduceEq, Int.reduceLT, Int.reduceLE, Int.reduceNeg, Int.reduceToNat, reduceCtorEq]; with_reducible rfl)))); done)))
    exact (by simp (discharger := omega) only [go_sem, tErr, ↓reduceIte, reduceIte, Nat.reduceEqDiff, Nat.reduceLT, Nat.reduceLeDiff, Nat.reduceAdd, Nat.reduceSub, Nat.reduceMul, Nat.reduceDiv, Nat.reduceMod, Nat.reduceBEq, Int.reduceEq, Int.reduceLT, Int.reduceLE, Int.reduceNeg, Int.reduceToNat, reduceCtorEq])
  · obtain ⟨r2, r6⟩ := radix_two (b := o.base) (by omega)
    rw [hmo] at r2 r6
    by_cases h1 : o.next.length = 0
    · repeat' (first | (with_reducible first | refine SW_seq ?_ | refine SW_block ?_ | refine SThen_n ?_ | refine SThen_r ?_ | refine SThen_e ?_ | refine SIn_n ?_ | refine SIn_r ?_ | refine SIn_eq ?_ | refine SW_skip ?_ | refine SW_exit ?_ | refine SW_ret ?_ | refine SPost_r ?_) | ((with_reducible refine SIn_ne ?_ ?_); focus decide) | ((with_reducible refine SW_true ?_ ?_); focus exact rfl) | ((with_reducible refine SW_false ?_ ?_); focus exact rfl) | ((first | (with_reducible apply SW_run tt_ok hG htb) | ((with_reducible apply SW_draw rfl tt_ok hG htb); (focus kernel_rfl); (focus (simp only [List.range, List.range.loop, List.size_toArray, List.length_cons, List.length_nil, Nat.reduceAdd])))); focus ((repeat' (first | (with_reducible exact runX_nil) | (with_reducible exact runI_nil) | ((first | (with_reducible apply runX_cons) | (with_reducible apply runI_cons)); focus (simp (discharger := omega) only [go_sem, tOut, tErr, ↓reduceIte, reduceIte, Nat.reduceEqDiff, Nat.reduceLT, Nat.reduceLeDiff, Nat.reduceAdd, Nat.reduceSub, Nat.reduceMul, Nat.reduceDiv, Nat.reduceMod, Nat.reduceBEq, Int.reduceEq, Int.reduceLT, Int.reduceLE, Int.reduceNeg, Int.reduceToNat, reduceCtorEq]; with_reducible rfl)))); done)))
      exact (by simp (discharger := omega) only [go_sem, tErr, ↓reduceIte, reduceIte, Nat.reduceEqDiff, Nat.reduceLT, Nat.reduceLeDiff, Nat.reduceAdd, Nat.reduceSub, Nat.reduceMul, Nat.reduceDiv, Nat.reduceMod, Nat.reduceBEq, Int.reduceEq, Int.reduceLT, Int.reduceLE, Int.reduceNeg, Int.reduceToNat, reduceCtorEq])
    · by_cases h2 : 20 < o.next.length
      · repeat' (first | (with_reducible first | refine SW_seq ?_ | refine SW_block ?_ | refine SThen_n ?_ | refine SThen_r ?_ | refine SThen_e ?_ | refine SIn_n ?_ | refine SIn_r ?_ | refine SIn_eq ?_ | refine SW_skip ?_ | refine SW_exit ?_ | refine SW_ret ?_ | refine SPost_r ?_) | ((with_reducible refine SIn_ne ?_ ?_); focus decide) | ((with_reducible refine SW_true ?_ ?_); focus exact rfl) | ((with_reducible refine SW_false ?_ ?_); focus exact rfl) | ((first | (with_reducible apply SW_run tt_ok hG htb) | ((with_reducible apply SW_draw rfl tt_ok hG htb); (focus kernel_rfl); (focus (simp only [List.range, List.range.loop, List.size_toArray, List.length_cons, List.length_nil, Nat.reduceAdd])))); focus ((repeat' (first | (with_reducible exact runX_nil) | (with_reducible exact runI_nil) | ((first | (with_reducible apply runX_cons) | (with_reducible apply runI_cons)); focus (simp (discharger := omega) only [go_sem, tOut, tErr, ↓reduceIte, reduceIte, Nat.reduceEqDiff, Nat.reduceLT, Nat.reduceLeDiff, Nat.reduceAdd, Nat.reduceSub, Nat.reduceMul, Nat.reduceDiv, Nat.reduceMod, Nat.reduceBEq, Int.reduceEq, Int.reduceLT, Int.reduceLE, Int.reduceNeg, Int.reduceToNat, reduceCtorEq]; with_reducible rfl)))); done)))
        exact (by simp (discharger := omega) only [go_sem, tErr, ↓reduceIte, reduceIte, Nat.reduceEqDiff, Nat.reduceLT, Nat.reduceLeDiff, Nat.reduceAdd, Nat.reduceSub, Nat.reduceMul, Nat.reduceDiv, Nat.reduceMod, Nat.reduceBEq, Int.reduceEq, Int.reduceLT, Int.reduceLE, Int.reduceNeg, Int.reduceToNat, reduceCtorEq])
      · by_cases h3 : o.outs.length = o.next.length
        · rw [if_neg h0, if_neg h1, if_neg h2, if_neg (by omega)]
          repeat' (first | (with_reducible first | refine SW_seq ?_ | refine SW_block ?_ | refine SThen_n ?_ | refine SThen_r ?_ | refine SThen_e ?_ | refine SIn_n ?_ | refine SIn_r ?_ | refine SIn_eq ?_ | refine SW_skip ?_ | refine SW_exit ?_ | refine SW_ret ?_ | refine SPost_r ?_) | ((with_reducible refine SIn_ne ?_ ?_); focus decide) | ((with_reducible refine SW_true ?_ ?_); focus exact rfl) | ((with_reducible refine SW_false ?_ ?_); focus exact rfl) | ((first | (with_reducible apply SW_run tt_ok hG htb) | ((with_reducible apply SW_draw rfl tt_ok hG htb); (focus kernel_rfl); (focus (simp only [List.range, List.range.loop, List.size_toArray, List.length_cons, List.length_nil, Nat.reduceAdd])))); focus ((repeat' (first | (with_reducible exact runX_nil) | (with_reducible exact runI_nil) | ((first | (with_reducible apply runX_cons) | (with_reducible apply runI_cons)); focus (simp (discharger := omega) only [go_sem, tOut, tErr, h3, ↓reduceIte, reduceIte, Nat.reduceEqDiff, Nat.reduceLT, Nat.reduceLeDiff, Nat.reduceAdd, Nat.reduceSub, Nat.reduceMul, Nat.reduceDiv, Nat.reduceMod, Nat.reduceBEq, Int.reduceEq, Int.reduceLT, Int.reduceLE, Int.reduceNeg, Int.reduceToNat, reduceCtorEq]; with_reducible rfl)))); done)))
          refine SW_loop (fun m s => ∃ i : Nat, m = o.next.length - i ∧ s = ⟨82, [(1, .bptr 0 0), (3, .t (tInt mo)), (37, .t (tIntss o.next)), (38, .t (tInt o.next.length)), (39, .t (tInt i))], [.box [.t (tInt o.base), .t (tIntss o.next), .t (tInts o.outs)]]⟩ ∧ i ≤ o.next.length ∧ ∀ j (hj : j < o.next.length) (hk : j < o.outs.length), j < i → rowFault mo o.next.length o.next[j] o.outs[j] = 0) o.next.length
            ⟨_, Norm.headS (own := []) (keep := [1, 3, 37, 38, 39]) (by simp (discharger := omega) only [go_sem, ↓reduceIte, reduceIte, Nat.reduceEqDiff, Nat.reduceLT, Nat.reduceLeDiff, Nat.reduceAdd, Nat.reduceSub, Nat.reduceMul, Nat.reduceDiv, Nat.reduceMod, Nat.reduceBEq, Int.reduceEq, Int.reduceLT, Int.reduceLE, Int.reduceNeg, Int.reduceToNat, reduceCtorEq]; with_reducible rfl) (by simp only [go_sem, ↓reduceIte, reduceIte, Nat.reduceEqDiff, Nat.reduceLT, Nat.reduceLeDiff, Nat.reduceAdd, Nat.reduceSub, Nat.reduceMul, Nat.reduceDiv, Nat.reduceMod, Nat.reduceBEq, Int.reduceEq, Int.reduceLT, Int.reduceLE, Int.reduceNeg, Int.reduceToNat, reduceCtorEq]; with_reducible rfl) (by simp only [go_sem, ↓reduceIte, reduceIte, Nat.reduceEqDiff, Nat.reduceLT, Nat.reduceLeDiff, Nat.reduceAdd, Nat.reduceSub, Nat.reduceMul, Nat.reduceDiv, Nat.reduceMod, Nat.reduceBEq, Int.reduceEq, Int.reduceLT, Int.reduceLE, Int.reduceNeg, Int.reduceToNat, reduceCtorEq]; with_reducible rfl) (by simp only [go_sem, ↓reduceIte, reduceIte, Nat.reduceEqDiff, Nat.reduceLT, Nat.reduceLeDiff, Nat.reduceAdd, Nat.reduceSub, Nat.reduceMul, Nat.reduceDiv, Nat.reduceMod, Nat.reduceBEq, Int.reduceEq, Int.reduceLT, Int.reduceLE, Int.reduceNeg, Int.reduceToNat, reduceCtorEq]; with_reducible rfl) (by simp only [go_sem, ↓reduceIte, reduceIte, Nat.reduceEqDiff, Nat.reduceLT, Nat.reduceLeDiff, Nat.reduceAdd, Nat.reduceSub, Nat.reduceMul, Nat.reduceDiv, Nat.reduceMod, Nat.reduceBEq, Int.reduceEq, Int.reduceLT, Int.reduceLE, Int.reduceNeg, Int.reduceToNat, reduceCtorEq]; with_reducible rfl), 0, rfl, rfl, Nat.zero_le _, fun j hj hk h => by omega⟩ ?_
          rintro m s ⟨i, rfl, rfl, hi, hA⟩
          by_cases hlt : i < o.next.length
          · obtain ⟨row, hrow⟩ : ∃ row, o.next[i]! = row := ⟨_, rfl⟩
            obtain ⟨x, hx⟩ : ∃ x, o.outs[i]! = x := ⟨_, rfl⟩
            have hat := bang_at hrow hlt
            have hax := bang_at hx (by omega)
            have hbad := outRows_at (k := mo) (m := o.next.length) o.next o.outs i hlt (by omega) hA
            rw [hat, hax] at hbad
            by_cases hrl : (row.length : Int) = mo
            · repeat' (first | (with_reducible first | refine SW_seq ?_ | refine SW_block ?_ | refine SThen_n ?_ | refine SThen_r ?_ | refine SThen_e ?_ | refine SIn_n ?_ | refine SIn_r ?_ | refine SIn_eq ?_ | refine SW_skip ?_ | refine SW_exit ?_ | refine SW_ret ?_ | refine SPost_r ?_) | ((with_reducible refine SIn_ne ?_ ?_); focus decide) | ((with_reducible refine SW_true ?_ ?_); focus exact rfl) | ((with_reducible refine SW_false ?_ ?_); focus exact rfl) | ((first | (with_reducible apply SW_run tt_ok hG htb) | ((with_reducible apply SW_draw rfl tt_ok hG htb); (focus kernel_rfl); (focus (simp only [List.range, List.range.loop, List.size_toArray, List.length_cons, List.length_nil, Nat.reduceAdd])))); focus ((repeat' (first | (with_reducible exact runX_nil) | (with_reducible exact runI_nil) | ((first | (with_reducible apply runX_cons) | (with_reducible apply runI_cons)); focus (simp (discharger := omega) only [go_sem, hrow, ↓reduceIte, reduceIte, Nat.reduceEqDiff, Nat.reduceLT, Nat.reduceLeDiff, Nat.reduceAdd, Nat.reduceSub, Nat.reduceMul, Nat.reduceDiv, Nat.reduceMod, Nat.reduceBEq, Int.reduceEq, Int.reduceLT, Int.reduceLE, Int.reduceNeg, Int.reduceToNat, reduceCtorEq]; with_reducible rfl)))); done)))
              refine SW_loop (fun m s => ∃ l : Nat, m = row.length - l ∧ s = ⟨82, [(1, .bptr 0 0), (3, .t (tInt mo)), (4, .t (tInt i)), (37, .t (tIntss o.next)), (38, .t (tInt o.next.length)), (39, .t (tInt i)), (49, .t (tInts row)), (50, .t (tInt row.length)), (51, .t (tInt l))], [.box [.t (tInt o.base), .t (tIntss o.next), .t (tInts o.outs)]]⟩ ∧ l ≤ row.length ∧ ∀ x ∈ row.take l, 0 ≤ x ∧ x < (o.next.length : Int)) row.length
                ⟨_, Norm.headS (own := []) (keep := [1, 3, 4, 37, 38, 39, 49, 50, 51]) (by simp (discharger := omega) only [go_sem, ↓reduceIte, reduceIte, Nat.reduceEqDiff, Nat.reduceLT, Nat.reduceLeDiff, Nat.reduceAdd, Nat.reduceSub, Nat.reduceMul, Nat.reduceDiv, Nat.reduceMod, Nat.reduceBEq, Int.reduceEq, Int.reduceLT, Int.reduceLE, Int.reduceNeg, Int.reduceToNat, reduceCtorEq]; with_reducible rfl) (by simp only [go_sem, ↓reduceIte, reduceIte, Nat.reduceEqDiff, Nat.reduceLT, Nat.reduceLeDiff, Nat.reduceAdd, Nat.reduceSub, Nat.reduceMul, Nat.reduceDiv, Nat.reduceMod, Nat.reduceBEq, Int.reduceEq, Int.reduceLT, Int.reduceLE, Int.reduceNeg, Int.reduceToNat, reduceCtorEq]; with_reducible rfl) (by simp only [go_sem, ↓reduceIte, reduceIte, Nat.reduceEqDiff, Nat.reduceLT, Nat.reduceLeDiff, Nat.reduceAdd, Nat.reduceSub, Nat.reduceMul, Nat.reduceDiv, Nat.reduceMod, Nat.reduceBEq, Int.reduceEq, Int.reduceLT, Int.reduceLE, Int.reduceNeg, Int.reduceToNat, reduceCtorEq]; with_reducible rfl) (by simp only [go_sem, ↓reduceIte, reduceIte, Nat.reduceEqDiff, Nat.reduceLT, Nat.reduceLeDiff, Nat.reduceAdd, Nat.reduceSub, Nat.reduceMul, Nat.reduceDiv, Nat.reduceMod, Nat.reduceBEq, Int.reduceEq, Int.reduceLT, Int.reduceLE, Int.reduceNeg, Int.reduceToNat, reduceCtorEq]; with_reducible rfl) (by simp only [go_sem, ↓reduceIte, reduceIte, Nat.reduceEqDiff, Nat.reduceLT, Nat.reduceLeDiff, Nat.reduceAdd, Nat.reduceSub, Nat.reduceMul, Nat.reduceDiv, Nat.reduceMod, Nat.reduceBEq, Int.reduceEq, Int.reduceLT, Int.reduceLE, Int.reduceNeg, Int.reduceToNat, reduceCtorEq]; with_reducible rfl), 0, rfl, rfl, Nat.zero_le _, fun x hx => by simp at hx⟩ ?_
              rintro m s ⟨l, rfl, rfl, hl, hB⟩
              by_cases hlt2 : l < row.length
              · obtain ⟨y, hy⟩ : ∃ y, row[l]! = y := ⟨_, rfl⟩
                have htk := take_next hy hlt2
                have hym := bang_mem hy hlt2
                by_cases hy0 : 0 ≤ y
                · by_cases hym2 : y < (o.next.length : Int)
                  · repeat' (first | (with_reducible first | refine SW_seq ?_ | refine SW_block ?_ | refine SThen_n ?_ | refine SThen_r ?_ | refine SThen_e ?_ | refine SIn_n ?_ | refine SIn_r ?_ | refine SIn_eq ?_ | refine SW_skip ?_ | refine SW_exit ?_ | refine SW_ret ?_ | refine SPost_r ?_) | ((with_reducible refine SIn_ne ?_ ?_); focus decide) | ((with_reducible refine SW_true ?_ ?_); focus exact rfl) | ((with_reducible refine SW_false ?_ ?_); focus exact rfl) | ((first | (with_reducible apply SW_run tt_ok hG htb) | ((with_reducible apply SW_draw rfl tt_ok hG htb); (focus kernel_rfl); (focus (simp only [List.range, List.range.loop, List.size_toArray, List.length_cons, List.length_nil, Nat.reduceAdd])))); focus ((repeat' (first | (with_reducible exact runX_nil) | (with_reducible exact runI_nil) | ((first | (with_reducible apply runX_cons) | (with_reducible apply runI_cons)); focus (simp (discharger := omega) only [go_sem, hy, ↓reduceIte, reduceIte, Nat.reduceEqDiff, Nat.reduceLT, Nat.reduceLeDiff, Nat.reduceAdd, Nat.reduceSub, Nat.reduceMul, Nat.reduceDiv, Nat.reduceMod, Nat.reduceBEq, Int.reduceEq, Int.reduceLT, Int.reduceLE, Int.reduceNeg, Int.reduceToNat, reduceCtorEq]; with_reducible rfl)))); done)))
                    exact ⟨row.length - (l + 1), _, by omega, Norm.headS (own := []) (keep := [1, 3, 4, 37, 38, 39, 49, 50, 51]) (by simp (discharger := omega) only [go_sem, ↓reduceIte, reduceIte, Nat.reduceEqDiff, Nat.reduceLT, Nat.reduceLeDiff, Nat.reduceAdd, Nat.reduceSub, Nat.reduceMul, Nat.reduceDiv, Nat.reduceMod, Nat.reduceBEq, Int.reduceEq, Int.reduceLT, Int.reduceLE, Int.reduceNeg, Int.reduceToNat, reduceCtorEq]; with_reducible rfl) (by simp only [go_sem, ↓reduceIte, reduceIte, Nat.reduceEqDiff, Nat.reduceLT, Nat.reduceLeDiff, Nat.reduceAdd, Nat.reduceSub, Nat.reduceMul, Nat.reduceDiv, Nat.reduceMod, Nat.reduceBEq, Int.reduceEq, Int.reduceLT, Int.reduceLE, Int.reduceNeg, Int.reduceToNat, reduceCtorEq]; with_reducible rfl) (by simp only [go_sem, ↓reduceIte, reduceIte, Nat.reduceEqDiff, Nat.reduceLT, Nat.reduceLeDiff, Nat.reduceAdd, Nat.reduceSub, Nat.reduceMul, Nat.reduceDiv, Nat.reduceMod, Nat.reduceBEq, Int.reduceEq, Int.reduceLT, Int.reduceLE, Int.reduceNeg, Int.reduceToNat, reduceCtorEq]; with_reducible rfl) (by simp only [go_sem, ↓reduceIte, reduceIte, Nat.reduceEqDiff, Nat.reduceLT, Nat.reduceLeDiff, Nat.reduceAdd, Nat.reduceSub, Nat.reduceMul, Nat.reduceDiv, Nat.reduceMod, Nat.reduceBEq, Int.reduceEq, Int.reduceLT, Int.reduceLE, Int.reduceNeg, Int.reduceToNat, reduceCtorEq]; with_reducible rfl) (by simp only [go_sem, ↓reduceIte, reduceIte, Nat.reduceEqDiff, Nat.reduceLT, Nat.reduceLeDiff, Nat.reduceAdd, Nat.reduceSub, Nat.reduceMul, Nat.reduceDiv, Nat.reduceMod, Nat.reduceBEq, Int.reduceEq, Int.reduceLT, Int.reduceLE, Int.reduceNeg, Int.reduceToNat, reduceCtorEq]; with_reducible rfl), l + 1, rfl, rfl, by omega, fun z hz => by
                      rw [htk] at hz
                      rcases List.mem_append.1 hz with h | h
                      · exact hB z h
                      · simp at h; subst h; exact ⟨hy0, hym2⟩⟩
                  · have e := rowFault_ent (x := x) hrl hym (m := o.next.length) (by omega)
                    rw [hbad (by rw [e]; decide), e]
                    repeat' (first | (with_reducible first | refine SW_seq ?_ | refine SW_block ?_ | refine SThen_n ?_ | refine SThen_r ?_ | refine SThen_e ?_ | refine SIn_n ?_ | refine SIn_r ?_ | refine SIn_eq ?_ | refine SW_skip ?_ | refine SW_exit ?_ | refine SW_ret ?_ | refine SPost_r ?_) | ((with_reducible refine SIn_ne ?_ ?_); focus decide) | ((with_reducible refine SW_true ?_ ?_); focus exact rfl) | ((with_reducible refine SW_false ?_ ?_); focus exact rfl) | ((first | (with_reducible apply SW_run tt_ok hG htb) | ((with_reducible apply SW_draw rfl tt_ok hG htb); (focus kernel_rfl); (focus (simp only [List.range, List.range.loop, List.size_toArray, List.length_cons, List.length_nil, Nat.reduceAdd])))); focus ((repeat' (first | (with_reducible exact runX_nil) | (with_reducible exact runI_nil) | ((first | (with_reducible apply runX_cons) | (with_reducible apply runI_cons)); focus (simp (discharger := omega) only [go_sem, hy, ↓reduceIte, reduceIte, Nat.reduceEqDiff, Nat.reduceLT, Nat.reduceLeDiff, Nat.reduceAdd, Nat.reduceSub, Nat.reduceMul, Nat.reduceDiv, Nat.reduceMod, Nat.reduceBEq, Int.reduceEq, Int.reduceLT, Int.reduceLE, Int.reduceNeg, Int.reduceToNat, reduceCtorEq]; with_reducible rfl)))); done)))
                    exact (by simp (discharger := omega) only [go_sem, tErr, ↓reduceIte, reduceIte, Nat.reduceEqDiff, Nat.reduceLT, Nat.reduceLeDiff, Nat.reduceAdd, Nat.reduceSub, Nat.reduceMul, Nat.reduceDiv, Nat.reduceMod, Nat.reduceBEq, Int.reduceEq, Int.reduceLT, Int.reduceLE, Int.reduceNeg, Int.reduceToNat, reduceCtorEq])
                · have e := rowFault_ent (x := x) hrl hym (m := o.next.length) (by omega)
                  rw [hbad (by rw [e]; decide), e]
                  repeat' (first | (with_reducible first | refine SW_seq ?_ | refine SW_block ?_ | refine SThen_n ?_ | refine SThen_r ?_ | refine SThen_e ?_ | refine SIn_n ?_ | refine SIn_r ?_ | refine SIn_eq ?_ | refine SW_skip ?_ | refine SW_exit ?_ | refine SW_ret ?_ | refine SPost_r ?_) | ((with_reducible refine SIn_ne ?_ ?_); focus decide) | ((with_reducible refine SW_true ?_ ?_); focus exact rfl) | ((with_reducible refine SW_false ?_ ?_); focus exact rfl) | ((first | (with_reducible apply SW_run tt_ok hG htb) | ((with_reducible apply SW_draw rfl tt_ok hG htb); (focus kernel_rfl); (focus (simp only [List.range, List.range.loop, List.size_toArray, List.length_cons, List.length_nil, Nat.reduceAdd])))); focus ((repeat' (first | (with_reducible exact runX_nil) | (with_reducible exact runI_nil) | ((first | (with_reducible apply runX_cons) | (with_reducible apply runI_cons)); focus (simp (discharger := omega) only [go_sem, hy, ↓reduceIte, reduceIte, Nat.reduceEqDiff, Nat.reduceLT, Nat.reduceLeDiff, Nat.reduceAdd, Nat.reduceSub, Nat.reduceMul, Nat.reduceDiv, Nat.reduceMod, Nat.reduceBEq, Int.reduceEq, Int.reduceLT, Int.reduceLE, Int.reduceNeg, Int.reduceToNat, reduceCtorEq]; with_reducible rfl)))); done)))
                  exact (by simp (discharger := omega) only [go_sem, tErr, ↓reduceIte, reduceIte, Nat.reduceEqDiff, Nat.reduceLT, Nat.reduceLeDiff, Nat.reduceAdd, Nat.reduceSub, Nat.reduceMul, Nat.reduceDiv, Nat.reduceMod, Nat.reduceBEq, Int.reduceEq, Int.reduceLT, Int.reduceLE, Int.reduceNeg, Int.reduceToNat, reduceCtorEq])
              · obtain rfl : l = row.length := by omega
                rw [List.take_length] at hB
                by_cases hx0 : x < 0
                · have e := rowFault_out (x := x) hrl hB (.inl hx0)
                  rw [hbad (by rw [e]; decide), e]
                  repeat' (first | (with_reducible first | refine SW_seq ?_ | refine SW_block ?_ | refine SThen_n ?_ | refine SThen_r ?_ | refine SThen_e ?_ | refine SIn_n ?_ | refine SIn_r ?_ | refine SIn_eq ?_ | refine SW_skip ?_ | refine SW_exit ?_ | refine SW_ret ?_ | refine SPost_r ?_) | ((with_reducible refine SIn_ne ?_ ?_); focus decide) | ((with_reducible refine SW_true ?_ ?_); focus exact rfl) | ((with_reducible refine SW_false ?_ ?_); focus exact rfl) | ((first | (with_reducible apply SW_run tt_ok hG htb) | ((with_reducible apply SW_draw rfl tt_ok hG htb); (focus kernel_rfl); (focus (simp only [List.range, List.range.loop, List.size_toArray, List.length_cons, List.length_nil, Nat.reduceAdd])))); focus ((repeat' (first | (with_reducible exact runX_nil) | (with_reducible exact runI_nil) | ((first | (with_reducible apply runX_cons) | (with_reducible apply runI_cons)); focus (simp (discharger := omega) only [go_sem, hx, ↓reduceIte, reduceIte, Nat.reduceEqDiff, Nat.reduceLT, Nat.reduceLeDiff, Nat.reduceAdd, Nat.reduceSub, Nat.reduceMul, Nat.reduceDiv, Nat.reduceMod, Nat.reduceBEq, Int.reduceEq, Int.reduceLT, Int.reduceLE, Int.reduceNeg, Int.reduceToNat, reduceCtorEq]; with_reducible rfl)))); done)))
                  exact (by simp (discharger := omega) only [go_sem, tErr, ↓reduceIte, reduceIte, Nat.reduceEqDiff, Nat.reduceLT, Nat.reduceLeDiff, Nat.reduceAdd, Nat.reduceSub, Nat.reduceMul, Nat.reduceDiv, Nat.reduceMod, Nat.reduceBEq, Int.reduceEq, Int.reduceLT, Int.reduceLE, Int.reduceNeg, Int.reduceToNat, reduceCtorEq])
                · by_cases hx9 : 9 < x
                  · have e := rowFault_out (x := x) hrl hB (.inr hx9)
                    rw [hbad (by rw [e]; decide), e]
                    repeat' (first | (with_reducible first | refine SW_seq ?_ | refine SW_block ?_ | refine SThen_n ?_ | refine SThen_r ?_ | refine SThen_e ?_ | refine SIn_n ?_ | refine SIn_r ?_ | refine SIn_eq ?_ | refine SW_skip ?_ | refine SW_exit ?_ | refine SW_ret ?_ | refine SPost_r ?_) | ((with_reducible refine SIn_ne ?_ ?_); focus decide) | ((with_reducible refine SW_true ?_ ?_); focus exact rfl) | ((with_reducible refine SW_false ?_ ?_); focus exact rfl) | ((first | (with_reducible apply SW_run tt_ok hG htb) | ((with_reducible apply SW_draw rfl tt_ok hG htb); (focus kernel_rfl); (focus (simp only [List.range, List.range.loop, List.size_toArray, List.length_cons, List.length_nil, Nat.reduceAdd])))); focus ((repeat' (first | (with_reducible exact runX_nil) | (with_reducible exact runI_nil) | ((first | (with_reducible apply runX_cons) | (with_reducible apply runI_cons)); focus (simp (discharger := omega) only [go_sem, hx, ↓reduceIte, reduceIte, Nat.reduceEqDiff, Nat.reduceLT, Nat.reduceLeDiff, Nat.reduceAdd, Nat.reduceSub, Nat.reduceMul, Nat.reduceDiv, Nat.reduceMod, Nat.reduceBEq, Int.reduceEq, Int.reduceLT, Int.reduceLE, Int.reduceNeg, Int.reduceToNat, reduceCtorEq]; with_reducible rfl)))); done)))
                    exact (by simp (discharger := omega) only [go_sem, tErr, ↓reduceIte, reduceIte, Nat.reduceEqDiff, Nat.reduceLT, Nat.reduceLeDiff, Nat.reduceAdd, Nat.reduceSub, Nat.reduceMul, Nat.reduceDiv, Nat.reduceMod, Nat.reduceBEq, Int.reduceEq, Int.reduceLT, Int.reduceLE, Int.reduceNeg, Int.reduceToNat, reduceCtorEq])
                  · repeat' (first | (with_reducible first | refine SW_seq ?_ | refine SW_block ?_ | refine SThen_n ?_ | refine SThen_r ?_ | refine SThen_e ?_ | refine SIn_n ?_ | refine SIn_r ?_ | refine SIn_eq ?_ | refine SW_skip ?_ | refine SW_exit ?_ | refine SW_ret ?_ | refine SPost_r ?_) | ((with_reducible refine SIn_ne ?_ ?_); focus decide) | ((with_reducible refine SW_true ?_ ?_); focus exact rfl) | ((with_reducible refine SW_false ?_ ?_); focus exact rfl) | ((first | (with_reducible apply SW_run tt_ok hG htb) | ((with_reducible apply SW_draw rfl tt_ok hG htb); (focus kernel_rfl); (focus (simp only [List.range, List.range.loop, List.size_toArray, List.length_cons, List.length_nil, Nat.reduceAdd])))); focus ((repeat' (first | (with_reducible exact runX_nil) | (with_reducible exact runI_nil) | ((first | (with_reducible apply runX_cons) | (with_reducible apply runI_cons)); focus (simp (discharger := omega) only [go_sem, hx, ↓reduceIte, reduceIte, Nat.reduceEqDiff, Nat.reduceLT, Nat.reduceLeDiff, Nat.reduceAdd, Nat.reduceSub, Nat.reduceMul, Nat.reduceDiv, Nat.reduceMod, Nat.reduceBEq, Int.reduceEq, Int.reduceLT, Int.reduceLE, Int.reduceNeg, Int.reduceToNat, reduceCtorEq]; with_reducible rfl)))); done)))
                    exact ⟨o.next.length - (i + 1), _, by omega, Norm.headS (own := []) (keep := [1, 3, 37, 38, 39]) (by simp (discharger := omega) only [go_sem, ↓reduceIte, reduceIte, Nat.reduceEqDiff, Nat.reduceLT, Nat.reduceLeDiff, Nat.reduceAdd, Nat.reduceSub, Nat.reduceMul, Nat.reduceDiv, Nat.reduceMod, Nat.reduceBEq, Int.reduceEq, Int.reduceLT, Int.reduceLE, Int.reduceNeg, Int.reduceToNat, reduceCtorEq]; with_reducible rfl) (by simp only [go_sem, ↓reduceIte, reduceIte, Nat.reduceEqDiff, Nat.reduceLT, Nat.reduceLeDiff, Nat.reduceAdd, Nat.reduceSub, Nat.reduceMul, Nat.reduceDiv, Nat.reduceMod, Nat.reduceBEq, Int.reduceEq, Int.reduceLT, Int.reduceLE, Int.reduceNeg, Int.reduceToNat, reduceCtorEq]; with_reducible rfl) (by simp only [go_sem, ↓reduceIte, reduceIte, Nat.reduceEqDiff, Nat.reduceLT, Nat.reduceLeDiff, Nat.reduceAdd, Nat.reduceSub, Nat.reduceMul, Nat.reduceDiv, Nat.reduceMod, Nat.reduceBEq, Int.reduceEq, Int.reduceLT, Int.reduceLE, Int.reduceNeg, Int.reduceToNat, reduceCtorEq]; with_reducible rfl) (by simp only [go_sem, ↓reduceIte, reduceIte, Nat.reduceEqDiff, Nat.reduceLT, Nat.reduceLeDiff, Nat.reduceAdd, Nat.reduceSub, Nat.reduceMul, Nat.reduceDiv, Nat.reduceMod, Nat.reduceBEq, Int.reduceEq, Int.reduceLT, Int.reduceLE, Int.reduceNeg, Int.reduceToNat, reduceCtorEq]; with_reducible rfl) (by simp only [go_sem, ↓reduceIte, reduceIte, Nat.reduceEqDiff, Nat.reduceLT, Nat.reduceLeDiff, Nat.reduceAdd, Nat.reduceSub, Nat.reduceMul, Nat.reduceDiv, Nat.reduceMod, Nat.reduceBEq, Int.reduceEq, Int.reduceLT, Int.reduceLE, Int.reduceNeg, Int.reduceToNat, reduceCtorEq]; with_reducible rfl), i + 1, rfl, rfl, by omega, fun j hj hk h => by
                      by_cases e : j = i
                      · subst e; rw [hat, hax]; exact rowFault_zero.2 ⟨hrl, hB, by omega⟩
                      · exact hA j hj hk (by omega)⟩
            · have e := rowFault_len (m := (o.next.length : Int)) (x := x) hrl
              rw [hbad (by rw [e]; decide), e]
              repeat' (first | (with_reducible first | refine SW_seq ?_ | refine SW_block ?_ | refine SThen_n ?_ | refine SThen_r ?_ | refine SThen_e ?_ | refine SIn_n ?_ | refine SIn_r ?_ | refine SIn_eq ?_ | refine SW_skip ?_ | refine SW_exit ?_ | refine SW_ret ?_ | refine SPost_r ?_) | ((with_reducible refine SIn_ne ?_ ?_); focus decide) | ((with_reducible refine SW_true ?_ ?_); focus exact rfl) | ((with_reducible refine SW_false ?_ ?_); focus exact rfl) | ((first | (with_reducible apply SW_run tt_ok hG htb) | ((with_reducible apply SW_draw rfl tt_ok hG htb); (focus kernel_rfl); (focus (simp only [List.range, List.range.loop, List.size_toArray, List.length_cons, List.length_nil, Nat.reduceAdd])))); focus ((repeat' (first | (with_reducible exact runX_nil) | (with_reducible exact runI_nil) | ((first | (with_reducible apply runX_cons) | (with_reducible apply runI_cons)); focus (simp (discharger := omega) only [go_sem, hrow, ↓reduceIte, reduceIte, Nat.reduceEqDiff, Nat.reduceLT, Nat.reduceLeDiff, Nat.reduceAdd, Nat.reduceSub, Nat.reduceMul, Nat.reduceDiv, Nat.reduceMod, Nat.reduceBEq, Int.reduceEq, Int.reduceLT, Int.reduceLE, Int.reduceNeg, Int.reduceToNat, reduceCtorEq]; with_reducible rfl)))); done)))
              exact (by simp (discharger := omega) only [go_sem, tErr, ↓reduceIte, reduceIte, Nat.reduceEqDiff, Nat.reduceLT, Nat.reduceLeDiff, Nat.reduceAdd, Nat.reduceSub, Nat.reduceMul, Nat.reduceDiv, Nat.reduceMod, Nat.reduceBEq, Int.reduceEq, Int.reduceLT, Int.reduceLE, Int.reduceNeg, Int.reduceToNat, reduceCtorEq])
          · obtain rfl : i = o.next.length := by omega
            rw [(outRows_zero _ _ h3).2 fun j hj hk => hA j hj hk hj]
            repeat' (first | (with_reducible first | refine SW_seq ?_ | refine SW_block ?_ | refine SThen_n ?_ | refine SThen_r ?_ | refine SThen_e ?_ | refine SIn_n ?_ | refine SIn_r ?_ | refine SIn_eq ?_ | refine SW_skip ?_ | refine SW_exit ?_ | refine SW_ret ?_ | refine SPost_r ?_) | ((with_reducible refine SIn_ne ?_ ?_); focus decide) | ((with_reducible refine SW_true ?_ ?_); focus exact rfl) | ((with_reducible refine SW_false ?_ ?_); focus exact rfl) | ((first | (with_reducible apply SW_run tt_ok hG htb) | ((with_reducible apply SW_draw rfl tt_ok hG htb); (focus kernel_rfl); (focus (simp only [List.range, List.range.loop, List.size_toArray, List.length_cons, List.length_nil, Nat.reduceAdd])))); focus ((repeat' (first | (with_reducible exact runX_nil) | (with_reducible exact runI_nil) | ((first | (with_reducible apply runX_cons) | (with_reducible apply runI_cons)); focus (simp (discharger := omega) only [go_sem, ↓reduceIte, reduceIte, Nat.reduceEqDiff, Nat.reduceLT, Nat.reduceLeDiff, Nat.reduceAdd, Nat.reduceSub, Nat.reduceMul, Nat.reduceDiv, Nat.reduceMod, Nat.reduceBEq, Int.reduceEq, Int.reduceLT, Int.reduceLE, Int.reduceNeg, Int.reduceToNat, reduceCtorEq]; with_reducible rfl)))); done)))
            exact (by simp (discharger := omega) only [go_sem, tErr, ↓reduceIte, reduceIte, Nat.reduceEqDiff, Nat.reduceLT, Nat.reduceLeDiff, Nat.reduceAdd, Nat.reduceSub, Nat.reduceMul, Nat.reduceDiv, Nat.reduceMod, Nat.reduceBEq, Int.reduceEq, Int.reduceLT, Int.reduceLE, Int.reduceNeg, Int.reduceToNat, reduceCtorEq])
        · repeat' (first | (with_reducible first | refine SW_seq ?_ | refine SW_block ?_ | refine SThen_n ?_ | refine SThen_r ?_ | refine SThen_e ?_ | refine SIn_n ?_ | refine SIn_r ?_ | refine SIn_eq ?_ | refine SW_skip ?_ | refine SW_exit ?_ | refine SW_ret ?_ | refine SPost_r ?_) | ((with_reducible refine SIn_ne ?_ ?_); focus decide) | ((with_reducible refine SW_true ?_ ?_); focus exact rfl) | ((with_reducible refine SW_false ?_ ?_); focus exact rfl) | ((first | (with_reducible apply SW_run tt_ok hG htb) | ((with_reducible apply SW_draw rfl tt_ok hG htb); (focus kernel_rfl); (focus (simp only [List.range, List.range.loop, List.size_toArray, List.length_cons, List.length_nil, Nat.reduceAdd])))); focus ((repeat' (first | (with_reducible exact runX_nil) | (with_reducible exact runI_nil) | ((first | (with_reducible apply runX_cons) | (with_reducible apply runI_cons)); focus (simp (discharger := omega) only [go_sem, tOut, tErr, h3, ↓reduceIte, reduceIte, Nat.reduceEqDiff, Nat.reduceLT, Nat.reduceLeDiff, Nat.reduceAdd, Nat.reduceSub, Nat.reduceMul, Nat.reduceDiv, Nat.reduceMod, Nat.reduceBEq, Int.reduceEq, Int.reduceLT, Int.reduceLE, Int.reduceNeg, Int.reduceToNat, reduceCtorEq]; with_reducible rfl)))); done)))
          exact (by simp (discharger := omega) only [go_sem, tErr, h3, ↓reduceIte, reduceIte, Nat.reduceEqDiff, Nat.reduceLT, Nat.reduceLeDiff, Nat.reduceAdd, Nat.reduceSub, Nat.reduceMul, Nat.reduceDiv, Nat.reduceMod, Nat.reduceBEq, Int.reduceEq, Int.reduceLT, Int.reduceLE, Int.reduceNeg, Int.reduceToNat, reduceCtorEq])
set_option maxHeartbeats 2000000 in
theorem says_snd (o : GOut) (n : Int) {k m : Nat} (g : OkOut o k m) (h0 : 0 ≤ n) (h1 : n ≤ 1099511627776) : Snd Try.prog G 35 [tOut o, tInt n] (tInt (said o n)) := by
  have he : ofErr o.base n = 0 := ofErr_zero.2 ⟨by have := g.k_eq; have := g.k2; omega, h0, h1⟩
  have htb := Tab.cons (Of_snd (G := G) o.base n) Tab.nil
  have hdig := g.dig h0 h1
  have hlen := (ofL_is he).len (by have := g.k_eq; have := g.k2; omega) h1
  have hm0 := g.m0
  have hnl := g.rows.len
  have hol := g.outs
  have hm20 := g.m20
  have hk6 := g.k2
  unfold said
  rw [he] at htb
  generalize ofL o.base n = d at *
  refine snd_of_body (n := 37) (tm := [(0, .t (tOut o)), (1, .t (tInt n))]) (rs := [.tmp 4]) tt_ok Try.func35 rfl rfl rfl rfl rfl ?_
  repeat' (first | (with_reducible first | refine SW_seq ?_ | refine SW_block ?_ | refine SThen_n ?_ | refine SThen_r ?_ | refine SThen_e ?_ | refine SIn_n ?_ | refine SIn_r ?_ | refine SIn_eq ?_ | refine SW_skip ?_ | refine SW_exit ?_ | refine SW_ret ?_ | refine SPost_r ?_) | ((with_reducible refine SIn_ne ?_ ?_); focus decide) | ((with_reducible refine SW_true ?_ ?_); focus exact rfl) | ((with_reducible refine SW_false ?_ ?_); focus exact rfl) | ((first | (with_reducible apply SW_run tt_ok hG htb) | ((with_reducible apply SW_draw rfl tt_ok hG htb); (focus kernel_rfl); (focus (simp only [List.range, List.range.loop, List.size_toArray, List.length_cons, List.length_nil, Nat.reduceAdd])))); focus ((repeat' (first | (with_reducible exact runX_nil) | (with_reducible exact runI_nil) | ((first | (with_reducible apply runX_cons) | (with_reducible apply runI_cons)); focus (simp (discharger := omega) only [go_sem, tOut, tErr, ↓reduceIte, reduceIte, Nat.reduceEqDiff, Nat.reduceLT, Nat.reduceLeDiff, Nat.reduceAdd, Nat.reduceSub, Nat.reduceMul, Nat.reduceDiv, Nat.reduceMod, Nat.reduceBEq, Int.reduceEq, Int.reduceLT, Int.reduceLE, Int.reduceNeg, Int.reduceToNat, reduceCtorEq]; with_reducible rfl)))); done)))
  refine SW_loop (fun c s => ∃ (i : Nat) (q : Int), c = d.length - i ∧ s = ⟨37, [(2, .bptr 0 0), (7, .t (tInt q)), (17, .t (tInts d)), (18, .t (tInt d.length)), (19, .t (tInt i))], [.box [.t (tInt o.base), .t (tIntss o.next), .t (tInts o.outs)]]⟩ ∧ i ≤ d.length ∧ q = runFrom o.next 0 (d.take i)) d.length
    ⟨_, Norm.headS (own := []) (keep := [2, 7, 17, 18, 19]) (by simp (discharger := omega) only [go_sem, ↓reduceIte, reduceIte, Nat.reduceEqDiff, Nat.reduceLT, Nat.reduceLeDiff, Nat.reduceAdd, Nat.reduceSub, Nat.reduceMul, Nat.reduceDiv, Nat.reduceMod, Nat.reduceBEq, Int.reduceEq, Int.reduceLT, Int.reduceLE, Int.reduceNeg, Int.reduceToNat, reduceCtorEq]; with_reducible rfl) (by simp only [go_sem, ↓reduceIte, reduceIte, Nat.reduceEqDiff, Nat.reduceLT, Nat.reduceLeDiff, Nat.reduceAdd, Nat.reduceSub, Nat.reduceMul, Nat.reduceDiv, Nat.reduceMod, Nat.reduceBEq, Int.reduceEq, Int.reduceLT, Int.reduceLE, Int.reduceNeg, Int.reduceToNat, reduceCtorEq]; with_reducible rfl) (by simp only [go_sem, ↓reduceIte, reduceIte, Nat.reduceEqDiff, Nat.reduceLT, Nat.reduceLeDiff, Nat.reduceAdd, Nat.reduceSub, Nat.reduceMul, Nat.reduceDiv, Nat.reduceMod, Nat.reduceBEq, Int.reduceEq, Int.reduceLT, Int.reduceLE, Int.reduceNeg, Int.reduceToNat, reduceCtorEq]; with_reducible rfl) (by simp only [go_sem, ↓reduceIte, reduceIte, Nat.reduceEqDiff, Nat.reduceLT, Nat.reduceLeDiff, Nat.reduceAdd, Nat.reduceSub, Nat.reduceMul, Nat.reduceDiv, Nat.reduceMod, Nat.reduceBEq, Int.reduceEq, Int.reduceLT, Int.reduceLE, Int.reduceNeg, Int.reduceToNat, reduceCtorEq]; with_reducible rfl) (by simp only [go_sem, ↓reduceIte, reduceIte, Nat.reduceEqDiff, Nat.reduceLT, Nat.reduceLeDiff, Nat.reduceAdd, Nat.reduceSub, Nat.reduceMul, Nat.reduceDiv, Nat.reduceMod, Nat.reduceBEq, Int.reduceEq, Int.reduceLT, Int.reduceLE, Int.reduceNeg, Int.reduceToNat, reduceCtorEq]; with_reducible rfl), 0, 0, rfl, rfl, Nat.zero_le _, rfl⟩ ?_
  rintro c s ⟨i, q, rfl, rfl, hi, hq⟩
  have hqm : 0 ≤ q ∧ q < (m : Int) := by rw [hq]; exact runFrom_ok g.rows _ 0 (by omega) fun x hx => hdig x (List.mem_of_mem_take hx)
  by_cases hlt : i < d.length
  · obtain ⟨x, hx⟩ : ∃ x, d[i]! = x := ⟨_, rfl⟩
    have hxn := hdig x (bang_mem hx hlt)
    obtain ⟨row, hrow⟩ : ∃ row, o.next[q.toNat]! = row := ⟨_, rfl⟩
    have hrl : row.length = k := g.rows.row _ (bang_mem hrow (by omega))
    obtain ⟨u, hu⟩ : ∃ u, row[x.toNat]! = u := ⟨_, rfl⟩
    have hstep := runFrom_take o.next hx hlt 0
    rw [← hq, nextOf_bang hrow (by omega) hu (by omega)] at hstep
    repeat' (first | (with_reducible first | refine SW_seq ?_ | refine SW_block ?_ | refine SThen_n ?_ | refine SThen_r ?_ | refine SThen_e ?_ | refine SIn_n ?_ | refine SIn_r ?_ | refine SIn_eq ?_ | refine SW_skip ?_ | refine SW_exit ?_ | refine SW_ret ?_ | refine SPost_r ?_) | ((with_reducible refine SIn_ne ?_ ?_); focus decide) | ((with_reducible refine SW_true ?_ ?_); focus exact rfl) | ((with_reducible refine SW_false ?_ ?_); focus exact rfl) | ((first | (with_reducible apply SW_run tt_ok hG htb) | ((with_reducible apply SW_draw rfl tt_ok hG htb); (focus kernel_rfl); (focus (simp only [List.range, List.range.loop, List.size_toArray, List.length_cons, List.length_nil, Nat.reduceAdd])))); focus ((repeat' (first | (with_reducible exact runX_nil) | (with_reducible exact runI_nil) | ((first | (with_reducible apply runX_cons) | (with_reducible apply runI_cons)); focus (simp (discharger := omega) only [go_sem, hx, hrow, hu, ↓reduceIte, reduceIte, Nat.reduceEqDiff, Nat.reduceLT, Nat.reduceLeDiff, Nat.reduceAdd, Nat.reduceSub, Nat.reduceMul, Nat.reduceDiv, Nat.reduceMod, Nat.reduceBEq, Int.reduceEq, Int.reduceLT, Int.reduceLE, Int.reduceNeg, Int.reduceToNat, reduceCtorEq]; with_reducible rfl)))); done)))
    exact ⟨d.length - (i + 1), _, by omega, Norm.headS (own := []) (keep := [2, 7, 17, 18, 19]) (by simp (discharger := omega) only [go_sem, ↓reduceIte, reduceIte, Nat.reduceEqDiff, Nat.reduceLT, Nat.reduceLeDiff, Nat.reduceAdd, Nat.reduceSub, Nat.reduceMul, Nat.reduceDiv, Nat.reduceMod, Nat.reduceBEq, Int.reduceEq, Int.reduceLT, Int.reduceLE, Int.reduceNeg, Int.reduceToNat, reduceCtorEq]; with_reducible rfl) (by simp only [go_sem, ↓reduceIte, reduceIte, Nat.reduceEqDiff, Nat.reduceLT, Nat.reduceLeDiff, Nat.reduceAdd, Nat.reduceSub, Nat.reduceMul, Nat.reduceDiv, Nat.reduceMod, Nat.reduceBEq, Int.reduceEq, Int.reduceLT, Int.reduceLE, Int.reduceNeg, Int.reduceToNat, reduceCtorEq]; with_reducible rfl) (by simp only [go_sem, ↓reduceIte, reduceIte, Nat.reduceEqDiff, Nat.reduceLT, Nat.reduceLeDiff, Nat.reduceAdd, Nat.reduceSub, Nat.reduceMul, Nat.reduceDiv, Nat.reduceMod, Nat.reduceBEq, Int.reduceEq, Int.reduceLT, Int.reduceLE, Int.reduceNeg, Int.reduceToNat, reduceCtorEq]; with_reducible rfl) (by simp only [go_sem, ↓reduceIte, reduceIte, Nat.reduceEqDiff, Nat.reduceLT, Nat.reduceLeDiff, Nat.reduceAdd, Nat.reduceSub, Nat.reduceMul, Nat.reduceDiv, Nat.reduceMod, Nat.reduceBEq, Int.reduceEq, Int.reduceLT, Int.reduceLE, Int.reduceNeg, Int.reduceToNat, reduceCtorEq]; with_reducible rfl) (by simp only [go_sem, ↓reduceIte, reduceIte, Nat.reduceEqDiff, Nat.reduceLT, Nat.reduceLeDiff, Nat.reduceAdd, Nat.reduceSub, Nat.reduceMul, Nat.reduceDiv, Nat.reduceMod, Nat.reduceBEq, Int.reduceEq, Int.reduceLT, Int.reduceLE, Int.reduceNeg, Int.reduceToNat, reduceCtorEq]; with_reducible rfl), i + 1, u, rfl, rfl, by omega, hstep.symm⟩
  · obtain rfl : i = d.length := by omega
    rw [List.take_length] at hq
    rw [← hq]
    obtain ⟨x, hx⟩ : ∃ x, o.outs[q.toNat]! = x := ⟨_, rfl⟩
    rw [bang_D hx (by omega)]
    repeat' (first | (with_reducible first | refine SW_seq ?_ | refine SW_block ?_ | refine SThen_n ?_ | refine SThen_r ?_ | refine SThen_e ?_ | refine SIn_n ?_ | refine SIn_r ?_ | refine SIn_eq ?_ | refine SW_skip ?_ | refine SW_exit ?_ | refine SW_ret ?_ | refine SPost_r ?_) | ((with_reducible refine SIn_ne ?_ ?_); focus decide) | ((with_reducible refine SW_true ?_ ?_); focus exact rfl) | ((with_reducible refine SW_false ?_ ?_); focus exact rfl) | ((first | (with_reducible apply SW_run tt_ok hG htb) | ((with_reducible apply SW_draw rfl tt_ok hG htb); (focus kernel_rfl); (focus (simp only [List.range, List.range.loop, List.size_toArray, List.length_cons, List.length_nil, Nat.reduceAdd])))); focus ((repeat' (first | (with_reducible exact runX_nil) | (with_reducible exact runI_nil) | ((first | (with_reducible apply runX_cons) | (with_reducible apply runI_cons)); focus (simp (discharger := omega) only [go_sem, hx, ↓reduceIte, reduceIte, Nat.reduceEqDiff, Nat.reduceLT, Nat.reduceLeDiff, Nat.reduceAdd, Nat.reduceSub, Nat.reduceMul, Nat.reduceDiv, Nat.reduceMod, Nat.reduceBEq, Int.reduceEq, Int.reduceLT, Int.reduceLE, Int.reduceNeg, Int.reduceToNat, reduceCtorEq]; with_reducible rfl)))); done)))
    exact (by simp (discharger := omega) only [go_sem, ↓reduceIte, reduceIte, Nat.reduceEqDiff, Nat.reduceLT, Nat.reduceLeDiff, Nat.reduceAdd, Nat.reduceSub, Nat.reduceMul, Nat.reduceDiv, Nat.reduceMod, Nat.reduceBEq, Int.reduceEq, Int.reduceLT, Int.reduceLE, Int.reduceNeg, Int.reduceToNat, reduceCtorEq])
theorem At_snd (o : GOut) (n : Int) : Snd Try.prog G 13 [tOut o, tInt n] (.tup [tInt (atOf o n), tErr (atErr o n)]) := by
  have c1 := WCheck_snd hG o
  by_cases h : outErr o = 0
  · have g := out_ok h
    by_cases h0 : n < 0
    · have e1 : atErr o n = 1 := by unfold atErr; rw [if_neg (by rw [h]; simp), if_pos (.inl h0)]
      have e2 : atOf o n = 0 := by unfold atOf; rw [e1]; rfl
      rw [e1, e2]
      rw [h] at c1
      have htb := Tab.cons c1 Tab.nil
      refine snd_of_body (n := 22) (tm := [(0, .t (tOut o)), (1, .t (tInt n))]) (rs := [.tmp 4, .tmp 5]) tt_ok Try.func13 rfl rfl rfl rfl rfl ?_
      repeat' (first | (with_reducible first | refine SW_seq ?_ | refine SW_block ?_ | refine SThen_n ?_ | refine SThen_r ?_ | refine SThen_e ?_ | refine SIn_n ?_ | refine SIn_r ?_ | refine SIn_eq ?_ | refine SW_skip ?_ | refine SW_exit ?_ | refine SW_ret ?_ | refine SPost_r ?_) | ((with_reducible refine SIn_ne ?_ ?_); focus decide) | ((with_reducible refine SW_true ?_ ?_); focus exact rfl) | ((with_reducible refine SW_false ?_ ?_); focus exact rfl) | ((first | (with_reducible apply SW_run tt_ok hG htb) | ((with_reducible apply SW_draw rfl tt_ok hG htb); (focus kernel_rfl); (focus (simp only [List.range, List.range.loop, List.size_toArray, List.length_cons, List.length_nil, Nat.reduceAdd])))); focus ((repeat' (first | (with_reducible exact runX_nil) | (with_reducible exact runI_nil) | ((first | (with_reducible apply runX_cons) | (with_reducible apply runI_cons)); focus (simp (discharger := omega) only [go_sem, tOut, tErr, ↓reduceIte, reduceIte, Nat.reduceEqDiff, Nat.reduceLT, Nat.reduceLeDiff, Nat.reduceAdd, Nat.reduceSub, Nat.reduceMul, Nat.reduceDiv, Nat.reduceMod, Nat.reduceBEq, Int.reduceEq, Int.reduceLT, Int.reduceLE, Int.reduceNeg, Int.reduceToNat, reduceCtorEq]; with_reducible rfl)))); done)))
      exact (by simp (discharger := omega) only [go_sem, tErr, ↓reduceIte, reduceIte, Nat.reduceEqDiff, Nat.reduceLT, Nat.reduceLeDiff, Nat.reduceAdd, Nat.reduceSub, Nat.reduceMul, Nat.reduceDiv, Nat.reduceMod, Nat.reduceBEq, Int.reduceEq, Int.reduceLT, Int.reduceLE, Int.reduceNeg, Int.reduceToNat, reduceCtorEq])
    · by_cases h1 : 1099511627776 < n
      · have e1 : atErr o n = 1 := by unfold atErr; rw [if_neg (by rw [h]; simp), if_pos (.inr h1)]
        have e2 : atOf o n = 0 := by unfold atOf; rw [e1]; rfl
        rw [e1, e2]
        rw [h] at c1
        have htb := Tab.cons c1 Tab.nil
        refine snd_of_body (n := 22) (tm := [(0, .t (tOut o)), (1, .t (tInt n))]) (rs := [.tmp 4, .tmp 5]) tt_ok Try.func13 rfl rfl rfl rfl rfl ?_
        repeat' (first | (with_reducible first | refine SW_seq ?_ | refine SW_block ?_ | refine SThen_n ?_ | refine SThen_r ?_ | refine SThen_e ?_ | refine SIn_n ?_ | refine SIn_r ?_ | refine SIn_eq ?_ | refine SW_skip ?_ | refine SW_exit ?_ | refine SW_ret ?_ | refine SPost_r ?_) | ((with_reducible refine SIn_ne ?_ ?_); focus decide) | ((with_reducible refine SW_true ?_ ?_); focus exact rfl) | ((with_reducible refine SW_false ?_ ?_); focus exact rfl) | ((first | (with_reducible apply SW_run tt_ok hG htb) | ((with_reducible apply SW_draw rfl tt_ok hG htb); (focus kernel_rfl); (focus (simp only [List.range, List.range.loop, List.size_toArray, List.length_cons, List.length_nil, Nat.reduceAdd])))); focus ((repeat' (first | (with_reducible exact runX_nil) | (with_reducible exact runI_nil) | ((first | (with_reducible apply runX_cons) | (with_reducible apply runI_cons)); focus (simp (discharger := omega) only [go_sem, tOut, tErr, ↓reduceIte, reduceIte, Nat.reduceEqDiff, Nat.reduceLT, Nat.reduceLeDiff, Nat.reduceAdd, Nat.reduceSub, Nat.reduceMul, Nat.reduceDiv, Nat.reduceMod, Nat.reduceBEq, Int.reduceEq, Int.reduceLT, Int.reduceLE, Int.reduceNeg, Int.reduceToNat, reduceCtorEq]; with_reducible rfl)))); done)))
        exact (by simp (discharger := omega) only [go_sem, tErr, ↓reduceIte, reduceIte, Nat.reduceEqDiff, Nat.reduceLT, Nat.reduceLeDiff, Nat.reduceAdd, Nat.reduceSub, Nat.reduceMul, Nat.reduceDiv, Nat.reduceMod, Nat.reduceBEq, Int.reduceEq, Int.reduceLT, Int.reduceLE, Int.reduceNeg, Int.reduceToNat, reduceCtorEq])
      · obtain ⟨e1, e2⟩ := g.at (show 0 ≤ n by omega) (show n ≤ 1099511627776 by omega)
        have c2 := says_snd hG o n g (show 0 ≤ n by omega) (show n ≤ 1099511627776 by omega)
        rw [e1, e2]
        rw [h] at c1
        generalize said o n = v at *
        have htb := Tab.cons c1 (Tab.cons c2 Tab.nil)
        refine snd_of_body (n := 22) (tm := [(0, .t (tOut o)), (1, .t (tInt n))]) (rs := [.tmp 4, .tmp 5]) tt_ok Try.func13 rfl rfl rfl rfl rfl ?_
        repeat' (first | (with_reducible first | refine SW_seq ?_ | refine SW_block ?_ | refine SThen_n ?_ | refine SThen_r ?_ | refine SThen_e ?_ | refine SIn_n ?_ | refine SIn_r ?_ | refine SIn_eq ?_ | refine SW_skip ?_ | refine SW_exit ?_ | refine SW_ret ?_ | refine SPost_r ?_) | ((with_reducible refine SIn_ne ?_ ?_); focus decide) | ((with_reducible refine SW_true ?_ ?_); focus exact rfl) | ((with_reducible refine SW_false ?_ ?_); focus exact rfl) | ((first | (with_reducible apply SW_run tt_ok hG htb) | ((with_reducible apply SW_draw rfl tt_ok hG htb); (focus kernel_rfl); (focus (simp only [List.range, List.range.loop, List.size_toArray, List.length_cons, List.length_nil, Nat.reduceAdd])))); focus ((repeat' (first | (with_reducible exact runX_nil) | (with_reducible exact runI_nil) | ((first | (with_reducible apply runX_cons) | (with_reducible apply runI_cons)); focus (simp (discharger := omega) only [go_sem, tOut, tErr, ↓reduceIte, reduceIte, Nat.reduceEqDiff, Nat.reduceLT, Nat.reduceLeDiff, Nat.reduceAdd, Nat.reduceSub, Nat.reduceMul, Nat.reduceDiv, Nat.reduceMod, Nat.reduceBEq, Int.reduceEq, Int.reduceLT, Int.reduceLE, Int.reduceNeg, Int.reduceToNat, reduceCtorEq]; with_reducible rfl)))); done)))
        exact (by simp (discharger := omega) only [go_sem, tErr, ↓reduceIte, reduceIte, Nat.reduceEqDiff, Nat.reduceLT, Nat.reduceLeDiff, Nat.reduceAdd, Nat.reduceSub, Nat.reduceMul, Nat.reduceDiv, Nat.reduceMod, Nat.reduceBEq, Int.reduceEq, Int.reduceLT, Int.reduceLE, Int.reduceNeg, Int.reduceToNat, reduceCtorEq])
  · have e1 : atErr o n = outErr o := by unfold atErr; rw [if_pos h]
    have e2 : atOf o n = 0 := by unfold atOf; rw [e1, if_neg h]
    rw [e1, e2]
    generalize outErr o = f at *
    have htb := Tab.cons c1 Tab.nil
    refine snd_of_body (n := 22) (tm := [(0, .t (tOut o)), (1, .t (tInt n))]) (rs := [.tmp 4, .tmp 5]) tt_ok Try.func13 rfl rfl rfl rfl rfl ?_
    repeat' (first | (with_reducible first | refine SW_seq ?_ | refine SW_block ?_ | refine SThen_n ?_ | refine SThen_r ?_ | refine SThen_e ?_ | refine SIn_n ?_ | refine SIn_r ?_ | refine SIn_eq ?_ | refine SW_skip ?_ | refine SW_exit ?_ | refine SW_ret ?_ | refine SPost_r ?_) | ((with_reducible refine SIn_ne ?_ ?_); focus decide) | ((with_reducible refine SW_true ?_ ?_); focus exact rfl) | ((with_reducible refine SW_false ?_ ?_); focus exact rfl) | ((first | (with_reducible apply SW_run tt_ok hG htb) | ((with_reducible apply SW_draw rfl tt_ok hG htb); (focus kernel_rfl); (focus (simp only [List.range, List.range.loop, List.size_toArray, List.length_cons, List.length_nil, Nat.reduceAdd])))); focus ((repeat' (first | (with_reducible exact runX_nil) | (with_reducible exact runI_nil) | ((first | (with_reducible apply runX_cons) | (with_reducible apply runI_cons)); focus (simp (discharger := omega) only [go_sem, tOut, tErr, h, ↓reduceIte, reduceIte, Nat.reduceEqDiff, Nat.reduceLT, Nat.reduceLeDiff, Nat.reduceAdd, Nat.reduceSub, Nat.reduceMul, Nat.reduceDiv, Nat.reduceMod, Nat.reduceBEq, Int.reduceEq, Int.reduceLT, Int.reduceLE, Int.reduceNeg, Int.reduceToNat, reduceCtorEq]; with_reducible rfl)))); done)))
    exact (by simp (discharger := omega) only [go_sem, tErr, h, ↓reduceIte, reduceIte, Nat.reduceEqDiff, Nat.reduceLT, Nat.reduceLeDiff, Nat.reduceAdd, Nat.reduceSub, Nat.reduceMul, Nat.reduceDiv, Nat.reduceMod, Nat.reduceBEq, Int.reduceEq, Int.reduceLT, Int.reduceLE, Int.reduceNeg, Int.reduceToNat, reduceCtorEq])
end
end Go.Proofs.Ytfhncnhkeodngaa
namespace Go.Proofs.Ytfhncnhkeodngaa
open Go.RowKit
theorem lateRow_next {r : List Int} {x : Nat} {y : Int} (h : r[x]! = y) (hx : x < r.length) : (lateRow r).take (x + 1) = (lateRow r).take x ++ [if x = 0 then 0 else y + 1] := by
  unfold lateRow
  rw [map_range_take (fun x => if x = 0 then 0 else r.getD x 0 + 1) hx, bang_D h hx]
theorem lateRow_length (r : List Int) : (lateRow r).length = r.length := by simp [lateRow]
section
variable {G : World → Prop} (hG : Lasting G)
include hG
set_option maxHeartbeats 4000000 in
theorem late_snd (o : GOut) {k m : Nat} (g : OkOut o k m) : Snd Try.prog G 38 [tOut o] (tIntss (late o.next)) := by
  have hm := g.m0
  have hm20 := g.m20
  have hk := g.k2
  have hlen := g.rows.len
  obtain ⟨r0, hr0⟩ : ∃ r, o.next[0]! = r := ⟨_, rfl⟩
  have hD : o.next.getD 0 [] = r0 := bang_D hr0 (by omega)
  have hrm := bang_mem hr0 (by omega)
  have hrl := g.rows.row _ hrm
  have hll := lateRow_length r0
  have htb : Tab.ok Try.prog G [] := Tab.nil
  refine snd_of_body (n := 63) (tm := [(0, .t (tOut o))]) (rs := [.tmp 2]) tt_ok Try.func38 rfl rfl rfl rfl rfl ?_
  repeat' (first | (with_reducible first | refine SW_seq ?_ | refine SW_block ?_ | refine SThen_n ?_ | refine SThen_r ?_ | refine SThen_e ?_ | refine SIn_n ?_ | refine SIn_r ?_ | refine SIn_eq ?_ | refine SW_skip ?_ | refine SW_exit ?_ | refine SW_ret ?_ | refine SPost_r ?_) | ((with_reducible refine SIn_ne ?_ ?_); focus decide) | ((with_reducible refine SW_true ?_ ?_); focus exact rfl) | ((with_reducible refine SW_false ?_ ?_); focus exact rfl) | ((first | (with_reducible apply SW_run tt_ok hG htb) | ((with_reducible apply SW_draw rfl tt_ok hG htb); (focus kernel_rfl); (focus (simp only [List.range, List.range.loop, List.size_toArray, List.length_cons, List.length_nil, Nat.reduceAdd])))); focus ((repeat' (first | (with_reducible exact runX_nil) | (with_reducible exact runI_nil) | ((first | (with_reducible apply runX_cons) | (with_reducible apply runI_cons)); focus (simp (discharger := omega) only [go_sem, tOut, hr0, hrl, ↓reduceIte, reduceIte, Nat.reduceEqDiff, Nat.reduceLT, Nat.reduceLeDiff, Nat.reduceAdd, Nat.reduceSub, Nat.reduceMul, Nat.reduceDiv, Nat.reduceMod, Nat.reduceBEq, Int.reduceEq, Int.reduceLT, Int.reduceLE, Int.reduceNeg, Int.reduceToNat, reduceCtorEq]; with_reducible rfl)))); done)))
  refine SW_loop (fun mm s => ∃ (x : Nat) (ft : List T), mm = k - x ∧ s = ⟨63, [(1, .bptr 0 0), (3, .sref 1), (15, .t (tInt k)), (16, .t (tInt x))], [.box [.t (tInt o.base), .t (tIntss o.next), .t (tInts o.outs)], .row 3 1 false ft]⟩ ∧ ft = ((lateRow r0).take x).map tInt ∧ x ≤ k) (k)
    ⟨_, Norm.headS (own := [(3, 3, 1, false)]) (keep := [1, 3, 15, 16]) (by simp (discharger := omega) only [go_sem, ↓reduceIte, reduceIte, Nat.reduceEqDiff, Nat.reduceLT, Nat.reduceLeDiff, Nat.reduceAdd, Nat.reduceSub, Nat.reduceMul, Nat.reduceDiv, Nat.reduceMod, Nat.reduceBEq, Int.reduceEq, Int.reduceLT, Int.reduceLE, Int.reduceNeg, Int.reduceToNat, reduceCtorEq]; with_reducible rfl) (by simp only [go_sem, ↓reduceIte, reduceIte, Nat.reduceEqDiff, Nat.reduceLT, Nat.reduceLeDiff, Nat.reduceAdd, Nat.reduceSub, Nat.reduceMul, Nat.reduceDiv, Nat.reduceMod, Nat.reduceBEq, Int.reduceEq, Int.reduceLT, Int.reduceLE, Int.reduceNeg, Int.reduceToNat, reduceCtorEq]; with_reducible rfl) (by simp only [go_sem, ↓reduceIte, reduceIte, Nat.reduceEqDiff, Nat.reduceLT, Nat.reduceLeDiff, Nat.reduceAdd, Nat.reduceSub, Nat.reduceMul, Nat.reduceDiv, Nat.reduceMod, Nat.reduceBEq, Int.reduceEq, Int.reduceLT, Int.reduceLE, Int.reduceNeg, Int.reduceToNat, reduceCtorEq]; with_reducible rfl) (by simp only [go_sem, ↓reduceIte, reduceIte, Nat.reduceEqDiff, Nat.reduceLT, Nat.reduceLeDiff, Nat.reduceAdd, Nat.reduceSub, Nat.reduceMul, Nat.reduceDiv, Nat.reduceMod, Nat.reduceBEq, Int.reduceEq, Int.reduceLT, Int.reduceLE, Int.reduceNeg, Int.reduceToNat, reduceCtorEq]; with_reducible rfl) (by simp only [go_sem, ↓reduceIte, reduceIte, Nat.reduceEqDiff, Nat.reduceLT, Nat.reduceLeDiff, Nat.reduceAdd, Nat.reduceSub, Nat.reduceMul, Nat.reduceDiv, Nat.reduceMod, Nat.reduceBEq, Int.reduceEq, Int.reduceLT, Int.reduceLE, Int.reduceNeg, Int.reduceToNat, reduceCtorEq]; with_reducible rfl), 0, _, rfl, rfl, rfl, Nat.zero_le _⟩ ?_
  rintro mm s ⟨x, ft, rfl, rfl, hft, hx⟩
  have hfl : ft.length = x := by rw [hft]; simp; omega
  by_cases hlt : x < k
  · obtain ⟨y, hy⟩ : ∃ y, r0[x]! = y := ⟨_, rfl⟩
    have htk := lateRow_next hy (by omega)
    have hyr := g.rows.ok _ hrm _ (bang_mem hy (by omega))
    by_cases hx0 : x = 0
    · rw [if_pos hx0] at htk
      repeat' (first | (with_reducible first | refine SW_seq ?_ | refine SW_block ?_ | refine SThen_n ?_ | refine SThen_r ?_ | refine SThen_e ?_ | refine SIn_n ?_ | refine SIn_r ?_ | refine SIn_eq ?_ | refine SW_skip ?_ | refine SW_exit ?_ | refine SW_ret ?_ | refine SPost_r ?_) | ((with_reducible refine SIn_ne ?_ ?_); focus decide) | ((with_reducible refine SW_true ?_ ?_); focus exact rfl) | ((with_reducible refine SW_false ?_ ?_); focus exact rfl) | ((first | (with_reducible apply SW_run tt_ok hG htb) | ((with_reducible apply SW_draw rfl tt_ok hG htb); (focus kernel_rfl); (focus (simp only [List.range, List.range.loop, List.size_toArray, List.length_cons, List.length_nil, Nat.reduceAdd])))); focus ((repeat' (first | (with_reducible exact runX_nil) | (with_reducible exact runI_nil) | ((first | (with_reducible apply runX_cons) | (with_reducible apply runI_cons)); focus (simp (discharger := omega) only [go_sem, hr0, hy, ↓reduceIte, reduceIte, Nat.reduceEqDiff, Nat.reduceLT, Nat.reduceLeDiff, Nat.reduceAdd, Nat.reduceSub, Nat.reduceMul, Nat.reduceDiv, Nat.reduceMod, Nat.reduceBEq, Int.reduceEq, Int.reduceLT, Int.reduceLE, Int.reduceNeg, Int.reduceToNat, reduceCtorEq]; with_reducible rfl)))); done)))
      exact ⟨k - (x + 1), _, by omega, Norm.headS (own := [(3, 3, 1, false)]) (keep := [1, 3, 15, 16]) (by simp (discharger := omega) only [go_sem, ↓reduceIte, reduceIte, Nat.reduceEqDiff, Nat.reduceLT, Nat.reduceLeDiff, Nat.reduceAdd, Nat.reduceSub, Nat.reduceMul, Nat.reduceDiv, Nat.reduceMod, Nat.reduceBEq, Int.reduceEq, Int.reduceLT, Int.reduceLE, Int.reduceNeg, Int.reduceToNat, reduceCtorEq]; with_reducible rfl) (by simp only [go_sem, ↓reduceIte, reduceIte, Nat.reduceEqDiff, Nat.reduceLT, Nat.reduceLeDiff, Nat.reduceAdd, Nat.reduceSub, Nat.reduceMul, Nat.reduceDiv, Nat.reduceMod, Nat.reduceBEq, Int.reduceEq, Int.reduceLT, Int.reduceLE, Int.reduceNeg, Int.reduceToNat, reduceCtorEq]; with_reducible rfl) (by simp only [go_sem, ↓reduceIte, reduceIte, Nat.reduceEqDiff, Nat.reduceLT, Nat.reduceLeDiff, Nat.reduceAdd, Nat.reduceSub, Nat.reduceMul, Nat.reduceDiv, Nat.reduceMod, Nat.reduceBEq, Int.reduceEq, Int.reduceLT, Int.reduceLE, Int.reduceNeg, Int.reduceToNat, reduceCtorEq]; with_reducible rfl) (by simp only [go_sem, ↓reduceIte, reduceIte, Nat.reduceEqDiff, Nat.reduceLT, Nat.reduceLeDiff, Nat.reduceAdd, Nat.reduceSub, Nat.reduceMul, Nat.reduceDiv, Nat.reduceMod, Nat.reduceBEq, Int.reduceEq, Int.reduceLT, Int.reduceLE, Int.reduceNeg, Int.reduceToNat, reduceCtorEq]; with_reducible rfl) (by simp only [go_sem, ↓reduceIte, reduceIte, Nat.reduceEqDiff, Nat.reduceLT, Nat.reduceLeDiff, Nat.reduceAdd, Nat.reduceSub, Nat.reduceMul, Nat.reduceDiv, Nat.reduceMod, Nat.reduceBEq, Int.reduceEq, Int.reduceLT, Int.reduceLE, Int.reduceNeg, Int.reduceToNat, reduceCtorEq]; with_reducible rfl), x + 1, _, rfl, rfl, by rw [htk, List.map_append, ← hft]; rfl, by omega⟩
    · rw [if_neg hx0] at htk
      repeat' (first | (with_reducible first | refine SW_seq ?_ | refine SW_block ?_ | refine SThen_n ?_ | refine SThen_r ?_ | refine SThen_e ?_ | refine SIn_n ?_ | refine SIn_r ?_ | refine SIn_eq ?_ | refine SW_skip ?_ | refine SW_exit ?_ | refine SW_ret ?_ | refine SPost_r ?_) | ((with_reducible refine SIn_ne ?_ ?_); focus decide) | ((with_reducible refine SW_true ?_ ?_); focus exact rfl) | ((with_reducible refine SW_false ?_ ?_); focus exact rfl) | ((first | (with_reducible apply SW_run tt_ok hG htb) | ((with_reducible apply SW_draw rfl tt_ok hG htb); (focus kernel_rfl); (focus (simp only [List.range, List.range.loop, List.size_toArray, List.length_cons, List.length_nil, Nat.reduceAdd])))); focus ((repeat' (first | (with_reducible exact runX_nil) | (with_reducible exact runI_nil) | ((first | (with_reducible apply runX_cons) | (with_reducible apply runI_cons)); focus (simp (discharger := omega) only [go_sem, hr0, hy, ↓reduceIte, reduceIte, Nat.reduceEqDiff, Nat.reduceLT, Nat.reduceLeDiff, Nat.reduceAdd, Nat.reduceSub, Nat.reduceMul, Nat.reduceDiv, Nat.reduceMod, Nat.reduceBEq, Int.reduceEq, Int.reduceLT, Int.reduceLE, Int.reduceNeg, Int.reduceToNat, reduceCtorEq]; with_reducible rfl)))); done)))
      exact ⟨k - (x + 1), _, by omega, Norm.headS (own := [(3, 3, 1, false)]) (keep := [1, 3, 15, 16]) (by simp (discharger := omega) only [go_sem, ↓reduceIte, reduceIte, Nat.reduceEqDiff, Nat.reduceLT, Nat.reduceLeDiff, Nat.reduceAdd, Nat.reduceSub, Nat.reduceMul, Nat.reduceDiv, Nat.reduceMod, Nat.reduceBEq, Int.reduceEq, Int.reduceLT, Int.reduceLE, Int.reduceNeg, Int.reduceToNat, reduceCtorEq]; with_reducible rfl) (by simp only [go_sem, ↓reduceIte, reduceIte, Nat.reduceEqDiff, Nat.reduceLT, Nat.reduceLeDiff, Nat.reduceAdd, Nat.reduceSub, Nat.reduceMul, Nat.reduceDiv, Nat.reduceMod, Nat.reduceBEq, Int.reduceEq, Int.reduceLT, Int.reduceLE, Int.reduceNeg, Int.reduceToNat, reduceCtorEq]; with_reducible rfl) (by simp only [go_sem, ↓reduceIte, reduceIte, Nat.reduceEqDiff, Nat.reduceLT, Nat.reduceLeDiff, Nat.reduceAdd, Nat.reduceSub, Nat.reduceMul, Nat.reduceDiv, Nat.reduceMod, Nat.reduceBEq, Int.reduceEq, Int.reduceLT, Int.reduceLE, Int.reduceNeg, Int.reduceToNat, reduceCtorEq]; with_reducible rfl) (by simp only [go_sem, ↓reduceIte, reduceIte, Nat.reduceEqDiff, Nat.reduceLT, Nat.reduceLeDiff, Nat.reduceAdd, Nat.reduceSub, Nat.reduceMul, Nat.reduceDiv, Nat.reduceMod, Nat.reduceBEq, Int.reduceEq, Int.reduceLT, Int.reduceLE, Int.reduceNeg, Int.reduceToNat, reduceCtorEq]; with_reducible rfl) (by simp only [go_sem, ↓reduceIte, reduceIte, Nat.reduceEqDiff, Nat.reduceLT, Nat.reduceLeDiff, Nat.reduceAdd, Nat.reduceSub, Nat.reduceMul, Nat.reduceDiv, Nat.reduceMod, Nat.reduceBEq, Int.reduceEq, Int.reduceLT, Int.reduceLE, Int.reduceNeg, Int.reduceToNat, reduceCtorEq]; with_reducible rfl), x + 1, _, rfl, rfl, by rw [htk, List.map_append, ← hft]; rfl, by omega⟩
  · obtain rfl : x = k := by omega
    rw [List.take_of_length_le (by omega)] at hft
    subst hft
    repeat' (first | (with_reducible first | refine SW_seq ?_ | refine SW_block ?_ | refine SThen_n ?_ | refine SThen_r ?_ | refine SThen_e ?_ | refine SIn_n ?_ | refine SIn_r ?_ | refine SIn_eq ?_ | refine SW_skip ?_ | refine SW_exit ?_ | refine SW_ret ?_ | refine SPost_r ?_) | ((with_reducible refine SIn_ne ?_ ?_); focus decide) | ((with_reducible refine SW_true ?_ ?_); focus exact rfl) | ((with_reducible refine SW_false ?_ ?_); focus exact rfl) | ((first | (with_reducible apply SW_run tt_ok hG htb) | ((with_reducible apply SW_draw rfl tt_ok hG htb); (focus kernel_rfl); (focus (simp only [List.range, List.range.loop, List.size_toArray, List.length_cons, List.length_nil, Nat.reduceAdd])))); focus ((repeat' (first | (with_reducible exact runX_nil) | (with_reducible exact runI_nil) | ((first | (with_reducible apply runX_cons) | (with_reducible apply runI_cons)); focus (simp (discharger := omega) only [go_sem, hlen, ↓reduceIte, reduceIte, Nat.reduceEqDiff, Nat.reduceLT, Nat.reduceLeDiff, Nat.reduceAdd, Nat.reduceSub, Nat.reduceMul, Nat.reduceDiv, Nat.reduceMod, Nat.reduceBEq, Int.reduceEq, Int.reduceLT, Int.reduceLE, Int.reduceNeg, Int.reduceToNat, reduceCtorEq]; with_reducible rfl)))); done)))
    refine SW_loop (fun mm s => ∃ (i : Nat) (nt : List T), mm = m - i ∧ s = ⟨63, [(1, .bptr 0 0), (5, .sref 1), (39, .t (tIntss o.next)), (40, .t (tInt m)), (41, .t (tInt i))], [.box [.t (tInt o.base), .t (tIntss o.next), .t (tInts o.outs)], .row 24 1 false nt]⟩ ∧ nt = ((late o.next).take (i + 1)).map tInts ∧ i ≤ m) (m)
      ⟨_, Norm.headS (own := [(5, 24, 1, false)]) (keep := [1, 5, 39, 40, 41]) (by simp (discharger := omega) only [go_sem, ↓reduceIte, reduceIte, Nat.reduceEqDiff, Nat.reduceLT, Nat.reduceLeDiff, Nat.reduceAdd, Nat.reduceSub, Nat.reduceMul, Nat.reduceDiv, Nat.reduceMod, Nat.reduceBEq, Int.reduceEq, Int.reduceLT, Int.reduceLE, Int.reduceNeg, Int.reduceToNat, reduceCtorEq]; with_reducible rfl) (by simp only [go_sem, ↓reduceIte, reduceIte, Nat.reduceEqDiff, Nat.reduceLT, Nat.reduceLeDiff, Nat.reduceAdd, Nat.reduceSub, Nat.reduceMul, Nat.reduceDiv, Nat.reduceMod, Nat.reduceBEq, Int.reduceEq, Int.reduceLT, Int.reduceLE, Int.reduceNeg, Int.reduceToNat, reduceCtorEq]; with_reducible rfl) (by simp only [go_sem, ↓reduceIte, reduceIte, Nat.reduceEqDiff, Nat.reduceLT, Nat.reduceLeDiff, Nat.reduceAdd, Nat.reduceSub, Nat.reduceMul, Nat.reduceDiv, Nat.reduceMod, Nat.reduceBEq, Int.reduceEq, Int.reduceLT, Int.reduceLE, Int.reduceNeg, Int.reduceToNat, reduceCtorEq]; with_reducible rfl) (by simp only [go_sem, ↓reduceIte, reduceIte, Nat.reduceEqDiff, Nat.reduceLT, Nat.reduceLeDiff, Nat.reduceAdd, Nat.reduceSub, Nat.reduceMul, Nat.reduceDiv, Nat.reduceMod, Nat.reduceBEq, Int.reduceEq, Int.reduceLT, Int.reduceLE, Int.reduceNeg, Int.reduceToNat, reduceCtorEq]; with_reducible rfl) (by simp only [go_sem, ↓reduceIte, reduceIte, Nat.reduceEqDiff, Nat.reduceLT, Nat.reduceLeDiff, Nat.reduceAdd, Nat.reduceSub, Nat.reduceMul, Nat.reduceDiv, Nat.reduceMod, Nat.reduceBEq, Int.reduceEq, Int.reduceLT, Int.reduceLE, Int.reduceNeg, Int.reduceToNat, reduceCtorEq]; with_reducible rfl), 0, _, rfl, rfl, by unfold late; rw [hD]; rfl, Nat.zero_le _⟩ ?_
    rintro mm s ⟨i, nt, rfl, rfl, hnt, hi⟩
    have hll2 : (late o.next).length = m + 1 := (late_rows g.rows hm).len
    have hnl : nt.length = i + 1 := by rw [hnt]; simp; omega
    by_cases hlt2 : i < m
    · obtain ⟨row, hrow⟩ : ∃ row, o.next[i]! = row := ⟨_, rfl⟩
      have hrowm := bang_mem hrow (by omega)
      have hrowl := g.rows.row _ hrowm
      have htk2 : (late o.next).take (i + 1 + 1) = (late o.next).take (i + 1) ++ [row.map (· + 1)] := by
        unfold late
        rw [List.take_succ_cons, List.take_succ_cons, ← List.map_take, take_next hrow (by omega), List.map_append, List.map_take]; rfl
      repeat' (first | (with_reducible first | refine SW_seq ?_ | refine SW_block ?_ | refine SThen_n ?_ | refine SThen_r ?_ | refine SThen_e ?_ | refine SIn_n ?_ | refine SIn_r ?_ | refine SIn_eq ?_ | refine SW_skip ?_ | refine SW_exit ?_ | refine SW_ret ?_ | refine SPost_r ?_) | ((with_reducible refine SIn_ne ?_ ?_); focus decide) | ((with_reducible refine SW_true ?_ ?_); focus exact rfl) | ((with_reducible refine SW_false ?_ ?_); focus exact rfl) | ((first | (with_reducible apply SW_run tt_ok hG htb) | ((with_reducible apply SW_draw rfl tt_ok hG htb); (focus kernel_rfl); (focus (simp only [List.range, List.range.loop, List.size_toArray, List.length_cons, List.length_nil, Nat.reduceAdd])))); focus ((repeat' (first | (with_reducible exact runX_nil) | (with_reducible exact runI_nil) | ((first | (with_reducible apply runX_cons) | (with_reducible apply runI_cons)); focus (simp (discharger := omega) only [go_sem, hrow, hrowl, ↓reduceIte, reduceIte, Nat.reduceEqDiff, Nat.reduceLT, Nat.reduceLeDiff, Nat.reduceAdd, Nat.reduceSub, Nat.reduceMul, Nat.reduceDiv, Nat.reduceMod, Nat.reduceBEq, Int.reduceEq, Int.reduceLT, Int.reduceLE, Int.reduceNeg, Int.reduceToNat, reduceCtorEq]; with_reducible rfl)))); done)))
      refine SW_loop (fun mm s => ∃ (l : Nat) (rt : List T), mm = x - l ∧ s = ⟨63, [(1, .bptr 0 0), (5, .sref 1), (8, .sref 2), (39, .t (tIntss o.next)), (40, .t (tInt m)), (41, .t (tInt i)), (45, .t (tInts row)), (46, .t (tInt x)), (47, .t (tInt l))], [.box [.t (tInt o.base), .t (tIntss o.next), .t (tInts o.outs)], .row 24 1 false nt, .row 3 1 false rt]⟩ ∧ rt = ((row.map (· + 1)).take l).map tInt ∧ l ≤ x) (x)
        ⟨_, Norm.headS (own := [(5, 24, 1, false), (8, 3, 1, false)]) (keep := [1, 5, 8, 39, 40, 41, 45, 46, 47]) (by simp (discharger := omega) only [go_sem, ↓reduceIte, reduceIte, Nat.reduceEqDiff, Nat.reduceLT, Nat.reduceLeDiff, Nat.reduceAdd, Nat.reduceSub, Nat.reduceMul, Nat.reduceDiv, Nat.reduceMod, Nat.reduceBEq, Int.reduceEq, Int.reduceLT, Int.reduceLE, Int.reduceNeg, Int.reduceToNat, reduceCtorEq]; with_reducible rfl) (by simp only [go_sem, ↓reduceIte, reduceIte, Nat.reduceEqDiff, Nat.reduceLT, Nat.reduceLeDiff, Nat.reduceAdd, Nat.reduceSub, Nat.reduceMul, Nat.reduceDiv, Nat.reduceMod, Nat.reduceBEq, Int.reduceEq, Int.reduceLT, Int.reduceLE, Int.reduceNeg, Int.reduceToNat, reduceCtorEq]; with_reducible rfl) (by simp only [go_sem, ↓reduceIte, reduceIte, Nat.reduceEqDiff, Nat.reduceLT, Nat.reduceLeDiff, Nat.reduceAdd, Nat.reduceSub, Nat.reduceMul, Nat.reduceDiv, Nat.reduceMod, Nat.reduceBEq, Int.reduceEq, Int.reduceLT, Int.reduceLE, Int.reduceNeg, Int.reduceToNat, reduceCtorEq]; with_reducible rfl) (by simp only [go_sem, ↓reduceIte, reduceIte, Nat.reduceEqDiff, Nat.reduceLT, Nat.reduceLeDiff, Nat.reduceAdd, Nat.reduceSub, Nat.reduceMul, Nat.reduceDiv, Nat.reduceMod, Nat.reduceBEq, Int.reduceEq, Int.reduceLT, Int.reduceLE, Int.reduceNeg, Int.reduceToNat, reduceCtorEq]; with_reducible rfl) (by simp only [go_sem, ↓reduceIte, reduceIte, Nat.reduceEqDiff, Nat.reduceLT, Nat.reduceLeDiff, Nat.reduceAdd, Nat.reduceSub, Nat.reduceMul, Nat.reduceDiv, Nat.reduceMod, Nat.reduceBEq, Int.reduceEq, Int.reduceLT, Int.reduceLE, Int.reduceNeg, Int.reduceToNat, reduceCtorEq]; with_reducible rfl), 0, _, rfl, rfl, rfl, Nat.zero_le _⟩ ?_
      rintro mm s ⟨l, rt, rfl, rfl, hrt, hl⟩
      have hrtl : rt.length = l := by rw [hrt]; simp; omega
      by_cases hlt3 : l < x
      · obtain ⟨y, hy⟩ : ∃ y, row[l]! = y := ⟨_, rfl⟩
        have hyr := g.rows.ok _ hrowm _ (bang_mem hy (by omega))
        have htk3 : (row.map (· + 1)).take (l + 1) = (row.map (· + 1)).take l ++ [y + 1] := by
          rw [← List.map_take, take_next hy (by omega), List.map_append, List.map_take]; rfl
        repeat' (first | (with_reducible first | refine SW_seq ?_ | refine SW_block ?_ | refine SThen_n ?_ | refine SThen_r ?_ | refine SThen_e ?_ | refine SIn_n ?_ | refine SIn_r ?_ | refine SIn_eq ?_ | refine SW_skip ?_ | refine SW_exit ?_ | refine SW_ret ?_ | refine SPost_r ?_) | ((with_reducible refine SIn_ne ?_ ?_); focus decide) | ((with_reducible refine SW_true ?_ ?_); focus exact rfl) | ((with_reducible refine SW_false ?_ ?_); focus exact rfl) | ((first | (with_reducible apply SW_run tt_ok hG htb) | ((with_reducible apply SW_draw rfl tt_ok hG htb); (focus kernel_rfl); (focus (simp only [List.range, List.range.loop, List.size_toArray, List.length_cons, List.length_nil, Nat.reduceAdd])))); focus ((repeat' (first | (with_reducible exact runX_nil) | (with_reducible exact runI_nil) | ((first | (with_reducible apply runX_cons) | (with_reducible apply runI_cons)); focus (simp (discharger := omega) only [go_sem, hy, ↓reduceIte, reduceIte, Nat.reduceEqDiff, Nat.reduceLT, Nat.reduceLeDiff, Nat.reduceAdd, Nat.reduceSub, Nat.reduceMul, Nat.reduceDiv, Nat.reduceMod, Nat.reduceBEq, Int.reduceEq, Int.reduceLT, Int.reduceLE, Int.reduceNeg, Int.reduceToNat, reduceCtorEq]; with_reducible rfl)))); done)))
        exact ⟨x - (l + 1), _, by omega, Norm.headS (own := [(5, 24, 1, false), (8, 3, 1, false)]) (keep := [1, 5, 8, 39, 40, 41, 45, 46, 47]) (by simp (discharger := omega) only [go_sem, ↓reduceIte, reduceIte, Nat.reduceEqDiff, Nat.reduceLT, Nat.reduceLeDiff, Nat.reduceAdd, Nat.reduceSub, Nat.reduceMul, Nat.reduceDiv, Nat.reduceMod, Nat.reduceBEq, Int.reduceEq, Int.reduceLT, Int.reduceLE, Int.reduceNeg, Int.reduceToNat, reduceCtorEq]; with_reducible rfl) (by simp only [go_sem, ↓reduceIte, reduceIte, Nat.reduceEqDiff, Nat.reduceLT, Nat.reduceLeDiff, Nat.reduceAdd, Nat.reduceSub, Nat.reduceMul, Nat.reduceDiv, Nat.reduceMod, Nat.reduceBEq, Int.reduceEq, Int.reduceLT, Int.reduceLE, Int.reduceNeg, Int.reduceToNat, reduceCtorEq]; with_reducible rfl) (by simp only [go_sem, ↓reduceIte, reduceIte, Nat.reduceEqDiff, Nat.reduceLT, Nat.reduceLeDiff, Nat.reduceAdd, Nat.reduceSub, Nat.reduceMul, Nat.reduceDiv, Nat.reduceMod, Nat.reduceBEq, Int.reduceEq, Int.reduceLT, Int.reduceLE, Int.reduceNeg, Int.reduceToNat, reduceCtorEq]; with_reducible rfl) (by simp only [go_sem, ↓reduceIte, reduceIte, Nat.reduceEqDiff, Nat.reduceLT, Nat.reduceLeDiff, Nat.reduceAdd, Nat.reduceSub, Nat.reduceMul, Nat.reduceDiv, Nat.reduceMod, Nat.reduceBEq, Int.reduceEq, Int.reduceLT, Int.reduceLE, Int.reduceNeg, Int.reduceToNat, reduceCtorEq]; with_reducible rfl) (by simp only [go_sem, ↓reduceIte, reduceIte, Nat.reduceEqDiff, Nat.reduceLT, Nat.reduceLeDiff, Nat.reduceAdd, Nat.reduceSub, Nat.reduceMul, Nat.reduceDiv, Nat.reduceMod, Nat.reduceBEq, Int.reduceEq, Int.reduceLT, Int.reduceLE, Int.reduceNeg, Int.reduceToNat, reduceCtorEq]; with_reducible rfl), l + 1, _, rfl, rfl, by rw [htk3, List.map_append, ← hrt]; rfl, by omega⟩
      · obtain rfl : l = x := by omega
        rw [List.take_of_length_le (by simp; omega)] at hrt
        subst hrt
        repeat' (first | (with_reducible first | refine SW_seq ?_ | refine SW_block ?_ | refine SThen_n ?_ | refine SThen_r ?_ | refine SThen_e ?_ | refine SIn_n ?_ | refine SIn_r ?_ | refine SIn_eq ?_ | refine SW_skip ?_ | refine SW_exit ?_ | refine SW_ret ?_ | refine SPost_r ?_) | ((with_reducible refine SIn_ne ?_ ?_); focus decide) | ((with_reducible refine SW_true ?_ ?_); focus exact rfl) | ((with_reducible refine SW_false ?_ ?_); focus exact rfl) | ((first | (with_reducible apply SW_run tt_ok hG htb) | ((with_reducible apply SW_draw rfl tt_ok hG htb); (focus kernel_rfl); (focus (simp only [List.range, List.range.loop, List.size_toArray, List.length_cons, List.length_nil, Nat.reduceAdd])))); focus ((repeat' (first | (with_reducible exact runX_nil) | (with_reducible exact runI_nil) | ((first | (with_reducible apply runX_cons) | (with_reducible apply runI_cons)); focus (simp (discharger := omega) only [go_sem, ↓reduceIte, reduceIte, Nat.reduceEqDiff, Nat.reduceLT, Nat.reduceLeDiff, Nat.reduceAdd, Nat.reduceSub, Nat.reduceMul, Nat.reduceDiv, Nat.reduceMod, Nat.reduceBEq, Int.reduceEq, Int.reduceLT, Int.reduceLE, Int.reduceNeg, Int.reduceToNat, reduceCtorEq]; with_reducible rfl)))); done)))
        exact ⟨m - (i + 1), _, by omega, Norm.headS (own := [(5, 24, 1, false)]) (keep := [1, 5, 39, 40, 41]) (by simp (discharger := omega) only [go_sem, ↓reduceIte, reduceIte, Nat.reduceEqDiff, Nat.reduceLT, Nat.reduceLeDiff, Nat.reduceAdd, Nat.reduceSub, Nat.reduceMul, Nat.reduceDiv, Nat.reduceMod, Nat.reduceBEq, Int.reduceEq, Int.reduceLT, Int.reduceLE, Int.reduceNeg, Int.reduceToNat, reduceCtorEq]; with_reducible rfl) (by simp only [go_sem, ↓reduceIte, reduceIte, Nat.reduceEqDiff, Nat.reduceLT, Nat.reduceLeDiff, Nat.reduceAdd, Nat.reduceSub, Nat.reduceMul, Nat.reduceDiv, Nat.reduceMod, Nat.reduceBEq, Int.reduceEq, Int.reduceLT, Int.reduceLE, Int.reduceNeg, Int.reduceToNat, reduceCtorEq]; with_reducible rfl) (by simp only [go_sem, ↓reduceIte, reduceIte, Nat.reduceEqDiff, Nat.reduceLT, Nat.reduceLeDiff, Nat.reduceAdd, Nat.reduceSub, Nat.reduceMul, Nat.reduceDiv, Nat.reduceMod, Nat.reduceBEq, Int.reduceEq, Int.reduceLT, Int.reduceLE, Int.reduceNeg, Int.reduceToNat, reduceCtorEq]; with_reducible rfl) (by simp only [go_sem, ↓reduceIte, reduceIte, Nat.reduceEqDiff, Nat.reduceLT, Nat.reduceLeDiff, Nat.reduceAdd, Nat.reduceSub, Nat.reduceMul, Nat.reduceDiv, Nat.reduceMod, Nat.reduceBEq, Int.reduceEq, Int.reduceLT, Int.reduceLE, Int.reduceNeg, Int.reduceToNat, reduceCtorEq]; with_reducible rfl) (by simp only [go_sem, ↓reduceIte, reduceIte, Nat.reduceEqDiff, Nat.reduceLT, Nat.reduceLeDiff, Nat.reduceAdd, Nat.reduceSub, Nat.reduceMul, Nat.reduceDiv, Nat.reduceMod, Nat.reduceBEq, Int.reduceEq, Int.reduceLT, Int.reduceLE, Int.reduceNeg, Int.reduceToNat, reduceCtorEq]; with_reducible rfl), i + 1, _, rfl, rfl, by rw [htk2, List.map_append, ← hnt]; rfl, by omega⟩
    · obtain rfl : i = m := by omega
      rw [List.take_of_length_le (by omega)] at hnt
      subst hnt
      repeat' (first | (with_reducible first | refine SW_seq ?_ | refine SW_block ?_ | refine SThen_n ?_ | refine SThen_r ?_ | refine SThen_e ?_ | refine SIn_n ?_ | refine SIn_r ?_ | refine SIn_eq ?_ | refine SW_skip ?_ | refine SW_exit ?_ | refine SW_ret ?_ | refine SPost_r ?_) | ((with_reducible refine SIn_ne ?_ ?_); focus decide) | ((with_reducible refine SW_true ?_ ?_); focus exact rfl) | ((with_reducible refine SW_false ?_ ?_); focus exact rfl) | ((first | (with_reducible apply SW_run tt_ok hG htb) | ((with_reducible apply SW_draw rfl tt_ok hG htb); (focus kernel_rfl); (focus (simp only [List.range, List.range.loop, List.size_toArray, List.length_cons, List.length_nil, Nat.reduceAdd])))); focus ((repeat' (first | (with_reducible exact runX_nil) | (with_reducible exact runI_nil) | ((first | (with_reducible apply runX_cons) | (with_reducible apply runI_cons)); focus (simp (discharger := omega) only [go_sem, ↓reduceIte, reduceIte, Nat.reduceEqDiff, Nat.reduceLT, Nat.reduceLeDiff, Nat.reduceAdd, Nat.reduceSub, Nat.reduceMul, Nat.reduceDiv, Nat.reduceMod, Nat.reduceBEq, Int.reduceEq, Int.reduceLT, Int.reduceLE, Int.reduceNeg, Int.reduceToNat, reduceCtorEq]; with_reducible rfl)))); done)))
      exact (by simp (discharger := omega) only [go_sem, ↓reduceIte, reduceIte, Nat.reduceEqDiff, Nat.reduceLT, Nat.reduceLeDiff, Nat.reduceAdd, Nat.reduceSub, Nat.reduceMul, Nat.reduceDiv, Nat.reduceMod, Nat.reduceBEq, Int.reduceEq, Int.reduceLT, Int.reduceLE, Int.reduceNeg, Int.reduceToNat, reduceCtorEq])
theorem outs_snd (o : GOut) (h : 0 < o.outs.length) (h2 : o.outs.length ≤ 1000) : Snd Try.prog G 36 [tOut o] (tInts (lateO o.outs)) := by
  obtain ⟨x, hx⟩ : ∃ x, o.outs[0]! = x := ⟨_, rfl⟩
  have hD : o.outs.getD 0 0 = x := bang_D hx h
  unfold lateO
  rw [hD]
  have htb : Tab.ok Try.prog G [] := Tab.nil
  refine snd_of_body (n := 11) (tm := [(0, .t (tOut o))]) (rs := [.tmp 2]) tt_ok Try.func36 rfl rfl rfl rfl rfl ?_
  have hall : ∀ l : List Int, (l.all fun _ => true) = true := fun l => by simp
  repeat' (first | (with_reducible first | refine SW_seq ?_ | refine SW_block ?_ | refine SThen_n ?_ | refine SThen_r ?_ | refine SThen_e ?_ | refine SIn_n ?_ | refine SIn_r ?_ | refine SIn_eq ?_ | refine SW_skip ?_ | refine SW_exit ?_ | refine SW_ret ?_ | refine SPost_r ?_) | ((with_reducible refine SIn_ne ?_ ?_); focus decide) | ((with_reducible refine SW_true ?_ ?_); focus exact rfl) | ((with_reducible refine SW_false ?_ ?_); focus exact rfl) | ((first | (with_reducible apply SW_run tt_ok hG htb) | ((with_reducible apply SW_draw rfl tt_ok hG htb); (focus kernel_rfl); (focus (simp only [List.range, List.range.loop, List.size_toArray, List.length_cons, List.length_nil, Nat.reduceAdd])))); focus ((repeat' (first | (with_reducible exact runX_nil) | (with_reducible exact runI_nil) | ((first | (with_reducible apply runX_cons) | (with_reducible apply runI_cons)); focus (simp (discharger := omega) only [go_sem, tOut, hx, Function.comp_def, hall, ↓reduceIte, reduceIte, Nat.reduceEqDiff, Nat.reduceLT, Nat.reduceLeDiff, Nat.reduceAdd, Nat.reduceSub, Nat.reduceMul, Nat.reduceDiv, Nat.reduceMod, Nat.reduceBEq, Int.reduceEq, Int.reduceLT, Int.reduceLE, Int.reduceNeg, Int.reduceToNat, reduceCtorEq]; with_reducible rfl)))); done)))
  exact (by simp (discharger := omega) only [go_sem, ↓reduceIte, reduceIte, Nat.reduceEqDiff, Nat.reduceLT, Nat.reduceLeDiff, Nat.reduceAdd, Nat.reduceSub, Nat.reduceMul, Nat.reduceDiv, Nat.reduceMod, Nat.reduceBEq, Int.reduceEq, Int.reduceLT, Int.reduceLE, Int.reduceNeg, Int.reduceToNat, reduceCtorEq])
end
end Go.Proofs.Ytfhncnhkeodngaa
namespace Go.Proofs.Ytfhncnhkeodngaa
open Go.RowKit

def tTri (s : Int × Int × Int) : T := .agg [.int .i64 s.1, .int .i64 s.2.1, .int .i64 s.2.2]
theorem tTri_inj (p q : Int × Int × Int) (h : tTri p = tTri q) : p = q := by
  simp only [tTri, T.agg.injEq, List.cons.injEq, T.int.injEq, true_and, and_true] at h
  exact Prod.ext h.1 (Prod.ext h.2.1 h.2.2)
def InTri (ma mb mr : Nat) (p : Int × Int × Int) : Prop := (0 ≤ p.1 ∧ p.1 < (ma : Int)) ∧ (0 ≤ p.2.1 ∧ p.2.1 < (mb : Int)) ∧ 0 ≤ p.2.2 ∧ p.2.2 < (mr : Int)
theorem tri_bound {ma mb mr : Nat} {l : List (Int × Int × Int)} (hn : l.Nodup) (h : ∀ p ∈ l, InTri ma mb mr p) : l.length ≤ ma * mb * mr := by
  have := pairs_bound (ma := ma * mb) (mb := mr) (l := l.map fun p => (p.1 * mb + p.2.1, p.2.2)) (by
    refine List.pairwise_map.2 (hn.imp_of_mem fun {p q} hp hq hne e => hne ?_)
    obtain ⟨a1, a2, a3⟩ := h p hp
    obtain ⟨b1, b2, b3⟩ := h q hq
    simp only [Prod.mk.injEq] at e
    have e1 : (p.1 * (mb : Int) + p.2.1) / mb = p.1 := by
      rw [Int.add_comm, Int.add_mul_ediv_right _ _ (by omega), Int.ediv_eq_zero_of_lt a2.1 a2.2]; omega
    have e2 : (q.1 * (mb : Int) + q.2.1) / mb = q.1 := by
      rw [Int.add_comm, Int.add_mul_ediv_right _ _ (by omega), Int.ediv_eq_zero_of_lt b2.1 b2.2]; omega
    have e3 : p.1 = q.1 := by rw [← e1, e.1, e2]
    have e4 : p.2.1 = q.2.1 := by have := e.1; rw [e3] at this; omega
    exact Prod.ext e3 (Prod.ext e4 e.2)) fun p hp => by
      obtain ⟨q, hq, rfl⟩ := List.mem_map.1 hp
      obtain ⟨a1, a2, a3⟩ := h q hq
      refine ⟨⟨?_, ?_⟩, a3⟩
      · have := Int.mul_nonneg a1.1 (show (0 : Int) ≤ mb by omega)
        simp only; omega
      · have h1 : (q.1 + 1) * (mb : Int) ≤ ma * mb := Int.mul_le_mul_of_nonneg_right (by omega) (by omega)
        rw [Int.add_mul] at h1
        have h2 : ((ma * mb : Nat) : Int) = (ma : Int) * (mb : Int) := by simp
        simp only; omega
  simpa using this
def wst1 (A R : List (List Int)) (s : Int × Int × Int) (l : Nat) : Int × Int × Int := (nx A s.1 l, 0, nx R s.2.2 l)
def wst2 (k : Nat) (A B R : List (List Int)) (s : Int × Int × Int) (l : Nat) : Int × Int × Int := (nx A s.1 (l / k), nx B s.2.1 (l % k), nx R s.2.2 l)
theorem wst1_go (A R : List (List Int)) : ∀ (w : List Nat) (s : Int × Int × Int), s.2.1 = 0 → w.foldl (wst1 A R) s = (runS A s.1 w, 0, runS R s.2.2 w)
  | [], s, h => Prod.ext rfl (Prod.ext h rfl)
  | l :: w, s, _ => by
    show w.foldl (wst1 A R) (wst1 A R s l) = _
    rw [wst1_go A R w _ rfl]; rfl
theorem wst1_run (A R : List (List Int)) (w : List Nat) : w.foldl (wst1 A R) (0, 0, 0) = (runS A 0 w, 0, runS R 0 w) := wst1_go A R w _ rfl
theorem wst2_go (k : Nat) (A B R : List (List Int)) : ∀ (w : List Nat) (s : Int × Int × Int), w.foldl (wst2 k A B R) s = (runS A s.1 (w.map (· / k)), runS B s.2.1 (w.map (· % k)), runS R s.2.2 w)
  | [], _ => rfl
  | l :: w, s => by
    show w.foldl (wst2 k A B R) (wst2 k A B R s l) = _
    rw [wst2_go k A B R w]; rfl
theorem wst2_run (k : Nat) (A B R : List (List Int)) (w : List Nat) : w.foldl (wst2 k A B R) (0, 0, 0) = (runS A 0 (w.map (· / k)), runS B 0 (w.map (· % k)), runS R 0 w) := wst2_go k A B R w _
section
variable {G : World → Prop} (hG : Lasting G)
include hG
set_option maxHeartbeats 8000000 in
set_option maxRecDepth 100000 in
theorem pairs1_snd (base : Int) {k n ma mb mr : Nat} {A R : List (List Int)} {RE : List Bool} (h0 : manyErr base 1 = 0) (hn : manyOf base 1 = n) (hk : radix base = k) (hnk : n = k)
    (hA : Rows0 k ma A) (hmb : mb = 1) (hm : 0 < ma ∧ ma ≤ 21 ∧ 0 < mb ∧ mb ≤ 21) (gf : Nat) (cap : List T) (F : Int → Int → Bool)
    (hF : ∀ x y : Int, (0 ≤ x ∧ x < ma) → (0 ≤ y ∧ y < mb) → Snd Try.prog G gf (tInts [x] :: cap) (.bool (F x y))) (hall : allA base 1 = ⟨base, 1, R, RE⟩) (hmr : R.length = mr) (hne1 : ¬ (19 = gf)) (hne2 : ¬ (42 = gf)) (hne3 : ¬ (49 = gf)) :
    Snd Try.prog G 37 [tInt base, .list [tIntss A], .fn gf cap] (.tup [tAuto (autoL base 1 n (fun w => F (runS A 0 w) 0 && rightWd base 1 w)), tErr (errL n (fun w => F (runS A 0 w) 0 && rightWd base 1 w))]) := by
  show Snd Try.prog G 37 [tInt base, .list [tIntss A], .fn gf cap] (.tup [tAuto (autoL base (1 : Nat) n (fun w => F (runS A 0 w) 0 && rightWd base 1 w)), tErr (errL n (fun w => F (runS A 0 w) 0 && rightWd base 1 w))])
  have h0' : manyErr base (1 : Nat) = 0 := h0
  have hall' : allA base (1 : Nat) = ⟨base, (1 : Nat), R, RE⟩ := hall
  have c1 := All_snd (G := G) hG base (1 : Nat)
  have c2 := Radix_snd (G := G) hG base
  rw [h0', hall'] at c1
  rw [hk] at c2
  have gall : Good (allA base 1) n (allA base 1).next.length := allA_good (t := 1) h0 hn
  have hlall : IsLeast (allA base 1) n base 1 (rightWd base 1) := (allA_isLeast (t := 1) h0 hn).1
  have h37 : (allA base 1).next.length ≤ 37 := (allA_isLeast (t := 1) h0 hn).2
  rw [hall] at gall hlall h37
  have hR : Rows0 n mr R := by have := gall.rows; rw [← hmr]; exact this
  have hRE : RE.length = mr := by have := gall.ends; rw [← hmr]; exact this
  have hm0 : 0 < mr := by rw [← hmr]; exact gall.m0
  have hn36 := gall.n36
  have hn0 := gall.n0
  simp only at h37
  have hla := hA.len
  have hlb : mb = 1 := hmb
  have hk0 : 0 < k := Nat.pos_of_ne_zero fun e => by rw [e] at hnk; omega
  have hk2 : 2 ≤ k ∧ k ≤ 6 := by
    have := radix_two (b := base) (by rw [hk]; omega)
    omega
  have hmm : ma * mb * mr ≤ 21 * 21 * 37 := Nat.mul_le_mul (Nat.mul_le_mul hm.2.1 hm.2.2.2) (by omega)
  obtain ⟨rr0, hrr0⟩ : ∃ r, R[0]! = r := ⟨_, rfl⟩
  have hrr0l := hR.row _ (bang_mem hrr0 (by omega))
  have htb := Tab.cons c1 (Tab.cons c2 Tab.nil)
  refine snd_of_body (n := 155) (tm := [(0, .t (tInt base)), (1, .t (.list [tIntss A])), (2, .t (.fn gf cap))]) (rs := [.cell 6 44, .tmp 7]) tt_ok Try.func37 rfl rfl rfl rfl rfl ?_
  repeat' (first | (with_reducible first | refine SW_seq ?_ | refine SW_block ?_ | refine SThen_n ?_ | refine SThen_r ?_ | refine SThen_e ?_ | refine SIn_n ?_ | refine SIn_r ?_ | refine SIn_eq ?_ | refine SW_skip ?_ | refine SW_exit ?_ | refine SW_ret ?_ | refine SPost_r ?_) | ((with_reducible refine SIn_ne ?_ ?_); focus decide) | ((with_reducible refine SW_true ?_ ?_); focus exact rfl) | ((with_reducible refine SW_false ?_ ?_); focus exact rfl) | ((first | (with_reducible apply SW_run tt_ok hG htb) | ((with_reducible apply SW_draw rfl tt_ok hG htb); (focus kernel_rfl); (focus (simp only [List.range, List.range.loop, List.size_toArray, List.length_cons, List.length_nil, Nat.reduceAdd])))); focus ((repeat' (first | (with_reducible exact runX_nil) | (with_reducible exact runI_nil) | ((first | (with_reducible apply runX_cons) | (with_reducible apply runI_cons)); focus (simp (discharger := omega) only [go_sem, tAuto, tErr, hne1, hne2, ↓reduceIte, reduceIte, Nat.reduceEqDiff, Nat.reduceLT, Nat.reduceLeDiff, Nat.reduceAdd, Nat.reduceSub, Nat.reduceMul, Nat.reduceDiv, Nat.reduceMod, Nat.reduceBEq, Int.reduceEq, Int.reduceLT, Int.reduceLE, Int.reduceNeg, Int.reduceToNat, reduceCtorEq]; with_reducible rfl)))); done)))
  refine SW_loop (fun mm s => ∃ (i : Nat) (met : List (Int × Int × Int)) (rows : List (List Int)) (es : List (T × T)) (at_ nt et : List T), mm = ma * mb * mr - i ∧ s = ⟨155, [(0, .t (tInt base)), (1, .t (.list [tIntss A])), (2, .t (.fn gf cap)), (6, .bptr 0 0), (8, .bptr 1 0), (10, .t (tNat k)), (11, .map 2), (12, .sref 3), (13, .sref 4), (14, .sref 5), (15, .t (tNat i))], [.box [.t (tInt 0), .t (tInt 0), .nil, .nil], .box [.t (tInt base), .t (tInt (1 : Nat)), .t (tIntss R), .t (tBools RE)], .map (.ints 3) es, .row 115 3 false at_, .row 24 1 false nt, .row 4 1 false et]⟩ ∧ es = keyEntries tTri met ∧ at_ = met.map tTri ∧ nt = rows.map tInts ∧ et = (met.take i).map (fun p => T.bool (endOf RE p.2.2 && F p.1 p.2.1)) ∧ met.Nodup ∧ (∀ p ∈ met, InTri ma mb mr p) ∧ met[0]? = some (0, 0, 0) ∧ Expl (wst1 A R) n met rows ∧ rows.length = i ∧ i ≤ met.length) (ma * mb * mr)
    ⟨_, Norm.headS (own := [(12, 115, 3, false), (13, 24, 1, false), (14, 4, 1, false)]) (keep := [0, 1, 2, 6, 8, 10, 11, 12, 13, 14, 15]) (by simp (discharger := omega) only [go_sem, ↓reduceIte, reduceIte, Nat.reduceEqDiff, Nat.reduceLT, Nat.reduceLeDiff, Nat.reduceAdd, Nat.reduceSub, Nat.reduceMul, Nat.reduceDiv, Nat.reduceMod, Nat.reduceBEq, Int.reduceEq, Int.reduceLT, Int.reduceLE, Int.reduceNeg, Int.reduceToNat, reduceCtorEq]; with_reducible rfl) (by simp only [go_sem, ↓reduceIte, reduceIte, Nat.reduceEqDiff, Nat.reduceLT, Nat.reduceLeDiff, Nat.reduceAdd, Nat.reduceSub, Nat.reduceMul, Nat.reduceDiv, Nat.reduceMod, Nat.reduceBEq, Int.reduceEq, Int.reduceLT, Int.reduceLE, Int.reduceNeg, Int.reduceToNat, reduceCtorEq]; with_reducible rfl) (by simp only [go_sem, ↓reduceIte, reduceIte, Nat.reduceEqDiff, Nat.reduceLT, Nat.reduceLeDiff, Nat.reduceAdd, Nat.reduceSub, Nat.reduceMul, Nat.reduceDiv, Nat.reduceMod, Nat.reduceBEq, Int.reduceEq, Int.reduceLT, Int.reduceLE, Int.reduceNeg, Int.reduceToNat, reduceCtorEq]; with_reducible rfl) (by simp only [go_sem, ↓reduceIte, reduceIte, Nat.reduceEqDiff, Nat.reduceLT, Nat.reduceLeDiff, Nat.reduceAdd, Nat.reduceSub, Nat.reduceMul, Nat.reduceDiv, Nat.reduceMod, Nat.reduceBEq, Int.reduceEq, Int.reduceLT, Int.reduceLE, Int.reduceNeg, Int.reduceToNat, reduceCtorEq]; with_reducible rfl) (by simp only [go_sem, ↓reduceIte, reduceIte, Nat.reduceEqDiff, Nat.reduceLT, Nat.reduceLeDiff, Nat.reduceAdd, Nat.reduceSub, Nat.reduceMul, Nat.reduceDiv, Nat.reduceMod, Nat.reduceBEq, Int.reduceEq, Int.reduceLT, Int.reduceLE, Int.reduceNeg, Int.reduceToNat, reduceCtorEq]; with_reducible rfl), 0, [(0, 0, 0)], [], _, _, _, _, rfl, rfl, rfl, rfl, rfl, rfl, by simp, fun p hp => by simp at hp; subst hp; exact ⟨⟨by simp only; omega, by simp only; omega⟩, ⟨by simp only; omega, by simp only; omega⟩, by simp only; omega, by simp only; omega⟩, rfl, Expl.nil, rfl, by simp⟩ ?_
  clear htb
  rintro mm s ⟨i, met, rows, es, at_, nt, et, rfl, rfl, hes, rfl, rfl, rfl, hnd, hrg, hz, hex, hrl, hi⟩
  have hml := tri_bound hnd hrg
  have hetl : ((met.take i).map (fun p => T.bool (endOf RE p.2.2 && F p.1 p.2.1))).length = i := by simp; omega
  by_cases hlt : i < met.length
  · obtain ⟨⟨x, y, r⟩, hat⟩ : ∃ p, met[i]! = p := ⟨_, rfl⟩
    have hio : met[i]? = some (x, y, r) := bang_get hat hlt
    obtain ⟨hxr, hyr, hrr⟩ := hrg _ (List.mem_of_getElem? hio)
    simp only at hxr hyr hrr
    have cF := hF x y hxr hyr
    have htb := Tab.cons cF Tab.nil
    obtain ⟨ra, hra⟩ : ∃ r, A[x.toNat]! = r := ⟨_, rfl⟩
    obtain ⟨rr, hrrr⟩ : ∃ q, R[r.toNat]! = q := ⟨_, rfl⟩
    have hrr2 : rowOf R r = rr := by unfold rowOf; exact bang_D hrrr (by omega)
    have hrrm := bang_mem hrrr (by omega)
    have hrrn := hR.row _ hrrm
    have hra2 : rowOf A x = ra := by unfold rowOf; exact bang_D hra (by omega)
    have hram := bang_mem hra (by omega)
    have hran := hA.row _ hram
    obtain ⟨e, he⟩ : ∃ e, RE[r.toNat]! = e := ⟨_, rfl⟩
    have hee : endOf RE r = e := by unfold endOf; exact bang_D he (by omega)
    repeat' (first | (with_reducible first | refine SW_seq ?_ | refine SW_block ?_ | refine SThen_n ?_ | refine SThen_r ?_ | refine SThen_e ?_ | refine SIn_n ?_ | refine SIn_r ?_ | refine SIn_eq ?_ | refine SW_skip ?_ | refine SW_exit ?_ | refine SW_ret ?_ | refine SPost_r ?_) | ((with_reducible refine SIn_ne ?_ ?_); focus decide) | ((with_reducible refine SW_true ?_ ?_); focus exact rfl) | ((with_reducible refine SW_false ?_ ?_); focus exact rfl) | ((first | (with_reducible apply SW_run tt_ok hG htb) | ((with_reducible apply SW_draw rfl tt_ok hG htb); (focus kernel_rfl); (focus (simp only [List.range, List.range.loop, List.size_toArray, List.length_cons, List.length_nil, Nat.reduceAdd])))); focus ((repeat' (first | (with_reducible exact runX_nil) | (with_reducible exact runI_nil) | ((first | (with_reducible apply runX_cons) | (with_reducible apply runI_cons)); focus (simp (discharger := omega) only [go_sem, tTri, hat, hrr0, hrr0l, ↓reduceIte, reduceIte, Nat.reduceEqDiff, Nat.reduceLT, Nat.reduceLeDiff, Nat.reduceAdd, Nat.reduceSub, Nat.reduceMul, Nat.reduceDiv, Nat.reduceMod, Nat.reduceBEq, Int.reduceEq, Int.reduceLT, Int.reduceLE, Int.reduceNeg, Int.reduceToNat, reduceCtorEq]; with_reducible rfl)))); done)))
    generalize hetE : (met.take i).map (fun p => T.bool (endOf RE p.2.2 && F p.1 p.2.1)) = et at hetl
    refine SW_loop (fun mm s => ∃ (l : Nat) (met' : List (Int × Int × Int)) (q : List Nat) (es : List (T × T)) (at_ qt : List T), mm = n - l ∧ s = ⟨155, [(0, .t (tInt base)), (1, .t (.list [tIntss A])), (2, .t (.fn gf cap)), (6, .bptr 0 0), (8, .bptr 1 0), (10, .t (tNat k)), (11, .map 2), (12, .sref 3), (13, .sref 4), (14, .sref 5), (15, .t (tNat i)), (16, .bptr 6 0), (17, .sref 7), (58, .t (tNat n)), (59, .t (tNat l))], [.box [.t (tInt 0), .t (tInt 0), .nil, .nil], .box [.t (tInt base), .t (tInt (1 : Nat)), .t (tIntss R), .t (tBools RE)], .map (.ints 3) es, .row 115 3 false at_, .row 24 1 false (rows.map tInts), .row 4 1 false et, .box [.t (tInt x), .t (tInt y), .t (tInt r)], .row 3 1 false qt]⟩ ∧ es = keyEntries tTri met' ∧ at_ = met'.map tTri ∧ qt = q.map tNat ∧ met'.Nodup ∧ (∀ p ∈ met', InTri ma mb mr p) ∧ Met1 (wst1 A R) (x, y, r) met met' q l ∧ l ≤ n) (n)
      ⟨_, Norm.headS (own := [(12, 115, 3, false), (13, 24, 1, false), (14, 4, 1, false), (17, 3, 1, false)]) (keep := [0, 1, 2, 6, 8, 10, 11, 12, 13, 14, 15, 16, 17, 58, 59]) (by simp (discharger := omega) only [go_sem, ↓reduceIte, reduceIte, Nat.reduceEqDiff, Nat.reduceLT, Nat.reduceLeDiff, Nat.reduceAdd, Nat.reduceSub, Nat.reduceMul, Nat.reduceDiv, Nat.reduceMod, Nat.reduceBEq, Int.reduceEq, Int.reduceLT, Int.reduceLE, Int.reduceNeg, Int.reduceToNat, reduceCtorEq]; with_reducible rfl) (by simp only [go_sem, ↓reduceIte, reduceIte, Nat.reduceEqDiff, Nat.reduceLT, Nat.reduceLeDiff, Nat.reduceAdd, Nat.reduceSub, Nat.reduceMul, Nat.reduceDiv, Nat.reduceMod, Nat.reduceBEq, Int.reduceEq, Int.reduceLT, Int.reduceLE, Int.reduceNeg, Int.reduceToNat, reduceCtorEq]; with_reducible rfl) (by simp only [go_sem, ↓reduceIte, reduceIte, Nat.reduceEqDiff, Nat.reduceLT, Nat.reduceLeDiff, Nat.reduceAdd, Nat.reduceSub, Nat.reduceMul, Nat.reduceDiv, Nat.reduceMod, Nat.reduceBEq, Int.reduceEq, Int.reduceLT, Int.reduceLE, Int.reduceNeg, Int.reduceToNat, reduceCtorEq]; with_reducible rfl) (by simp only [go_sem, ↓reduceIte, reduceIte, Nat.reduceEqDiff, Nat.reduceLT, Nat.reduceLeDiff, Nat.reduceAdd, Nat.reduceSub, Nat.reduceMul, Nat.reduceDiv, Nat.reduceMod, Nat.reduceBEq, Int.reduceEq, Int.reduceLT, Int.reduceLE, Int.reduceNeg, Int.reduceToNat, reduceCtorEq]; with_reducible rfl) (by simp only [go_sem, ↓reduceIte, reduceIte, Nat.reduceEqDiff, Nat.reduceLT, Nat.reduceLeDiff, Nat.reduceAdd, Nat.reduceSub, Nat.reduceMul, Nat.reduceDiv, Nat.reduceMod, Nat.reduceBEq, Int.reduceEq, Int.reduceLT, Int.reduceLE, Int.reduceNeg, Int.reduceToNat, reduceCtorEq]; with_reducible rfl), 0, met, [], _, _, _, rfl, rfl, hes, rfl, rfl, hnd, hrg, .start, Nat.zero_le _⟩ ?_
    clear hes
    rintro mm s ⟨l, met', q, es, at_, qt, rfl, rfl, hes, rfl, rfl, hnd', hrg', hM, hl⟩
    have hml' := tri_bound hnd' hrg'
    have hel : es.length = met'.length := by rw [hes, keyEntries_length]
    have hql := hM.len
    by_cases hlt2 : l < n
    · obtain ⟨z, hzl⟩ : ∃ z, rr[l]! = z := ⟨_, rfl⟩
      have hzr := hR.ok _ hrrm _ (bang_mem hzl (by omega))
      have hm1 : ((l : Nat) : Int).tmod (k : Int) = (l : Nat) := by rw [Int.tmod_eq_emod_of_nonneg (by omega)]; exact Int.emod_eq_of_lt (by omega) (by omega)
      have hd1 : ((l : Nat) : Int).tdiv (k : Int) = 0 := by rw [Int.tdiv_eq_ediv_of_nonneg (by omega)]; exact Int.ediv_eq_zero_of_lt (by omega) (by omega)
      obtain ⟨u, hul⟩ : ∃ u, ra[l]! = u := ⟨_, rfl⟩
      have hu := hA.ok _ hram _ (bang_mem hul (by omega))
      have hps : wst1 A R (x, y, r) l = (u, 0, z) := by
        simp only [wst1, nx, hra2, hrr2, bang_D hul (show l < ra.length by omega), bang_D hzl (show l < rr.length by omega)]
      have hin : InTri ma mb mr (u, 0, z) := ⟨hu, ⟨by simp only; omega, by simp only; omega⟩, hzr⟩
      repeat' (first | (with_reducible first | refine SW_seq ?_ | refine SW_block ?_ | refine SThen_n ?_ | refine SThen_r ?_ | refine SThen_e ?_ | refine SIn_n ?_ | refine SIn_r ?_ | refine SIn_eq ?_ | refine SW_skip ?_ | refine SW_exit ?_ | refine SW_ret ?_ | refine SPost_r ?_) | ((with_reducible refine SIn_ne ?_ ?_); focus decide) | ((with_reducible refine SW_true ?_ ?_); focus exact rfl) | ((with_reducible refine SW_false ?_ ?_); focus exact rfl) | ((first | (with_reducible apply SW_run tt_ok hG htb) | ((with_reducible apply SW_draw rfl tt_ok hG htb); (focus kernel_rfl); (focus (simp only [List.range, List.range.loop, List.size_toArray, List.length_cons, List.length_nil, Nat.reduceAdd])))); focus ((repeat' (first | (with_reducible exact runX_nil) | (with_reducible exact runI_nil) | ((first | (with_reducible apply runX_cons) | (with_reducible apply runI_cons)); focus (simp (discharger := omega) only [go_sem, hrrr, hzl, ↓reduceIte, reduceIte, Nat.reduceEqDiff, Nat.reduceLT, Nat.reduceLeDiff, Nat.reduceAdd, Nat.reduceSub, Nat.reduceMul, Nat.reduceDiv, Nat.reduceMod, Nat.reduceBEq, Int.reduceEq, Int.reduceLT, Int.reduceLE, Int.reduceNeg, Int.reduceToNat, reduceCtorEq]; with_reducible rfl)))); done)))
      refine SW_loop (fun mm s => (mm = 1 ∧ s = ⟨155, [(0, .t (tInt base)), (1, .t (.list [tIntss A])), (2, .t (.fn gf cap)), (6, .bptr 0 0), (8, .bptr 1 0), (10, .t (tNat k)), (11, .map 2), (12, .sref 3), (13, .sref 4), (14, .sref 5), (15, .t (tNat i)), (16, .bptr 6 0), (17, .sref 7), (19, .bptr 8 0), (20, .t (tNat l)), (21, .t (tInt (0))), (58, .t (tNat n)), (59, .t (tNat l))], [.box [.t (tInt 0), .t (tInt 0), .nil, .nil], .box [.t (tInt base), .t (tInt (1 : Nat)), .t (tIntss R), .t (tBools RE)], .map (.ints 3) es, .row 115 3 false (met'.map tTri), .row 24 1 false (rows.map tInts), .row 4 1 false et, .box [.t (tInt x), .t (tInt y), .t (tInt r)], .row 3 1 false (q.map tNat), .box [.t (tInt 0), .t (tInt 0), .t (tInt z)]]⟩) ∨ (mm = 0 ∧ s = ⟨155, [(0, .t (tInt base)), (1, .t (.list [tIntss A])), (2, .t (.fn gf cap)), (6, .bptr 0 0), (8, .bptr 1 0), (10, .t (tNat k)), (11, .map 2), (12, .sref 3), (13, .sref 4), (14, .sref 5), (15, .t (tNat i)), (16, .bptr 6 0), (17, .sref 7), (19, .bptr 8 0), (20, .t (tInt 0)), (21, .t (tInt (-1))), (58, .t (tNat n)), (59, .t (tNat l))], [.box [.t (tInt 0), .t (tInt 0), .nil, .nil], .box [.t (tInt base), .t (tInt (1 : Nat)), .t (tIntss R), .t (tBools RE)], .map (.ints 3) es, .row 115 3 false (met'.map tTri), .row 24 1 false (rows.map tInts), .row 4 1 false et, .box [.t (tInt x), .t (tInt y), .t (tInt r)], .row 3 1 false (q.map tNat), .box [.t (tInt u), .t (tInt 0), .t (tInt z)]]⟩)) 1
        ⟨_, Norm.headS (own := [(12, 115, 3, false), (13, 24, 1, false), (14, 4, 1, false), (17, 3, 1, false)]) (keep := [0, 1, 2, 6, 8, 10, 11, 12, 13, 14, 15, 16, 17, 19, 20, 21, 58, 59]) (by simp (discharger := omega) only [go_sem, ↓reduceIte, reduceIte, Nat.reduceEqDiff, Nat.reduceLT, Nat.reduceLeDiff, Nat.reduceAdd, Nat.reduceSub, Nat.reduceMul, Nat.reduceDiv, Nat.reduceMod, Nat.reduceBEq, Int.reduceEq, Int.reduceLT, Int.reduceLE, Int.reduceNeg, Int.reduceToNat, reduceCtorEq]; with_reducible rfl) (by simp only [go_sem, ↓reduceIte, reduceIte, Nat.reduceEqDiff, Nat.reduceLT, Nat.reduceLeDiff, Nat.reduceAdd, Nat.reduceSub, Nat.reduceMul, Nat.reduceDiv, Nat.reduceMod, Nat.reduceBEq, Int.reduceEq, Int.reduceLT, Int.reduceLE, Int.reduceNeg, Int.reduceToNat, reduceCtorEq]; with_reducible rfl) (by simp only [go_sem, ↓reduceIte, reduceIte, Nat.reduceEqDiff, Nat.reduceLT, Nat.reduceLeDiff, Nat.reduceAdd, Nat.reduceSub, Nat.reduceMul, Nat.reduceDiv, Nat.reduceMod, Nat.reduceBEq, Int.reduceEq, Int.reduceLT, Int.reduceLE, Int.reduceNeg, Int.reduceToNat, reduceCtorEq]; with_reducible rfl) (by simp only [go_sem, ↓reduceIte, reduceIte, Nat.reduceEqDiff, Nat.reduceLT, Nat.reduceLeDiff, Nat.reduceAdd, Nat.reduceSub, Nat.reduceMul, Nat.reduceDiv, Nat.reduceMod, Nat.reduceBEq, Int.reduceEq, Int.reduceLT, Int.reduceLE, Int.reduceNeg, Int.reduceToNat, reduceCtorEq]; with_reducible rfl) (by simp only [go_sem, ↓reduceIte, reduceIte, Nat.reduceEqDiff, Nat.reduceLT, Nat.reduceLeDiff, Nat.reduceAdd, Nat.reduceSub, Nat.reduceMul, Nat.reduceDiv, Nat.reduceMod, Nat.reduceBEq, Int.reduceEq, Int.reduceLT, Int.reduceLE, Int.reduceNeg, Int.reduceToNat, reduceCtorEq]; with_reducible rfl), .inl ⟨rfl, rfl⟩⟩ ?_
      rintro mm s (⟨rfl, rfl⟩ | ⟨rfl, rfl⟩)
      · repeat' (first | (with_reducible first | refine SW_seq ?_ | refine SW_block ?_ | refine SThen_n ?_ | refine SThen_r ?_ | refine SThen_e ?_ | refine SIn_n ?_ | refine SIn_r ?_ | refine SIn_eq ?_ | refine SW_skip ?_ | refine SW_exit ?_ | refine SW_ret ?_ | refine SPost_r ?_) | ((with_reducible refine SIn_ne ?_ ?_); focus decide) | ((with_reducible refine SW_true ?_ ?_); focus exact rfl) | ((with_reducible refine SW_false ?_ ?_); focus exact rfl) | ((first | (with_reducible apply SW_run tt_ok hG htb) | ((with_reducible apply SW_draw rfl tt_ok hG htb); (focus kernel_rfl); (focus (simp only [List.range, List.range.loop, List.size_toArray, List.length_cons, List.length_nil, Nat.reduceAdd])))); focus ((repeat' (first | (with_reducible exact runX_nil) | (with_reducible exact runI_nil) | ((first | (with_reducible apply runX_cons) | (with_reducible apply runI_cons)); focus (simp (discharger := omega) only [go_sem, hra, hul, hm1, hd1, ↓reduceIte, reduceIte, Nat.reduceEqDiff, Nat.reduceLT, Nat.reduceLeDiff, Nat.reduceAdd, Nat.reduceSub, Nat.reduceMul, Nat.reduceDiv, Nat.reduceMod, Nat.reduceBEq, Int.reduceEq, Int.reduceLT, Int.reduceLE, Int.reduceNeg, Int.reduceToNat, reduceCtorEq]; with_reducible rfl)))); done)))
        exact ⟨0, _, by omega, Norm.headS (own := [(12, 115, 3, false), (13, 24, 1, false), (14, 4, 1, false), (17, 3, 1, false)]) (keep := [0, 1, 2, 6, 8, 10, 11, 12, 13, 14, 15, 16, 17, 19, 20, 21, 58, 59]) (by simp (discharger := omega) only [go_sem, ↓reduceIte, reduceIte, Nat.reduceEqDiff, Nat.reduceLT, Nat.reduceLeDiff, Nat.reduceAdd, Nat.reduceSub, Nat.reduceMul, Nat.reduceDiv, Nat.reduceMod, Nat.reduceBEq, Int.reduceEq, Int.reduceLT, Int.reduceLE, Int.reduceNeg, Int.reduceToNat, reduceCtorEq]; with_reducible rfl) (by simp only [go_sem, ↓reduceIte, reduceIte, Nat.reduceEqDiff, Nat.reduceLT, Nat.reduceLeDiff, Nat.reduceAdd, Nat.reduceSub, Nat.reduceMul, Nat.reduceDiv, Nat.reduceMod, Nat.reduceBEq, Int.reduceEq, Int.reduceLT, Int.reduceLE, Int.reduceNeg, Int.reduceToNat, reduceCtorEq]; with_reducible rfl) (by simp only [go_sem, ↓reduceIte, reduceIte, Nat.reduceEqDiff, Nat.reduceLT, Nat.reduceLeDiff, Nat.reduceAdd, Nat.reduceSub, Nat.reduceMul, Nat.reduceDiv, Nat.reduceMod, Nat.reduceBEq, Int.reduceEq, Int.reduceLT, Int.reduceLE, Int.reduceNeg, Int.reduceToNat, reduceCtorEq]; with_reducible rfl) (by simp only [go_sem, ↓reduceIte, reduceIte, Nat.reduceEqDiff, Nat.reduceLT, Nat.reduceLeDiff, Nat.reduceAdd, Nat.reduceSub, Nat.reduceMul, Nat.reduceDiv, Nat.reduceMod, Nat.reduceBEq, Int.reduceEq, Int.reduceLT, Int.reduceLE, Int.reduceNeg, Int.reduceToNat, reduceCtorEq]; with_reducible rfl) (by simp only [go_sem, ↓reduceIte, reduceIte, Nat.reduceEqDiff, Nat.reduceLT, Nat.reduceLeDiff, Nat.reduceAdd, Nat.reduceSub, Nat.reduceMul, Nat.reduceDiv, Nat.reduceMod, Nat.reduceBEq, Int.reduceEq, Int.reduceLT, Int.reduceLE, Int.reduceNeg, Int.reduceToNat, reduceCtorEq]; with_reducible rfl), .inr ⟨rfl, rfl⟩⟩
      · by_cases hx : (u, 0, z) ∈ met'
        · obtain ⟨kk, hk⟩ := List.mem_iff_getElem?.1 hx
          have hget : mapGet es (.agg [.int .i64 u, .int .i64 0, .int .i64 z]) = some (tNat kk) := by rw [hes]; exact keyEntries_get_some tTri_inj hnd' hk
          repeat' (first | (with_reducible first | refine SW_seq ?_ | refine SW_block ?_ | refine SThen_n ?_ | refine SThen_r ?_ | refine SThen_e ?_ | refine SIn_n ?_ | refine SIn_r ?_ | refine SIn_eq ?_ | refine SW_skip ?_ | refine SW_exit ?_ | refine SW_ret ?_ | refine SPost_r ?_) | ((with_reducible refine SIn_ne ?_ ?_); focus decide) | ((with_reducible refine SW_true ?_ ?_); focus exact rfl) | ((with_reducible refine SW_false ?_ ?_); focus exact rfl) | ((first | (with_reducible apply SW_run tt_ok hG htb) | ((with_reducible apply SW_draw rfl tt_ok hG htb); (focus kernel_rfl); (focus (simp only [List.range, List.range.loop, List.size_toArray, List.length_cons, List.length_nil, Nat.reduceAdd])))); focus ((repeat' (first | (with_reducible exact runX_nil) | (with_reducible exact runI_nil) | ((first | (with_reducible apply runX_cons) | (with_reducible apply runI_cons)); focus (simp (discharger := omega) only [go_sem, hget, ↓reduceIte, reduceIte, Nat.reduceEqDiff, Nat.reduceLT, Nat.reduceLeDiff, Nat.reduceAdd, Nat.reduceSub, Nat.reduceMul, Nat.reduceDiv, Nat.reduceMod, Nat.reduceBEq, Int.reduceEq, Int.reduceLT, Int.reduceLE, Int.reduceNeg, Int.reduceToNat, reduceCtorEq]; with_reducible rfl)))); done)))
          exact ⟨n - (l + 1), _, by omega, Norm.headS (own := [(12, 115, 3, false), (13, 24, 1, false), (14, 4, 1, false), (17, 3, 1, false)]) (keep := [0, 1, 2, 6, 8, 10, 11, 12, 13, 14, 15, 16, 17, 58, 59]) (by simp (discharger := omega) only [go_sem, ↓reduceIte, reduceIte, Nat.reduceEqDiff, Nat.reduceLT, Nat.reduceLeDiff, Nat.reduceAdd, Nat.reduceSub, Nat.reduceMul, Nat.reduceDiv, Nat.reduceMod, Nat.reduceBEq, Int.reduceEq, Int.reduceLT, Int.reduceLE, Int.reduceNeg, Int.reduceToNat, reduceCtorEq]; with_reducible rfl) (by simp only [go_sem, ↓reduceIte, reduceIte, Nat.reduceEqDiff, Nat.reduceLT, Nat.reduceLeDiff, Nat.reduceAdd, Nat.reduceSub, Nat.reduceMul, Nat.reduceDiv, Nat.reduceMod, Nat.reduceBEq, Int.reduceEq, Int.reduceLT, Int.reduceLE, Int.reduceNeg, Int.reduceToNat, reduceCtorEq]; with_reducible rfl) (by simp only [go_sem, ↓reduceIte, reduceIte, Nat.reduceEqDiff, Nat.reduceLT, Nat.reduceLeDiff, Nat.reduceAdd, Nat.reduceSub, Nat.reduceMul, Nat.reduceDiv, Nat.reduceMod, Nat.reduceBEq, Int.reduceEq, Int.reduceLT, Int.reduceLE, Int.reduceNeg, Int.reduceToNat, reduceCtorEq]; with_reducible rfl) (by simp only [go_sem, ↓reduceIte, reduceIte, Nat.reduceEqDiff, Nat.reduceLT, Nat.reduceLeDiff, Nat.reduceAdd, Nat.reduceSub, Nat.reduceMul, Nat.reduceDiv, Nat.reduceMod, Nat.reduceBEq, Int.reduceEq, Int.reduceLT, Int.reduceLE, Int.reduceNeg, Int.reduceToNat, reduceCtorEq]; with_reducible rfl) (by simp only [go_sem, ↓reduceIte, reduceIte, Nat.reduceEqDiff, Nat.reduceLT, Nat.reduceLeDiff, Nat.reduceAdd, Nat.reduceSub, Nat.reduceMul, Nat.reduceDiv, Nat.reduceMod, Nat.reduceBEq, Int.reduceEq, Int.reduceLT, Int.reduceLE, Int.reduceNeg, Int.reduceToNat, reduceCtorEq]; with_reducible rfl), l + 1, met', q ++ [kk], _, _, _, rfl, rfl, hes, rfl, by rw [List.map_append]; rfl, hnd', hrg', hM.old (by rw [hps]; exact hk), by omega⟩
        · have hget : mapGet es (.agg [.int .i64 u, .int .i64 0, .int .i64 z]) = none := by rw [hes]; exact keyEntries_get_none tTri_inj hx
          have hset : mapSet es (.agg [.int .i64 u, .int .i64 0, .int .i64 z]) (.int .i64 (met'.length : Int)) = keyEntries tTri (met' ++ [(u, 0, z)]) := by rw [hes]; exact keyEntries_set tTri_inj hx
          repeat' (first | (with_reducible first | refine SW_seq ?_ | refine SW_block ?_ | refine SThen_n ?_ | refine SThen_r ?_ | refine SThen_e ?_ | refine SIn_n ?_ | refine SIn_r ?_ | refine SIn_eq ?_ | refine SW_skip ?_ | refine SW_exit ?_ | refine SW_ret ?_ | refine SPost_r ?_) | ((with_reducible refine SIn_ne ?_ ?_); focus decide) | ((with_reducible refine SW_true ?_ ?_); focus exact rfl) | ((with_reducible refine SW_false ?_ ?_); focus exact rfl) | ((first | (with_reducible apply SW_run tt_ok hG htb) | ((with_reducible apply SW_draw rfl tt_ok hG htb); (focus kernel_rfl); (focus (simp only [List.range, List.range.loop, List.size_toArray, List.length_cons, List.length_nil, Nat.reduceAdd])))); focus ((repeat' (first | (with_reducible exact runX_nil) | (with_reducible exact runI_nil) | ((first | (with_reducible apply runX_cons) | (with_reducible apply runI_cons)); focus (simp (discharger := omega) only [go_sem, hget, ↓reduceIte, reduceIte, Nat.reduceEqDiff, Nat.reduceLT, Nat.reduceLeDiff, Nat.reduceAdd, Nat.reduceSub, Nat.reduceMul, Nat.reduceDiv, Nat.reduceMod, Nat.reduceBEq, Int.reduceEq, Int.reduceLT, Int.reduceLE, Int.reduceNeg, Int.reduceToNat, reduceCtorEq]; with_reducible rfl)))); done)))
          exact ⟨n - (l + 1), _, by omega, Norm.headS (own := [(12, 115, 3, false), (13, 24, 1, false), (14, 4, 1, false), (17, 3, 1, false)]) (keep := [0, 1, 2, 6, 8, 10, 11, 12, 13, 14, 15, 16, 17, 58, 59]) (by simp (discharger := omega) only [go_sem, ↓reduceIte, reduceIte, Nat.reduceEqDiff, Nat.reduceLT, Nat.reduceLeDiff, Nat.reduceAdd, Nat.reduceSub, Nat.reduceMul, Nat.reduceDiv, Nat.reduceMod, Nat.reduceBEq, Int.reduceEq, Int.reduceLT, Int.reduceLE, Int.reduceNeg, Int.reduceToNat, reduceCtorEq]; with_reducible rfl) (by simp only [go_sem, ↓reduceIte, reduceIte, Nat.reduceEqDiff, Nat.reduceLT, Nat.reduceLeDiff, Nat.reduceAdd, Nat.reduceSub, Nat.reduceMul, Nat.reduceDiv, Nat.reduceMod, Nat.reduceBEq, Int.reduceEq, Int.reduceLT, Int.reduceLE, Int.reduceNeg, Int.reduceToNat, reduceCtorEq]; with_reducible rfl) (by simp only [go_sem, ↓reduceIte, reduceIte, Nat.reduceEqDiff, Nat.reduceLT, Nat.reduceLeDiff, Nat.reduceAdd, Nat.reduceSub, Nat.reduceMul, Nat.reduceDiv, Nat.reduceMod, Nat.reduceBEq, Int.reduceEq, Int.reduceLT, Int.reduceLE, Int.reduceNeg, Int.reduceToNat, reduceCtorEq]; with_reducible rfl) (by simp only [go_sem, ↓reduceIte, reduceIte, Nat.reduceEqDiff, Nat.reduceLT, Nat.reduceLeDiff, Nat.reduceAdd, Nat.reduceSub, Nat.reduceMul, Nat.reduceDiv, Nat.reduceMod, Nat.reduceBEq, Int.reduceEq, Int.reduceLT, Int.reduceLE, Int.reduceNeg, Int.reduceToNat, reduceCtorEq]; with_reducible rfl) (by simp only [go_sem, ↓reduceIte, reduceIte, Nat.reduceEqDiff, Nat.reduceLT, Nat.reduceLeDiff, Nat.reduceAdd, Nat.reduceSub, Nat.reduceMul, Nat.reduceDiv, Nat.reduceMod, Nat.reduceBEq, Int.reduceEq, Int.reduceLT, Int.reduceLE, Int.reduceNeg, Int.reduceToNat, reduceCtorEq]; with_reducible rfl), l + 1, met' ++ [(u, 0, z)], q ++ [met'.length], _, _, _, rfl, rfl, hset, by rw [List.map_append]; rfl, by rw [List.map_append]; simp [tNat, hel], nodup_snoc hnd' hx, fun p hp => by
              rcases List.mem_append.1 hp with h | h
              · exact hrg' p h
              · simp at h; subst h; exact hin, by have := hM.new; rwa [hps] at this, by omega⟩
    · obtain rfl : l = n := by omega
      have htk := hM.take hio
      have hlt' := (List.getElem?_eq_some_iff.1 (pre_get hM.pre hio)).1
      have hnt : rows.map tInts ++ [T.list (q.map tNat)] = (rows ++ [q.map fun (k : Nat) => (k : Int)]).map tInts := by simp [tInts, tNat, tInt]
      cases e with
      | false =>
        have hfin : et ++ [T.bool false] = (met'.take (i + 1)).map (fun p => T.bool (endOf RE p.2.2 && F p.1 p.2.1)) := by
          rw [htk, List.map_append, hetE]; simp [hee]
        repeat' (first | (with_reducible first | refine SW_seq ?_ | refine SW_block ?_ | refine SThen_n ?_ | refine SThen_r ?_ | refine SThen_e ?_ | refine SIn_n ?_ | refine SIn_r ?_ | refine SIn_eq ?_ | refine SW_skip ?_ | refine SW_exit ?_ | refine SW_ret ?_ | refine SPost_r ?_) | ((with_reducible refine SIn_ne ?_ ?_); focus decide) | ((with_reducible refine SW_true ?_ ?_); focus exact rfl) | ((with_reducible refine SW_false ?_ ?_); focus exact rfl) | ((first | (with_reducible apply SW_run tt_ok hG htb) | ((with_reducible apply SW_draw rfl tt_ok hG htb); (focus kernel_rfl); (focus (simp only [List.range, List.range.loop, List.size_toArray, List.length_cons, List.length_nil, Nat.reduceAdd])))); focus ((repeat' (first | (with_reducible exact runX_nil) | (with_reducible exact runI_nil) | ((first | (with_reducible apply runX_cons) | (with_reducible apply runI_cons)); focus (simp (discharger := omega) only [go_sem, he, ↓reduceIte, reduceIte, Nat.reduceEqDiff, Nat.reduceLT, Nat.reduceLeDiff, Nat.reduceAdd, Nat.reduceSub, Nat.reduceMul, Nat.reduceDiv, Nat.reduceMod, Nat.reduceBEq, Int.reduceEq, Int.reduceLT, Int.reduceLE, Int.reduceNeg, Int.reduceToNat, reduceCtorEq]; with_reducible rfl)))); done)))
        exact ⟨ma * mb * mr - (i + 1), _, by omega, Norm.headS (own := [(12, 115, 3, false), (13, 24, 1, false), (14, 4, 1, false)]) (keep := [0, 1, 2, 6, 8, 10, 11, 12, 13, 14, 15]) (by simp (discharger := omega) only [go_sem, ↓reduceIte, reduceIte, Nat.reduceEqDiff, Nat.reduceLT, Nat.reduceLeDiff, Nat.reduceAdd, Nat.reduceSub, Nat.reduceMul, Nat.reduceDiv, Nat.reduceMod, Nat.reduceBEq, Int.reduceEq, Int.reduceLT, Int.reduceLE, Int.reduceNeg, Int.reduceToNat, reduceCtorEq]; with_reducible rfl) (by simp only [go_sem, ↓reduceIte, reduceIte, Nat.reduceEqDiff, Nat.reduceLT, Nat.reduceLeDiff, Nat.reduceAdd, Nat.reduceSub, Nat.reduceMul, Nat.reduceDiv, Nat.reduceMod, Nat.reduceBEq, Int.reduceEq, Int.reduceLT, Int.reduceLE, Int.reduceNeg, Int.reduceToNat, reduceCtorEq]; with_reducible rfl) (by simp only [go_sem, ↓reduceIte, reduceIte, Nat.reduceEqDiff, Nat.reduceLT, Nat.reduceLeDiff, Nat.reduceAdd, Nat.reduceSub, Nat.reduceMul, Nat.reduceDiv, Nat.reduceMod, Nat.reduceBEq, Int.reduceEq, Int.reduceLT, Int.reduceLE, Int.reduceNeg, Int.reduceToNat, reduceCtorEq]; with_reducible rfl) (by simp only [go_sem, ↓reduceIte, reduceIte, Nat.reduceEqDiff, Nat.reduceLT, Nat.reduceLeDiff, Nat.reduceAdd, Nat.reduceSub, Nat.reduceMul, Nat.reduceDiv, Nat.reduceMod, Nat.reduceBEq, Int.reduceEq, Int.reduceLT, Int.reduceLE, Int.reduceNeg, Int.reduceToNat, reduceCtorEq]; with_reducible rfl) (by simp only [go_sem, ↓reduceIte, reduceIte, Nat.reduceEqDiff, Nat.reduceLT, Nat.reduceLeDiff, Nat.reduceAdd, Nat.reduceSub, Nat.reduceMul, Nat.reduceDiv, Nat.reduceMod, Nat.reduceBEq, Int.reduceEq, Int.reduceLT, Int.reduceLE, Int.reduceNeg, Int.reduceToNat, reduceCtorEq]; with_reducible rfl), i + 1, met', rows ++ [q.map fun (k : Nat) => (k : Int)], _, _, _, _, rfl, rfl, hes, rfl, hnt, hfin, hnd', hrg', pre_get hM.pre hz, hM.fin hex hrl hio, by simp [hrl], by omega⟩
      | true =>
        have hfin : et ++ [T.bool (F x y)] = (met'.take (i + 1)).map (fun p => T.bool (endOf RE p.2.2 && F p.1 p.2.1)) := by
          rw [htk, List.map_append, hetE]; simp [hee]
        repeat' (first | (with_reducible first | refine SW_seq ?_ | refine SW_block ?_ | refine SThen_n ?_ | refine SThen_r ?_ | refine SThen_e ?_ | refine SIn_n ?_ | refine SIn_r ?_ | refine SIn_eq ?_ | refine SW_skip ?_ | refine SW_exit ?_ | refine SW_ret ?_ | refine SPost_r ?_) | ((with_reducible refine SIn_ne ?_ ?_); focus decide) | ((with_reducible refine SW_true ?_ ?_); focus exact rfl) | ((with_reducible refine SW_false ?_ ?_); focus exact rfl) | ((first | (with_reducible apply SW_run tt_ok hG htb) | ((with_reducible apply SW_draw rfl tt_ok hG htb); (focus kernel_rfl); (focus (simp only [List.range, List.range.loop, List.size_toArray, List.length_cons, List.length_nil, Nat.reduceAdd])))); focus ((repeat' (first | (with_reducible exact runX_nil) | (with_reducible exact runI_nil) | ((first | (with_reducible apply runX_cons) | (with_reducible apply runI_cons)); focus (simp (discharger := omega) only [go_sem, he, ↓reduceIte, reduceIte, Nat.reduceEqDiff, Nat.reduceLT, Nat.reduceLeDiff, Nat.reduceAdd, Nat.reduceSub, Nat.reduceMul, Nat.reduceDiv, Nat.reduceMod, Nat.reduceBEq, Int.reduceEq, Int.reduceLT, Int.reduceLE, Int.reduceNeg, Int.reduceToNat, reduceCtorEq]; with_reducible rfl)))); done)))
        refine SW_norm (Norm.fixBox 6 rfl rfl) ?_
        repeat' (first | (with_reducible first | refine SW_seq ?_ | refine SW_block ?_ | refine SThen_n ?_ | refine SThen_r ?_ | refine SThen_e ?_ | refine SIn_n ?_ | refine SIn_r ?_ | refine SIn_eq ?_ | refine SW_skip ?_ | refine SW_exit ?_ | refine SW_ret ?_ | refine SPost_r ?_) | ((with_reducible refine SIn_ne ?_ ?_); focus decide) | ((with_reducible refine SW_true ?_ ?_); focus exact rfl) | ((with_reducible refine SW_false ?_ ?_); focus exact rfl) | ((first | (with_reducible apply SW_run tt_ok hG htb) | ((with_reducible apply SW_draw rfl tt_ok hG htb); (focus kernel_rfl); (focus (simp only [List.range, List.range.loop, List.size_toArray, List.length_cons, List.length_nil, Nat.reduceAdd])))); focus ((repeat' (first | (with_reducible exact runX_nil) | (with_reducible exact runI_nil) | ((first | (with_reducible apply runX_cons) | (with_reducible apply runI_cons)); focus (simp (discharger := omega) only [go_sem, he, ↓reduceIte, reduceIte, Nat.reduceEqDiff, Nat.reduceLT, Nat.reduceLeDiff, Nat.reduceAdd, Nat.reduceSub, Nat.reduceMul, Nat.reduceDiv, Nat.reduceMod, Nat.reduceBEq, Int.reduceEq, Int.reduceLT, Int.reduceLE, Int.reduceNeg, Int.reduceToNat, reduceCtorEq]; with_reducible rfl)))); done)))
        exact ⟨ma * mb * mr - (i + 1), _, by omega, Norm.headS (own := [(12, 115, 3, false), (13, 24, 1, false), (14, 4, 1, false)]) (keep := [0, 1, 2, 6, 8, 10, 11, 12, 13, 14, 15]) (by simp (discharger := omega) only [go_sem, ↓reduceIte, reduceIte, Nat.reduceEqDiff, Nat.reduceLT, Nat.reduceLeDiff, Nat.reduceAdd, Nat.reduceSub, Nat.reduceMul, Nat.reduceDiv, Nat.reduceMod, Nat.reduceBEq, Int.reduceEq, Int.reduceLT, Int.reduceLE, Int.reduceNeg, Int.reduceToNat, reduceCtorEq]; with_reducible rfl) (by simp only [go_sem, ↓reduceIte, reduceIte, Nat.reduceEqDiff, Nat.reduceLT, Nat.reduceLeDiff, Nat.reduceAdd, Nat.reduceSub, Nat.reduceMul, Nat.reduceDiv, Nat.reduceMod, Nat.reduceBEq, Int.reduceEq, Int.reduceLT, Int.reduceLE, Int.reduceNeg, Int.reduceToNat, reduceCtorEq]; with_reducible rfl) (by simp only [go_sem, ↓reduceIte, reduceIte, Nat.reduceEqDiff, Nat.reduceLT, Nat.reduceLeDiff, Nat.reduceAdd, Nat.reduceSub, Nat.reduceMul, Nat.reduceDiv, Nat.reduceMod, Nat.reduceBEq, Int.reduceEq, Int.reduceLT, Int.reduceLE, Int.reduceNeg, Int.reduceToNat, reduceCtorEq]; with_reducible rfl) (by simp only [go_sem, ↓reduceIte, reduceIte, Nat.reduceEqDiff, Nat.reduceLT, Nat.reduceLeDiff, Nat.reduceAdd, Nat.reduceSub, Nat.reduceMul, Nat.reduceDiv, Nat.reduceMod, Nat.reduceBEq, Int.reduceEq, Int.reduceLT, Int.reduceLE, Int.reduceNeg, Int.reduceToNat, reduceCtorEq]; with_reducible rfl) (by simp only [go_sem, ↓reduceIte, reduceIte, Nat.reduceEqDiff, Nat.reduceLT, Nat.reduceLeDiff, Nat.reduceAdd, Nat.reduceSub, Nat.reduceMul, Nat.reduceDiv, Nat.reduceMod, Nat.reduceBEq, Int.reduceEq, Int.reduceLT, Int.reduceLE, Int.reduceNeg, Int.reduceToNat, reduceCtorEq]; with_reducible rfl), i + 1, met', rows ++ [q.map fun (k : Nat) => (k : Int)], _, _, _, _, rfl, rfl, hes, rfl, hnt, hfin, hnd', hrg', pre_get hM.pre hz, hM.fin hex hrl hio, by simp [hrl], by omega⟩
  · have hie : i = met.length := by omega
    have hsE : (met.take i).map (fun p => T.bool (endOf RE p.2.2 && F p.1 p.2.1)) = (met.map fun p => endOf RE p.2.2 && F p.1 p.2.1).map T.bool := by rw [hie, List.take_length, List.map_map]; rfl
    rw [hsE]
    have hRm : rows.length = met.length := by omega
    have hT := hex.table hRm
    have hm1 : 0 < met.length := (List.getElem?_eq_some_iff.1 hz).1
    have hlang : ∀ w, Ltr n w → lang rows (met.map fun p => endOf RE p.2.2 && F p.1 p.2.1) 0 w = (F (runS A 0 w) 0 && rightWd base 1 w) := fun w hw => by
      rw [hex.lang hRm hz (E := fun p => endOf RE p.2.2 && F p.1 p.2.1) (fun i s h => by rw [List.getElem?_map, h]; rfl) hw, wst1_run]
      have e : endOf RE (runS R 0 w) = rightWd base 1 w := hlall.lng hw
      show (endOf RE (runS R 0 w) && F (runS A 0 w) 0) = _
      rw [e, Bool.and_comm]
    have hS := Shrink_snd (G := G) (ends := met.map fun p => endOf RE p.2.2 && F p.1 p.2.1) hG base (1 : Nat) hT hm1 (by omega) (by simp) (by omega)
    rw [shrinkT_L hT hm1 hlang] at hS
    have htb := Tab.cons hS Tab.nil
    generalize (met.map fun p => endOf RE p.2.2 && F p.1 p.2.1) = ends at *
    refine SW_norm (Norm.frz 13 rfl rfl) ?_
    refine SW_norm (Norm.frz 14 rfl rfl) ?_
    have hec := errL_cases n fun w => F (runS A 0 w) 0 && rightWd base 1 w
    generalize haut : autoL base (1 : Nat) n (fun w => F (runS A 0 w) 0 && rightWd base 1 w) = au at hS htb ⊢
    by_cases he0 : errL n (fun w => F (runS A 0 w) 0 && rightWd base 1 w) = 0
    · rw [he0] at hS htb ⊢
      simp only [decide_true] at htb
      repeat' (first | (with_reducible first | refine SW_seq ?_ | refine SW_block ?_ | refine SThen_n ?_ | refine SThen_r ?_ | refine SThen_e ?_ | refine SIn_n ?_ | refine SIn_r ?_ | refine SIn_eq ?_ | refine SW_skip ?_ | refine SW_exit ?_ | refine SW_ret ?_ | refine SPost_r ?_) | ((with_reducible refine SIn_ne ?_ ?_); focus decide) | ((with_reducible refine SW_true ?_ ?_); focus exact rfl) | ((with_reducible refine SW_false ?_ ?_); focus exact rfl) | ((first | (with_reducible apply SW_run tt_ok hG htb) | ((with_reducible apply SW_draw rfl tt_ok hG htb); (focus kernel_rfl); (focus (simp only [List.range, List.range.loop, List.size_toArray, List.length_cons, List.length_nil, Nat.reduceAdd])))); focus ((repeat' (first | (with_reducible exact runX_nil) | (with_reducible exact runI_nil) | ((first | (with_reducible apply runX_cons) | (with_reducible apply runI_cons)); focus (simp (discharger := omega) only [go_sem, tAuto, tErr, ↓reduceIte, reduceIte, Nat.reduceEqDiff, Nat.reduceLT, Nat.reduceLeDiff, Nat.reduceAdd, Nat.reduceSub, Nat.reduceMul, Nat.reduceDiv, Nat.reduceMod, Nat.reduceBEq, Int.reduceEq, Int.reduceLT, Int.reduceLE, Int.reduceNeg, Int.reduceToNat, reduceCtorEq]; with_reducible rfl)))); done)))
      exact (by simp (discharger := omega) only [go_sem, tAuto, tErr, ↓reduceIte, reduceIte, Nat.reduceEqDiff, Nat.reduceLT, Nat.reduceLeDiff, Nat.reduceAdd, Nat.reduceSub, Nat.reduceMul, Nat.reduceDiv, Nat.reduceMod, Nat.reduceBEq, Int.reduceEq, Int.reduceLT, Int.reduceLE, Int.reduceNeg, Int.reduceToNat, reduceCtorEq])
    · have he3 : errL n (fun w => F (runS A 0 w) 0 && rightWd base 1 w) = 3 := by omega
      have hau : au = GAuto.zero := by rw [← haut]; unfold autoL; rw [if_neg he0]
      rw [hau] at hS htb ⊢
      rw [he3] at hS htb ⊢
      simp only [show decide ((3 : Int) = 0) = false by decide] at htb
      repeat' (first | (with_reducible first | refine SW_seq ?_ | refine SW_block ?_ | refine SThen_n ?_ | refine SThen_r ?_ | refine SThen_e ?_ | refine SIn_n ?_ | refine SIn_r ?_ | refine SIn_eq ?_ | refine SW_skip ?_ | refine SW_exit ?_ | refine SW_ret ?_ | refine SPost_r ?_) | ((with_reducible refine SIn_ne ?_ ?_); focus decide) | ((with_reducible refine SW_true ?_ ?_); focus exact rfl) | ((with_reducible refine SW_false ?_ ?_); focus exact rfl) | ((first | (with_reducible apply SW_run tt_ok hG htb) | ((with_reducible apply SW_draw rfl tt_ok hG htb); (focus kernel_rfl); (focus (simp only [List.range, List.range.loop, List.size_toArray, List.length_cons, List.length_nil, Nat.reduceAdd])))); focus ((repeat' (first | (with_reducible exact runX_nil) | (with_reducible exact runI_nil) | ((first | (with_reducible apply runX_cons) | (with_reducible apply runI_cons)); focus (simp (discharger := omega) only [go_sem, tAuto, tErr, GAuto.zero, ↓reduceIte, reduceIte, Nat.reduceEqDiff, Nat.reduceLT, Nat.reduceLeDiff, Nat.reduceAdd, Nat.reduceSub, Nat.reduceMul, Nat.reduceDiv, Nat.reduceMod, Nat.reduceBEq, Int.reduceEq, Int.reduceLT, Int.reduceLE, Int.reduceNeg, Int.reduceToNat, reduceCtorEq]; with_reducible rfl)))); done)))
      exact (by simp (discharger := omega) only [go_sem, tAuto, tErr, GAuto.zero, ↓reduceIte, reduceIte, Nat.reduceEqDiff, Nat.reduceLT, Nat.reduceLeDiff, Nat.reduceAdd, Nat.reduceSub, Nat.reduceMul, Nat.reduceDiv, Nat.reduceMod, Nat.reduceBEq, Int.reduceEq, Int.reduceLT, Int.reduceLE, Int.reduceNeg, Int.reduceToNat, reduceCtorEq])
set_option maxHeartbeats 8000000 in
set_option maxRecDepth 100000 in
theorem pairs2_snd (base : Int) {k n ma mb mr : Nat} {A B R : List (List Int)} {RE : List Bool} (h0 : manyErr base 2 = 0) (hn : manyOf base 2 = n) (hk : radix base = k) (hnk : n = k * k)
    (hA : Rows0 k ma A) (hB : Rows0 k mb B) (hm : 0 < ma ∧ ma ≤ 21 ∧ 0 < mb ∧ mb ≤ 21) (gf : Nat) (cap : List T) (F : Int → Int → Bool)
    (hF : ∀ x y : Int, (0 ≤ x ∧ x < ma) → (0 ≤ y ∧ y < mb) → Snd Try.prog G gf (tInts [x, y] :: cap) (.bool (F x y))) (hall : allA base 2 = ⟨base, 2, R, RE⟩) (hmr : R.length = mr) (hne1 : ¬ (19 = gf)) (hne2 : ¬ (42 = gf)) (hne3 : ¬ (49 = gf)) :
    Snd Try.prog G 37 [tInt base, .list [tIntss A, tIntss B], .fn gf cap] (.tup [tAuto (autoL base 2 n (fun w => F (runS A 0 (w.map (· / k))) (runS B 0 (w.map (· % k))) && rightWd base 2 w)), tErr (errL n (fun w => F (runS A 0 (w.map (· / k))) (runS B 0 (w.map (· % k))) && rightWd base 2 w))]) := by
  show Snd Try.prog G 37 [tInt base, .list [tIntss A, tIntss B], .fn gf cap] (.tup [tAuto (autoL base (2 : Nat) n (fun w => F (runS A 0 (w.map (· / k))) (runS B 0 (w.map (· % k))) && rightWd base 2 w)), tErr (errL n (fun w => F (runS A 0 (w.map (· / k))) (runS B 0 (w.map (· % k))) && rightWd base 2 w))])
  have h0' : manyErr base (2 : Nat) = 0 := h0
  have hall' : allA base (2 : Nat) = ⟨base, (2 : Nat), R, RE⟩ := hall
  have c1 := All_snd (G := G) hG base (2 : Nat)
  have c2 := Radix_snd (G := G) hG base
  rw [h0', hall'] at c1
  rw [hk] at c2
  have gall : Good (allA base 2) n (allA base 2).next.length := allA_good (t := 2) h0 hn
  have hlall : IsLeast (allA base 2) n base 2 (rightWd base 2) := (allA_isLeast (t := 2) h0 hn).1
  have h37 : (allA base 2).next.length ≤ 37 := (allA_isLeast (t := 2) h0 hn).2
  rw [hall] at gall hlall h37
  have hR : Rows0 n mr R := by have := gall.rows; rw [← hmr]; exact this
  have hRE : RE.length = mr := by have := gall.ends; rw [← hmr]; exact this
  have hm0 : 0 < mr := by rw [← hmr]; exact gall.m0
  have hn36 := gall.n36
  have hn0 := gall.n0
  simp only at h37
  have hla := hA.len
  have hlb := hB.len
  have hk0 : 0 < k := Nat.pos_of_ne_zero fun e => by rw [e] at hnk; omega
  have hk2 : 2 ≤ k ∧ k ≤ 6 := by
    have := radix_two (b := base) (by rw [hk]; omega)
    omega
  have hmm : ma * mb * mr ≤ 21 * 21 * 37 := Nat.mul_le_mul (Nat.mul_le_mul hm.2.1 hm.2.2.2) (by omega)
  obtain ⟨rr0, hrr0⟩ : ∃ r, R[0]! = r := ⟨_, rfl⟩
  have hrr0l := hR.row _ (bang_mem hrr0 (by omega))
  have htb := Tab.cons c1 (Tab.cons c2 Tab.nil)
  refine snd_of_body (n := 155) (tm := [(0, .t (tInt base)), (1, .t (.list [tIntss A, tIntss B])), (2, .t (.fn gf cap))]) (rs := [.cell 6 44, .tmp 7]) tt_ok Try.func37 rfl rfl rfl rfl rfl ?_
  repeat' (first | (with_reducible first | refine SW_seq ?_ | refine SW_block ?_ | refine SThen_n ?_ | refine SThen_r ?_ | refine SThen_e ?_ | refine SIn_n ?_ | refine SIn_r ?_ | refine SIn_eq ?_ | refine SW_skip ?_ | refine SW_exit ?_ | refine SW_ret ?_ | refine SPost_r ?_) | ((with_reducible refine SIn_ne ?_ ?_); focus decide) | ((with_reducible refine SW_true ?_ ?_); focus exact rfl) | ((with_reducible refine SW_false ?_ ?_); focus exact rfl) | ((first | (with_reducible apply SW_run tt_ok hG htb) | ((with_reducible apply SW_draw rfl tt_ok hG htb); (focus kernel_rfl); (focus (simp only [List.range, List.range.loop, List.size_toArray, List.length_cons, List.length_nil, Nat.reduceAdd])))); focus ((repeat' (first | (with_reducible exact runX_nil) | (with_reducible exact runI_nil) | ((first | (with_reducible apply runX_cons) | (with_reducible apply runI_cons)); focus (simp (discharger := omega) only [go_sem, tAuto, tErr, hne1, hne2, ↓reduceIte, reduceIte, Nat.reduceEqDiff, Nat.reduceLT, Nat.reduceLeDiff, Nat.reduceAdd, Nat.reduceSub, Nat.reduceMul, Nat.reduceDiv, Nat.reduceMod, Nat.reduceBEq, Int.reduceEq, Int.reduceLT, Int.reduceLE, Int.reduceNeg, Int.reduceToNat, reduceCtorEq]; with_reducible rfl)))); done)))
  refine SW_loop (fun mm s => ∃ (i : Nat) (met : List (Int × Int × Int)) (rows : List (List Int)) (es : List (T × T)) (at_ nt et : List T), mm = ma * mb * mr - i ∧ s = ⟨155, [(0, .t (tInt base)), (1, .t (.list [tIntss A, tIntss B])), (2, .t (.fn gf cap)), (6, .bptr 0 0), (8, .bptr 1 0), (10, .t (tNat k)), (11, .map 2), (12, .sref 3), (13, .sref 4), (14, .sref 5), (15, .t (tNat i))], [.box [.t (tInt 0), .t (tInt 0), .nil, .nil], .box [.t (tInt base), .t (tInt (2 : Nat)), .t (tIntss R), .t (tBools RE)], .map (.ints 3) es, .row 115 3 false at_, .row 24 1 false nt, .row 4 1 false et]⟩ ∧ es = keyEntries tTri met ∧ at_ = met.map tTri ∧ nt = rows.map tInts ∧ et = (met.take i).map (fun p => T.bool (endOf RE p.2.2 && F p.1 p.2.1)) ∧ met.Nodup ∧ (∀ p ∈ met, InTri ma mb mr p) ∧ met[0]? = some (0, 0, 0) ∧ Expl (wst2 k A B R) n met rows ∧ rows.length = i ∧ i ≤ met.length) (ma * mb * mr)
    ⟨_, Norm.headS (own := [(12, 115, 3, false), (13, 24, 1, false), (14, 4, 1, false)]) (keep := [0, 1, 2, 6, 8, 10, 11, 12, 13, 14, 15]) (by simp (discharger := omega) only [go_sem, ↓reduceIte, reduceIte, Nat.reduceEqDiff, Nat.reduceLT, Nat.reduceLeDiff, Nat.reduceAdd, Nat.reduceSub, Nat.reduceMul, Nat.reduceDiv, Nat.reduceMod, Nat.reduceBEq, Int.reduceEq, Int.reduceLT, Int.reduceLE, Int.reduceNeg, Int.reduceToNat, reduceCtorEq]; with_reducible rfl) (by simp only [go_sem, ↓reduceIte, reduceIte, Nat.reduceEqDiff, Nat.reduceLT, Nat.reduceLeDiff, Nat.reduceAdd, Nat.reduceSub, Nat.reduceMul, Nat.reduceDiv, Nat.reduceMod, Nat.reduceBEq, Int.reduceEq, Int.reduceLT, Int.reduceLE, Int.reduceNeg, Int.reduceToNat, reduceCtorEq]; with_reducible rfl) (by simp only [go_sem, ↓reduceIte, reduceIte, Nat.reduceEqDiff, Nat.reduceLT, Nat.reduceLeDiff, Nat.reduceAdd, Nat.reduceSub, Nat.reduceMul, Nat.reduceDiv, Nat.reduceMod, Nat.reduceBEq, Int.reduceEq, Int.reduceLT, Int.reduceLE, Int.reduceNeg, Int.reduceToNat, reduceCtorEq]; with_reducible rfl) (by simp only [go_sem, ↓reduceIte, reduceIte, Nat.reduceEqDiff, Nat.reduceLT, Nat.reduceLeDiff, Nat.reduceAdd, Nat.reduceSub, Nat.reduceMul, Nat.reduceDiv, Nat.reduceMod, Nat.reduceBEq, Int.reduceEq, Int.reduceLT, Int.reduceLE, Int.reduceNeg, Int.reduceToNat, reduceCtorEq]; with_reducible rfl) (by simp only [go_sem, ↓reduceIte, reduceIte, Nat.reduceEqDiff, Nat.reduceLT, Nat.reduceLeDiff, Nat.reduceAdd, Nat.reduceSub, Nat.reduceMul, Nat.reduceDiv, Nat.reduceMod, Nat.reduceBEq, Int.reduceEq, Int.reduceLT, Int.reduceLE, Int.reduceNeg, Int.reduceToNat, reduceCtorEq]; with_reducible rfl), 0, [(0, 0, 0)], [], _, _, _, _, rfl, rfl, rfl, rfl, rfl, rfl, by simp, fun p hp => by simp at hp; subst hp; exact ⟨⟨by simp only; omega, by simp only; omega⟩, ⟨by simp only; omega, by simp only; omega⟩, by simp only; omega, by simp only; omega⟩, rfl, Expl.nil, rfl, by simp⟩ ?_
  clear htb
  rintro mm s ⟨i, met, rows, es, at_, nt, et, rfl, rfl, hes, rfl, rfl, rfl, hnd, hrg, hz, hex, hrl, hi⟩
  have hml := tri_bound hnd hrg
  have hetl : ((met.take i).map (fun p => T.bool (endOf RE p.2.2 && F p.1 p.2.1))).length = i := by simp; omega
  by_cases hlt : i < met.length
  · obtain ⟨⟨x, y, r⟩, hat⟩ : ∃ p, met[i]! = p := ⟨_, rfl⟩
    have hio : met[i]? = some (x, y, r) := bang_get hat hlt
    obtain ⟨hxr, hyr, hrr⟩ := hrg _ (List.mem_of_getElem? hio)
    simp only at hxr hyr hrr
    have cF := hF x y hxr hyr
    have htb := Tab.cons cF Tab.nil
    obtain ⟨ra, hra⟩ : ∃ r, A[x.toNat]! = r := ⟨_, rfl⟩
    obtain ⟨rr, hrrr⟩ : ∃ q, R[r.toNat]! = q := ⟨_, rfl⟩
    have hrr2 : rowOf R r = rr := by unfold rowOf; exact bang_D hrrr (by omega)
    have hrrm := bang_mem hrrr (by omega)
    have hrrn := hR.row _ hrrm
    have hra2 : rowOf A x = ra := by unfold rowOf; exact bang_D hra (by omega)
    have hram := bang_mem hra (by omega)
    have hran := hA.row _ hram
    obtain ⟨rb, hrb⟩ : ∃ r, B[y.toNat]! = r := ⟨_, rfl⟩
    have hrb2 : rowOf B y = rb := by unfold rowOf; exact bang_D hrb (by omega)
    have hrbm := bang_mem hrb (by omega)
    have hrbn := hB.row _ hrbm
    obtain ⟨e, he⟩ : ∃ e, RE[r.toNat]! = e := ⟨_, rfl⟩
    have hee : endOf RE r = e := by unfold endOf; exact bang_D he (by omega)
    repeat' (first | (with_reducible first | refine SW_seq ?_ | refine SW_block ?_ | refine SThen_n ?_ | refine SThen_r ?_ | refine SThen_e ?_ | refine SIn_n ?_ | refine SIn_r ?_ | refine SIn_eq ?_ | refine SW_skip ?_ | refine SW_exit ?_ | refine SW_ret ?_ | refine SPost_r ?_) | ((with_reducible refine SIn_ne ?_ ?_); focus decide) | ((with_reducible refine SW_true ?_ ?_); focus exact rfl) | ((with_reducible refine SW_false ?_ ?_); focus exact rfl) | ((first | (with_reducible apply SW_run tt_ok hG htb) | ((with_reducible apply SW_draw rfl tt_ok hG htb); (focus kernel_rfl); (focus (simp only [List.range, List.range.loop, List.size_toArray, List.length_cons, List.length_nil, Nat.reduceAdd])))); focus ((repeat' (first | (with_reducible exact runX_nil) | (with_reducible exact runI_nil) | ((first | (with_reducible apply runX_cons) | (with_reducible apply runI_cons)); focus (simp (discharger := omega) only [go_sem, tTri, hat, hrr0, hrr0l, ↓reduceIte, reduceIte, Nat.reduceEqDiff, Nat.reduceLT, Nat.reduceLeDiff, Nat.reduceAdd, Nat.reduceSub, Nat.reduceMul, Nat.reduceDiv, Nat.reduceMod, Nat.reduceBEq, Int.reduceEq, Int.reduceLT, Int.reduceLE, Int.reduceNeg, Int.reduceToNat, reduceCtorEq]; with_reducible rfl)))); done)))
    generalize hetE : (met.take i).map (fun p => T.bool (endOf RE p.2.2 && F p.1 p.2.1)) = et at hetl
    refine SW_loop (fun mm s => ∃ (l : Nat) (met' : List (Int × Int × Int)) (q : List Nat) (es : List (T × T)) (at_ qt : List T), mm = n - l ∧ s = ⟨155, [(0, .t (tInt base)), (1, .t (.list [tIntss A, tIntss B])), (2, .t (.fn gf cap)), (6, .bptr 0 0), (8, .bptr 1 0), (10, .t (tNat k)), (11, .map 2), (12, .sref 3), (13, .sref 4), (14, .sref 5), (15, .t (tNat i)), (16, .bptr 6 0), (17, .sref 7), (58, .t (tNat n)), (59, .t (tNat l))], [.box [.t (tInt 0), .t (tInt 0), .nil, .nil], .box [.t (tInt base), .t (tInt (2 : Nat)), .t (tIntss R), .t (tBools RE)], .map (.ints 3) es, .row 115 3 false at_, .row 24 1 false (rows.map tInts), .row 4 1 false et, .box [.t (tInt x), .t (tInt y), .t (tInt r)], .row 3 1 false qt]⟩ ∧ es = keyEntries tTri met' ∧ at_ = met'.map tTri ∧ qt = q.map tNat ∧ met'.Nodup ∧ (∀ p ∈ met', InTri ma mb mr p) ∧ Met1 (wst2 k A B R) (x, y, r) met met' q l ∧ l ≤ n) (n)
      ⟨_, Norm.headS (own := [(12, 115, 3, false), (13, 24, 1, false), (14, 4, 1, false), (17, 3, 1, false)]) (keep := [0, 1, 2, 6, 8, 10, 11, 12, 13, 14, 15, 16, 17, 58, 59]) (by simp (discharger := omega) only [go_sem, ↓reduceIte, reduceIte, Nat.reduceEqDiff, Nat.reduceLT, Nat.reduceLeDiff, Nat.reduceAdd, Nat.reduceSub, Nat.reduceMul, Nat.reduceDiv, Nat.reduceMod, Nat.reduceBEq, Int.reduceEq, Int.reduceLT, Int.reduceLE, Int.reduceNeg, Int.reduceToNat, reduceCtorEq]; with_reducible rfl) (by simp only [go_sem, ↓reduceIte, reduceIte, Nat.reduceEqDiff, Nat.reduceLT, Nat.reduceLeDiff, Nat.reduceAdd, Nat.reduceSub, Nat.reduceMul, Nat.reduceDiv, Nat.reduceMod, Nat.reduceBEq, Int.reduceEq, Int.reduceLT, Int.reduceLE, Int.reduceNeg, Int.reduceToNat, reduceCtorEq]; with_reducible rfl) (by simp only [go_sem, ↓reduceIte, reduceIte, Nat.reduceEqDiff, Nat.reduceLT, Nat.reduceLeDiff, Nat.reduceAdd, Nat.reduceSub, Nat.reduceMul, Nat.reduceDiv, Nat.reduceMod, Nat.reduceBEq, Int.reduceEq, Int.reduceLT, Int.reduceLE, Int.reduceNeg, Int.reduceToNat, reduceCtorEq]; with_reducible rfl) (by simp only [go_sem, ↓reduceIte, reduceIte, Nat.reduceEqDiff, Nat.reduceLT, Nat.reduceLeDiff, Nat.reduceAdd, Nat.reduceSub, Nat.reduceMul, Nat.reduceDiv, Nat.reduceMod, Nat.reduceBEq, Int.reduceEq, Int.reduceLT, Int.reduceLE, Int.reduceNeg, Int.reduceToNat, reduceCtorEq]; with_reducible rfl) (by simp only [go_sem, ↓reduceIte, reduceIte, Nat.reduceEqDiff, Nat.reduceLT, Nat.reduceLeDiff, Nat.reduceAdd, Nat.reduceSub, Nat.reduceMul, Nat.reduceDiv, Nat.reduceMod, Nat.reduceBEq, Int.reduceEq, Int.reduceLT, Int.reduceLE, Int.reduceNeg, Int.reduceToNat, reduceCtorEq]; with_reducible rfl), 0, met, [], _, _, _, rfl, rfl, hes, rfl, rfl, hnd, hrg, .start, Nat.zero_le _⟩ ?_
    clear hes
    rintro mm s ⟨l, met', q, es, at_, qt, rfl, rfl, hes, rfl, rfl, hnd', hrg', hM, hl⟩
    have hml' := tri_bound hnd' hrg'
    have hel : es.length = met'.length := by rw [hes, keyEntries_length]
    have hql := hM.len
    by_cases hlt2 : l < n
    · obtain ⟨z, hzl⟩ : ∃ z, rr[l]! = z := ⟨_, rfl⟩
      have hzr := hR.ok _ hrrm _ (bang_mem hzl (by omega))
      obtain ⟨dq, hdq⟩ : ∃ d, l / k = d := ⟨_, rfl⟩
      obtain ⟨dm, hdm⟩ : ∃ d, l % k = d := ⟨_, rfl⟩
      have hlk : dq < k := by rw [← hdq]; exact Nat.div_lt_of_lt_mul (by omega)
      have hlk2 : dm < k := by rw [← hdm]; exact Nat.mod_lt _ (by omega)
      have hm1 : ((l : Nat) : Int).tmod (k : Int) = (dm : Int) := by rw [Int.tmod_eq_emod_of_nonneg (by omega), ← hdm]; rfl
      have hd1 : ((l : Nat) : Int).tdiv (k : Int) = (dq : Int) := by rw [Int.tdiv_eq_ediv_of_nonneg (by omega), ← hdq]; rfl
      have hm2 : ((dq : Nat) : Int).tmod (k : Int) = (dq : Int) := by rw [Int.tmod_eq_emod_of_nonneg (by omega)]; exact Int.emod_eq_of_lt (by omega) (by omega)
      have hd2 : ((dq : Nat) : Int).tdiv (k : Int) = 0 := by rw [Int.tdiv_eq_ediv_of_nonneg (by omega)]; exact Int.ediv_eq_zero_of_lt (by omega) (by omega)
      obtain ⟨u, hul⟩ : ∃ u, ra[dq]! = u := ⟨_, rfl⟩
      obtain ⟨v, hvl⟩ : ∃ v, rb[dm]! = v := ⟨_, rfl⟩
      have hu := hA.ok _ hram _ (bang_mem hul (by omega))
      have hv := hB.ok _ hrbm _ (bang_mem hvl (by omega))
      have hps : wst2 k A B R (x, y, r) l = (u, v, z) := by
        simp only [wst2, nx, hra2, hrb2, hrr2, hdq, hdm, bang_D hul (show dq < ra.length by omega), bang_D hvl (show dm < rb.length by omega), bang_D hzl (show l < rr.length by omega)]
      have hin : InTri ma mb mr (u, v, z) := ⟨hu, hv, hzr⟩
      repeat' (first | (with_reducible first | refine SW_seq ?_ | refine SW_block ?_ | refine SThen_n ?_ | refine SThen_r ?_ | refine SThen_e ?_ | refine SIn_n ?_ | refine SIn_r ?_ | refine SIn_eq ?_ | refine SW_skip ?_ | refine SW_exit ?_ | refine SW_ret ?_ | refine SPost_r ?_) | ((with_reducible refine SIn_ne ?_ ?_); focus decide) | ((with_reducible refine SW_true ?_ ?_); focus exact rfl) | ((with_reducible refine SW_false ?_ ?_); focus exact rfl) | ((first | (with_reducible apply SW_run tt_ok hG htb) | ((with_reducible apply SW_draw rfl tt_ok hG htb); (focus kernel_rfl); (focus (simp only [List.range, List.range.loop, List.size_toArray, List.length_cons, List.length_nil, Nat.reduceAdd])))); focus ((repeat' (first | (with_reducible exact runX_nil) | (with_reducible exact runI_nil) | ((first | (with_reducible apply runX_cons) | (with_reducible apply runI_cons)); focus (simp (discharger := omega) only [go_sem, hrrr, hzl, ↓reduceIte, reduceIte, Nat.reduceEqDiff, Nat.reduceLT, Nat.reduceLeDiff, Nat.reduceAdd, Nat.reduceSub, Nat.reduceMul, Nat.reduceDiv, Nat.reduceMod, Nat.reduceBEq, Int.reduceEq, Int.reduceLT, Int.reduceLE, Int.reduceNeg, Int.reduceToNat, reduceCtorEq]; with_reducible rfl)))); done)))
      refine SW_loop (fun mm s => (mm = 2 ∧ s = ⟨155, [(0, .t (tInt base)), (1, .t (.list [tIntss A, tIntss B])), (2, .t (.fn gf cap)), (6, .bptr 0 0), (8, .bptr 1 0), (10, .t (tNat k)), (11, .map 2), (12, .sref 3), (13, .sref 4), (14, .sref 5), (15, .t (tNat i)), (16, .bptr 6 0), (17, .sref 7), (19, .bptr 8 0), (20, .t (tNat l)), (21, .t (tInt (1))), (58, .t (tNat n)), (59, .t (tNat l))], [.box [.t (tInt 0), .t (tInt 0), .nil, .nil], .box [.t (tInt base), .t (tInt (2 : Nat)), .t (tIntss R), .t (tBools RE)], .map (.ints 3) es, .row 115 3 false (met'.map tTri), .row 24 1 false (rows.map tInts), .row 4 1 false et, .box [.t (tInt x), .t (tInt y), .t (tInt r)], .row 3 1 false (q.map tNat), .box [.t (tInt 0), .t (tInt 0), .t (tInt z)]]⟩) ∨ (mm = 1 ∧ s = ⟨155, [(0, .t (tInt base)), (1, .t (.list [tIntss A, tIntss B])), (2, .t (.fn gf cap)), (6, .bptr 0 0), (8, .bptr 1 0), (10, .t (tNat k)), (11, .map 2), (12, .sref 3), (13, .sref 4), (14, .sref 5), (15, .t (tNat i)), (16, .bptr 6 0), (17, .sref 7), (19, .bptr 8 0), (20, .t (tNat dq)), (21, .t (tInt (0))), (58, .t (tNat n)), (59, .t (tNat l))], [.box [.t (tInt 0), .t (tInt 0), .nil, .nil], .box [.t (tInt base), .t (tInt (2 : Nat)), .t (tIntss R), .t (tBools RE)], .map (.ints 3) es, .row 115 3 false (met'.map tTri), .row 24 1 false (rows.map tInts), .row 4 1 false et, .box [.t (tInt x), .t (tInt y), .t (tInt r)], .row 3 1 false (q.map tNat), .box [.t (tInt 0), .t (tInt v), .t (tInt z)]]⟩) ∨ (mm = 0 ∧ s = ⟨155, [(0, .t (tInt base)), (1, .t (.list [tIntss A, tIntss B])), (2, .t (.fn gf cap)), (6, .bptr 0 0), (8, .bptr 1 0), (10, .t (tNat k)), (11, .map 2), (12, .sref 3), (13, .sref 4), (14, .sref 5), (15, .t (tNat i)), (16, .bptr 6 0), (17, .sref 7), (19, .bptr 8 0), (20, .t (tInt 0)), (21, .t (tInt (-1))), (58, .t (tNat n)), (59, .t (tNat l))], [.box [.t (tInt 0), .t (tInt 0), .nil, .nil], .box [.t (tInt base), .t (tInt (2 : Nat)), .t (tIntss R), .t (tBools RE)], .map (.ints 3) es, .row 115 3 false (met'.map tTri), .row 24 1 false (rows.map tInts), .row 4 1 false et, .box [.t (tInt x), .t (tInt y), .t (tInt r)], .row 3 1 false (q.map tNat), .box [.t (tInt u), .t (tInt v), .t (tInt z)]]⟩)) 2
        ⟨_, Norm.headS (own := [(12, 115, 3, false), (13, 24, 1, false), (14, 4, 1, false), (17, 3, 1, false)]) (keep := [0, 1, 2, 6, 8, 10, 11, 12, 13, 14, 15, 16, 17, 19, 20, 21, 58, 59]) (by simp (discharger := omega) only [go_sem, ↓reduceIte, reduceIte, Nat.reduceEqDiff, Nat.reduceLT, Nat.reduceLeDiff, Nat.reduceAdd, Nat.reduceSub, Nat.reduceMul, Nat.reduceDiv, Nat.reduceMod, Nat.reduceBEq, Int.reduceEq, Int.reduceLT, Int.reduceLE, Int.reduceNeg, Int.reduceToNat, reduceCtorEq]; with_reducible rfl) (by simp only [go_sem, ↓reduceIte, reduceIte, Nat.reduceEqDiff, Nat.reduceLT, Nat.reduceLeDiff, Nat.reduceAdd, Nat.reduceSub, Nat.reduceMul, Nat.reduceDiv, Nat.reduceMod, Nat.reduceBEq, Int.reduceEq, Int.reduceLT, Int.reduceLE, Int.reduceNeg, Int.reduceToNat, reduceCtorEq]; with_reducible rfl) (by simp only [go_sem, ↓reduceIte, reduceIte, Nat.reduceEqDiff, Nat.reduceLT, Nat.reduceLeDiff, Nat.reduceAdd, Nat.reduceSub, Nat.reduceMul, Nat.reduceDiv, Nat.reduceMod, Nat.reduceBEq, Int.reduceEq, Int.reduceLT, Int.reduceLE, Int.reduceNeg, Int.reduceToNat, reduceCtorEq]; with_reducible rfl) (by simp only [go_sem, ↓reduceIte, reduceIte, Nat.reduceEqDiff, Nat.reduceLT, Nat.reduceLeDiff, Nat.reduceAdd, Nat.reduceSub, Nat.reduceMul, Nat.reduceDiv, Nat.reduceMod, Nat.reduceBEq, Int.reduceEq, Int.reduceLT, Int.reduceLE, Int.reduceNeg, Int.reduceToNat, reduceCtorEq]; with_reducible rfl) (by simp only [go_sem, ↓reduceIte, reduceIte, Nat.reduceEqDiff, Nat.reduceLT, Nat.reduceLeDiff, Nat.reduceAdd, Nat.reduceSub, Nat.reduceMul, Nat.reduceDiv, Nat.reduceMod, Nat.reduceBEq, Int.reduceEq, Int.reduceLT, Int.reduceLE, Int.reduceNeg, Int.reduceToNat, reduceCtorEq]; with_reducible rfl), .inl ⟨rfl, rfl⟩⟩ ?_
      rintro mm s (⟨rfl, rfl⟩ | ⟨rfl, rfl⟩ | ⟨rfl, rfl⟩)
      · repeat' (first | (with_reducible first | refine SW_seq ?_ | refine SW_block ?_ | refine SThen_n ?_ | refine SThen_r ?_ | refine SThen_e ?_ | refine SIn_n ?_ | refine SIn_r ?_ | refine SIn_eq ?_ | refine SW_skip ?_ | refine SW_exit ?_ | refine SW_ret ?_ | refine SPost_r ?_) | ((with_reducible refine SIn_ne ?_ ?_); focus decide) | ((with_reducible refine SW_true ?_ ?_); focus exact rfl) | ((with_reducible refine SW_false ?_ ?_); focus exact rfl) | ((first | (with_reducible apply SW_run tt_ok hG htb) | ((with_reducible apply SW_draw rfl tt_ok hG htb); (focus kernel_rfl); (focus (simp only [List.range, List.range.loop, List.size_toArray, List.length_cons, List.length_nil, Nat.reduceAdd])))); focus ((repeat' (first | (with_reducible exact runX_nil) | (with_reducible exact runI_nil) | ((first | (with_reducible apply runX_cons) | (with_reducible apply runI_cons)); focus (simp (discharger := omega) only [go_sem, hrb, hvl, hm1, hd1, ↓reduceIte, reduceIte, Nat.reduceEqDiff, Nat.reduceLT, Nat.reduceLeDiff, Nat.reduceAdd, Nat.reduceSub, Nat.reduceMul, Nat.reduceDiv, Nat.reduceMod, Nat.reduceBEq, Int.reduceEq, Int.reduceLT, Int.reduceLE, Int.reduceNeg, Int.reduceToNat, reduceCtorEq]; with_reducible rfl)))); done)))
        exact ⟨1, _, by omega, Norm.headS (own := [(12, 115, 3, false), (13, 24, 1, false), (14, 4, 1, false), (17, 3, 1, false)]) (keep := [0, 1, 2, 6, 8, 10, 11, 12, 13, 14, 15, 16, 17, 19, 20, 21, 58, 59]) (by simp (discharger := omega) only [go_sem, ↓reduceIte, reduceIte, Nat.reduceEqDiff, Nat.reduceLT, Nat.reduceLeDiff, Nat.reduceAdd, Nat.reduceSub, Nat.reduceMul, Nat.reduceDiv, Nat.reduceMod, Nat.reduceBEq, Int.reduceEq, Int.reduceLT, Int.reduceLE, Int.reduceNeg, Int.reduceToNat, reduceCtorEq]; with_reducible rfl) (by simp only [go_sem, ↓reduceIte, reduceIte, Nat.reduceEqDiff, Nat.reduceLT, Nat.reduceLeDiff, Nat.reduceAdd, Nat.reduceSub, Nat.reduceMul, Nat.reduceDiv, Nat.reduceMod, Nat.reduceBEq, Int.reduceEq, Int.reduceLT, Int.reduceLE, Int.reduceNeg, Int.reduceToNat, reduceCtorEq]; with_reducible rfl) (by simp only [go_sem, ↓reduceIte, reduceIte, Nat.reduceEqDiff, Nat.reduceLT, Nat.reduceLeDiff, Nat.reduceAdd, Nat.reduceSub, Nat.reduceMul, Nat.reduceDiv, Nat.reduceMod, Nat.reduceBEq, Int.reduceEq, Int.reduceLT, Int.reduceLE, Int.reduceNeg, Int.reduceToNat, reduceCtorEq]; with_reducible rfl) (by simp only [go_sem, ↓reduceIte, reduceIte, Nat.reduceEqDiff, Nat.reduceLT, Nat.reduceLeDiff, Nat.reduceAdd, Nat.reduceSub, Nat.reduceMul, Nat.reduceDiv, Nat.reduceMod, Nat.reduceBEq, Int.reduceEq, Int.reduceLT, Int.reduceLE, Int.reduceNeg, Int.reduceToNat, reduceCtorEq]; with_reducible rfl) (by simp only [go_sem, ↓reduceIte, reduceIte, Nat.reduceEqDiff, Nat.reduceLT, Nat.reduceLeDiff, Nat.reduceAdd, Nat.reduceSub, Nat.reduceMul, Nat.reduceDiv, Nat.reduceMod, Nat.reduceBEq, Int.reduceEq, Int.reduceLT, Int.reduceLE, Int.reduceNeg, Int.reduceToNat, reduceCtorEq]; with_reducible rfl), .inr (.inl ⟨rfl, rfl⟩)⟩
      · repeat' (first | (with_reducible first | refine SW_seq ?_ | refine SW_block ?_ | refine SThen_n ?_ | refine SThen_r ?_ | refine SThen_e ?_ | refine SIn_n ?_ | refine SIn_r ?_ | refine SIn_eq ?_ | refine SW_skip ?_ | refine SW_exit ?_ | refine SW_ret ?_ | refine SPost_r ?_) | ((with_reducible refine SIn_ne ?_ ?_); focus decide) | ((with_reducible refine SW_true ?_ ?_); focus exact rfl) | ((with_reducible refine SW_false ?_ ?_); focus exact rfl) | ((first | (with_reducible apply SW_run tt_ok hG htb) | ((with_reducible apply SW_draw rfl tt_ok hG htb); (focus kernel_rfl); (focus (simp only [List.range, List.range.loop, List.size_toArray, List.length_cons, List.length_nil, Nat.reduceAdd])))); focus ((repeat' (first | (with_reducible exact runX_nil) | (with_reducible exact runI_nil) | ((first | (with_reducible apply runX_cons) | (with_reducible apply runI_cons)); focus (simp (discharger := omega) only [go_sem, hra, hul, hm2, hd2, ↓reduceIte, reduceIte, Nat.reduceEqDiff, Nat.reduceLT, Nat.reduceLeDiff, Nat.reduceAdd, Nat.reduceSub, Nat.reduceMul, Nat.reduceDiv, Nat.reduceMod, Nat.reduceBEq, Int.reduceEq, Int.reduceLT, Int.reduceLE, Int.reduceNeg, Int.reduceToNat, reduceCtorEq]; with_reducible rfl)))); done)))
        exact ⟨0, _, by omega, Norm.headS (own := [(12, 115, 3, false), (13, 24, 1, false), (14, 4, 1, false), (17, 3, 1, false)]) (keep := [0, 1, 2, 6, 8, 10, 11, 12, 13, 14, 15, 16, 17, 19, 20, 21, 58, 59]) (by simp (discharger := omega) only [go_sem, ↓reduceIte, reduceIte, Nat.reduceEqDiff, Nat.reduceLT, Nat.reduceLeDiff, Nat.reduceAdd, Nat.reduceSub, Nat.reduceMul, Nat.reduceDiv, Nat.reduceMod, Nat.reduceBEq, Int.reduceEq, Int.reduceLT, Int.reduceLE, Int.reduceNeg, Int.reduceToNat, reduceCtorEq]; with_reducible rfl) (by simp only [go_sem, ↓reduceIte, reduceIte, Nat.reduceEqDiff, Nat.reduceLT, Nat.reduceLeDiff, Nat.reduceAdd, Nat.reduceSub, Nat.reduceMul, Nat.reduceDiv, Nat.reduceMod, Nat.reduceBEq, Int.reduceEq, Int.reduceLT, Int.reduceLE, Int.reduceNeg, Int.reduceToNat, reduceCtorEq]; with_reducible rfl) (by simp only [go_sem, ↓reduceIte, reduceIte, Nat.reduceEqDiff, Nat.reduceLT, Nat.reduceLeDiff, Nat.reduceAdd, Nat.reduceSub, Nat.reduceMul, Nat.reduceDiv, Nat.reduceMod, Nat.reduceBEq, Int.reduceEq, Int.reduceLT, Int.reduceLE, Int.reduceNeg, Int.reduceToNat, reduceCtorEq]; with_reducible rfl) (by simp only [go_sem, ↓reduceIte, reduceIte, Nat.reduceEqDiff, Nat.reduceLT, Nat.reduceLeDiff, Nat.reduceAdd, Nat.reduceSub, Nat.reduceMul, Nat.reduceDiv, Nat.reduceMod, Nat.reduceBEq, Int.reduceEq, Int.reduceLT, Int.reduceLE, Int.reduceNeg, Int.reduceToNat, reduceCtorEq]; with_reducible rfl) (by simp only [go_sem, ↓reduceIte, reduceIte, Nat.reduceEqDiff, Nat.reduceLT, Nat.reduceLeDiff, Nat.reduceAdd, Nat.reduceSub, Nat.reduceMul, Nat.reduceDiv, Nat.reduceMod, Nat.reduceBEq, Int.reduceEq, Int.reduceLT, Int.reduceLE, Int.reduceNeg, Int.reduceToNat, reduceCtorEq]; with_reducible rfl), .inr (.inr ⟨rfl, rfl⟩)⟩
      · by_cases hx : (u, v, z) ∈ met'
        · obtain ⟨kk, hk⟩ := List.mem_iff_getElem?.1 hx
          have hget : mapGet es (.agg [.int .i64 u, .int .i64 v, .int .i64 z]) = some (tNat kk) := by rw [hes]; exact keyEntries_get_some tTri_inj hnd' hk
          repeat' (first | (with_reducible first | refine SW_seq ?_ | refine SW_block ?_ | refine SThen_n ?_ | refine SThen_r ?_ | refine SThen_e ?_ | refine SIn_n ?_ | refine SIn_r ?_ | refine SIn_eq ?_ | refine SW_skip ?_ | refine SW_exit ?_ | refine SW_ret ?_ | refine SPost_r ?_) | ((with_reducible refine SIn_ne ?_ ?_); focus decide) | ((with_reducible refine SW_true ?_ ?_); focus exact rfl) | ((with_reducible refine SW_false ?_ ?_); focus exact rfl) | ((first | (with_reducible apply SW_run tt_ok hG htb) | ((with_reducible apply SW_draw rfl tt_ok hG htb); (focus kernel_rfl); (focus (simp only [List.range, List.range.loop, List.size_toArray, List.length_cons, List.length_nil, Nat.reduceAdd])))); focus ((repeat' (first | (with_reducible exact runX_nil) | (with_reducible exact runI_nil) | ((first | (with_reducible apply runX_cons) | (with_reducible apply runI_cons)); focus (simp (discharger := omega) only [go_sem, hget, ↓reduceIte, reduceIte, Nat.reduceEqDiff, Nat.reduceLT, Nat.reduceLeDiff, Nat.reduceAdd, Nat.reduceSub, Nat.reduceMul, Nat.reduceDiv, Nat.reduceMod, Nat.reduceBEq, Int.reduceEq, Int.reduceLT, Int.reduceLE, Int.reduceNeg, Int.reduceToNat, reduceCtorEq]; with_reducible rfl)))); done)))
          exact ⟨n - (l + 1), _, by omega, Norm.headS (own := [(12, 115, 3, false), (13, 24, 1, false), (14, 4, 1, false), (17, 3, 1, false)]) (keep := [0, 1, 2, 6, 8, 10, 11, 12, 13, 14, 15, 16, 17, 58, 59]) (by simp (discharger := omega) only [go_sem, ↓reduceIte, reduceIte, Nat.reduceEqDiff, Nat.reduceLT, Nat.reduceLeDiff, Nat.reduceAdd, Nat.reduceSub, Nat.reduceMul, Nat.reduceDiv, Nat.reduceMod, Nat.reduceBEq, Int.reduceEq, Int.reduceLT, Int.reduceLE, Int.reduceNeg, Int.reduceToNat, reduceCtorEq]; with_reducible rfl) (by simp only [go_sem, ↓reduceIte, reduceIte, Nat.reduceEqDiff, Nat.reduceLT, Nat.reduceLeDiff, Nat.reduceAdd, Nat.reduceSub, Nat.reduceMul, Nat.reduceDiv, Nat.reduceMod, Nat.reduceBEq, Int.reduceEq, Int.reduceLT, Int.reduceLE, Int.reduceNeg, Int.reduceToNat, reduceCtorEq]; with_reducible rfl) (by simp only [go_sem, ↓reduceIte, reduceIte, Nat.reduceEqDiff, Nat.reduceLT, Nat.reduceLeDiff, Nat.reduceAdd, Nat.reduceSub, Nat.reduceMul, Nat.reduceDiv, Nat.reduceMod, Nat.reduceBEq, Int.reduceEq, Int.reduceLT, Int.reduceLE, Int.reduceNeg, Int.reduceToNat, reduceCtorEq]; with_reducible rfl) (by simp only [go_sem, ↓reduceIte, reduceIte, Nat.reduceEqDiff, Nat.reduceLT, Nat.reduceLeDiff, Nat.reduceAdd, Nat.reduceSub, Nat.reduceMul, Nat.reduceDiv, Nat.reduceMod, Nat.reduceBEq, Int.reduceEq, Int.reduceLT, Int.reduceLE, Int.reduceNeg, Int.reduceToNat, reduceCtorEq]; with_reducible rfl) (by simp only [go_sem, ↓reduceIte, reduceIte, Nat.reduceEqDiff, Nat.reduceLT, Nat.reduceLeDiff, Nat.reduceAdd, Nat.reduceSub, Nat.reduceMul, Nat.reduceDiv, Nat.reduceMod, Nat.reduceBEq, Int.reduceEq, Int.reduceLT, Int.reduceLE, Int.reduceNeg, Int.reduceToNat, reduceCtorEq]; with_reducible rfl), l + 1, met', q ++ [kk], _, _, _, rfl, rfl, hes, rfl, by rw [List.map_append]; rfl, hnd', hrg', hM.old (by rw [hps]; exact hk), by omega⟩
        · have hget : mapGet es (.agg [.int .i64 u, .int .i64 v, .int .i64 z]) = none := by rw [hes]; exact keyEntries_get_none tTri_inj hx
          have hset : mapSet es (.agg [.int .i64 u, .int .i64 v, .int .i64 z]) (.int .i64 (met'.length : Int)) = keyEntries tTri (met' ++ [(u, v, z)]) := by rw [hes]; exact keyEntries_set tTri_inj hx
          repeat' (first | (with_reducible first | refine SW_seq ?_ | refine SW_block ?_ | refine SThen_n ?_ | refine SThen_r ?_ | refine SThen_e ?_ | refine SIn_n ?_ | refine SIn_r ?_ | refine SIn_eq ?_ | refine SW_skip ?_ | refine SW_exit ?_ | refine SW_ret ?_ | refine SPost_r ?_) | ((with_reducible refine SIn_ne ?_ ?_); focus decide) | ((with_reducible refine SW_true ?_ ?_); focus exact rfl) | ((with_reducible refine SW_false ?_ ?_); focus exact rfl) | ((first | (with_reducible apply SW_run tt_ok hG htb) | ((with_reducible apply SW_draw rfl tt_ok hG htb); (focus kernel_rfl); (focus (simp only [List.range, List.range.loop, List.size_toArray, List.length_cons, List.length_nil, Nat.reduceAdd])))); focus ((repeat' (first | (with_reducible exact runX_nil) | (with_reducible exact runI_nil) | ((first | (with_reducible apply runX_cons) | (with_reducible apply runI_cons)); focus (simp (discharger := omega) only [go_sem, hget, ↓reduceIte, reduceIte, Nat.reduceEqDiff, Nat.reduceLT, Nat.reduceLeDiff, Nat.reduceAdd, Nat.reduceSub, Nat.reduceMul, Nat.reduceDiv, Nat.reduceMod, Nat.reduceBEq, Int.reduceEq, Int.reduceLT, Int.reduceLE, Int.reduceNeg, Int.reduceToNat, reduceCtorEq]; with_reducible rfl)))); done)))
          exact ⟨n - (l + 1), _, by omega, Norm.headS (own := [(12, 115, 3, false), (13, 24, 1, false), (14, 4, 1, false), (17, 3, 1, false)]) (keep := [0, 1, 2, 6, 8, 10, 11, 12, 13, 14, 15, 16, 17, 58, 59]) (by simp (discharger := omega) only [go_sem, ↓reduceIte, reduceIte, Nat.reduceEqDiff, Nat.reduceLT, Nat.reduceLeDiff, Nat.reduceAdd, Nat.reduceSub, Nat.reduceMul, Nat.reduceDiv, Nat.reduceMod, Nat.reduceBEq, Int.reduceEq, Int.reduceLT, Int.reduceLE, Int.reduceNeg, Int.reduceToNat, reduceCtorEq]; with_reducible rfl) (by simp only [go_sem, ↓reduceIte, reduceIte, Nat.reduceEqDiff, Nat.reduceLT, Nat.reduceLeDiff, Nat.reduceAdd, Nat.reduceSub, Nat.reduceMul, Nat.reduceDiv, Nat.reduceMod, Nat.reduceBEq, Int.reduceEq, Int.reduceLT, Int.reduceLE, Int.reduceNeg, Int.reduceToNat, reduceCtorEq]; with_reducible rfl) (by simp only [go_sem, ↓reduceIte, reduceIte, Nat.reduceEqDiff, Nat.reduceLT, Nat.reduceLeDiff, Nat.reduceAdd, Nat.reduceSub, Nat.reduceMul, Nat.reduceDiv, Nat.reduceMod, Nat.reduceBEq, Int.reduceEq, Int.reduceLT, Int.reduceLE, Int.reduceNeg, Int.reduceToNat, reduceCtorEq]; with_reducible rfl) (by simp only [go_sem, ↓reduceIte, reduceIte, Nat.reduceEqDiff, Nat.reduceLT, Nat.reduceLeDiff, Nat.reduceAdd, Nat.reduceSub, Nat.reduceMul, Nat.reduceDiv, Nat.reduceMod, Nat.reduceBEq, Int.reduceEq, Int.reduceLT, Int.reduceLE, Int.reduceNeg, Int.reduceToNat, reduceCtorEq]; with_reducible rfl) (by simp only [go_sem, ↓reduceIte, reduceIte, Nat.reduceEqDiff, Nat.reduceLT, Nat.reduceLeDiff, Nat.reduceAdd, Nat.reduceSub, Nat.reduceMul, Nat.reduceDiv, Nat.reduceMod, Nat.reduceBEq, Int.reduceEq, Int.reduceLT, Int.reduceLE, Int.reduceNeg, Int.reduceToNat, reduceCtorEq]; with_reducible rfl), l + 1, met' ++ [(u, v, z)], q ++ [met'.length], _, _, _, rfl, rfl, hset, by rw [List.map_append]; rfl, by rw [List.map_append]; simp [tNat, hel], nodup_snoc hnd' hx, fun p hp => by
              rcases List.mem_append.1 hp with h | h
              · exact hrg' p h
              · simp at h; subst h; exact hin, by have := hM.new; rwa [hps] at this, by omega⟩
    · obtain rfl : l = n := by omega
      have htk := hM.take hio
      have hlt' := (List.getElem?_eq_some_iff.1 (pre_get hM.pre hio)).1
      have hnt : rows.map tInts ++ [T.list (q.map tNat)] = (rows ++ [q.map fun (k : Nat) => (k : Int)]).map tInts := by simp [tInts, tNat, tInt]
      cases e with
      | false =>
        have hfin : et ++ [T.bool false] = (met'.take (i + 1)).map (fun p => T.bool (endOf RE p.2.2 && F p.1 p.2.1)) := by
          rw [htk, List.map_append, hetE]; simp [hee]
        repeat' (first | (with_reducible first | refine SW_seq ?_ | refine SW_block ?_ | refine SThen_n ?_ | refine SThen_r ?_ | refine SThen_e ?_ | refine SIn_n ?_ | refine SIn_r ?_ | refine SIn_eq ?_ | refine SW_skip ?_ | refine SW_exit ?_ | refine SW_ret ?_ | refine SPost_r ?_) | ((with_reducible refine SIn_ne ?_ ?_); focus decide) | ((with_reducible refine SW_true ?_ ?_); focus exact rfl) | ((with_reducible refine SW_false ?_ ?_); focus exact rfl) | ((first | (with_reducible apply SW_run tt_ok hG htb) | ((with_reducible apply SW_draw rfl tt_ok hG htb); (focus kernel_rfl); (focus (simp only [List.range, List.range.loop, List.size_toArray, List.length_cons, List.length_nil, Nat.reduceAdd])))); focus ((repeat' (first | (with_reducible exact runX_nil) | (with_reducible exact runI_nil) | ((first | (with_reducible apply runX_cons) | (with_reducible apply runI_cons)); focus (simp (discharger := omega) only [go_sem, he, ↓reduceIte, reduceIte, Nat.reduceEqDiff, Nat.reduceLT, Nat.reduceLeDiff, Nat.reduceAdd, Nat.reduceSub, Nat.reduceMul, Nat.reduceDiv, Nat.reduceMod, Nat.reduceBEq, Int.reduceEq, Int.reduceLT, Int.reduceLE, Int.reduceNeg, Int.reduceToNat, reduceCtorEq]; with_reducible rfl)))); done)))
        exact ⟨ma * mb * mr - (i + 1), _, by omega, Norm.headS (own := [(12, 115, 3, false), (13, 24, 1, false), (14, 4, 1, false)]) (keep := [0, 1, 2, 6, 8, 10, 11, 12, 13, 14, 15]) (by simp (discharger := omega) only [go_sem, ↓reduceIte, reduceIte, Nat.reduceEqDiff, Nat.reduceLT, Nat.reduceLeDiff, Nat.reduceAdd, Nat.reduceSub, Nat.reduceMul, Nat.reduceDiv, Nat.reduceMod, Nat.reduceBEq, Int.reduceEq, Int.reduceLT, Int.reduceLE, Int.reduceNeg, Int.reduceToNat, reduceCtorEq]; with_reducible rfl) (by simp only [go_sem, ↓reduceIte, reduceIte, Nat.reduceEqDiff, Nat.reduceLT, Nat.reduceLeDiff, Nat.reduceAdd, Nat.reduceSub, Nat.reduceMul, Nat.reduceDiv, Nat.reduceMod, Nat.reduceBEq, Int.reduceEq, Int.reduceLT, Int.reduceLE, Int.reduceNeg, Int.reduceToNat, reduceCtorEq]; with_reducible rfl) (by simp only [go_sem, ↓reduceIte, reduceIte, Nat.reduceEqDiff, Nat.reduceLT, Nat.reduceLeDiff, Nat.reduceAdd, Nat.reduceSub, Nat.reduceMul, Nat.reduceDiv, Nat.reduceMod, Nat.reduceBEq, Int.reduceEq, Int.reduceLT, Int.reduceLE, Int.reduceNeg, Int.reduceToNat, reduceCtorEq]; with_reducible rfl) (by simp only [go_sem, ↓reduceIte, reduceIte, Nat.reduceEqDiff, Nat.reduceLT, Nat.reduceLeDiff, Nat.reduceAdd, Nat.reduceSub, Nat.reduceMul, Nat.reduceDiv, Nat.reduceMod, Nat.reduceBEq, Int.reduceEq, Int.reduceLT, Int.reduceLE, Int.reduceNeg, Int.reduceToNat, reduceCtorEq]; with_reducible rfl) (by simp only [go_sem, ↓reduceIte, reduceIte, Nat.reduceEqDiff, Nat.reduceLT, Nat.reduceLeDiff, Nat.reduceAdd, Nat.reduceSub, Nat.reduceMul, Nat.reduceDiv, Nat.reduceMod, Nat.reduceBEq, Int.reduceEq, Int.reduceLT, Int.reduceLE, Int.reduceNeg, Int.reduceToNat, reduceCtorEq]; with_reducible rfl), i + 1, met', rows ++ [q.map fun (k : Nat) => (k : Int)], _, _, _, _, rfl, rfl, hes, rfl, hnt, hfin, hnd', hrg', pre_get hM.pre hz, hM.fin hex hrl hio, by simp [hrl], by omega⟩
      | true =>
        have hfin : et ++ [T.bool (F x y)] = (met'.take (i + 1)).map (fun p => T.bool (endOf RE p.2.2 && F p.1 p.2.1)) := by
          rw [htk, List.map_append, hetE]; simp [hee]
        repeat' (first | (with_reducible first | refine SW_seq ?_ | refine SW_block ?_ | refine SThen_n ?_ | refine SThen_r ?_ | refine SThen_e ?_ | refine SIn_n ?_ | refine SIn_r ?_ | refine SIn_eq ?_ | refine SW_skip ?_ | refine SW_exit ?_ | refine SW_ret ?_ | refine SPost_r ?_) | ((with_reducible refine SIn_ne ?_ ?_); focus decide) | ((with_reducible refine SW_true ?_ ?_); focus exact rfl) | ((with_reducible refine SW_false ?_ ?_); focus exact rfl) | ((first | (with_reducible apply SW_run tt_ok hG htb) | ((with_reducible apply SW_draw rfl tt_ok hG htb); (focus kernel_rfl); (focus (simp only [List.range, List.range.loop, List.size_toArray, List.length_cons, List.length_nil, Nat.reduceAdd])))); focus ((repeat' (first | (with_reducible exact runX_nil) | (with_reducible exact runI_nil) | ((first | (with_reducible apply runX_cons) | (with_reducible apply runI_cons)); focus (simp (discharger := omega) only [go_sem, he, ↓reduceIte, reduceIte, Nat.reduceEqDiff, Nat.reduceLT, Nat.reduceLeDiff, Nat.reduceAdd, Nat.reduceSub, Nat.reduceMul, Nat.reduceDiv, Nat.reduceMod, Nat.reduceBEq, Int.reduceEq, Int.reduceLT, Int.reduceLE, Int.reduceNeg, Int.reduceToNat, reduceCtorEq]; with_reducible rfl)))); done)))
        refine SW_norm (Norm.fixBox 6 rfl rfl) ?_
        repeat' (first | (with_reducible first | refine SW_seq ?_ | refine SW_block ?_ | refine SThen_n ?_ | refine SThen_r ?_ | refine SThen_e ?_ | refine SIn_n ?_ | refine SIn_r ?_ | refine SIn_eq ?_ | refine SW_skip ?_ | refine SW_exit ?_ | refine SW_ret ?_ | refine SPost_r ?_) | ((with_reducible refine SIn_ne ?_ ?_); focus decide) | ((with_reducible refine SW_true ?_ ?_); focus exact rfl) | ((with_reducible refine SW_false ?_ ?_); focus exact rfl) | ((first | (with_reducible apply SW_run tt_ok hG htb) | ((with_reducible apply SW_draw rfl tt_ok hG htb); (focus kernel_rfl); (focus (simp only [List.range, List.range.loop, List.size_toArray, List.length_cons, List.length_nil, Nat.reduceAdd])))); focus ((repeat' (first | (with_reducible exact runX_nil) | (with_reducible exact runI_nil) | ((first | (with_reducible apply runX_cons) | (with_reducible apply runI_cons)); focus (simp (discharger := omega) only [go_sem, he, ↓reduceIte, reduceIte, Nat.reduceEqDiff, Nat.reduceLT, Nat.reduceLeDiff, Nat.reduceAdd, Nat.reduceSub, Nat.reduceMul, Nat.reduceDiv, Nat.reduceMod, Nat.reduceBEq, Int.reduceEq, Int.reduceLT, Int.reduceLE, Int.reduceNeg, Int.reduceToNat, reduceCtorEq]; with_reducible rfl)))); done)))
        exact ⟨ma * mb * mr - (i + 1), _, by omega, Norm.headS (own := [(12, 115, 3, false), (13, 24, 1, false), (14, 4, 1, false)]) (keep := [0, 1, 2, 6, 8, 10, 11, 12, 13, 14, 15]) (by simp (discharger := omega) only [go_sem, ↓reduceIte, reduceIte, Nat.reduceEqDiff, Nat.reduceLT, Nat.reduceLeDiff, Nat.reduceAdd, Nat.reduceSub, Nat.reduceMul, Nat.reduceDiv, Nat.reduceMod, Nat.reduceBEq, Int.reduceEq, Int.reduceLT, Int.reduceLE, Int.reduceNeg, Int.reduceToNat, reduceCtorEq]; with_reducible rfl) (by simp only [go_sem, ↓reduceIte, reduceIte, Nat.reduceEqDiff, Nat.reduceLT, Nat.reduceLeDiff, Nat.reduceAdd, Nat.reduceSub, Nat.reduceMul, Nat.reduceDiv, Nat.reduceMod, Nat.reduceBEq, Int.reduceEq, Int.reduceLT, Int.reduceLE, Int.reduceNeg, Int.reduceToNat, reduceCtorEq]; with_reducible rfl) (by simp only [go_sem, ↓reduceIte, reduceIte, Nat.reduceEqDiff, Nat.reduceLT, Nat.reduceLeDiff, Nat.reduceAdd, Nat.reduceSub, Nat.reduceMul, Nat.reduceDiv, Nat.reduceMod, Nat.reduceBEq, Int.reduceEq, Int.reduceLT, Int.reduceLE, Int.reduceNeg, Int.reduceToNat, reduceCtorEq]; with_reducible rfl) (by simp only [go_sem, ↓reduceIte, reduceIte, Nat.reduceEqDiff, Nat.reduceLT, Nat.reduceLeDiff, Nat.reduceAdd, Nat.reduceSub, Nat.reduceMul, Nat.reduceDiv, Nat.reduceMod, Nat.reduceBEq, Int.reduceEq, Int.reduceLT, Int.reduceLE, Int.reduceNeg, Int.reduceToNat, reduceCtorEq]; with_reducible rfl) (by simp only [go_sem, ↓reduceIte, reduceIte, Nat.reduceEqDiff, Nat.reduceLT, Nat.reduceLeDiff, Nat.reduceAdd, Nat.reduceSub, Nat.reduceMul, Nat.reduceDiv, Nat.reduceMod, Nat.reduceBEq, Int.reduceEq, Int.reduceLT, Int.reduceLE, Int.reduceNeg, Int.reduceToNat, reduceCtorEq]; with_reducible rfl), i + 1, met', rows ++ [q.map fun (k : Nat) => (k : Int)], _, _, _, _, rfl, rfl, hes, rfl, hnt, hfin, hnd', hrg', pre_get hM.pre hz, hM.fin hex hrl hio, by simp [hrl], by omega⟩
  · have hie : i = met.length := by omega
    have hsE : (met.take i).map (fun p => T.bool (endOf RE p.2.2 && F p.1 p.2.1)) = (met.map fun p => endOf RE p.2.2 && F p.1 p.2.1).map T.bool := by rw [hie, List.take_length, List.map_map]; rfl
    rw [hsE]
    have hRm : rows.length = met.length := by omega
    have hT := hex.table hRm
    have hm1 : 0 < met.length := (List.getElem?_eq_some_iff.1 hz).1
    have hlang : ∀ w, Ltr n w → lang rows (met.map fun p => endOf RE p.2.2 && F p.1 p.2.1) 0 w = (F (runS A 0 (w.map (· / k))) (runS B 0 (w.map (· % k))) && rightWd base 2 w) := fun w hw => by
      rw [hex.lang hRm hz (E := fun p => endOf RE p.2.2 && F p.1 p.2.1) (fun i s h => by rw [List.getElem?_map, h]; rfl) hw, wst2_run]
      have e : endOf RE (runS R 0 w) = rightWd base 2 w := hlall.lng hw
      show (endOf RE (runS R 0 w) && F (runS A 0 (w.map (· / k))) (runS B 0 (w.map (· % k)))) = _
      rw [e, Bool.and_comm]
    have hS := Shrink_snd (G := G) (ends := met.map fun p => endOf RE p.2.2 && F p.1 p.2.1) hG base (2 : Nat) hT hm1 (by omega) (by simp) (by omega)
    rw [shrinkT_L hT hm1 hlang] at hS
    have htb := Tab.cons hS Tab.nil
    generalize (met.map fun p => endOf RE p.2.2 && F p.1 p.2.1) = ends at *
    refine SW_norm (Norm.frz 13 rfl rfl) ?_
    refine SW_norm (Norm.frz 14 rfl rfl) ?_
    have hec := errL_cases n fun w => F (runS A 0 (w.map (· / k))) (runS B 0 (w.map (· % k))) && rightWd base 2 w
    generalize haut : autoL base (2 : Nat) n (fun w => F (runS A 0 (w.map (· / k))) (runS B 0 (w.map (· % k))) && rightWd base 2 w) = au at hS htb ⊢
    by_cases he0 : errL n (fun w => F (runS A 0 (w.map (· / k))) (runS B 0 (w.map (· % k))) && rightWd base 2 w) = 0
    · rw [he0] at hS htb ⊢
      simp only [decide_true] at htb
      repeat' (first | (with_reducible first | refine SW_seq ?_ | refine SW_block ?_ | refine SThen_n ?_ | refine SThen_r ?_ | refine SThen_e ?_ | refine SIn_n ?_ | refine SIn_r ?_ | refine SIn_eq ?_ | refine SW_skip ?_ | refine SW_exit ?_ | refine SW_ret ?_ | refine SPost_r ?_) | ((with_reducible refine SIn_ne ?_ ?_); focus decide) | ((with_reducible refine SW_true ?_ ?_); focus exact rfl) | ((with_reducible refine SW_false ?_ ?_); focus exact rfl) | ((first | (with_reducible apply SW_run tt_ok hG htb) | ((with_reducible apply SW_draw rfl tt_ok hG htb); (focus kernel_rfl); (focus (simp only [List.range, List.range.loop, List.size_toArray, List.length_cons, List.length_nil, Nat.reduceAdd])))); focus ((repeat' (first | (with_reducible exact runX_nil) | (with_reducible exact runI_nil) | ((first | (with_reducible apply runX_cons) | (with_reducible apply runI_cons)); focus (simp (discharger := omega) only [go_sem, tAuto, tErr, ↓reduceIte, reduceIte, Nat.reduceEqDiff, Nat.reduceLT, Nat.reduceLeDiff, Nat.reduceAdd, Nat.reduceSub, Nat.reduceMul, Nat.reduceDiv, Nat.reduceMod, Nat.reduceBEq, Int.reduceEq, Int.reduceLT, Int.reduceLE, Int.reduceNeg, Int.reduceToNat, reduceCtorEq]; with_reducible rfl)))); done)))
      exact (by simp (discharger := omega) only [go_sem, tAuto, tErr, ↓reduceIte, reduceIte, Nat.reduceEqDiff, Nat.reduceLT, Nat.reduceLeDiff, Nat.reduceAdd, Nat.reduceSub, Nat.reduceMul, Nat.reduceDiv, Nat.reduceMod, Nat.reduceBEq, Int.reduceEq, Int.reduceLT, Int.reduceLE, Int.reduceNeg, Int.reduceToNat, reduceCtorEq])
    · have he3 : errL n (fun w => F (runS A 0 (w.map (· / k))) (runS B 0 (w.map (· % k))) && rightWd base 2 w) = 3 := by omega
      have hau : au = GAuto.zero := by rw [← haut]; unfold autoL; rw [if_neg he0]
      rw [hau] at hS htb ⊢
      rw [he3] at hS htb ⊢
      simp only [show decide ((3 : Int) = 0) = false by decide] at htb
      repeat' (first | (with_reducible first | refine SW_seq ?_ | refine SW_block ?_ | refine SThen_n ?_ | refine SThen_r ?_ | refine SThen_e ?_ | refine SIn_n ?_ | refine SIn_r ?_ | refine SIn_eq ?_ | refine SW_skip ?_ | refine SW_exit ?_ | refine SW_ret ?_ | refine SPost_r ?_) | ((with_reducible refine SIn_ne ?_ ?_); focus decide) | ((with_reducible refine SW_true ?_ ?_); focus exact rfl) | ((with_reducible refine SW_false ?_ ?_); focus exact rfl) | ((first | (with_reducible apply SW_run tt_ok hG htb) | ((with_reducible apply SW_draw rfl tt_ok hG htb); (focus kernel_rfl); (focus (simp only [List.range, List.range.loop, List.size_toArray, List.length_cons, List.length_nil, Nat.reduceAdd])))); focus ((repeat' (first | (with_reducible exact runX_nil) | (with_reducible exact runI_nil) | ((first | (with_reducible apply runX_cons) | (with_reducible apply runI_cons)); focus (simp (discharger := omega) only [go_sem, tAuto, tErr, GAuto.zero, ↓reduceIte, reduceIte, Nat.reduceEqDiff, Nat.reduceLT, Nat.reduceLeDiff, Nat.reduceAdd, Nat.reduceSub, Nat.reduceMul, Nat.reduceDiv, Nat.reduceMod, Nat.reduceBEq, Int.reduceEq, Int.reduceLT, Int.reduceLE, Int.reduceNeg, Int.reduceToNat, reduceCtorEq]; with_reducible rfl)))); done)))
      exact (by simp (discharger := omega) only [go_sem, tAuto, tErr, GAuto.zero, ↓reduceIte, reduceIte, Nat.reduceEqDiff, Nat.reduceLT, Nat.reduceLeDiff, Nat.reduceAdd, Nat.reduceSub, Nat.reduceMul, Nat.reduceDiv, Nat.reduceMod, Nat.reduceBEq, Int.reduceEq, Int.reduceLT, Int.reduceLE, Int.reduceNeg, Int.reduceToNat, reduceCtorEq])
end
end Go.Proofs.Ytfhncnhkeodngaa
namespace Go.Proofs.Ytfhncnhkeodngaa
open Go.RowKit
section
variable {G : World → Prop} (hG : Lasting G)
include hG
end
end Go.Proofs.Ytfhncnhkeodngaa
namespace Go.Proofs.Ytfhncnhkeodngaa
open Go.RowKit

/-- How many places there are: as many as are at most the greatest number, and one more. -/
structure IsN (base : Int) (N : Nat) : Prop where
  pos : 0 < N
  big : 1099511627776 < W base (N - 1)
  small : ∀ i, i + 1 < N → W base i ≤ 1099511627776
section
variable {G : World → Prop} (hG : Lasting G)
include hG
end
end Go.Proofs.Ytfhncnhkeodngaa
namespace Go.Proofs.Ytfhncnhkeodngaa
open Go.RowKit

theorem many_one {base : Int} {k : Nat} (hk : radix base = k) (h : 2 ≤ k ∧ k ≤ 6) : manyErr base (1 : Nat) = 0 ∧ manyOf base (1 : Nat) = k := by
  have e : manyErr base ((1 : Nat) : Int) = 0 := by
    unfold manyErr
    rw [if_neg (by omega), hk, show ((1 : Nat) : Int).toNat = 1 by rfl]
    rw [if_neg]
    show ¬ 36 < 1 * (k : Int)
    omega
  refine ⟨e, ?_⟩
  unfold manyOf
  rw [if_pos e, hk]
  show 1 * (k : Int) = k
  omega
theorem many_two {base : Int} {k : Nat} (hk : radix base = k) (h : 2 ≤ k ∧ k ≤ 6) : manyErr base (2 : Nat) = 0 ∧ manyOf base (2 : Nat) = (k * k : Nat) := by
  have hkk : k * k ≤ 36 := Nat.mul_le_mul h.2 h.2
  have h2 : ((k * k : Nat) : Int) = (k : Int) * (k : Int) := by simp
  have h1 : (1 : Int) * (k : Int) = k := Int.one_mul _
  have e : manyErr base ((2 : Nat) : Int) = 0 := by
    unfold manyErr
    rw [if_neg (by omega), hk, show ((2 : Nat) : Int).toNat = 2 by rfl]
    rw [if_neg]
    show ¬ 36 < 1 * (k : Int) * (k : Int)
    rw [h1]; omega
  refine ⟨e, ?_⟩
  unfold manyOf
  rw [if_pos e, hk]
  show 1 * (k : Int) * (k : Int) = _
  rw [h1, h2]
def sayAt (o : GOut) (s : Int) : Int := (lateO o.outs).getD s.toNat 0
def isL (o : GOut) (v : Int) (w : List Nat) : Bool := decide (sayAt o (runS (late o.next) 0 w) = v) && rightWd o.base 1 w
def likeL (o p : GOut) (k : Nat) (w : List Nat) : Bool := decide (sayAt o (runS (late o.next) 0 (w.map (· / k))) = sayAt p (runS (late p.next) 0 (w.map (· % k)))) && rightWd o.base 2 w
noncomputable def isErr (o : GOut) (v : Int) : Int := if outErr o ≠ 0 then outErr o else if v < 0 ∨ 9 < v then 1 else errL (radix o.base).toNat (isL o v)
noncomputable def isOf (o : GOut) (v : Int) : GAuto := if outErr o ≠ 0 ∨ v < 0 ∨ 9 < v then .zero else autoL o.base 1 (radix o.base).toNat (isL o v)
noncomputable def likeErr (o p : GOut) : Int := if outErr o ≠ 0 then outErr o else if outErr p ≠ 0 then outErr p else if o.base ≠ p.base then 2 else errL ((radix o.base).toNat * (radix o.base).toNat) (likeL o p (radix o.base).toNat)
noncomputable def likeOf (o p : GOut) : GAuto := if outErr o ≠ 0 ∨ outErr p ≠ 0 ∨ o.base ≠ p.base then .zero else autoL o.base 2 ((radix o.base).toNat * (radix o.base).toNat) (likeL o p (radix o.base).toNat)
theorem lang_says {o : GOut} {k m : Nat} (g : OkOut o k m) (f : Int → Bool) {w : List Nat} (hw : Ltr k w) : lang (late o.next) ((lateO o.outs).map f) 0 w = f (sayAt o (runS (late o.next) 0 w)) := by
  have h := runS_ok (late_rows g.rows g.m0) w 0 ⟨by omega, by omega⟩ hw
  have hl : (lateO o.outs).length = m + 1 := by simp [lateO, g.outs]
  unfold lang endOf sayAt
  rw [List.getD_eq_getElem?_getD, List.getElem?_map, List.getElem?_eq_getElem (by omega), getD_lt (by omega)]
  rfl
theorem gauto_eta (a : GAuto) (base t : Int) (h1 : a.base = base) (h2 : a.tracks = t) : a = ⟨base, t, a.next, a.ends⟩ := by cases a; simp_all
section
variable {G : World → Prop} (hG : Lasting G)
include hG
theorem IsF_snd (l : List Int) (v x : Int) (hx : 0 ≤ x ∧ x < (l.length : Int)) (hl : l.length ≤ 1000) : Snd Try.prog G 39 [tInts [x], .ptr [tInts l], .ptr [tInt v]] (.bool (decide (l.getD x.toNat 0 = v))) := by
  have htb : Tab.ok Try.prog G [] := Tab.nil
  obtain ⟨z, hz⟩ : ∃ z, l[x.toNat]! = z := ⟨_, rfl⟩
  rw [bang_D hz (by omega)]
  refine snd_of_body (n := 13) (tm := [(0, .t (tInts [x])), (1, .t (.ptr [tInts l])), (2, .t (.ptr [tInt v]))]) (rs := [.tmp 4]) tt_ok Try.func39 rfl rfl rfl rfl rfl ?_
  repeat' (first | (with_reducible first | refine SW_seq ?_ | refine SW_block ?_ | refine SThen_n ?_ | refine SThen_r ?_ | refine SThen_e ?_ | refine SIn_n ?_ | refine SIn_r ?_ | refine SIn_eq ?_ | refine SW_skip ?_ | refine SW_exit ?_ | refine SW_ret ?_ | refine SPost_r ?_) | ((with_reducible refine SIn_ne ?_ ?_); focus decide) | ((with_reducible refine SW_true ?_ ?_); focus exact rfl) | ((with_reducible refine SW_false ?_ ?_); focus exact rfl) | ((first | (with_reducible apply SW_run tt_ok hG htb) | ((with_reducible apply SW_draw rfl tt_ok hG htb); (focus kernel_rfl); (focus (simp only [List.range, List.range.loop, List.size_toArray, List.length_cons, List.length_nil, Nat.reduceAdd])))); focus ((repeat' (first | (with_reducible exact runX_nil) | (with_reducible exact runI_nil) | ((first | (with_reducible apply runX_cons) | (with_reducible apply runI_cons)); focus (simp (discharger := omega) only [go_sem, hz, ↓reduceIte, reduceIte, Nat.reduceEqDiff, Nat.reduceLT, Nat.reduceLeDiff, Nat.reduceAdd, Nat.reduceSub, Nat.reduceMul, Nat.reduceDiv, Nat.reduceMod, Nat.reduceBEq, Int.reduceEq, Int.reduceLT, Int.reduceLE, Int.reduceNeg, Int.reduceToNat, reduceCtorEq]; with_reducible rfl)))); done)))
  exact (by simp (discharger := omega) only [go_sem, ↓reduceIte, reduceIte, Nat.reduceEqDiff, Nat.reduceLT, Nat.reduceLeDiff, Nat.reduceAdd, Nat.reduceSub, Nat.reduceMul, Nat.reduceDiv, Nat.reduceMod, Nat.reduceBEq, Int.reduceEq, Int.reduceLT, Int.reduceLE, Int.reduceNeg, Int.reduceToNat, reduceCtorEq])
theorem LikeF_snd (l q : List Int) (x y : Int) (hx : 0 ≤ x ∧ x < (l.length : Int)) (hy : 0 ≤ y ∧ y < (q.length : Int)) (hl : l.length ≤ 1000) (hq : q.length ≤ 1000) :
    Snd Try.prog G 44 [tInts [x, y], .ptr [tInts l], .ptr [tInts q]] (.bool (decide (l.getD x.toNat 0 = q.getD y.toNat 0))) := by
  have htb : Tab.ok Try.prog G [] := Tab.nil
  obtain ⟨z, hz⟩ : ∃ z, l[x.toNat]! = z := ⟨_, rfl⟩
  obtain ⟨u, hu⟩ : ∃ u, q[y.toNat]! = u := ⟨_, rfl⟩
  rw [bang_D hz (by omega), bang_D hu (by omega)]
  refine snd_of_body (n := 18) (tm := [(0, .t (tInts [x, y])), (1, .t (.ptr [tInts l])), (2, .t (.ptr [tInts q]))]) (rs := [.tmp 4]) tt_ok Try.func44 rfl rfl rfl rfl rfl ?_
  repeat' (first | (with_reducible first | refine SW_seq ?_ | refine SW_block ?_ | refine SThen_n ?_ | refine SThen_r ?_ | refine SThen_e ?_ | refine SIn_n ?_ | refine SIn_r ?_ | refine SIn_eq ?_ | refine SW_skip ?_ | refine SW_exit ?_ | refine SW_ret ?_ | refine SPost_r ?_) | ((with_reducible refine SIn_ne ?_ ?_); focus decide) | ((with_reducible refine SW_true ?_ ?_); focus exact rfl) | ((with_reducible refine SW_false ?_ ?_); focus exact rfl) | ((first | (with_reducible apply SW_run tt_ok hG htb) | ((with_reducible apply SW_draw rfl tt_ok hG htb); (focus kernel_rfl); (focus (simp only [List.range, List.range.loop, List.size_toArray, List.length_cons, List.length_nil, Nat.reduceAdd])))); focus ((repeat' (first | (with_reducible exact runX_nil) | (with_reducible exact runI_nil) | ((first | (with_reducible apply runX_cons) | (with_reducible apply runI_cons)); focus (simp (discharger := omega) only [go_sem, hz, hu, ↓reduceIte, reduceIte, Nat.reduceEqDiff, Nat.reduceLT, Nat.reduceLeDiff, Nat.reduceAdd, Nat.reduceSub, Nat.reduceMul, Nat.reduceDiv, Nat.reduceMod, Nat.reduceBEq, Int.reduceEq, Int.reduceLT, Int.reduceLE, Int.reduceNeg, Int.reduceToNat, reduceCtorEq]; with_reducible rfl)))); done)))
  exact (by simp (discharger := omega) only [go_sem, ↓reduceIte, reduceIte, Nat.reduceEqDiff, Nat.reduceLT, Nat.reduceLeDiff, Nat.reduceAdd, Nat.reduceSub, Nat.reduceMul, Nat.reduceDiv, Nat.reduceMod, Nat.reduceBEq, Int.reduceEq, Int.reduceLT, Int.reduceLE, Int.reduceNeg, Int.reduceToNat, reduceCtorEq])
set_option maxHeartbeats 4000000 in
theorem Is_snd (o : GOut) (v : Int) : Snd Try.prog G 14 [tOut o, tInt v] (.tup [tAuto (isOf o v), tErr (isErr o v)]) := by
  have c1 := WCheck_snd hG o
  by_cases h : outErr o = 0
  · have g := out_ok h
    rw [h] at c1
    by_cases hr : v < 0 ∨ 9 < v
    · have e1 : isErr o v = 1 := by unfold isErr; rw [if_neg (by rw [h]; simp), if_pos hr]
      have e2 : isOf o v = .zero := by unfold isOf; rw [if_pos (.inr hr)]
      rw [e1, e2]
      have htb := Tab.cons c1 Tab.nil
      refine snd_of_body (n := 33) (tm := [(0, .t (tOut o)), (1, .t (tInt v))]) (rs := [.cell 4 44, .tmp 5]) tt_ok Try.func14 rfl rfl rfl rfl rfl ?_
      by_cases hr0 : v < 0
      · repeat' (first | (with_reducible first | refine SW_seq ?_ | refine SW_block ?_ | refine SThen_n ?_ | refine SThen_r ?_ | refine SThen_e ?_ | refine SIn_n ?_ | refine SIn_r ?_ | refine SIn_eq ?_ | refine SW_skip ?_ | refine SW_exit ?_ | refine SW_ret ?_ | refine SPost_r ?_) | ((with_reducible refine SIn_ne ?_ ?_); focus decide) | ((with_reducible refine SW_true ?_ ?_); focus exact rfl) | ((with_reducible refine SW_false ?_ ?_); focus exact rfl) | ((first | (with_reducible apply SW_run tt_ok hG htb) | ((with_reducible apply SW_draw rfl tt_ok hG htb); (focus kernel_rfl); (focus (simp only [List.range, List.range.loop, List.size_toArray, List.length_cons, List.length_nil, Nat.reduceAdd])))); focus ((repeat' (first | (with_reducible exact runX_nil) | (with_reducible exact runI_nil) | ((first | (with_reducible apply runX_cons) | (with_reducible apply runI_cons)); focus (simp (discharger := omega) only [go_sem, tOut, tErr, ↓reduceIte, reduceIte, Nat.reduceEqDiff, Nat.reduceLT, Nat.reduceLeDiff, Nat.reduceAdd, Nat.reduceSub, Nat.reduceMul, Nat.reduceDiv, Nat.reduceMod, Nat.reduceBEq, Int.reduceEq, Int.reduceLT, Int.reduceLE, Int.reduceNeg, Int.reduceToNat, reduceCtorEq]; with_reducible rfl)))); done)))
        exact (by simp (discharger := omega) only [go_sem, tAuto, GAuto.zero, tErr, ↓reduceIte, reduceIte, Nat.reduceEqDiff, Nat.reduceLT, Nat.reduceLeDiff, Nat.reduceAdd, Nat.reduceSub, Nat.reduceMul, Nat.reduceDiv, Nat.reduceMod, Nat.reduceBEq, Int.reduceEq, Int.reduceLT, Int.reduceLE, Int.reduceNeg, Int.reduceToNat, reduceCtorEq])
      · have hr2 : 9 < v := by omega
        repeat' (first | (with_reducible first | refine SW_seq ?_ | refine SW_block ?_ | refine SThen_n ?_ | refine SThen_r ?_ | refine SThen_e ?_ | refine SIn_n ?_ | refine SIn_r ?_ | refine SIn_eq ?_ | refine SW_skip ?_ | refine SW_exit ?_ | refine SW_ret ?_ | refine SPost_r ?_) | ((with_reducible refine SIn_ne ?_ ?_); focus decide) | ((with_reducible refine SW_true ?_ ?_); focus exact rfl) | ((with_reducible refine SW_false ?_ ?_); focus exact rfl) | ((first | (with_reducible apply SW_run tt_ok hG htb) | ((with_reducible apply SW_draw rfl tt_ok hG htb); (focus kernel_rfl); (focus (simp only [List.range, List.range.loop, List.size_toArray, List.length_cons, List.length_nil, Nat.reduceAdd])))); focus ((repeat' (first | (with_reducible exact runX_nil) | (with_reducible exact runI_nil) | ((first | (with_reducible apply runX_cons) | (with_reducible apply runI_cons)); focus (simp (discharger := omega) only [go_sem, tOut, tErr, ↓reduceIte, reduceIte, Nat.reduceEqDiff, Nat.reduceLT, Nat.reduceLeDiff, Nat.reduceAdd, Nat.reduceSub, Nat.reduceMul, Nat.reduceDiv, Nat.reduceMod, Nat.reduceBEq, Int.reduceEq, Int.reduceLT, Int.reduceLE, Int.reduceNeg, Int.reduceToNat, reduceCtorEq]; with_reducible rfl)))); done)))
        exact (by simp (discharger := omega) only [go_sem, tAuto, GAuto.zero, tErr, ↓reduceIte, reduceIte, Nat.reduceEqDiff, Nat.reduceLT, Nat.reduceLeDiff, Nat.reduceAdd, Nat.reduceSub, Nat.reduceMul, Nat.reduceDiv, Nat.reduceMod, Nat.reduceBEq, Int.reduceEq, Int.reduceLT, Int.reduceLE, Int.reduceNeg, Int.reduceToNat, reduceCtorEq])
    · have e1 : isErr o v = errL (radix o.base).toNat (isL o v) := by unfold isErr; rw [if_neg (by rw [h]; simp), if_neg hr]
      have e2 : isOf o v = autoL o.base 1 (radix o.base).toNat (isL o v) := by unfold isOf; rw [if_neg (by rintro (e | e); exact e h; exact hr e)]
      rw [e1, e2]
      obtain ⟨m1, m2⟩ := many_one g.k_eq g.k2
      have hk := g.k_eq
      have hlo : (lateO o.outs).length = o.next.length + 1 := by simp [lateO, g.outs]
      have hm20 := g.m20
      have hA := late_rows g.rows g.m0
      have hlall := (allA_isLeast m1 m2).1
      have c2 := outs_snd hG o (by have := g.outs; have := g.m0; omega) (by have := g.outs; omega)
      have c3 := late_snd hG o g
      have c4 := pairs1_snd hG o.base (ma := o.next.length + 1) (mb := 1) (A := late o.next) m1 m2 hk rfl hA rfl ⟨by omega, by omega, by omega, by omega⟩ 39 [.ptr [tInts (lateO o.outs)], .ptr [tInt v]] (fun x _ => decide (sayAt o x = v))
        (fun x y hx _ => IsF_snd hG (lateO o.outs) v x (by omega) (by omega)) (gauto_eta _ _ _ hlall.base hlall.tracks) rfl (by decide) (by decide) (by decide)
      have hL : (fun w => decide (sayAt o (runS (late o.next) 0 w) = v) && rightWd o.base 1 w) = isL o v := rfl
      rw [hL] at c4
      generalize autoL o.base 1 (radix o.base).toNat (isL o v) = au at *
      have c4' : Snd Try.prog G 37 [tInt o.base, .list [tIntss (late o.next)], .fn 39 [.ptr [tInts (lateO o.outs)], .ptr [tInt v]]] (.tup [tAuto au, tErr (errL (radix o.base).toNat (isL o v))]) := c4
      have hec := errL_cases (radix o.base).toNat (isL o v)
      generalize errL (radix o.base).toNat (isL o v) = er at *
      generalize late o.next = A at *
      generalize lateO o.outs = oo at *
      have htb := Tab.cons c1 (Tab.cons c2 (Tab.cons c3 (Tab.cons c4' Tab.nil)))
      refine snd_of_body (n := 33) (tm := [(0, .t (tOut o)), (1, .t (tInt v))]) (rs := [.cell 4 44, .tmp 5]) tt_ok Try.func14 rfl rfl rfl rfl rfl ?_
      repeat' (first | (with_reducible first | refine SW_seq ?_ | refine SW_block ?_ | refine SThen_n ?_ | refine SThen_r ?_ | refine SThen_e ?_ | refine SIn_n ?_ | refine SIn_r ?_ | refine SIn_eq ?_ | refine SW_skip ?_ | refine SW_exit ?_ | refine SW_ret ?_ | refine SPost_r ?_) | ((with_reducible refine SIn_ne ?_ ?_); focus decide) | ((with_reducible refine SW_true ?_ ?_); focus exact rfl) | ((with_reducible refine SW_false ?_ ?_); focus exact rfl) | ((first | (with_reducible apply SW_run tt_ok hG htb) | ((with_reducible apply SW_draw rfl tt_ok hG htb); (focus kernel_rfl); (focus (simp only [List.range, List.range.loop, List.size_toArray, List.length_cons, List.length_nil, Nat.reduceAdd])))); focus ((repeat' (first | (with_reducible exact runX_nil) | (with_reducible exact runI_nil) | ((first | (with_reducible apply runX_cons) | (with_reducible apply runI_cons)); focus (simp (discharger := omega) only [go_sem, tOut, tErr, ↓reduceIte, reduceIte, Nat.reduceEqDiff, Nat.reduceLT, Nat.reduceLeDiff, Nat.reduceAdd, Nat.reduceSub, Nat.reduceMul, Nat.reduceDiv, Nat.reduceMod, Nat.reduceBEq, Int.reduceEq, Int.reduceLT, Int.reduceLE, Int.reduceNeg, Int.reduceToNat, reduceCtorEq]; with_reducible rfl)))); done)))
      refine SW_norm (Norm.fixBox 1 rfl rfl) ?_
      refine SW_norm (Norm.fixBox 3 rfl rfl) ?_
      repeat' (first | (with_reducible first | refine SW_seq ?_ | refine SW_block ?_ | refine SThen_n ?_ | refine SThen_r ?_ | refine SThen_e ?_ | refine SIn_n ?_ | refine SIn_r ?_ | refine SIn_eq ?_ | refine SW_skip ?_ | refine SW_exit ?_ | refine SW_ret ?_ | refine SPost_r ?_) | ((with_reducible refine SIn_ne ?_ ?_); focus decide) | ((with_reducible refine SW_true ?_ ?_); focus exact rfl) | ((with_reducible refine SW_false ?_ ?_); focus exact rfl) | ((first | (with_reducible apply SW_run tt_ok hG htb) | ((with_reducible apply SW_draw rfl tt_ok hG htb); (focus kernel_rfl); (focus (simp only [List.range, List.range.loop, List.size_toArray, List.length_cons, List.length_nil, Nat.reduceAdd])))); focus ((repeat' (first | (with_reducible exact runX_nil) | (with_reducible exact runI_nil) | ((first | (with_reducible apply runX_cons) | (with_reducible apply runI_cons)); focus (simp (discharger := omega) only [go_sem, tOut, tAuto, ↓reduceIte, reduceIte, Nat.reduceEqDiff, Nat.reduceLT, Nat.reduceLeDiff, Nat.reduceAdd, Nat.reduceSub, Nat.reduceMul, Nat.reduceDiv, Nat.reduceMod, Nat.reduceBEq, Int.reduceEq, Int.reduceLT, Int.reduceLE, Int.reduceNeg, Int.reduceToNat, reduceCtorEq]; with_reducible rfl)))); done)))
      exact (by simp (discharger := omega) only [go_sem, tAuto, ↓reduceIte, reduceIte, Nat.reduceEqDiff, Nat.reduceLT, Nat.reduceLeDiff, Nat.reduceAdd, Nat.reduceSub, Nat.reduceMul, Nat.reduceDiv, Nat.reduceMod, Nat.reduceBEq, Int.reduceEq, Int.reduceLT, Int.reduceLE, Int.reduceNeg, Int.reduceToNat, reduceCtorEq])
  · have e1 : isErr o v = outErr o := by unfold isErr; rw [if_pos h]
    have e2 : isOf o v = .zero := by unfold isOf; rw [if_pos (.inl h)]
    rw [e1, e2]
    generalize outErr o = f at *
    have htb := Tab.cons c1 Tab.nil
    refine snd_of_body (n := 33) (tm := [(0, .t (tOut o)), (1, .t (tInt v))]) (rs := [.cell 4 44, .tmp 5]) tt_ok Try.func14 rfl rfl rfl rfl rfl ?_
    repeat' (first | (with_reducible first | refine SW_seq ?_ | refine SW_block ?_ | refine SThen_n ?_ | refine SThen_r ?_ | refine SThen_e ?_ | refine SIn_n ?_ | refine SIn_r ?_ | refine SIn_eq ?_ | refine SW_skip ?_ | refine SW_exit ?_ | refine SW_ret ?_ | refine SPost_r ?_) | ((with_reducible refine SIn_ne ?_ ?_); focus decide) | ((with_reducible refine SW_true ?_ ?_); focus exact rfl) | ((with_reducible refine SW_false ?_ ?_); focus exact rfl) | ((first | (with_reducible apply SW_run tt_ok hG htb) | ((with_reducible apply SW_draw rfl tt_ok hG htb); (focus kernel_rfl); (focus (simp only [List.range, List.range.loop, List.size_toArray, List.length_cons, List.length_nil, Nat.reduceAdd])))); focus ((repeat' (first | (with_reducible exact runX_nil) | (with_reducible exact runI_nil) | ((first | (with_reducible apply runX_cons) | (with_reducible apply runI_cons)); focus (simp (discharger := omega) only [go_sem, tOut, tErr, h, ↓reduceIte, reduceIte, Nat.reduceEqDiff, Nat.reduceLT, Nat.reduceLeDiff, Nat.reduceAdd, Nat.reduceSub, Nat.reduceMul, Nat.reduceDiv, Nat.reduceMod, Nat.reduceBEq, Int.reduceEq, Int.reduceLT, Int.reduceLE, Int.reduceNeg, Int.reduceToNat, reduceCtorEq]; with_reducible rfl)))); done)))
    exact (by simp (discharger := omega) only [go_sem, tAuto, GAuto.zero, tErr, h, ↓reduceIte, reduceIte, Nat.reduceEqDiff, Nat.reduceLT, Nat.reduceLeDiff, Nat.reduceAdd, Nat.reduceSub, Nat.reduceMul, Nat.reduceDiv, Nat.reduceMod, Nat.reduceBEq, Int.reduceEq, Int.reduceLT, Int.reduceLE, Int.reduceNeg, Int.reduceToNat, reduceCtorEq])
end
end Go.Proofs.Ytfhncnhkeodngaa
namespace Go.Proofs.Ytfhncnhkeodngaa
open Go.RowKit

theorem map_tInt_inj {l m : List Int} (h : l.map tInt = m.map tInt) : l = m := (List.map_inj_right (fun a b e => by simpa [tInt] using e)).1 h
theorem map_tInts_inj {l m : List (List Int)} (h : l.map tInts = m.map tInts) : l = m := (List.map_inj_right (fun a b e => map_tInt_inj (by simpa [tInts] using e))).1 h
section
variable {G : World → Prop} (hG : Lasting G)
include hG
set_option maxHeartbeats 4000000 in
theorem Like_fine (o p : GOut) (h : outErr o = 0) (h2 : outErr p = 0) (hb : o.base = p.base) : Snd Try.prog G 17 [tOut o, tOut p] (.tup [tAuto (autoL o.base 2 ((radix o.base).toNat * (radix o.base).toNat) (likeL o p (radix o.base).toNat)), tErr (errL ((radix o.base).toNat * (radix o.base).toNat) (likeL o p (radix o.base).toNat))]) := by
  have c1 := WCheck_snd hG o
  have c1b := WCheck_snd hG p
  rw [h] at c1
  rw [h2] at c1b
  have g := out_ok h
  have g2 := out_ok h2
  obtain ⟨m1, m2⟩ := many_two g.k_eq g.k2
  have hk := g.k_eq
  have hlo : (lateO o.outs).length = o.next.length + 1 := by simp [lateO, g.outs]
  have hlp : (lateO p.outs).length = p.next.length + 1 := by simp [lateO, g2.outs]
  have hm20 := g.m20
  have hm20b := g2.m20
  have hA := late_rows g.rows g.m0
  have hB := late_rows g2.rows g2.m0
  rw [← hb] at hB
  have hlall := (allA_isLeast m1 m2).1
  have c2 := outs_snd hG o (by have := g.outs; have := g.m0; omega) (by have := g.outs; omega)
  have c3 := late_snd hG o g
  have c2b := outs_snd hG p (by have := g2.outs; have := g2.m0; omega) (by have := g2.outs; omega)
  have c3b := late_snd hG p g2
  have c4 := pairs2_snd hG o.base (ma := o.next.length + 1) (mb := p.next.length + 1) (A := late o.next) (B := late p.next) m1 m2 hk rfl hA hB ⟨by omega, by omega, by omega, by omega⟩ 44 [.ptr [tInts (lateO o.outs)], .ptr [tInts (lateO p.outs)]] (fun x y => decide (sayAt o x = sayAt p y))
    (fun x y hx hy => LikeF_snd hG (lateO o.outs) (lateO p.outs) x y (by omega) (by omega) (by omega) (by omega)) (gauto_eta _ _ _ hlall.base hlall.tracks) rfl (by decide) (by decide) (by decide)
  have hL : (fun w => decide (sayAt o (runS (late o.next) 0 (List.map (fun x => x / (radix o.base).toNat) w)) = sayAt p (runS (late p.next) 0 (List.map (fun x => x % (radix o.base).toNat) w))) && rightWd o.base 2 w) = likeL o p (radix o.base).toNat := rfl
  rw [hL] at c4
  generalize autoL o.base 2 ((radix o.base).toNat * (radix o.base).toNat) (likeL o p (radix o.base).toNat) = au at *
  have hec := errL_cases ((radix o.base).toNat * (radix o.base).toNat) (likeL o p (radix o.base).toNat)
  generalize errL ((radix o.base).toNat * (radix o.base).toNat) (likeL o p (radix o.base).toNat) = er at *
  clear hL hlall hA hB hec hlo hlp g g2 m1 m2
  refine snd_of_body (n := 44) (tm := [(0, .t (tOut o)), (1, .t (tOut p))]) (rs := [.cell 4 44, .tmp 5]) tt_ok Try.func17 rfl rfl rfl rfl rfl ?_
  have htb := Tab.cons c1 Tab.nil
  repeat' (first | (with_reducible first | refine SW_seq ?_ | refine SW_block ?_ | refine SThen_n ?_ | refine SThen_r ?_ | refine SThen_e ?_ | refine SIn_n ?_ | refine SIn_r ?_ | refine SIn_eq ?_ | refine SW_skip ?_ | refine SW_exit ?_ | refine SW_ret ?_ | refine SPost_r ?_) | ((with_reducible refine SIn_ne ?_ ?_); focus decide) | ((with_reducible refine SW_true ?_ ?_); focus exact rfl) | ((with_reducible refine SW_false ?_ ?_); focus exact rfl) | ((first | (with_reducible apply SW_run tt_ok hG htb) | ((with_reducible apply SW_draw rfl tt_ok hG htb); (focus kernel_rfl); (focus (simp only [List.range, List.range.loop, List.size_toArray, List.length_cons, List.length_nil, Nat.reduceAdd])))); focus ((repeat' (first | (with_reducible exact runX_nil) | (with_reducible exact runI_nil) | ((first | (with_reducible apply runX_cons) | (with_reducible apply runI_cons)); focus (simp (discharger := omega) only [go_sem, tOut, tErr, ↓reduceIte, reduceIte, Nat.reduceEqDiff, Nat.reduceLT, Nat.reduceLeDiff, Nat.reduceAdd, Nat.reduceSub, Nat.reduceMul, Nat.reduceDiv, Nat.reduceMod, Nat.reduceBEq, Int.reduceEq, Int.reduceLT, Int.reduceLE, Int.reduceNeg, Int.reduceToNat, reduceCtorEq]; with_reducible rfl)))); done)))
  clear htb
  have htb := Tab.cons c1b Tab.nil
  repeat' (first | (with_reducible first | refine SW_seq ?_ | refine SW_block ?_ | refine SThen_n ?_ | refine SThen_r ?_ | refine SThen_e ?_ | refine SIn_n ?_ | refine SIn_r ?_ | refine SIn_eq ?_ | refine SW_skip ?_ | refine SW_exit ?_ | refine SW_ret ?_ | refine SPost_r ?_) | ((with_reducible refine SIn_ne ?_ ?_); focus decide) | ((with_reducible refine SW_true ?_ ?_); focus exact rfl) | ((with_reducible refine SW_false ?_ ?_); focus exact rfl) | ((first | (with_reducible apply SW_run tt_ok hG htb) | ((with_reducible apply SW_draw rfl tt_ok hG htb); (focus kernel_rfl); (focus (simp only [List.range, List.range.loop, List.size_toArray, List.length_cons, List.length_nil, Nat.reduceAdd])))); focus ((repeat' (first | (with_reducible exact runX_nil) | (with_reducible exact runI_nil) | ((first | (with_reducible apply runX_cons) | (with_reducible apply runI_cons)); focus (simp (discharger := omega) only [go_sem, tOut, tErr, ↓reduceIte, reduceIte, Nat.reduceEqDiff, Nat.reduceLT, Nat.reduceLeDiff, Nat.reduceAdd, Nat.reduceSub, Nat.reduceMul, Nat.reduceDiv, Nat.reduceMod, Nat.reduceBEq, Int.reduceEq, Int.reduceLT, Int.reduceLE, Int.reduceNeg, Int.reduceToNat, reduceCtorEq]; with_reducible rfl)))); done)))
  clear htb
  by_cases hop : o.next = p.next ∧ o.outs = p.outs
  · obtain ⟨e1, e2⟩ := hop
    rw [← e1, ← e2] at c4 ⊢
    generalize late o.next = A at *
    generalize lateO o.outs = oo at *
    rw [tOut, ← hb, ← e1, ← e2] at c2b c3b
    have htb := Tab.cons c2 (Tab.cons c3 (Tab.cons c4 Tab.nil))
    refine SW_norm ((Norm.hole _).trans (Norm.hole _)) ?_
    (with_reducible apply SW_drawA [(4, 3), (5, 4)] rfl tt_ok hG htb)
    · kernel_rfl
    · simp only [List.range, List.range.loop, List.size_toArray, List.length_cons, List.length_nil, Nat.reduceAdd]
      repeat' (first | (with_reducible exact runG_nil) | ((with_reducible apply runG_cons); focus (simp (discharger := omega) only [go_sem, tOut, hb, ↓reduceIte, reduceIte, Nat.reduceEqDiff, Nat.reduceLT, Nat.reduceLeDiff, Nat.reduceAdd, Nat.reduceSub, Nat.reduceMul, Nat.reduceDiv, Nat.reduceMod, Nat.reduceBEq, Int.reduceEq, Int.reduceLT, Int.reduceLE, Int.reduceNeg, Int.reduceToNat, reduceCtorEq]; with_reducible rfl)))
    repeat' (first | (with_reducible first | refine SW_seq ?_ | refine SW_block ?_ | refine SThen_n ?_ | refine SThen_r ?_ | refine SThen_e ?_ | refine SIn_n ?_ | refine SIn_r ?_ | refine SIn_eq ?_ | refine SW_skip ?_ | refine SW_exit ?_ | refine SW_ret ?_ | refine SPost_r ?_) | ((with_reducible refine SIn_ne ?_ ?_); focus decide) | ((with_reducible refine SW_true ?_ ?_); focus exact rfl) | ((with_reducible refine SW_false ?_ ?_); focus exact rfl) | ((first | (with_reducible apply SW_run tt_ok hG htb) | ((with_reducible apply SW_draw rfl tt_ok hG htb); (focus kernel_rfl); (focus (simp only [List.range, List.range.loop, List.size_toArray, List.length_cons, List.length_nil, Nat.reduceAdd])))); focus ((repeat' (first | (with_reducible exact runX_nil) | (with_reducible exact runI_nil) | ((first | (with_reducible apply runX_cons) | (with_reducible apply runI_cons)); focus (simp (discharger := omega) only [go_sem, tOut, hb, ↓reduceIte, reduceIte, Nat.reduceEqDiff, Nat.reduceLT, Nat.reduceLeDiff, Nat.reduceAdd, Nat.reduceSub, Nat.reduceMul, Nat.reduceDiv, Nat.reduceMod, Nat.reduceBEq, Int.reduceEq, Int.reduceLT, Int.reduceLE, Int.reduceNeg, Int.reduceToNat, reduceCtorEq]; with_reducible rfl)))); done)))
    refine SW_norm (Norm.fixBox 3 rfl rfl) ?_
    refine SW_norm (Norm.fixBox 4 rfl rfl) ?_
    repeat' (first | (with_reducible first | refine SW_seq ?_ | refine SW_block ?_ | refine SThen_n ?_ | refine SThen_r ?_ | refine SThen_e ?_ | refine SIn_n ?_ | refine SIn_r ?_ | refine SIn_eq ?_ | refine SW_skip ?_ | refine SW_exit ?_ | refine SW_ret ?_ | refine SPost_r ?_) | ((with_reducible refine SIn_ne ?_ ?_); focus decide) | ((with_reducible refine SW_true ?_ ?_); focus exact rfl) | ((with_reducible refine SW_false ?_ ?_); focus exact rfl) | ((first | (with_reducible apply SW_run tt_ok hG htb) | ((with_reducible apply SW_draw rfl tt_ok hG htb); (focus kernel_rfl); (focus (simp only [List.range, List.range.loop, List.size_toArray, List.length_cons, List.length_nil, Nat.reduceAdd])))); focus ((repeat' (first | (with_reducible exact runX_nil) | (with_reducible exact runI_nil) | ((first | (with_reducible apply runX_cons) | (with_reducible apply runI_cons)); focus (simp (discharger := omega) only [go_sem, tOut, tAuto, hb, ↓reduceIte, reduceIte, Nat.reduceEqDiff, Nat.reduceLT, Nat.reduceLeDiff, Nat.reduceAdd, Nat.reduceSub, Nat.reduceMul, Nat.reduceDiv, Nat.reduceMod, Nat.reduceBEq, Int.reduceEq, Int.reduceLT, Int.reduceLE, Int.reduceNeg, Int.reduceToNat, reduceCtorEq]; with_reducible rfl)))); done)))
    exact (by simp (discharger := omega) only [go_sem, tAuto, ↓reduceIte, reduceIte, Nat.reduceEqDiff, Nat.reduceLT, Nat.reduceLeDiff, Nat.reduceAdd, Nat.reduceSub, Nat.reduceMul, Nat.reduceDiv, Nat.reduceMod, Nat.reduceBEq, Int.reduceEq, Int.reduceLT, Int.reduceLE, Int.reduceNeg, Int.reduceToNat, reduceCtorEq])
  · have hne1 : ¬ (o.next.map tInts = p.next.map tInts ∧ o.outs.map tInt = p.outs.map tInt) := fun e => hop ⟨map_tInts_inj e.1, map_tInt_inj e.2⟩
    have hne2 : ¬ (p.next.map tInts = o.next.map tInts ∧ p.outs.map tInt = o.outs.map tInt) := fun e => hne1 ⟨e.1.symm, e.2.symm⟩
    generalize late o.next = A at *
    generalize lateO o.outs = oo at *
    generalize late p.next = B at *
    generalize lateO p.outs = pp at *
    have htb := Tab.cons c2 (Tab.cons c3 (Tab.cons c2b (Tab.cons c3b (Tab.cons c4 Tab.nil))))
    refine SW_norm ((Norm.hole _).trans (Norm.hole _)) ?_
    (with_reducible apply SW_drawA [(4, 3), (5, 4)] rfl tt_ok hG htb)
    · kernel_rfl
    · simp only [List.range, List.range.loop, List.size_toArray, List.length_cons, List.length_nil, Nat.reduceAdd]
      repeat' (first | (with_reducible exact runG_nil) | ((with_reducible apply runG_cons); focus (simp (discharger := omega) only [go_sem, tOut, hb, List.cons.injEq, T.agg.injEq, T.list.injEq, hne1, hne2, ↓reduceIte, reduceIte, Nat.reduceEqDiff, Nat.reduceLT, Nat.reduceLeDiff, Nat.reduceAdd, Nat.reduceSub, Nat.reduceMul, Nat.reduceDiv, Nat.reduceMod, Nat.reduceBEq, Int.reduceEq, Int.reduceLT, Int.reduceLE, Int.reduceNeg, Int.reduceToNat, reduceCtorEq]; with_reducible rfl)))
    repeat' (first | (with_reducible first | refine SW_seq ?_ | refine SW_block ?_ | refine SThen_n ?_ | refine SThen_r ?_ | refine SThen_e ?_ | refine SIn_n ?_ | refine SIn_r ?_ | refine SIn_eq ?_ | refine SW_skip ?_ | refine SW_exit ?_ | refine SW_ret ?_ | refine SPost_r ?_) | ((with_reducible refine SIn_ne ?_ ?_); focus decide) | ((with_reducible refine SW_true ?_ ?_); focus exact rfl) | ((with_reducible refine SW_false ?_ ?_); focus exact rfl) | ((first | (with_reducible apply SW_run tt_ok hG htb) | ((with_reducible apply SW_draw rfl tt_ok hG htb); (focus kernel_rfl); (focus (simp only [List.range, List.range.loop, List.size_toArray, List.length_cons, List.length_nil, Nat.reduceAdd])))); focus ((repeat' (first | (with_reducible exact runX_nil) | (with_reducible exact runI_nil) | ((first | (with_reducible apply runX_cons) | (with_reducible apply runI_cons)); focus (simp (discharger := omega) only [go_sem, tOut, hb, List.cons.injEq, T.agg.injEq, T.list.injEq, hne1, hne2, ↓reduceIte, reduceIte, Nat.reduceEqDiff, Nat.reduceLT, Nat.reduceLeDiff, Nat.reduceAdd, Nat.reduceSub, Nat.reduceMul, Nat.reduceDiv, Nat.reduceMod, Nat.reduceBEq, Int.reduceEq, Int.reduceLT, Int.reduceLE, Int.reduceNeg, Int.reduceToNat, reduceCtorEq]; with_reducible rfl)))); done)))
    refine SW_norm (Norm.fixBox 3 rfl rfl) ?_
    refine SW_norm (Norm.fixBox 4 rfl rfl) ?_
    repeat' (first | (with_reducible first | refine SW_seq ?_ | refine SW_block ?_ | refine SThen_n ?_ | refine SThen_r ?_ | refine SThen_e ?_ | refine SIn_n ?_ | refine SIn_r ?_ | refine SIn_eq ?_ | refine SW_skip ?_ | refine SW_exit ?_ | refine SW_ret ?_ | refine SPost_r ?_) | ((with_reducible refine SIn_ne ?_ ?_); focus decide) | ((with_reducible refine SW_true ?_ ?_); focus exact rfl) | ((with_reducible refine SW_false ?_ ?_); focus exact rfl) | ((first | (with_reducible apply SW_run tt_ok hG htb) | ((with_reducible apply SW_draw rfl tt_ok hG htb); (focus kernel_rfl); (focus (simp only [List.range, List.range.loop, List.size_toArray, List.length_cons, List.length_nil, Nat.reduceAdd])))); focus ((repeat' (first | (with_reducible exact runX_nil) | (with_reducible exact runI_nil) | ((first | (with_reducible apply runX_cons) | (with_reducible apply runI_cons)); focus (simp (discharger := omega) only [go_sem, tOut, tAuto, hb, List.cons.injEq, T.agg.injEq, T.list.injEq, hne1, hne2, ↓reduceIte, reduceIte, Nat.reduceEqDiff, Nat.reduceLT, Nat.reduceLeDiff, Nat.reduceAdd, Nat.reduceSub, Nat.reduceMul, Nat.reduceDiv, Nat.reduceMod, Nat.reduceBEq, Int.reduceEq, Int.reduceLT, Int.reduceLE, Int.reduceNeg, Int.reduceToNat, reduceCtorEq]; with_reducible rfl)))); done)))
    exact (by simp (discharger := omega) only [go_sem, tAuto, ↓reduceIte, reduceIte, Nat.reduceEqDiff, Nat.reduceLT, Nat.reduceLeDiff, Nat.reduceAdd, Nat.reduceSub, Nat.reduceMul, Nat.reduceDiv, Nat.reduceMod, Nat.reduceBEq, Int.reduceEq, Int.reduceLT, Int.reduceLE, Int.reduceNeg, Int.reduceToNat, reduceCtorEq])
theorem Like_snd (o p : GOut) : Snd Try.prog G 17 [tOut o, tOut p] (.tup [tAuto (likeOf o p), tErr (likeErr o p)]) := by
  by_cases h : outErr o = 0
  · by_cases h2 : outErr p = 0
    · by_cases hb : o.base = p.base
      · have e1 : likeErr o p = errL ((radix o.base).toNat * (radix o.base).toNat) (likeL o p (radix o.base).toNat) := by unfold likeErr; rw [if_neg (by rw [h]; simp), if_neg (by rw [h2]; simp), if_neg (by rw [hb]; simp)]
        have e2 : likeOf o p = autoL o.base 2 ((radix o.base).toNat * (radix o.base).toNat) (likeL o p (radix o.base).toNat) := by unfold likeOf; rw [if_neg (by rintro (e | e | e); exact e h; exact e h2; exact e hb)]
        rw [e1, e2]
        exact Like_fine hG o p h h2 hb
      · have c1 := WCheck_snd hG o
        have c1b := WCheck_snd hG p
        rw [h] at c1
        rw [h2] at c1b
        have e1 : likeErr o p = 2 := by unfold likeErr; rw [if_neg (by rw [h]; simp), if_neg (by rw [h2]; simp), if_pos hb]
        have e2 : likeOf o p = .zero := by unfold likeOf; rw [if_pos (.inr (.inr hb))]
        rw [e1, e2]
        refine snd_of_body (n := 44) (tm := [(0, .t (tOut o)), (1, .t (tOut p))]) (rs := [.cell 4 44, .tmp 5]) tt_ok Try.func17 rfl rfl rfl rfl rfl ?_
        have htb := Tab.cons c1 Tab.nil
        repeat' (first | (with_reducible first | refine SW_seq ?_ | refine SW_block ?_ | refine SThen_n ?_ | refine SThen_r ?_ | refine SThen_e ?_ | refine SIn_n ?_ | refine SIn_r ?_ | refine SIn_eq ?_ | refine SW_skip ?_ | refine SW_exit ?_ | refine SW_ret ?_ | refine SPost_r ?_) | ((with_reducible refine SIn_ne ?_ ?_); focus decide) | ((with_reducible refine SW_true ?_ ?_); focus exact rfl) | ((with_reducible refine SW_false ?_ ?_); focus exact rfl) | ((first | (with_reducible apply SW_run tt_ok hG htb) | ((with_reducible apply SW_draw rfl tt_ok hG htb); (focus kernel_rfl); (focus (simp only [List.range, List.range.loop, List.size_toArray, List.length_cons, List.length_nil, Nat.reduceAdd])))); focus ((repeat' (first | (with_reducible exact runX_nil) | (with_reducible exact runI_nil) | ((first | (with_reducible apply runX_cons) | (with_reducible apply runI_cons)); focus (simp (discharger := omega) only [go_sem, tOut, tErr, ↓reduceIte, reduceIte, Nat.reduceEqDiff, Nat.reduceLT, Nat.reduceLeDiff, Nat.reduceAdd, Nat.reduceSub, Nat.reduceMul, Nat.reduceDiv, Nat.reduceMod, Nat.reduceBEq, Int.reduceEq, Int.reduceLT, Int.reduceLE, Int.reduceNeg, Int.reduceToNat, reduceCtorEq]; with_reducible rfl)))); done)))
        clear htb
        have htb := Tab.cons c1b Tab.nil
        repeat' (first | (with_reducible first | refine SW_seq ?_ | refine SW_block ?_ | refine SThen_n ?_ | refine SThen_r ?_ | refine SThen_e ?_ | refine SIn_n ?_ | refine SIn_r ?_ | refine SIn_eq ?_ | refine SW_skip ?_ | refine SW_exit ?_ | refine SW_ret ?_ | refine SPost_r ?_) | ((with_reducible refine SIn_ne ?_ ?_); focus decide) | ((with_reducible refine SW_true ?_ ?_); focus exact rfl) | ((with_reducible refine SW_false ?_ ?_); focus exact rfl) | ((first | (with_reducible apply SW_run tt_ok hG htb) | ((with_reducible apply SW_draw rfl tt_ok hG htb); (focus kernel_rfl); (focus (simp only [List.range, List.range.loop, List.size_toArray, List.length_cons, List.length_nil, Nat.reduceAdd])))); focus ((repeat' (first | (with_reducible exact runX_nil) | (with_reducible exact runI_nil) | ((first | (with_reducible apply runX_cons) | (with_reducible apply runI_cons)); focus (simp (discharger := omega) only [go_sem, tOut, tErr, hb, ↓reduceIte, reduceIte, Nat.reduceEqDiff, Nat.reduceLT, Nat.reduceLeDiff, Nat.reduceAdd, Nat.reduceSub, Nat.reduceMul, Nat.reduceDiv, Nat.reduceMod, Nat.reduceBEq, Int.reduceEq, Int.reduceLT, Int.reduceLE, Int.reduceNeg, Int.reduceToNat, reduceCtorEq]; with_reducible rfl)))); done)))
        exact (by simp (discharger := omega) only [go_sem, tAuto, GAuto.zero, tErr, ↓reduceIte, reduceIte, Nat.reduceEqDiff, Nat.reduceLT, Nat.reduceLeDiff, Nat.reduceAdd, Nat.reduceSub, Nat.reduceMul, Nat.reduceDiv, Nat.reduceMod, Nat.reduceBEq, Int.reduceEq, Int.reduceLT, Int.reduceLE, Int.reduceNeg, Int.reduceToNat, reduceCtorEq])
    · have c1 := WCheck_snd hG o
      have c1b := WCheck_snd hG p
      rw [h] at c1
      have e1 : likeErr o p = outErr p := by unfold likeErr; rw [if_neg (by rw [h]; simp), if_pos h2]
      have e2 : likeOf o p = .zero := by unfold likeOf; rw [if_pos (.inr (.inl h2))]
      rw [e1, e2]
      generalize outErr p = f at *
      refine snd_of_body (n := 44) (tm := [(0, .t (tOut o)), (1, .t (tOut p))]) (rs := [.cell 4 44, .tmp 5]) tt_ok Try.func17 rfl rfl rfl rfl rfl ?_
      have htb := Tab.cons c1 Tab.nil
      repeat' (first | (with_reducible first | refine SW_seq ?_ | refine SW_block ?_ | refine SThen_n ?_ | refine SThen_r ?_ | refine SThen_e ?_ | refine SIn_n ?_ | refine SIn_r ?_ | refine SIn_eq ?_ | refine SW_skip ?_ | refine SW_exit ?_ | refine SW_ret ?_ | refine SPost_r ?_) | ((with_reducible refine SIn_ne ?_ ?_); focus decide) | ((with_reducible refine SW_true ?_ ?_); focus exact rfl) | ((with_reducible refine SW_false ?_ ?_); focus exact rfl) | ((first | (with_reducible apply SW_run tt_ok hG htb) | ((with_reducible apply SW_draw rfl tt_ok hG htb); (focus kernel_rfl); (focus (simp only [List.range, List.range.loop, List.size_toArray, List.length_cons, List.length_nil, Nat.reduceAdd])))); focus ((repeat' (first | (with_reducible exact runX_nil) | (with_reducible exact runI_nil) | ((first | (with_reducible apply runX_cons) | (with_reducible apply runI_cons)); focus (simp (discharger := omega) only [go_sem, tOut, tErr, ↓reduceIte, reduceIte, Nat.reduceEqDiff, Nat.reduceLT, Nat.reduceLeDiff, Nat.reduceAdd, Nat.reduceSub, Nat.reduceMul, Nat.reduceDiv, Nat.reduceMod, Nat.reduceBEq, Int.reduceEq, Int.reduceLT, Int.reduceLE, Int.reduceNeg, Int.reduceToNat, reduceCtorEq]; with_reducible rfl)))); done)))
      clear htb
      have htb := Tab.cons c1b Tab.nil
      repeat' (first | (with_reducible first | refine SW_seq ?_ | refine SW_block ?_ | refine SThen_n ?_ | refine SThen_r ?_ | refine SThen_e ?_ | refine SIn_n ?_ | refine SIn_r ?_ | refine SIn_eq ?_ | refine SW_skip ?_ | refine SW_exit ?_ | refine SW_ret ?_ | refine SPost_r ?_) | ((with_reducible refine SIn_ne ?_ ?_); focus decide) | ((with_reducible refine SW_true ?_ ?_); focus exact rfl) | ((with_reducible refine SW_false ?_ ?_); focus exact rfl) | ((first | (with_reducible apply SW_run tt_ok hG htb) | ((with_reducible apply SW_draw rfl tt_ok hG htb); (focus kernel_rfl); (focus (simp only [List.range, List.range.loop, List.size_toArray, List.length_cons, List.length_nil, Nat.reduceAdd])))); focus ((repeat' (first | (with_reducible exact runX_nil) | (with_reducible exact runI_nil) | ((first | (with_reducible apply runX_cons) | (with_reducible apply runI_cons)); focus (simp (discharger := omega) only [go_sem, tOut, tErr, h2, ↓reduceIte, reduceIte, Nat.reduceEqDiff, Nat.reduceLT, Nat.reduceLeDiff, Nat.reduceAdd, Nat.reduceSub, Nat.reduceMul, Nat.reduceDiv, Nat.reduceMod, Nat.reduceBEq, Int.reduceEq, Int.reduceLT, Int.reduceLE, Int.reduceNeg, Int.reduceToNat, reduceCtorEq]; with_reducible rfl)))); done)))
      exact (by simp (discharger := omega) only [go_sem, tAuto, GAuto.zero, tErr, h2, ↓reduceIte, reduceIte, Nat.reduceEqDiff, Nat.reduceLT, Nat.reduceLeDiff, Nat.reduceAdd, Nat.reduceSub, Nat.reduceMul, Nat.reduceDiv, Nat.reduceMod, Nat.reduceBEq, Int.reduceEq, Int.reduceLT, Int.reduceLE, Int.reduceNeg, Int.reduceToNat, reduceCtorEq])
  · have c1 := WCheck_snd hG o
    have e1 : likeErr o p = outErr o := by unfold likeErr; rw [if_pos h]
    have e2 : likeOf o p = .zero := by unfold likeOf; rw [if_pos (.inl h)]
    rw [e1, e2]
    generalize outErr o = f at *
    refine snd_of_body (n := 44) (tm := [(0, .t (tOut o)), (1, .t (tOut p))]) (rs := [.cell 4 44, .tmp 5]) tt_ok Try.func17 rfl rfl rfl rfl rfl ?_
    have htb := Tab.cons c1 Tab.nil
    repeat' (first | (with_reducible first | refine SW_seq ?_ | refine SW_block ?_ | refine SThen_n ?_ | refine SThen_r ?_ | refine SThen_e ?_ | refine SIn_n ?_ | refine SIn_r ?_ | refine SIn_eq ?_ | refine SW_skip ?_ | refine SW_exit ?_ | refine SW_ret ?_ | refine SPost_r ?_) | ((with_reducible refine SIn_ne ?_ ?_); focus decide) | ((with_reducible refine SW_true ?_ ?_); focus exact rfl) | ((with_reducible refine SW_false ?_ ?_); focus exact rfl) | ((first | (with_reducible apply SW_run tt_ok hG htb) | ((with_reducible apply SW_draw rfl tt_ok hG htb); (focus kernel_rfl); (focus (simp only [List.range, List.range.loop, List.size_toArray, List.length_cons, List.length_nil, Nat.reduceAdd])))); focus ((repeat' (first | (with_reducible exact runX_nil) | (with_reducible exact runI_nil) | ((first | (with_reducible apply runX_cons) | (with_reducible apply runI_cons)); focus (simp (discharger := omega) only [go_sem, tOut, tErr, h, ↓reduceIte, reduceIte, Nat.reduceEqDiff, Nat.reduceLT, Nat.reduceLeDiff, Nat.reduceAdd, Nat.reduceSub, Nat.reduceMul, Nat.reduceDiv, Nat.reduceMod, Nat.reduceBEq, Int.reduceEq, Int.reduceLT, Int.reduceLE, Int.reduceNeg, Int.reduceToNat, reduceCtorEq]; with_reducible rfl)))); done)))
    exact (by simp (discharger := omega) only [go_sem, tAuto, GAuto.zero, tErr, h, ↓reduceIte, reduceIte, Nat.reduceEqDiff, Nat.reduceLT, Nat.reduceLeDiff, Nat.reduceAdd, Nat.reduceSub, Nat.reduceMul, Nat.reduceDiv, Nat.reduceMod, Nat.reduceBEq, Int.reduceEq, Int.reduceLT, Int.reduceLE, Int.reduceNeg, Int.reduceToNat, reduceCtorEq])
end
end Go.Proofs.Ytfhncnhkeodngaa
namespace Go.Proofs.Ytfhncnhkeodngaa
open Go.RowKit

end Go.Proofs.Ytfhncnhkeodngaa
namespace Go.Proofs.Ytfhncnhkeodngaa
open Go.RowKit


end Go.Proofs.Ytfhncnhkeodngaa
namespace Go.Proofs.Ytfhncnhkeodngaa
open Go.RowKit

theorem valErr_ok {base : Int} {d : List Int} (h : digitsFault base d = 0) (hv : wv base d ≤ 1099511627776) : valErr base d = 0 ∧ valOf base d = wv base d := by
  have : valErr base d = 0 := by simp [valErr, h]; omega
  exact ⟨this, by simp [valOf, this]⟩

end Go.Proofs.Ytfhncnhkeodngaa
namespace Go.Proofs.Ytfhncnhkeodngaa
open Go.RowKit

end Go.Proofs.Ytfhncnhkeodngaa
namespace Go.Proofs.Ytfhncnhkeodngaa
open Go.RowKit

end Go.Proofs.Ytfhncnhkeodngaa
namespace Go.Proofs.Ytfhncnhkeodngaa
open Go.RowKit

def okNum (n : Int) : Bool := decide (0 ≤ n ∧ n ≤ 1099511627776)
def wordErr (base : Int) (nums : List Int) : Int := if manyErr base nums.length ≠ 0 then manyErr base nums.length else if nums.all okNum then 0 else 1
/-- Rows of digits of numbers. -/
def RowsOf (base : Int) (nums : List Int) (rows : List (List Int)) : Prop := rows.length = nums.length ∧ ∀ i (h1 : i < nums.length) (h2 : i < rows.length), IsOf base nums[i] rows[i]
/-- What Word answers. -/
def WordIs (base : Int) (nums : List Int) (l : List Int) : Prop :=
  (wordErr base nums ≠ 0 → l = []) ∧ (wordErr base nums = 0 → ∃ rows, RowsOf base nums rows ∧ l = wordRows (radix base) (longest rows) rows)

theorem pad_at (long : Nat) (d : List Int) (i : Nat) (hd : d.length ≤ long) (hi : i < long) :
    (pad long d).getD i 0 = if h : long ≤ i + d.length then d[i + d.length - long]'(by omega) else 0 := by
  unfold pad
  rw [List.getD_eq_getElem?_getD, List.getElem?_append]
  by_cases h : long ≤ i + d.length
  · rw [dif_pos h, if_neg (by simp; omega)]
    have : i - (List.replicate (long - d.length) (0 : Int)).length = i + d.length - long := by simp; omega
    rw [this, List.getElem?_eq_getElem (by omega)]; rfl
  · rw [dif_neg h, if_pos (by simp; omega)]
    rw [List.getElem?_replicate, if_pos (by omega)]; rfl

end Go.Proofs.Ytfhncnhkeodngaa
namespace Go.Proofs.Ytfhncnhkeodngaa
open Go.RowKit


end Go.Proofs.Ytfhncnhkeodngaa
namespace Go.Proofs.Ytfhncnhkeodngaa
open Go.RowKit

theorem splitErr_ok {base t : Int} {l : List Int} (h : manyErr base t = 0) (hl : ¬ 60 < l.length) (hx : ∀ i (hi : i < l.length), ¬ (l[i] < 0 ∨ manyOf base t ≤ l[i])) :
    splitErr base t l = 0 ∧ splitOf base t l = (List.range t.toNat).map (trackOf (radix base) t.toNat l) := by
  have : splitErr base t l = 0 := by
    unfold splitErr
    rw [if_neg (by omega), if_neg hl, if_pos]
    rw [List.all_eq_true]
    intro x hx'
    obtain ⟨i, hi, rfl⟩ := List.mem_iff_getElem.1 hx'
    have := hx i hi
    simp; omega
  exact ⟨this, by simp [splitOf, this]⟩
/-- Rows under way: each is owned, no two share. -/
structure RowsOwn (w : World) (B : Nat) (xs : List Value) (L : Nat → List Int) : Prop where
  own : ∀ i (h : i < xs.length), w.ownsRow (B + 1) 3 1 xs[i] (L i).length ((L i).map (Value.int .i64))
  apart : ∀ i j (h1 : i < xs.length) (h2 : j < xs.length), i ≠ j → ∀ b, xs[i].ownBlock = some b → xs[j].ownBlock ≠ some b
theorem RowsOwn.congr {w : World} {B : Nat} {xs : List Value} {L L' : Nat → List Int} (h : RowsOwn w B xs L) (hL : ∀ i, i < xs.length → L i = L' i) : RowsOwn w B xs L' :=
  ⟨fun i hi => by rw [← hL i hi]; exact h.own i hi, h.apart⟩
theorem RowsOwn.keep {w w' : World} {B : Nat} {xs : List Value} {L : Nat → List Int} (h : RowsOwn w B xs L) (hb : ∀ k, B < k → k < w.heap.size → w'.heap[k]? = w.heap[k]?) : RowsOwn w' B xs L := by
  refine ⟨fun i hi => ?_, h.apart⟩
  have ho := h.own i hi
  refine ⟨ho.1, ?_⟩
  rcases ho.2 with hn | ⟨g, cap, cur, hv, hB, hg, rest⟩
  · exact .inl hn
  · exact .inr ⟨g, cap, cur, hv, hB, by rw [hb g (by omega) (block_lt hg)]; exact hg, rest⟩
theorem RowsOwn.append {w w' : World} {B : Nat} {xs : List Value} {L : Nat → List Int} (h : RowsOwn w B xs L) (q : Nat) (hq : q < xs.length) (v' : Value) (x : Int)
    (hown : w'.ownsRow (B + 1) 3 1 v' ((L q).length + 1) ((L q).map (Value.int .i64) ++ [.int .i64 x])) (hgrow : w.grownBy w' xs[q].ownBlock)
    (hwhere : v'.ownBlock = xs[q].ownBlock ∨ v'.ownBlock = some (w.heap.size + 1)) :
    RowsOwn w' B (xs.set q v') (fun i => if i = q then L q ++ [x] else L i) := by
  have hlt : ∀ i (hi : i < xs.length) b, xs[i].ownBlock = some b → b < w.heap.size := fun i hi b hb => ((h.own i hi).lt b hb).2
  refine ⟨fun i hi => ?_, fun i j h1 h2 hij b => ?_⟩
  · by_cases e : i = q
    · subst e
      rw [List.getElem_set_self, if_pos rfl]
      simpa using hown
    · rw [List.getElem_set_ne (Ne.symm e), if_neg e]
      have hi' : i < xs.length := by simpa using hi
      refine (h.own i hi').kept hgrow ?_
      cases hb : xs[i].ownBlock with
      | none => exact .inl rfl
      | some b => exact .inr fun e' => h.apart i q hi' hq e b hb e'.symm
  · have h1' : i < xs.length := by simpa using h1
    have h2' : j < xs.length := by simpa using h2
    by_cases ei : i = q
    · subst ei
      rw [List.getElem_set_self, List.getElem_set_ne hij]
      intro hb hb'
      rcases hwhere with hw | hw
      · exact h.apart i j h1' h2' hij b (hw ▸ hb) hb'
      · rw [hw] at hb
        have := hlt j h2' b hb'
        simp at hb; omega
    · rw [List.getElem_set_ne (Ne.symm ei)]
      by_cases ej : j = q
      · subst ej
        rw [List.getElem_set_self]
        intro hb hb'
        rcases hwhere with hw | hw
        · exact h.apart i j h1' h2' hij b hb (hw ▸ hb')
        · rw [hw] at hb'
          have := hlt i h1' b hb
          simp at hb'; omega
      · rw [List.getElem_set_ne (Ne.symm ej)]
        exact h.apart i j h1' h2' hij b
theorem RowsOwn.start (w : World) (B n : Nat) : RowsOwn w B (List.replicate n (.slice none 0 0)) (fun _ => []) :=
  ⟨fun i hi => by rw [List.getElem_replicate]; exact World.ownsRow_nil _ _ _ _, fun i j h1 h2 _ b hb => by rw [List.getElem_replicate] at hb; cases hb⟩
end Go.Proofs.Ytfhncnhkeodngaa
namespace Go.Proofs.Ytfhncnhkeodngaa
open Go.RowKit

end Go.Proofs.Ytfhncnhkeodngaa
namespace Go.Proofs.Ytfhncnhkeodngaa
open Go.RowKit

end Go.Proofs.Ytfhncnhkeodngaa
namespace Go.Proofs.Ytfhncnhkeodngaa
open Go.RowKit

theorem word_back {base : Int} {nums l : List Int} (he : wordErr base nums = 0) (hw : WordIs base nums l) :
    numsErr base nums.length l = 0 ∧ numsOf base nums.length l = nums ∧ rightWErr base nums.length l = 0 ∧ rightWRes base nums.length l = true ∧ (∀ h : 0 < l.length, l[0] ≠ 0) ∧ l.length ≤ 58 := by
  obtain ⟨rows, hr, rfl⟩ := hw.2 he
  have hm : manyErr base nums.length = 0 := by
    unfold wordErr at he; split at he <;> omega
  have hall : ∀ x ∈ nums, 0 ≤ x ∧ x ≤ 1099511627776 := by
    unfold wordErr at he
    rw [if_neg (by omega)] at he
    split at he
    · rename_i h
      intro x hx
      simpa [okNum] using List.all_eq_true.1 h x hx
    · omega
  obtain ⟨r0, _, _, _, hmo⟩ := many_ok hm
  simp only [Int.toNat_natCast] at hmo
  obtain ⟨hrl, hri⟩ := hr
  have hofs : ∀ d ∈ rows, ∃ n ∈ nums, IsOf base n d := by
    intro d hd
    obtain ⟨i, hi, rfl⟩ := List.mem_iff_getElem.1 hd
    exact ⟨_, List.getElem_mem (by omega), hri i (by omega) hi⟩
  have hok : ∀ d ∈ rows, okDigits base d := fun d hd => by obtain ⟨n, _, h⟩ := hofs d hd; exact h.ok
  have hlong : longest rows ≤ 58 := by
    rcases longest_mem rows with h | ⟨d, hd, h⟩
    · omega
    · obtain ⟨n, hn, ho⟩ := hofs d hd
      rw [← h]; exact ho.len r0 (hall n hn).2
  have hlen : (wordRows (radix base) (longest rows) rows).length = longest rows := by simp [wordRows]
  have hs := splitErr_ok (base := base) (t := nums.length) (l := wordRows (radix base) (longest rows) rows) hm (by omega) (fun i hi => by
    have := wordRows_letters r0 hok (longest rows) _ (List.getElem_mem hi)
    rw [hmo, ← hrl]; omega)
  have hsp : splitOf base nums.length (wordRows (radix base) (longest rows) rows) = rows.map (pad (longest rows)) := by
    rw [hs.2]
    simp only [Int.toNat_natCast]
    apply List.ext_getElem
    · simp [hrl]
    · intro i h1 h2
      have hi : i < rows.length := by simpa using h2
      have := trackOf_wordRows r0 hok i hi
      rw [hrl] at this
      simp [this]
  have hpf : ∀ i (hi : i < rows.length), digitsFault base (pad (longest rows) rows[i]) = 0 := fun i hi =>
    fault_zero.2 ⟨r0, by rw [pad_length (longest_ge (List.getElem_mem hi))]; omega, pad_ok r0 (hok _ (List.getElem_mem hi))⟩
  have hpv : ∀ i (hi : i < rows.length), valErr base (pad (longest rows) rows[i]) = 0 ∧ valOf base (pad (longest rows) rows[i]) = nums[i]'(by omega) := fun i hi => by
    have ho := hri i (by omega) hi
    have := valErr_ok (hpf i hi) (by rw [pad_val, ho.val]; exact (hall _ (List.getElem_mem _)).2)
    rw [pad_val, ho.val] at this
    exact this
  have hne : numsErr base nums.length (wordRows (radix base) (longest rows) rows) = 0 := by
    unfold numsErr
    rw [if_neg (by rw [hs.1]; decide), hsp, firstErr_zero]
    intro r hr
    obtain ⟨d, hd, rfl⟩ := List.mem_map.1 hr
    obtain ⟨i, hi, rfl⟩ := List.mem_iff_getElem.1 hd
    exact (hpv i hi).1
  have hre : rightWErr base nums.length (wordRows (radix base) (longest rows) rows) = 0 := by
    unfold rightWErr
    rw [if_neg (by rw [hs.1]; decide), hsp, firstErr_zero]
    intro r hr
    obtain ⟨d, hd, rfl⟩ := List.mem_map.1 hr
    obtain ⟨i, hi, rfl⟩ := List.mem_iff_getElem.1 hd
    exact hpf i hi
  refine ⟨hne, ?_, hre, ?_, ?_, by omega⟩
  · unfold numsOf
    rw [if_pos hne, hsp]
    apply List.ext_getElem
    · simp [hrl]
    · intro i h1 h2
      have hi : i < rows.length := by omega
      simp [(hpv i hi).2]
  · unfold rightWRes
    rw [hre, hsp]
    simp only [decide_true, Bool.true_and]
    rw [List.all_eq_true]
    intro r hr
    obtain ⟨d, hd, rfl⟩ := List.mem_map.1 hr
    obtain ⟨i, hi, rfl⟩ := List.mem_iff_getElem.1 hd
    unfold rightRes
    rw [decide_eq_true_iff]
    exact ⟨hpf i hi, pad_right (hri i (by omega) hi).right⟩
  · intro h
    exact wordRows_lead r0 hok (fun d hd => by obtain ⟨n, _, ho⟩ := hofs d hd; exact ho.lead) h

end Go.Proofs.Ytfhncnhkeodngaa
