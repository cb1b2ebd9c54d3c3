/- The law RightSpreads returns true at every input and leaves its arguments as they read. No conditions. -/
import Derived.Test.YthcclcbliedodaaLay
import Derived.Test.YthcclcbliedodaaM5
import Derived.Shelf.Slices.Clone
import Derived.Shelf.Spec.SlicesInsert
import Derived.Shelf.Spec.SlicesInsertGrow
import Derived.Ground.Names2Prog
import Derived.Lib.SmallJoins
set_option linter.unusedSimpArgs false
set_option linter.unusedVariables false
set_option linter.unnecessarySimpa false
set_option linter.unusedSectionVars false
namespace Go.Proofs
open Go.Shelf
end Go.Proofs
namespace Go.Proofs.Ythcclcbliedodaa
open Go.RowKit Go.Lib

theorem blk_set {w : World} {g i : Nat} {cs : Array Value} {t : TypeId} {fr : Nat × Nat} (h : w.heap[g]? = some (.cells cs t fr)) (v : Value) : (w.setCell ⟨g, i, none⟩ v).heap[g]? = some (.cells (cs.setIfInBounds i v) t fr) := by
  unfold World.setCell
  simp only [Array.getElem?_modify, if_true, h, Option.map_some, Option.isSome_none, Bool.false_eq_true, if_false]
theorem setCells_blk (b : Nat) : ∀ (vs : List Value) (o : Nat) (w : World) (cur : Array Value) (e : TypeId) (fr : Nat × Nat), w.heap[b]? = some (.cells cur e fr) → o + vs.length ≤ cur.size → ∃ cur' : Array Value, (w.setCells b o vs).heap[b]? = some (.cells cur' e fr) ∧ cur'.size = cur.size ∧ cur'.toList = cur.toList.take o ++ vs ++ cur.toList.drop (o + vs.length)
  | [], o, w, cur, e, fr, h, _ => ⟨cur, h, rfl, by simp⟩
  | v :: r, o, w, cur, e, fr, h, hl => by
    simp only [List.length_cons] at hl
    obtain ⟨cur', h1, h2, h3⟩ := setCells_blk b r (o + 1) (w.setCell ⟨b, o, none⟩ v) (cur.setIfInBounds o v) e fr (blk_set h v) (by simp; omega)
    refine ⟨cur', h1, by simpa using h2, ?_⟩
    have hlt : o < cur.toList.length := by simp; omega
    rw [h3, Array.toList_setIfInBounds, List.set_eq_take_append_cons_drop, if_pos hlt]
    have e1 : (cur.toList.take o).length = o := by rw [List.length_take]; omega
    have e0 : (cur.toList.take o).take (o + 1) = cur.toList.take o := List.take_of_length_le (by omega)
    have e9 : (cur.toList.take o).drop (o + 1 + r.length) = [] := List.drop_of_length_le (by omega)
    rw [List.take_append, List.drop_append, e1, e0, e9]
    have e2 : o + 1 - o = 1 := by omega
    have e3 : o + 1 + r.length - o = r.length + 1 := by omega
    rw [e2, e3]
    simp only [List.take_succ_cons, List.take_zero, List.drop_succ_cons, List.nil_append, List.drop_drop, List.append_assoc, List.cons_append, List.length_cons]
    rw [show o + 1 + r.length = o + (r.length + 1) by omega]
theorem setCells_grown (b : Nat) : ∀ (vs : List Value) (o : Nat) (w : World), w.grownBy (w.setCells b o vs) (some b)
  | [], o, w => ⟨rfl, rfl, rfl, Nat.le_refl _, fun _ _ _ => rfl⟩
  | v :: r, o, w => by
    have h := setCells_grown b r (o + 1) (w.setCell ⟨b, o, none⟩ v)
    refine ⟨h.os, h.tape, h.output, by have := h.size; rwa [World.size_setCell] at this, fun k hk hne => ?_⟩
    have h1 := h.block k (by rw [World.size_setCell]; exact hk) hne
    rw [World.setCells, h1]
    exact heap_setCell_other w _ k v (fun e => hne (by rw [e]))
theorem grown_trans {w w1 w2 : World} {o : Option Nat} (h : w.grownBy w1 o) (h2 : w1.grownBy w2 o) : w.grownBy w2 o :=
  ⟨h2.os.trans h.os, h2.tape.trans h.tape, h2.output.trans h.output, Nat.le_trans h.size h2.size, fun k hk hne => (h2.block k (Nat.lt_of_lt_of_le hk h.size) hne).trans (h.block k hk hne)⟩
theorem grown_drew (w : World) (o : Option Nat) : w.grownBy w.drew o := ⟨rfl, rfl, rfl, Nat.le_refl _, fun _ _ _ => rfl⟩
theorem iL_sz (l : List Int) : ∀ x ∈ iL l, x.cells.length = 1 := fun x hx => by
  obtain ⟨y, _, rfl⟩ := List.mem_map.1 hx; rfl
section
variable {P : Program} {C : Ctx} {hd : List Hd} {w w' : World} {e : Nat} {l ys : List Int}
theorem row_new {obs : List Ob} (hr : StR C ⟨0, [], obs⟩ hd act0 w) (hb : Below w.heap.size w w') {g n' cap : Nat} (ho : w'.ownsRow w.heap.size e 1 (.slice (some ⟨g, 0, none⟩) n' cap) n' (ys.map (Value.int .i64))) (hn : n' = ys.length) (hm : ys.length ≤ maxLen) :
    ∃ hd', StR C ⟨0, [], [.row e 1 true (iL ys)]⟩ hd' act0 w' ∧ RepS (vis C hd') w' hd' (.sref 0) (.slice (some ⟨g, 0, none⟩) n' cap) := by
  have hlt := ho.lt g rfl
  have ho2 : w'.ownsRow C.w0.heap.size e 1 (.slice (some ⟨g, 0, none⟩) n' cap) n' (ys.map (Value.int .i64)) := by
    refine ⟨ho.1, ?_⟩
    rcases ho.2 with q | ⟨g', cap', cur, q, hB, r⟩
    · exact .inl q
    · exact .inr ⟨g', cap', cur, q, Nat.le_trans hr.below.size hB, r⟩
  have hr1 := hr.new hb (.row e 1 true (iL ys)) (.sl (some ⟨g, 0, none⟩) n' cap (some g)) (fun b hbo => by
    simp only [Hd.own, Option.some.injEq] at hbo
    subst hbo
    exact hlt) ⟨by rw [iL_length]; exact hn, Nat.one_pos, by rw [iL_length]; exact hm, iL_sz ys, .inl ⟨_, ho2, rfl, iL_rep _ _ _⟩⟩
  have hlast : (hd ++ [Hd.sl (some ⟨g, 0, none⟩) n' cap (some g)])[obs.length]? = some (.sl (some ⟨g, 0, none⟩) n' cap (some g)) := by
    have := hr.hl
    simp only at this
    rw [← this, List.getElem?_append_right (Nat.le_refl _), Nat.sub_self]; rfl
  have hr2 : StR C ⟨0, [(0, .pinS obs.length (some ⟨g, 0, none⟩) n' cap)], obs ++ [.row e 1 true (iL ys)]⟩ (hd ++ [Hd.sl (some ⟨g, 0, none⟩) n' cap (some g)]) act0 w' := ⟨hr1.below, hr1.df, hr1.nt, hr1.hl, hr1.ob, hr1.own, hr1.dist, fun t y hy => (by
    simp only [look] at hy
    split at hy
    · cases hy
      exact .pinS _ _ _ _ _ hlast
    · cases hy), hr1.ext⟩
  obtain ⟨hd2, hr3⟩ := Norm.ids [obs.length] rfl _ C _ _ _ hr2
  have hp := hr3.sl 0 (.pinS 0 (some ⟨g, 0, none⟩) n' cap) (by simp [look, SV.ren, posIn])
  generalize act0.tmps.getD 0 undef = u at hp
  cases hp
  rename_i o hh
  refine ⟨hd2, ⟨hr3.below, hr3.df, hr3.nt, ?_, fun i o' h h1 h2 => hr3.ob i o' h (by simpa [Ob.ren] using h1) h2, hr3.own, hr3.dist, fun t y hy => by simp [look] at hy, hr3.ext⟩, .sref _ _ _ _ o hh⟩
  have := hr3.hl
  simpa using this
end
section
variable {G : World → Prop}
theorem Clone_snd (d : List Int) (hd1 : d.length ≤ 1000000) : SndG Try.prog G 57 [.t (tInts d)] [] [] (.sref 0) [.row 3 1 true (iL d)] := by
  refine ⟨enter_body Try.func57 rfl rfl, Nat.zero_le _, fun i l h => by simp at h, fun C hd w vs hG hr hvs hrep => ?_⟩
  obtain ⟨v, rfl⟩ : ∃ v, vs = #[v] := by
    match vs, hvs with
    | ⟨[v]⟩, _ => exact ⟨v, rfl⟩
  have hv := (hrep 0 _ _ rfl rfl).toT
  obtain ⟨a, cap, sz, xs, e1, hmx, h0, hf, ha, h1, hx⟩ := hv.listInv
  have hdl : (d.map tInt).length = d.length := List.length_map _
  have nilrow : ∀ {w' : World}, Below w.heap.size w w' → StR C ⟨0, [], [.row 3 1 true (iL [])]⟩ (hd ++ [.sl none 0 0 none]) act0 w' := fun {w'} hb => by
    have := hr.new hb (.row 3 1 true (iL [])) (.sl none 0 0 none) (fun b hb => by simp [Hd.own] at hb) ⟨rfl, Nat.one_pos, Nat.zero_le _, fun x hx => by simp [iL] at hx, .inl ⟨[], World.ownsRow_nil _ _ _ _, rfl, RepL.nil _ _⟩⟩
    exact this
  have hd0 : hd = [] := List.eq_nil_of_length_eq_zero hr.hl
  have fin : ∀ (v' : Value) (w' : World), w'.ownsRow w.heap.size 3 1 v' d.length (d.map (Value.int .i64)) → Below w.heap.size w w' → ∃ hd', StR C ⟨0, [], [.row 3 1 true (iL d)]⟩ hd' act0 w' ∧ RepS (vis C hd') w' hd' (.sref 0) v' := fun v' w' hown hb => by
    rcases hown.2 with ⟨rfl, hn⟩ | ⟨g, cap', cur, rfl, _⟩
    · obtain rfl : d = [] := List.eq_nil_of_length_eq_zero hn
      exact ⟨_, nilrow hb, .sref _ _ _ _ none (by rw [hd0]; rfl)⟩
    · exact row_new hr hb hown rfl (by unfold maxLen; omega)
  by_cases hd2 : d = []
  · subst hd2
    cases a with
    | none =>
      subst e1
      refine (Any.slices_Clone_int_nil Try.layClone _ cap w).mono fun e' w' ⟨q1, q2⟩ => ?_
      subst q1 q2
      exact ⟨_, _, rfl, nilrow (Below.refl _ _), (fun i l b h => by simp at h), (fun i hi => by simp at hi), .sref _ _ _ _ none (by rw [hd0]; rfl)⟩
    | some ad =>
      subst e1
      refine (Any.slices_Clone_int_zero Try.layClone ad cap w).mono fun e' w' ⟨v', q1, q2, _, q3⟩ => ?_
      subst q1
      obtain ⟨hd', f1, f2⟩ := fin v' w' q2 q3
      exact ⟨_, hd', rfl, f1, (fun i l b h => by simp at h), (fun i hi => by simp at hi), f2⟩
  · obtain ⟨b, off, rfl, _, hc⟩ := ha (by simpa using hd2)
    have hsz : sz = 1 := by
      cases d with
      | nil => exact (hd2 rfl).elim
      | cons z d => exact (hf (tInt z) (by simp)).symm
    subst hsz
    subst e1
    have hcell : ∀ j, j < d.length → w.cell? ⟨b, off + j, none⟩ = some (.int .i64 (d.getD j 0)) := fun j hj => by
      rw [hc j (by rw [hdl]; omega)]
      have hy := hx j (tInt d[j]) (by
        have : flat (d.map tInt) = d.map tInt := flat_iL d
        rw [this, List.getElem?_map, List.getElem?_eq_getElem hj]; rfl)
      generalize xs j = u at hy
      unfold tInt at hy
      cases hy
      rw [List.getD_eq_getElem?_getD, List.getElem?_eq_getElem hj]; rfl
    rw [hdl]
    refine (Any.slices_Clone_int Try.layClone b off d.length cap d w (Nat.le_refl _) (by omega) hcell).mono fun e' w' ⟨v', q1, q2, _, q3⟩ => ?_
    subst q1
    rw [List.take_of_length_le (Nat.le_refl _)] at q2
    obtain ⟨hd', f1, f2⟩ := fin v' w' q2 q3
    exact ⟨_, hd', rfl, f1, (fun i l b h => by simp at h), (fun i hi => by simp at hi), f2⟩
theorem drew_alloc_below (w : World) (o : Obj) : Below w.heap.size w (w.drew.alloc o) := by
  have h := alloc_below w.drew o
  exact ⟨h.os, h.tape, h.output, h.size, h.block⟩
theorem layInsert_t3 : Try.layInsert_ren.t 3 = 3 := rfl
/-- A new block that begins with these. -/
theorem owns_new {w w' : World} {g n' cap e : Nat} {arr : Array Value} {ys : List Int} (hB : w.heap.size ≤ g) (hg : w'.heap[g]? = some (.cells arr e (0, 0))) (hs : arr.size = cap) (hn : n' ≤ cap) (hm : cap ≤ maxLen) (hl : n' = ys.length) (ht : arr.toList.take n' = ys.map (Value.int .i64)) : w'.ownsRow w.heap.size e 1 (.slice (some ⟨g, 0, none⟩) n' cap) n' (ys.map (Value.int .i64)) :=
  ⟨by rw [List.length_map, Nat.mul_one, hl], .inr ⟨g, cap, arr, rfl, hB, hg, hn, hm, by rw [Nat.mul_one]; exact hs, by rw [Nat.mul_one]; exact ht⟩⟩
def insL (l : List Int) (k : Nat) (x : Int) : List Int := l.take k ++ [x] ++ l.drop k
theorem insL_length {l : List Int} {k : Nat} {x : Int} (hk : k ≤ l.length) : (insL l k x).length = l.length + 1 := by
  unfold insL; simp; omega
theorem insL_end {l : List Int} {x : Int} : insL l l.length x = l ++ [x] := by
  unfold insL; simp
set_option maxHeartbeats 4000000 in
theorem Insert_own (l : List Int) (k : Nat) (x : Int) (hk : k ≤ l.length) (hl : l.length ≤ 1000000) :
    SndG Try.prog G 56 [.sref 0, .t (tNat k), .lit [tInt x]] [.row 3 1 true (iL l)] [] (.sref 0) [.row 3 1 true (iL (insL l k x))] := by
  refine ⟨enter_body Try.func56 rfl rfl, Nat.le_refl _, fun i q h => ?_, fun C hd w vs hG hr hvs hrep => ?_⟩
  · match i, h with
    | 0, h => cases h
  obtain ⟨v0, v1, v2, rfl⟩ : ∃ v0 v1 v2, vs = #[v0, v1, v2] := by
    match vs, hvs with
    | ⟨[v0, v1, v2]⟩, _ => exact ⟨v0, v1, v2, rfl⟩
  obtain ⟨ad, cap, rfl, hd0, hown⟩ := row_open hr (hrep 0 _ _ rfl rfl)
  have hk1 : RepT (vis C hd) w (.int .i64 (k : Int)) v1 := (hrep 1 _ _ rfl rfl).toT
  cases hk1
  have hlit : RepS (vis C hd) w hd (.lit [tInt x]) v2 := hrep 2 _ _ rfl rfl
  cases hlit
  rename_i vb hlr hz
  obtain ⟨a', cap', sz', xs, e1, _, _, hf', ha, _, hx'⟩ := hlr.listInv
  obtain ⟨b', off', e2, hS, hc⟩ := ha (by simp)
  rw [e2] at e1
  injection e1 with q1 q2 q3
  injection q1 with q1
  injection q1 with q1 q4 q5
  subst q1 q4
  have hsz' : sz' = 1 := (hf' (tInt x) (by simp)).symm
  subst hsz'
  obtain ⟨lv, lt, hzb⟩ := hz (by simp)
  have hcx : w.cell? ⟨vb, 0 + 0, none⟩ = some (.int .i64 x) := by
    rw [hc 0 (by simp)]
    have hy := hx' 0 (tInt x) rfl
    generalize xs 0 = u at hy
    unfold tInt at hy
    cases hy
    rfl
  have hvs' : ∀ (j : Nat) (v : Value), ([Value.int .i64 x] : List Value)[j]? = some v → w.cell? ⟨vb, 0 + j, none⟩ = some v := fun j v hj => by
    match j, hj with
    | 0, hj => cases hj; exact hcx
  have h1v : ∀ v ∈ ([Value.int .i64 x] : List Value), v.oneCell' = true := fun v hv => by
    simp at hv; subst hv; rfl
  have hil := insL_length (x := x) hk
  have post : ∀ (v' : Value) (w' : World), (∃ hd', StR C ⟨0, [], [.row 3 1 true (iL (insL l k x))]⟩ hd' act0 w' ∧ RepS (vis C hd') w' hd' (.sref 0) v') → ∃ v hd', Ending.returned v' = .returned v ∧ StR C ⟨0, [], [.row 3 1 true (iL (insL l k x))]⟩ hd' act0 w' ∧ (∀ (i : Nat) (q : List SV) (b : Nat), ([.row 3 1 true (iL l)] : List Ob)[i]? = some (.box q) → hd[i]? = some (.bx b true) → hd'[i]? = some (.bx b true)) ∧ (∀ i ∈ ([] : List Nat), ∀ h, hd[i]? = some h → hd'[i]? = some h) ∧ RepS (vis C hd') w' hd' (.sref 0) v := fun v' w' ⟨hd', f1, f2⟩ => by
    refine ⟨v', hd', rfl, f1, fun i q b h1 h2 => ?_, (fun i hi => by simp at hi), f2⟩
    match i, h1 with
    | 0, h1 => cases h1
  have hlm : (l.map (Value.int .i64)).length = l.length := List.length_map _
  rcases hown.2 with ⟨q, hn0⟩ | ⟨g, cap2, cur, q, hB, hg, h1, h2, h3, h4⟩
  · -- nothing until now
    obtain rfl : l = [] := List.eq_nil_of_length_eq_zero hn0
    obtain rfl : k = 0 := by simpa using hk
    cases q
    refine (Any2.slices_Insert_int_end_grow Try.layInsert none 0 0 vb 0 1 1 [] [.int .i64 x] w (by decide) (Nat.le_refl _) (by decide) (by decide) rfl rfl (fun _ => rfl) (fun a h => by cases h) hvs' h1v).mono fun e' w' ⟨q1, q2⟩ => ?_
    rw [layInsert_t3] at q1 q2
    subst q1
    refine post _ _ ?_
    have hge := grownCap_ge w (0 + 1) 0 3
    have hle := grownCap_le_maxLen w (0 + 1) 0 3 (by decide)
    refine row_new hr (by rw [q2]; exact drew_alloc_below _ _) (owns_new (Nat.le_refl _) (by rw [q2]; exact heap_alloc_new w.drew _) ?_ hge hle rfl ?_) rfl (by simp [insL, maxLen])
    · simp only [Array.size_append, List.size_toArray, List.length_append, List.length_cons, List.length_nil, size_zeroCells]
      have : (Value.int .i64 0).cells.size = 1 := rfl
      rw [this]
      show 0 + (0 + 1) + (grownCap w (0 + 1) 0 3 - (0 + 1)) * 1 = grownCap w (0 + 1) 0 3
      omega
    · simp [insL]
  · cases q
    have h3' : cur.size = cap := by omega
    have h4' : cur.toList.take l.length = l.map (Value.int .i64) := by rw [Nat.mul_one] at h4; exact h4
    have hne : vb ≠ g := fun e => by
      have := hS.2 (Hd.sl (some ⟨g, 0, none⟩) l.length cap (some g)) (by rw [hd0]; exact List.mem_cons_self)
      exact this (by rw [e]; rfl)
    have hcs : ∀ (j : Nat) (v : Value), (l.map (Value.int .i64))[j]? = some v → w.cell? ⟨g, 0 + j, none⟩ = some v := fun j v hj => by
      have hjl := (List.getElem?_eq_some_iff.1 hj).1
      rw [hlm] at hjl
      rw [← h4', List.getElem?_take, if_pos hjl] at hj
      simp only [World.cell?, hg]
      simpa using hj
    have hsp : ∀ j, j < cap → (w.cell? ⟨g, 0 + j, none⟩).isSome = true := fun j hj => by
      simp only [World.cell?, hg]
      simp
      omega
    have hfz : ∀ j, w.frozen? ⟨g, j, none⟩ = false := fun j => by
      simp [World.frozen?, hg]
    have h1c : ∀ v ∈ l.map (Value.int .i64), v.oneCell' = true := fun v hv => by
      obtain ⟨y, _, rfl⟩ := List.mem_map.1 hv; rfl
    have inplace : ∀ w' : World, w.grownBy w' (some g) → (∃ cur' : Array Value, w'.heap[g]? = some (.cells cur' 3 (0, 0)) ∧ cur'.size = cap ∧ cur'.toList.take (l.length + 1) = (insL l k x).map (Value.int .i64)) → l.length + 1 ≤ cap →
        ∃ hd', StR C ⟨0, [], [.row 3 1 true (iL (insL l k x))]⟩ hd' act0 w' ∧ RepS (vis C hd') w' hd' (.sref 0) (.slice (some ⟨g, 0, none⟩) (l.length + 1) cap) := fun w' hgb ⟨cur', f1, f2, f3⟩ hroom => by
      refine ⟨_, row_change hr hd0 (n' := l.length + 1) rfl hgb ⟨by rw [List.length_map, hil, Nat.mul_one], .inr ⟨g, cap, cur', rfl, hB, f1, hroom, h2, by omega, by rw [Nat.mul_one]; exact f3⟩⟩ hil.symm (by rw [hil]; unfold maxLen; omega), .sref _ _ _ _ _ rfl⟩
    have hap : ∀ (A B D : List Value) (n : Nat), A.length + B.length = n → (A ++ B ++ D).take n = A ++ B := fun A B D n h => by
      rw [List.take_append_of_le_length (by simp; omega), List.take_of_length_le (by simp; omega)]
    by_cases hkn : k = l.length
    · subst hkn
      by_cases hroom : l.length + 1 ≤ cap
      · refine (Any2.slices_Insert_int_end_room Try.layInsert g 0 l.length cap vb 0 1 1 [.int .i64 x] w (by decide) hroom (by unfold maxLen at h2; omega) rfl (fun j hj => by rw [Nat.add_assoc]; exact hsp _ (by omega)) (fun j hj => hfz _) hvs' h1v).mono fun e' w' ⟨q1, q2⟩ => ?_
        subst q1
        refine post _ _ (inplace w' (by rw [q2]; exact setCells_grown _ _ _ _) ?_ hroom)
        obtain ⟨cur', f1, f2, f3⟩ := setCells_blk g [.int .i64 x] (0 + l.length) w cur 3 (0, 0) hg (by simp; omega)
        refine ⟨cur', by rw [q2]; exact f1, by omega, ?_⟩
        rw [insL_end, f3, Nat.zero_add, h4', List.map_append]
        exact hap _ _ _ _ (by simp)
      · refine (Any2.slices_Insert_int_end_grow Try.layInsert (some ⟨g, 0, none⟩) l.length cap vb 0 1 1 (l.map (.int .i64)) [.int .i64 x] w (by decide) h1 (by omega) (by omega) hlm rfl (fun h => by cases h) (fun a h j v hj => by cases h; rw [Addr.add_lit]; exact hcs j v hj) hvs' h1v).mono fun e' w' ⟨q1, q2⟩ => ?_
        rw [layInsert_t3] at q1 q2
        subst q1
        refine post _ _ ?_
        have hge := grownCap_ge w (l.length + 1) cap 3
        have hle := grownCap_le_maxLen w (l.length + 1) cap 3 (by unfold maxLen; omega)
        refine row_new hr (by rw [q2]; exact drew_alloc_below _ _) (owns_new (Nat.le_refl _) (by rw [q2]; exact heap_alloc_new w.drew _) ?_ hge hle hil.symm ?_) hil.symm (by rw [hil]; unfold maxLen; omega)
        · have : (Value.int .i64 0).cells.size = 1 := rfl
          simp only [Array.size_append, List.size_toArray, List.length_append, List.length_cons, List.length_nil, size_zeroCells, this, hlm]
          show l.length + (0 + 1) + (grownCap w (l.length + 1) cap 3 - (l.length + 1)) * 1 = grownCap w (l.length + 1) cap 3
          omega
        · rw [insL_end, Array.toList_append, List.take_append_of_le_length (by simp), List.take_of_length_le (by simp), List.map_append]
          rfl
    · have hkl : k < l.length := by omega
      have hdr : (l.map (Value.int .i64)).drop k = (l.drop k).map (Value.int .i64) := by rw [List.map_drop]
      have hmap : (insL l k x).map (Value.int .i64) = (l.map (Value.int .i64)).take k ++ [.int .i64 x] ++ (l.map (Value.int .i64)).drop k := by
        unfold insL
        simp only [List.map_append, List.map_take, List.map_drop, List.map_cons, List.map_nil]
      by_cases hroom : l.length + 1 ≤ cap
      · refine (Any2.slices_Insert_int_shift Try.layInsert g 0 l.length cap k vb 0 1 1 (l.map (.int .i64)) [.int .i64 x] w hkl (by decide) hroom (by unfold maxLen at h2; omega) hne hlm rfl hcs (fun j hj => hsp j (by omega)) (fun j hj => hfz _) hvs' h1c h1v lt 3 lv.size cur.size (by simp [World.shape?, hzb]) (by simp [World.shape?, hg]) (by omega) (by simp [World.frozen?, hzb]) (by simp [World.frozen?, hzb])).mono fun e' w' ⟨q1, q2⟩ => ?_
        subst q1
        obtain ⟨c1, f1, f2, f3⟩ := setCells_blk g ((l.map (Value.int .i64)).drop k) (0 + (k + 1)) w.drew cur 3 (0, 0) hg (by rw [List.length_drop, hlm]; omega)
        obtain ⟨c2, g1, g2, g3⟩ := setCells_blk g [.int .i64 x] (0 + k) _ c1 3 (0, 0) f1 (by simp; omega)
        refine post _ _ (inplace w' (by rw [q2]; exact grown_trans (grown_drew _ _) (grown_trans (setCells_grown _ _ _ _) (setCells_grown _ _ _ _))) ⟨c2, by rw [q2]; exact g1, by omega, ?_⟩ hroom)
        have hcl : cur.toList.length = cap := by simpa using h3'
        have hk1 : (cur.toList.take (0 + (k + 1))).length = k + 1 := by rw [List.length_take]; omega
        have htk : cur.toList.take k = (l.map (Value.int .i64)).take k := by rw [← h4', List.take_take, Nat.min_eq_left (by omega)]
        rw [g3, f3, hmap]
        have e1 : (cur.toList.take (0 + (k + 1)) ++ (l.map (Value.int .i64)).drop k ++ cur.toList.drop (0 + (k + 1) + ((l.map (Value.int .i64)).drop k).length)).take (0 + k) = (l.map (Value.int .i64)).take k := by
          rw [List.append_assoc, List.take_append_of_le_length (by omega), List.take_take, Nat.min_eq_left (by omega), Nat.zero_add, htk]
        have e2 : (cur.toList.take (0 + (k + 1)) ++ (l.map (Value.int .i64)).drop k ++ cur.toList.drop (0 + (k + 1) + ((l.map (Value.int .i64)).drop k).length)).drop (0 + k + ([Value.int .i64 x] : List Value).length) = (l.map (Value.int .i64)).drop k ++ cur.toList.drop (0 + (k + 1) + ((l.map (Value.int .i64)).drop k).length) := by
          rw [List.append_assoc]
          exact List.drop_left' (by rw [hk1]; simp)
        rw [e1, e2, ← List.append_assoc]
        exact List.take_left' (by simp; omega)
      · refine (Any2.slices_Insert_int_grow Try.layInsert g 0 l.length cap k vb 0 1 1 (l.map (.int .i64)) [.int .i64 x] w hkl (by decide) h1 (by omega) (by omega) hlm rfl hcs hvs' h1c h1v).mono fun e' w' ⟨q1, q2⟩ => ?_
        rw [layInsert_t3] at q1 q2
        subst q1
        refine post _ _ ?_
        have hge := grownCap_ge w (l.length + 1) cap 3
        have hle := grownCap_le_maxLen w (l.length + 1) cap 3 (by unfold maxLen; omega)
        obtain ⟨A, hA⟩ : ∃ A : Array Value, (((l.map (Value.int .i64)).take k).toArray ++ Builtin.zeroCells (Value.int .i64 0).cells (l.length + 1 - k) ++ Builtin.zeroCells (Value.int .i64 0).cells (grownCap w (l.length + 1) cap 3 - (l.length + 1))) = A := ⟨_, rfl⟩
        have hAs : A.size = grownCap w (l.length + 1) cap 3 := by
          rw [← hA]
          have : (Value.int .i64 0).cells.size = 1 := rfl
          simp only [Array.size_append, List.size_toArray, List.length_take, size_zeroCells, this, hlm]
          omega
        have hAt : A.toList.take k = (l.map (Value.int .i64)).take k := by
          rw [← hA, Array.toList_append, Array.toList_append, List.append_assoc]
          exact List.take_left' (by simp; omega)
        have q2' : w' = (((w.alloc (.cells A 3)).drew.setCells w.heap.size k [.int .i64 x]).drew).setCells w.heap.size (k + 1) ((l.map (Value.int .i64)).drop k) := by rw [← hA]; exact q2
        obtain ⟨c1, f1, f2, f3⟩ := setCells_blk w.heap.size [.int .i64 x] k (w.alloc (.cells A 3)).drew A 3 (0, 0) (heap_alloc_new w _) (by simp; omega)
        obtain ⟨c2, g1, g2, g3⟩ := setCells_blk w.heap.size ((l.map (Value.int .i64)).drop k) (k + 1) (((w.alloc (.cells A 3)).drew.setCells w.heap.size k [.int .i64 x]).drew) c1 3 (0, 0) f1 (by rw [List.length_drop, hlm]; omega)
        have hgb := grown_trans (setCells_grown w.heap.size [.int .i64 x] k (w.alloc (.cells A 3)).drew) (grown_trans (grown_drew _ _) (setCells_grown w.heap.size ((l.map (Value.int .i64)).drop k) (k + 1) (((w.alloc (.cells A 3)).drew.setCells w.heap.size k [.int .i64 x]).drew)))
        have hal := alloc_below w (.cells A 3)
        refine row_new hr ⟨?_, ?_, ?_, ?_, fun b hb => ?_⟩ (owns_new (Nat.le_refl _) (by rw [q2']; exact g1) (by omega) hge hle hil.symm ?_) hil.symm (by rw [hil]; unfold maxLen; omega)
        · rw [q2', hgb.os]; exact hal.os
        · rw [q2', hgb.tape]; exact hal.tape
        · rw [q2', hgb.output]; exact hal.output
        · rw [q2']; exact Nat.le_trans hal.size hgb.size
        · rw [q2', hgb.block b (Nat.lt_of_lt_of_le hb hal.size) (fun e => by cases e; omega)]
          exact hal.block b hb
        · rw [g3, f3, hmap]
          have hAl : A.toList.length = grownCap w (l.length + 1) cap 3 := by simpa using hAs
          have hkA : (A.toList.take k).length = k := by rw [List.length_take]; omega
          have e1 : (A.toList.take k ++ [Value.int .i64 x] ++ A.toList.drop (k + ([Value.int .i64 x] : List Value).length)).take (k + 1) = (l.map (Value.int .i64)).take k ++ [Value.int .i64 x] := by
            rw [← hAt]
            exact List.take_left' (by rw [List.length_append, hkA]; rfl)
          rw [e1]
          exact List.take_left' (by simp; omega)
/-- What a call hands back, in another form. -/
theorem SndG.post {P : Program} {f : Nat} {xs : List SV} {obs obs' obs'' : List Ob} {r r' : SV} {tm : List (Nat × SV)} (h : SndG P G f xs obs [] r obs') (hlen : obs.length ≤ obs''.length) (hbox : ∀ (i : Nat) (l : List SV), obs[i]? ≠ some (.box l)) (hl : look tm 0 = some r') (hn : Norm ⟨1, [(0, r)], obs'⟩ ⟨1, tm, obs''⟩) : SndG P G f xs obs [] r' obs'' :=
  ⟨h.enter, hlen, fun i l q => (hbox i l q).elim, fun C hd w vs hG hr hvs hrep => (h.calls C hd w vs hG hr hvs hrep).mono fun e w' ⟨v, hd', e1, h1, _, _, h2⟩ => by
    have hr1 : StR C ⟨1, [(0, r)], obs'⟩ hd' { tmps := #[v], defers := [] } w' := ⟨h1.below, rfl, rfl, h1.hl, h1.ob, h1.own, h1.dist, fun t y hy => (by
      simp only [look] at hy
      split at hy
      · rename_i e; subst e; cases hy; exact h2
      · cases hy), h1.ext⟩
    obtain ⟨hd2, hr2⟩ := hn C hd' _ w' hr1
    exact ⟨v, hd2, e1, ⟨hr2.below, rfl, rfl, hr2.hl, hr2.ob, hr2.own, hr2.dist, fun t y hy => by simp [look] at hy, hr2.ext⟩, fun i l b q => (hbox i l q).elim, fun i hi => by simp at hi, hr2.sl 0 r' hl⟩⟩
theorem Insert_snd (l : List Int) (k : Nat) (x : Int) (hk : k ≤ l.length) (hl : l.length ≤ 1000000) :
    SndG Try.prog G 56 [.sref 0, .t (tNat k), .lit [tInt x]] [.row 3 1 true (iL l)] [] (.t (tInts (insL l k x))) [.froz (iL (insL l k x))] := by
  refine (Insert_own l k x hk hl).post (Nat.le_refl _) (fun i q h => ?_) (tm := [(0, .t (.list (iL (insL l k x)))), (0, .sref 0)]) rfl ((Norm.frzRow 0 rfl).trans (Norm.datum 0 0 rfl rfl))
  match i, h with
  | 0, h => cases h
end
end Go.Proofs.Ythcclcbliedodaa
namespace Go.Proofs.Ythcclcbliedodaa
open Go.RowKit

section
variable {G : World → Prop} (hG : Lasting G)
include hG
set_option maxHeartbeats 4000000 in
theorem Pack_snd (base : Int) (d : List Int) : Snd Try.prog G 31 [tInt base, tInts d] (.tup [tInt (packOf base d), tErr (packErr base d)]) := by
  have htb := Tab.cons (Radix_snd hG base) (Tab.cons (Many_snd hG base d.length) Tab.nil)
  refine snd_of_body (n := 45) (tm := [(0, .t (tInt base)), (1, .t (tInts d))]) (rs := [.tmp 4, .tmp 5]) tt_ok Try.func31 rfl rfl rfl rfl rfl ?_
  by_cases h0 : manyErr base d.length = 0
  · obtain ⟨h1, _, h5, hp36, _⟩ := many_ok h0
    obtain ⟨r2, r6⟩ := radix_two h1
    have hdig : ∀ {i : Nat} (hi : i < d.length), ¬ (0 ≤ d[i] ∧ d[i] < radix base) → packErr base d = 1 ∧ packOf base d = 0 := fun hi hx => packErr_digit h0 hi hx
    have hok : (∀ x ∈ d, 0 ≤ x ∧ x < radix base) → packErr base d = 0 ∧ packOf base d = pack (radix base) d := packErr_ok h0
    rw [h0] at htb
    generalize manyOf base d.length = mo at htb
    generalize radix base = k at *
    repeat' (first | (with_reducible first | apply w1 | apply w2 | apply w3 | apply w4 | apply w5 | apply w6 | apply w7 | apply w8 | apply w9 | apply wa | apply wb | apply wc) | ((with_reducible apply wd); focus decide) | ((with_reducible apply we); focus exact rfl) | ((with_reducible apply wf); focus exact rfl) | ((first | (with_reducible apply SW_run tt_ok hG htb) | ((with_reducible apply SW_draw rfl tt_ok hG htb); (focus kernel_rfl); focus simp only [List.range, List.range.loop, List.size_toArray, List.length_cons, List.length_nil, Nat.reduceAdd])); focus ((repeat' (first | (with_reducible first | exact wg | exact wh) | ((with_reducible first | apply wi | apply wj); focus (simp (discharger := omega) only [go_sem, tErr, simprocAttr]; with_reducible rfl)))); done)))
    refine SW_loop (fun m s => ∃ i : Nat, m = d.length - i ∧ s = ⟨45, [(8, .t (tInt k)), (9, .t (tInt (pack k (d.take i)))), (24, .t (tInts d)), (25, .t (tInt d.length)), (26, .t (tInt i))], []⟩ ∧ i ≤ d.length ∧ ∀ x ∈ d.take i, 0 ≤ x ∧ x < k) d.length ⟨_, Norm.headS (own := []) (keep := [8, 9, 24, 25, 26]) (by refine ⟨?_, ?_⟩; (simp (discharger := omega) only [go_sem, simprocAttr]; with_reducible rfl); refine ⟨?_, ?_, ?_, ?_⟩ <;> (simp only [go_sem, simprocAttr]; with_reducible rfl)), 0, rfl, rfl, Nat.zero_le _, fun x hx => by simp at hx⟩ ?_
    rintro m s ⟨i, rfl, rfl, hi, hA⟩
    have hb := pack_bd r2 _ hA
    have hb2 := powW_bd r2 r6 (j := (d.take i).length) (by simp; omega)
    by_cases hlt : i < d.length
    · obtain ⟨x, hx⟩ : ∃ x, d[i]! = x := ⟨_, rfl⟩
      have htk := take_next hx hlt
      have hat := bang_at hx hlt
      by_cases hx0 : 0 ≤ x
      · by_cases hxk : x < k
        · have hA' : ∀ y ∈ d.take (i + 1), 0 ≤ y ∧ y < k := fun y hy => by
            rw [htk] at hy
            rcases List.mem_append.1 hy with h | h
            · exact hA y h
            · simp at h; subst h; exact ⟨hx0, hxk⟩
          have hpk : pack k (d.take (i + 1)) = pack k (d.take i) * k + x := by rw [htk, pack_snoc]
          have hm1 : 0 ≤ pack k (d.take i) * k := Int.mul_nonneg hb.1 (by omega)
          have hm2 : pack k (d.take i) * k ≤ 7776 * 6 := Int.mul_le_mul (by omega) r6 (by omega) (by omega)
          repeat' (first | (with_reducible first | apply w1 | apply w2 | apply w3 | apply w4 | apply w5 | apply w6 | apply w7 | apply w8 | apply w9 | apply wa | apply wb | apply wc) | ((with_reducible apply wd); focus decide) | ((with_reducible apply we); focus exact rfl) | ((with_reducible apply wf); focus exact rfl) | ((first | (with_reducible apply SW_run tt_ok hG htb) | ((with_reducible apply SW_draw rfl tt_ok hG htb); (focus kernel_rfl); focus simp only [List.range, List.range.loop, List.size_toArray, List.length_cons, List.length_nil, Nat.reduceAdd])); focus ((repeat' (first | (with_reducible first | exact wg | exact wh) | ((with_reducible first | apply wi | apply wj); focus (simp (discharger := omega) only [go_sem, hx, simprocAttr]; with_reducible rfl)))); done)))
          exact ⟨d.length - (i + 1), _, by omega, Norm.headS (own := []) (keep := [8, 9, 24, 25, 26]) (by refine ⟨?_, ?_⟩; (simp (discharger := omega) only [go_sem, simprocAttr]; with_reducible rfl); refine ⟨?_, ?_, ?_, ?_⟩ <;> (simp only [go_sem, simprocAttr]; with_reducible rfl)), i + 1, rfl, by rw [hpk]; rfl, by omega, hA'⟩
        · obtain ⟨e1, e2⟩ := hdig hlt (by rw [hat]; omega)
          rw [e1, e2]
          repeat' (first | (with_reducible first | apply w1 | apply w2 | apply w3 | apply w4 | apply w5 | apply w6 | apply w7 | apply w8 | apply w9 | apply wa | apply wb | apply wc) | ((with_reducible apply wd); focus decide) | ((with_reducible apply we); focus exact rfl) | ((with_reducible apply wf); focus exact rfl) | ((first | (with_reducible apply SW_run tt_ok hG htb) | ((with_reducible apply SW_draw rfl tt_ok hG htb); (focus kernel_rfl); focus simp only [List.range, List.range.loop, List.size_toArray, List.length_cons, List.length_nil, Nat.reduceAdd])); focus ((repeat' (first | (with_reducible first | exact wg | exact wh) | ((with_reducible first | apply wi | apply wj); focus (simp (discharger := omega) only [go_sem, hx, simprocAttr]; with_reducible rfl)))); done)))
          exact (by simp (discharger := omega) only [go_sem, tErr, simprocAttr])
      · obtain ⟨e1, e2⟩ := hdig hlt (by rw [hat]; omega)
        rw [e1, e2]
        repeat' (first | (with_reducible first | apply w1 | apply w2 | apply w3 | apply w4 | apply w5 | apply w6 | apply w7 | apply w8 | apply w9 | apply wa | apply wb | apply wc) | ((with_reducible apply wd); focus decide) | ((with_reducible apply we); focus exact rfl) | ((with_reducible apply wf); focus exact rfl) | ((first | (with_reducible apply SW_run tt_ok hG htb) | ((with_reducible apply SW_draw rfl tt_ok hG htb); (focus kernel_rfl); focus simp only [List.range, List.range.loop, List.size_toArray, List.length_cons, List.length_nil, Nat.reduceAdd])); focus ((repeat' (first | (with_reducible first | exact wg | exact wh) | ((with_reducible first | apply wi | apply wj); focus (simp (discharger := omega) only [go_sem, hx, simprocAttr]; with_reducible rfl)))); done)))
        exact (by simp (discharger := omega) only [go_sem, tErr, simprocAttr])
    · obtain rfl : i = d.length := by omega
      rw [List.take_length] at hA hb ⊢
      obtain ⟨e1, e2⟩ := hok hA
      rw [e1, e2]
      repeat' (first | (with_reducible first | apply w1 | apply w2 | apply w3 | apply w4 | apply w5 | apply w6 | apply w7 | apply w8 | apply w9 | apply wa | apply wb | apply wc) | ((with_reducible apply wd); focus decide) | ((with_reducible apply we); focus exact rfl) | ((with_reducible apply wf); focus exact rfl) | ((first | (with_reducible apply SW_run tt_ok hG htb) | ((with_reducible apply SW_draw rfl tt_ok hG htb); (focus kernel_rfl); focus simp only [List.range, List.range.loop, List.size_toArray, List.length_cons, List.length_nil, Nat.reduceAdd])); focus ((repeat' (first | (with_reducible first | exact wg | exact wh) | ((with_reducible first | apply wi | apply wj); focus (simp (discharger := omega) only [go_sem, simprocAttr]; with_reducible rfl)))); done)))
      exact (by simp (discharger := omega) only [go_sem, tErr, simprocAttr])
  · obtain ⟨e1, e2⟩ := packErr_many h0
    rw [e1, e2]
    generalize manyErr base d.length = e at *
    repeat' (first | (with_reducible first | apply w1 | apply w2 | apply w3 | apply w4 | apply w5 | apply w6 | apply w7 | apply w8 | apply w9 | apply wa | apply wb | apply wc) | ((with_reducible apply wd); focus decide) | ((with_reducible apply we); focus exact rfl) | ((with_reducible apply wf); focus exact rfl) | ((first | (with_reducible apply SW_run tt_ok hG htb) | ((with_reducible apply SW_draw rfl tt_ok hG htb); (focus kernel_rfl); focus simp only [List.range, List.range.loop, List.size_toArray, List.length_cons, List.length_nil, Nat.reduceAdd])); focus ((repeat' (first | (with_reducible first | exact wg | exact wh) | ((with_reducible first | apply wi | apply wj); focus (simp (discharger := omega) only [go_sem, tErr, h0, simprocAttr]; with_reducible rfl)))); done)))
    exact (by simp (discharger := omega) only [go_sem, tErr, h0, simprocAttr])
set_option maxHeartbeats 4000000 in
theorem Unpack_snd (base t l : Int) : Snd Try.prog G 30 [tInt base, tInt t, tInt l] (.tup [tInts (unpackOf base t l), tErr (unpackErr base t l)]) := by
  have htb := Tab.cons (Radix_snd hG base) (Tab.cons (Many_snd hG base t) Tab.nil)
  refine snd_of_body (n := 52) (tm := [(0, .t (tInt base)), (1, .t (tInt t)), (2, .t (tInt l))]) (rs := [.tmp 6, .tmp 7]) tt_ok Try.func30 rfl rfl rfl rfl rfl ?_
  by_cases h0 : manyErr base t = 0
  · obtain ⟨h1, h2, h5, hp36, hm⟩ := many_ok h0
    obtain ⟨r2, r6⟩ := radix_two h1
    have hp1 := powW_pos r2 t.toNat
    have hok : ¬ (l < 0 ∨ manyOf base t ≤ l) → unpackErr base t l = 0 ∧ unpackOf base t l = unpack (radix base) t.toNat l := unpackErr_ok h0
    have hno : (l < 0 ∨ manyOf base t ≤ l) → unpackErr base t l = 1 ∧ unpackOf base t l = [] := unpackErr_letter h0
    rw [h0] at htb
    rw [← hm] at hp36 hp1
    generalize manyOf base t = mo at *
    generalize radix base = k at *
    by_cases hl0 : l < 0
    · obtain ⟨e1, e2⟩ := hno (by omega)
      rw [e1, e2]
      repeat' (first | (with_reducible first | apply w1 | apply w2 | apply w3 | apply w4 | apply w5 | apply w6 | apply w7 | apply w8 | apply w9 | apply wa | apply wb | apply wc) | ((with_reducible apply wd); focus decide) | ((with_reducible apply we); focus exact rfl) | ((with_reducible apply wf); focus exact rfl) | ((first | (with_reducible apply SW_run tt_ok hG htb) | ((with_reducible apply SW_draw rfl tt_ok hG htb); (focus kernel_rfl); focus simp only [List.range, List.range.loop, List.size_toArray, List.length_cons, List.length_nil, Nat.reduceAdd])); focus ((repeat' (first | (with_reducible first | exact wg | exact wh) | ((with_reducible first | apply wi | apply wj); focus (simp (discharger := omega) only [go_sem, tErr, simprocAttr]; with_reducible rfl)))); done)))
      exact (by simp (discharger := omega) only [go_sem, tErr, simprocAttr])
    · by_cases hl1 : mo ≤ l
      · obtain ⟨e1, e2⟩ := hno (by omega)
        rw [e1, e2]
        repeat' (first | (with_reducible first | apply w1 | apply w2 | apply w3 | apply w4 | apply w5 | apply w6 | apply w7 | apply w8 | apply w9 | apply wa | apply wb | apply wc) | ((with_reducible apply wd); focus decide) | ((with_reducible apply we); focus exact rfl) | ((with_reducible apply wf); focus exact rfl) | ((first | (with_reducible apply SW_run tt_ok hG htb) | ((with_reducible apply SW_draw rfl tt_ok hG htb); (focus kernel_rfl); focus simp only [List.range, List.range.loop, List.size_toArray, List.length_cons, List.length_nil, Nat.reduceAdd])); focus ((repeat' (first | (with_reducible first | exact wg | exact wh) | ((with_reducible first | apply wi | apply wj); focus (simp (discharger := omega) only [go_sem, tErr, simprocAttr]; with_reducible rfl)))); done)))
        exact (by simp (discharger := omega) only [go_sem, tErr, simprocAttr])
      · obtain ⟨e1, e2⟩ := hok (by omega)
        rw [e1, e2]
        obtain ⟨t, rfl⟩ := Int.eq_ofNat_of_zero_le h2
        rw [Int.toNat_natCast] at *
        repeat' (first | (with_reducible first | apply w1 | apply w2 | apply w3 | apply w4 | apply w5 | apply w6 | apply w7 | apply w8 | apply w9 | apply wa | apply wb | apply wc) | ((with_reducible apply wd); focus decide) | ((with_reducible apply we); focus exact rfl) | ((with_reducible apply wf); focus exact rfl) | ((first | (with_reducible apply SW_run tt_ok hG htb) | ((with_reducible apply SW_draw rfl tt_ok hG htb); (focus kernel_rfl); focus simp only [List.range, List.range.loop, List.size_toArray, List.length_cons, List.length_nil, Nat.reduceAdd])); focus ((repeat' (first | (with_reducible first | exact wg | exact wh) | ((with_reducible first | apply wi | apply wj); focus (simp (discharger := omega) only [go_sem, tErr, simprocAttr]; with_reducible rfl)))); done)))
        refine SW_loop (fun m s => ∃ (j : Nat) (q : Int) (u : List Int) (ot : List T), m = t - j ∧ s = ⟨52, [(1, .t (tInt t)), (2, .t (tInt q)), (10, .t (tInt k)), (11, .sref 0), (34, .t (tInt t)), (35, .t (tInt j))], [.row 3 1 true ot]⟩ ∧ ot = (List.replicate (t - j) 0 ++ u).map tInt ∧ j ≤ t ∧ 0 ≤ q ∧ q ≤ 36 ∧ u.length = j ∧ unpack k t l = unpack k (t - j) q ++ u) t
          ⟨_, Norm.headS (own := [(11, 3, 1, true)]) (keep := [1, 2, 10, 11, 34, 35]) (by refine ⟨?_, ?_⟩; (simp (discharger := omega) only [go_sem, simprocAttr]; with_reducible rfl); refine ⟨?_, ?_, ?_, ?_⟩ <;> (simp only [go_sem, simprocAttr]; with_reducible rfl)), 0, l, [], _, rfl, rfl, by simp [tInt], Nat.zero_le _, by omega, by omega, rfl, by simp⟩ ?_
        rintro m s ⟨j, q, u, ot, rfl, rfl, hot, hj, q0, q36, hu, hU⟩
        have hol : ot.length = t := by rw [hot]; simp; omega
        by_cases hlt : j < t
        · have q1 : q.tmod k = q % k := by rw [Int.tmod_eq_emod_of_nonneg q0]
          have q2 : q.tdiv k = q / k := by rw [Int.tdiv_eq_ediv_of_nonneg q0]
          have q3 : 0 ≤ q / k := Int.ediv_nonneg q0 (by omega)
          have q4 : q / k ≤ q := Int.ediv_le_self _ q0
          obtain ⟨r, hr⟩ : ∃ r : Nat, t - j = r + 1 := ⟨t - j - 1, by omega⟩
          have hr' : (t : Int) - 1 - (j : Int) = (r : Nat) := by omega
          repeat' (first | (with_reducible first | apply w1 | apply w2 | apply w3 | apply w4 | apply w5 | apply w6 | apply w7 | apply w8 | apply w9 | apply wa | apply wb | apply wc) | ((with_reducible apply wd); focus decide) | ((with_reducible apply we); focus exact rfl) | ((with_reducible apply wf); focus exact rfl) | ((first | (with_reducible apply SW_run tt_ok hG htb) | ((with_reducible apply SW_draw rfl tt_ok hG htb); (focus kernel_rfl); focus simp only [List.range, List.range.loop, List.size_toArray, List.length_cons, List.length_nil, Nat.reduceAdd])); focus ((repeat' (first | (with_reducible first | exact wg | exact wh) | ((with_reducible first | apply wi | apply wj); focus (simp (discharger := omega) only [go_sem, q1, q2, hr', simprocAttr]; with_reducible rfl)))); done)))
          refine ⟨t - (j + 1), _, by omega, Norm.headS (own := [(11, 3, 1, true)]) (keep := [1, 2, 10, 11, 34, 35]) (by refine ⟨?_, ?_⟩; (simp (discharger := omega) only [go_sem, simprocAttr]; with_reducible rfl); refine ⟨?_, ?_, ?_, ?_⟩ <;> (simp only [go_sem, simprocAttr]; with_reducible rfl)), j + 1, q / k, (q % k) :: u, _, rfl, rfl, ?_, by omega, q3, by omega, by simp [hu], ?_⟩
          · have e : t - (j + 1) = r := by omega
            rw [hot, hr, e, List.replicate_succ', List.append_assoc, List.map_append, List.map_append, List.set_append_right _ _ (by simp)]
            simp [tInt]
          · have e : t - (j + 1) = r := by omega
            rw [hU, hr, e, unpack, List.append_assoc]; rfl
        · obtain rfl : j = t := by omega
          have : unpack k j l = u := by rw [hU]; simp [unpack]
          rw [this]
          rw [Nat.sub_self, List.replicate_zero, List.nil_append] at hot
          repeat' (first | (with_reducible first | apply w1 | apply w2 | apply w3 | apply w4 | apply w5 | apply w6 | apply w7 | apply w8 | apply w9 | apply wa | apply wb | apply wc) | ((with_reducible apply wd); focus decide) | ((with_reducible apply we); focus exact rfl) | ((with_reducible apply wf); focus exact rfl) | ((first | (with_reducible apply SW_run tt_ok hG htb) | ((with_reducible apply SW_draw rfl tt_ok hG htb); (focus kernel_rfl); focus simp only [List.range, List.range.loop, List.size_toArray, List.length_cons, List.length_nil, Nat.reduceAdd])); focus ((repeat' (first | (with_reducible first | exact wg | exact wh) | ((with_reducible first | apply wi | apply wj); focus (simp (discharger := omega) only [go_sem, simprocAttr]; with_reducible rfl)))); done)))
          exact (by simp (discharger := omega) only [go_sem, tErr, hot, simprocAttr])
  · obtain ⟨e1, e2⟩ := unpackErr_many (l := l) h0
    rw [e1, e2]
    generalize manyErr base t = e at *
    repeat' (first | (with_reducible first | apply w1 | apply w2 | apply w3 | apply w4 | apply w5 | apply w6 | apply w7 | apply w8 | apply w9 | apply wa | apply wb | apply wc) | ((with_reducible apply wd); focus decide) | ((with_reducible apply we); focus exact rfl) | ((with_reducible apply wf); focus exact rfl) | ((first | (with_reducible apply SW_run tt_ok hG htb) | ((with_reducible apply SW_draw rfl tt_ok hG htb); (focus kernel_rfl); focus simp only [List.range, List.range.loop, List.size_toArray, List.length_cons, List.length_nil, Nat.reduceAdd])); focus ((repeat' (first | (with_reducible first | exact wg | exact wh) | ((with_reducible first | apply wi | apply wj); focus (simp (discharger := omega) only [go_sem, tErr, h0, simprocAttr]; with_reducible rfl)))); done)))
    exact (by simp (discharger := omega) only [go_sem, tErr, h0, simprocAttr])
end
end Go.Proofs.Ythcclcbliedodaa
namespace Go.Proofs.Ythcclcbliedodaa
open Go.RowKit

section
variable {G : World → Prop} (hG : Lasting G)
include hG
set_option maxHeartbeats 16000000 in
set_option maxRecDepth 100000 in
theorem left_snd (a : GAuto) (track : Int) : Snd Try.prog G 42 [tAuto a, tInt track] (.tup [tAuto (leastOf a), tIntss (leftS a track), tIntss (leftR a track), tErr (leftErr a track)]) := by
  have c1 := Least_snd hG a
  refine sndH_of_body (κ := Nat) (n := 111) (tm := [(0, .t (tAuto a)), (1, .t (tInt track))]) (rs := [.cell 4 25, .tmp 5, .tmp 6, .tmp 7]) ttR_ok Try.func42 rfl rfl rfl rfl rfl ?_
  by_cases hf : autoFault a = 0
  rotate_left
  · have he : leftErr a track = autoFault a := if_pos hf
    have hb : leftBad a track := .inl hf
    have hS : leftS a track = [] := if_pos hb
    have hR : leftR a track = [] := if_pos hb
    have hl0 : leastOf a = GAuto.zero := if_neg hf
    rw [he, hS, hR, hl0]
    rw [hl0] at c1
    generalize autoFault a = e at *
    have htb := Tab.cons c1 Tab.nil
    repeat' (first | (with_reducible first | apply v1 | apply v2 | apply v3 | apply v4 | apply v5 | apply v6 | apply v7 | apply v8 | apply v9 | apply va | apply vb | apply vc) | ((with_reducible apply vd); focus decide) | ((with_reducible apply ve); focus exact rfl) | ((with_reducible apply vf); focus exact rfl) | ((first | (with_reducible apply HW_run ttR_ok hG htb) | ((with_reducible apply HW_draw rfl ttR_ok hG htb); (focus kernel_rfl); focus simp only [List.range, List.range.loop, List.size_toArray, List.length_cons, List.length_nil, Nat.reduceAdd])); focus ((repeat' (first | (with_reducible first | exact wg | exact wh) | ((with_reducible first | apply wi | apply wj); focus (simp (discharger := omega) only [go_sem, tAuto, tErr, hf, simprocAttr]; with_reducible rfl)))); done)))
    exact (by simp (discharger := omega) only [go_sem, tAuto, tErr, hf, GAuto.zero, simprocAttr])
  have hlA : leastOf a = leastA a := if_pos hf
  have g0 := good_of hf
  obtain ⟨_, _, gM⟩ := least_again g0
  obtain ⟨M, hM⟩ : ∃ M, leastA a = M := ⟨_, rfl⟩
  rw [hlA, hf, hM] at c1
  rw [hlA, hM]
  rw [hM] at gM
  by_cases hk0 : track < 0
  · have hb : leftBad a track := .inr (.inl hk0)
    have hS : leftS a track = [] := if_pos hb
    have hR : leftR a track = [] := if_pos hb
    have he : leftErr a track = 1 := by unfold leftErr; rw [if_neg (fun q => q hf), if_pos (.inl hk0)]
    rw [hS, hR, he]
    have htb := Tab.cons c1 Tab.nil
    repeat' (first | (with_reducible first | apply v1 | apply v2 | apply v3 | apply v4 | apply v5 | apply v6 | apply v7 | apply v8 | apply v9 | apply va | apply vb | apply vc) | ((with_reducible apply vd); focus decide) | ((with_reducible apply ve); focus exact rfl) | ((with_reducible apply vf); focus exact rfl) | ((first | (with_reducible apply HW_run ttR_ok hG htb) | ((with_reducible apply HW_draw rfl ttR_ok hG htb); (focus kernel_rfl); focus simp only [List.range, List.range.loop, List.size_toArray, List.length_cons, List.length_nil, Nat.reduceAdd])); focus ((repeat' (first | (with_reducible first | exact wg | exact wh) | ((with_reducible first | apply wi | apply wj); focus (simp (discharger := omega) only [go_sem, tErr0, tAuto, simprocAttr]; with_reducible rfl)))); done)))
    exact (by simp (discharger := omega) only [go_sem, tAuto, tErr, simprocAttr])
  by_cases hkt : a.tracks ≤ track
  · have hb : leftBad a track := .inr (.inr hkt)
    have hS : leftS a track = [] := if_pos hb
    have hR : leftR a track = [] := if_pos hb
    have he : leftErr a track = 1 := by unfold leftErr; rw [if_neg (fun q => q hf), if_pos (.inr hkt)]
    rw [hS, hR, he]
    have htb := Tab.cons c1 Tab.nil
    repeat' (first | (with_reducible first | apply v1 | apply v2 | apply v3 | apply v4 | apply v5 | apply v6 | apply v7 | apply v8 | apply v9 | apply va | apply vb | apply vc) | ((with_reducible apply vd); focus decide) | ((with_reducible apply ve); focus exact rfl) | ((with_reducible apply vf); focus exact rfl) | ((first | (with_reducible apply HW_run ttR_ok hG htb) | ((with_reducible apply HW_draw rfl ttR_ok hG htb); (focus kernel_rfl); focus simp only [List.range, List.range.loop, List.size_toArray, List.length_cons, List.length_nil, Nat.reduceAdd])); focus ((repeat' (first | (with_reducible first | exact wg | exact wh) | ((with_reducible first | apply wi | apply wj); focus (simp (discharger := omega) only [go_sem, tErr0, tAuto, simprocAttr]; with_reducible rfl)))); done)))
    exact (by simp (discharger := omega) only [go_sem, tAuto, tErr, simprocAttr])
  obtain ⟨k, rfl⟩ : ∃ k : Nat, track = (k : Int) := ⟨track.toNat, by omega⟩
  obtain ⟨t, N, r, ok⟩ := left_ok hf (by omega : (k : Int) < a.tracks)
  have hb : ¬ leftBad a (k : Int) := fun q => by
    rcases q with q | q | q
    · exact q hf
    · omega
    · omega
  have hS : leftS a (k : Int) = _ := if_neg hb
  have hR : leftR a (k : Int) = _ := if_neg hb
  have htt : a.tracks - 1 = ((t : Nat) : Int) := by have := ok.tr; omega
  have hW : leftW a (k : Int) = withW a.base t k := by unfold leftW; rw [htt]; rfl
  have hNe : leftN a = N := by unfold leftN; rw [htt, Int.toNat_natCast, ok.nWe, Int.toNat_natCast]
  have hFe : leftF a (k : Int) = closeL M ((withW a.base t k)[0]!) := by unfold leftF; rw [hW, hM]
  rw [hS, hR, hM, hNe, hFe, hW]
  have c2 := Many_snd hG a.base (t : Int)
  rw [ok.many, ok.nWe] at c2
  have c3 := Radix_snd hG a.base
  rw [ok.rad] at c3
  have htr := ok.tr
  have ht4 := ok.t4
  have hkt2 := ok.kt
  have hN36 := ok.nW36
  have hN0 := ok.nW0
  have hr2 := ok.r2
  have hr6 := ok.r6
  have h1 : ¬ (a.tracks ≤ (k : Int)) := hkt
  have htb := Tab.cons c1 (Tab.cons c2 Tab.nil)
  repeat' (first | (with_reducible first | apply v1 | apply v2 | apply v3 | apply v4 | apply v5 | apply v6 | apply v7 | apply v8 | apply v9 | apply va | apply vb | apply vc) | ((with_reducible apply vd); focus decide) | ((with_reducible apply ve); focus exact rfl) | ((with_reducible apply vf); focus exact rfl) | ((first | (with_reducible apply HW_run ttR_ok hG htb) | ((with_reducible apply HW_draw rfl ttR_ok hG htb); (focus kernel_rfl); focus simp only [List.range, List.range.loop, List.size_toArray, List.length_cons, List.length_nil, Nat.reduceAdd])); focus ((repeat' (first | (with_reducible first | exact wg | exact wh) | ((with_reducible first | apply wi | apply wj); focus (simp (discharger := omega) only [go_sem, tErr0, tAuto, htt, simprocAttr]; with_reducible rfl)))); done)))
  clear htb
  have htb := Tab.cons c3 Tab.nil
  refine HW_norm (Norm.headS (own := []) (keep := [1, 2, 4, 7, 8, 10, 48, 49]) (by refine ⟨?_, ?_⟩; (simp (discharger := omega) only [go_sem, simprocAttr]; with_reducible rfl); refine ⟨?_, ?_, ?_, ?_⟩ <;> (simp only [go_sem, simprocAttr]; with_reducible rfl))) ?_
  refine HW_norm (Norm.fixBox 0 rfl rfl) ?_
  refine HW_norm (Norm.tr 2 rfl rfl) ?_
  refine HW_loop (fun mm st g => ∃ (l : Nat) (ws : List T), mm = N - l ∧ st = ⟨111, [(1, .t (tNat k)), (2, .t (autoP a)), (4, .bptr 0 0), (7, .t .nilI), (8, .t (tNat N)), (10, .bptr 1 0), (48, .t (tNat N)), (49, .t (tNat l))], [.box [.t (tInt M.base), .t (tInt M.tracks), .t (tIntss M.next), .t (tBools M.ends)], .box [.sref 2], .row 26 1 true ws]⟩ ∧ l ≤ N ∧ HdrInv g ws N (fun j => if j < l then withR a.base t k j else [])) N
    ⟨_, Norm.headS (own := []) (keep := [1, 2, 4, 7, 8, 10, 48, 49]) (by refine ⟨?_, ?_⟩; (simp (discharger := omega) only [go_sem, simprocAttr]; with_reducible rfl); refine ⟨?_, ?_, ?_, ?_⟩ <;> (simp only [go_sem, simprocAttr]; with_reducible rfl)), 0, _, rfl, rfl, Nat.zero_le _, (HdrInv.init N).congr fun j hj => by rw [if_neg (by omega)]⟩ ?_
  rintro mm st g ⟨l, ws, rfl, rfl, hl, hinv⟩
  have hwl : ws.length = N := hinv.1
  by_cases hlt : l < N
  · have c4 := Unpack_snd hG a.base (t : Int) (l : Int)
    obtain ⟨u1, u2⟩ := unpackErr_ok (base := a.base) (t := (t : Int)) (l := (l : Int)) ok.many (by rw [ok.nWe]; omega)
    rw [u1, u2, Int.toNat_natCast] at c4
    obtain ⟨d, hd⟩ : ∃ d, unpack (radix a.base) t (l : Int) = d := ⟨_, rfl⟩
    rw [hd] at c4
    have hdl : d.length = t := by rw [← hd]; exact unpack_length _ _ _
    clear htb
    have htb := Tab.cons c4 (Tab.cons c3 Tab.nil)
    repeat' (first | (with_reducible first | apply v1 | apply v2 | apply v3 | apply v4 | apply v5 | apply v6 | apply v7 | apply v8 | apply v9 | apply va | apply vb | apply vc) | ((with_reducible apply vd); focus decide) | ((with_reducible apply ve); focus exact rfl) | ((with_reducible apply vf); focus exact rfl) | ((first | (with_reducible apply HW_run ttR_ok hG htb) | ((with_reducible apply HW_draw rfl ttR_ok hG htb); (focus kernel_rfl); focus simp only [List.range, List.range.loop, List.size_toArray, List.length_cons, List.length_nil, Nat.reduceAdd])); focus ((repeat' (first | (with_reducible first | exact wg | exact wh) | ((with_reducible first | apply wi | apply wj); focus (simp (discharger := omega) only [go_sem, tErr0, autoP, htt, simprocAttr]; with_reducible rfl)))); done)))
    refine HW_loop (fun mm st g => ∃ (x : Nat) (ws : List T), mm = r - x ∧ st = ⟨111, [(1, .t (tNat k)), (2, .t (autoP a)), (4, .bptr 0 0), (7, .t .nilI), (8, .t (tNat N)), (10, .bptr 1 0), (11, .t (tNat l)), (12, .t (tInts d)), (48, .t (tNat N)), (49, .t (tNat l)), (64, .t (tNat r)), (65, .t (tNat x))], [.box [.t (tInt M.base), .t (tInt M.tracks), .t (tIntss M.next), .t (tBools M.ends)], .box [.sref 2], .row 26 1 true ws]⟩ ∧ x ≤ r ∧ HdrInv g ws N (fun j => if j < l then withR a.base t k j else if j = l then (withR a.base t k l).take x else [])) r
      ⟨_, Norm.headS (own := []) (keep := [1, 2, 4, 7, 8, 10, 11, 12, 48, 49, 64, 65]) (by refine ⟨?_, ?_⟩; (simp (discharger := omega) only [go_sem, simprocAttr]; with_reducible rfl); refine ⟨?_, ?_, ?_, ?_⟩ <;> (simp only [go_sem, simprocAttr]; with_reducible rfl)), 0, _, rfl, rfl, Nat.zero_le _, hinv.congr fun j hj => by
        by_cases h : j < l
        · rw [if_pos h, if_pos h]
        · rw [if_neg h, if_neg h, List.take_zero]; simp⟩ ?_
    rintro mm st g ⟨x, ws, rfl, rfl, hx, hinv⟩
    have hwl : ws.length = N := hinv.1
    by_cases hxr : x < r
    · obtain ⟨y, hy⟩ : ∃ y, insL d k (x : Int) = y := ⟨_, rfl⟩
      have hyf : y = fixD a.base t k (x : Int) l := by rw [← hy]; unfold insL fixD; rw [hd]
      have hyl : y.length = t + 1 := by rw [← hy, insL_length (by omega), hdl]
      obtain ⟨v, hv⟩ : ∃ v, fixL a.base t k (x : Int) l = v := ⟨_, rfl⟩
      have c5 := Pack_snd hG a.base y
      have hrr := ok.rad
      obtain ⟨p1, p2⟩ := packErr_ok (base := a.base) (d := y) (by rw [hyl, ← ok.tr]; exact ok.good.many) (by rw [hyf]; exact fixD_ok (by omega) (by omega) l)
      have p3 : pack (radix a.base) y = v := by rw [hyf]; exact hv
      rw [p1, p2, p3] at c5
      have c6 := Clone_snd (G := G) d (by omega)
      have c7 := Insert_snd (G := G) d k (x : Int) (by omega) (by omega)
      rw [hy] at c7
      clear htb
      have htb := Tab.cons c5 Tab.nil
      repeat' (first | (with_reducible first | apply v1 | apply v2 | apply v3 | apply v4 | apply v5 | apply v6 | apply v7 | apply v8 | apply v9 | apply va | apply vb | apply vc) | ((with_reducible apply vd); focus decide) | ((with_reducible apply ve); focus exact rfl) | ((with_reducible apply vf); focus exact rfl) | ((first | (with_reducible apply HW_run ttR_ok hG htb) | ((with_reducible apply HW_draw rfl ttR_ok hG htb); (focus kernel_rfl); focus simp only [List.range, List.range.loop, List.size_toArray, List.length_cons, List.length_nil, Nat.reduceAdd])); focus ((repeat' (first | (with_reducible first | exact wg | exact wh) | ((with_reducible first | apply wi | apply wj); focus (simp (discharger := omega) only [go_sem, simprocAttr]; with_reducible rfl)))); done)))
      refine HW_norm (Norm.headS (own := []) (keep := [1, 2, 4, 7, 8, 10, 11, 12, 14, 48, 49, 64, 65]) (by refine ⟨?_, ?_⟩; (simp (discharger := omega) only [go_sem, simprocAttr]; with_reducible rfl); refine ⟨?_, ?_, ?_, ?_⟩ <;> (simp only [go_sem, simprocAttr]; with_reducible rfl))) ?_
      refine HW_sw ?_
      refine SW_drawS (fun q => if q = 3 then some ⟨[.box [.t (tInt M.base), .t (tInt M.tracks), .t (tIntss M.next), .t (tBools M.ends)], .box [.sref 2], .row 26 1 true ws], [.t (.fn 57 []), .t (tInts d)], [.box [.t (tInt M.base), .t (tInt M.tracks), .t (tIntss M.next), .t (tBools M.ends)], .box [.sref 2], .row 26 1 true ws, .row 3 1 true (iL d)], .sref 3, pastG [] []⟩ else if q = 7 then some ⟨[.box [.t (tInt M.base), .t (tInt M.tracks), .t (tIntss M.next), .t (tBools M.ends)], .box [.sref 2], .row 26 1 true ws, .row 3 1 true (iL d)], [.t (.fn 56 []), .sref 3, .t (tNat k), .lit [tInt (x : Int)]], [.froz (iL y), .box [.t (tInt M.base), .t (tInt M.tracks), .t (tIntss M.next), .t (tBools M.ends)], .box [.sref 3], .row 26 1 true ws], .t (tInts y), fun i => (posIn [3, 0, 1, 2] i).bind (pastG [.row 3 1 true (iL d)] [])⟩ else none) [3, 7] rfl ttR_ok hG htb (t := ?zt) ?topo ?hlk ?hok ?run ?rest
      case topo => kernel_rfl
      case hlk =>
        intro q L h
        by_cases h3 : q = 3
        · subst h3; simp
        · by_cases h7 : q = 7
          · subst h7; simp
          · simp [h3, h7] at h
      case hok =>
        intro q L o hL ho
        by_cases h3 : q = 3
        · subst h3
          rw [if_pos rfl] at hL
          cases hL
          cases ho
          exact LoudOk.call (asl := [.t (tInts d)]) (obs := []) (rst := [.box [.t (tInt M.base), .t (tInt M.tracks), .t (tIntss M.next), .t (tBools M.ends)], .box [.sref 2], .row 26 1 true ws]) (ks := []) (cap := []) rfl rfl rfl c6 rfl rfl
        · rw [if_neg h3] at hL
          by_cases h7 : q = 7
          · subst h7
            rw [if_pos rfl] at hL
            cases hL
            cases ho
            refine LoudOk.perm [3, 0, 1, 2] rfl (LoudOk.call (asl := [.sref 0, .t (tNat k), .lit [tInt (x : Int)]]) (obs := [.row 3 1 true (iL d)]) (rst := [.box [.t (tInt M.base), .t (tInt M.tracks), .t (tIntss M.next), .t (tBools M.ends)], .box [.sref 3], .row 26 1 true ws]) (ks := []) (cap := []) rfl rfl rfl c7 rfl rfl) rfl rfl ?_
            intro v hv
            simp [Op.operands, Call.operands] at hv
          · rw [if_neg h7] at hL
            cases hL
      case run =>
        (simp only [List.range, List.range.loop, List.size_toArray, List.length_cons, List.length_nil, Nat.reduceAdd]; repeat' (first | (with_reducible exact runA_nil) | ((with_reducible apply runA_cons); focus (first | (apply stepS_quietE rfl rfl rfl rfl; (focus (intro H; simp (discharger := omega) only [go_sem, autoP, tErr0, simprocAttr]; with_reducible rfl)); (focus rfl); (focus rfl); (focus (simp only [go_sem, simprocAttr]; with_reducible rfl))) | (apply stepS_loud rfl rfl rfl rfl rfl rfl; (focus (simp only [go_sem, loudSt, St.put, List.map_cons, List.map_nil, SV.ren, renL, pastG, posIn, Option.bind, List.getElem?_cons_zero, List.getElem?_cons_succ, List.getElem?_nil, simprocAttr]; with_reducible rfl)))))))
      case rest =>
        refine HThen_n ?_
        refine HW_norm (Norm.headS (own := []) (keep := [1, 2, 4, 7, 8, 10, 11, 12, 15, 48, 49, 64, 65]) (by refine ⟨?_, ?_⟩; (simp (discharger := omega) only [go_sem, simprocAttr]; with_reducible rfl); refine ⟨?_, ?_, ?_, ?_⟩ <;> (simp only [go_sem, simprocAttr]; with_reducible rfl))) ?_
        obtain ⟨sv, hsv⟩ : ∃ sv, ws[l]! = sv := ⟨_, rfl⟩
        have hhd := hinv.2 l hlt
        dsimp only at hhd
        rw [if_neg (by omega), if_pos rfl, hsv] at hhd
        obtain ⟨ra, rn, rc, rfl⟩ : ∃ ra rn rc, sv = .raw ra rn rc := by rcases hhd with ⟨_, _, h⟩ | ⟨q, _, _, _, _, h⟩ <;> exact ⟨_, _, _, h⟩
        have hcl : ((withR a.base t k l).take x).length ≤ 6 := by rw [List.length_take]; omega
        refine HW_drawH (A := ⟨8, .tmp 85, .tmp 87, .raw ra rn rc, [tInt v], l, 3, 1, iL ((withR a.base t k l).take x), g⟩) 10 rfl ttR_ok hG htb ?topo (t := 26) (i := ⟨.slice 3, 1, 24, [.t (.raw none 0 0)], false⟩) (ie := ⟨.int .i64, 1, 8, [.t (.int .i64 0)], false⟩) ⟨_, rfl, rfl, rfl⟩ rfl rfl (by show ttR 3 = _; rfl) rfl hhd rfl rfl ?hb ?hm rfl ?run2
        case topo => kernel_rfl
        case hb =>
          simp only [iL_length, List.length_cons, List.length_nil]
          show _ * 8 ≤ _
          omega
        case hm =>
          simp only [iL_length, List.length_cons, List.length_nil]
          unfold maxLen
          omega
        case run2 =>
          intro c
          have hst := hinv.step hlt v c (cont' := fun j => if j < l then withR a.base t k j else if j = l then (withR a.base t k l).take (x + 1) else []) (by rw [if_neg (by omega), if_pos rfl, if_neg (by omega), if_pos rfl, withR_take ok.rad hxr, hv]) (fun j h1 h2 => by
            by_cases h : j < l
            · rw [if_pos h, if_pos h]
            · rw [if_neg h, if_neg h, if_neg h1, if_neg h1])
          rw [if_neg (by omega), if_pos rfl] at hst
          refine ⟨?t2, ?r1, ?r2⟩
          case r1 =>
            (simp only [List.range, List.range.loop, List.size_toArray, List.length_cons, List.length_nil, Nat.reduceAdd]; repeat' (first | (with_reducible exact runA_nil) | ((with_reducible apply runA_cons); focus (first | (apply stepH_q rfl (by simp) (by simp) rfl rfl; (focus (simp (discharger := omega) only [go_sem, hsv, simprocAttr]; with_reducible rfl)); (focus (simp only [go_sem, simprocAttr]; with_reducible rfl))) | (apply stepH_a rfl rfl rfl rfl rfl rfl rfl; (focus (simp only [go_sem, simprocAttr]; with_reducible rfl))) | (apply stepH_l rfl (by simp) rfl; (focus (simp (discharger := omega) only [go_sem, hsv, simprocAttr]; with_reducible rfl)))))))
          case r2 =>
            dsimp only
            repeat' (first | (with_reducible first | apply v1 | apply v2 | apply v3 | apply v4 | apply v5 | apply v6 | apply v7 | apply v8 | apply v9 | apply va | apply vb | apply vc) | ((with_reducible apply vd); focus decide) | ((with_reducible apply ve); focus exact rfl) | ((with_reducible apply vf); focus exact rfl) | ((first | (with_reducible apply HW_run ttR_ok hG htb) | ((with_reducible apply HW_draw rfl ttR_ok hG htb); (focus kernel_rfl); focus simp only [List.range, List.range.loop, List.size_toArray, List.length_cons, List.length_nil, Nat.reduceAdd])); focus ((repeat' (first | (with_reducible first | exact wg | exact wh) | ((with_reducible first | apply wi | apply wj); focus (simp (discharger := omega) only [go_sem, simprocAttr]; with_reducible rfl)))); done)))
            exact ⟨r - (x + 1), _, by omega, Norm.headS (own := []) (keep := [1, 2, 4, 7, 8, 10, 11, 12, 48, 49, 64, 65]) (by refine ⟨?_, ?_⟩; (simp (discharger := omega) only [go_sem, simprocAttr]; with_reducible rfl); refine ⟨?_, ?_, ?_, ?_⟩ <;> (simp only [go_sem, simprocAttr]; with_reducible rfl)), x + 1, _, rfl, rfl, by omega, hst⟩
    · obtain rfl : x = r := by omega
      have htk : (withR a.base t k l).take x = withR a.base t k l := List.take_of_length_le (by rw [withR_len ok.rad]; exact Nat.le_refl _)
      repeat' (first | (with_reducible first | apply v1 | apply v2 | apply v3 | apply v4 | apply v5 | apply v6 | apply v7 | apply v8 | apply v9 | apply va | apply vb | apply vc) | ((with_reducible apply vd); focus decide) | ((with_reducible apply ve); focus exact rfl) | ((with_reducible apply vf); focus exact rfl) | ((first | (with_reducible apply HW_run ttR_ok hG htb) | ((with_reducible apply HW_draw rfl ttR_ok hG htb); (focus kernel_rfl); focus simp only [List.range, List.range.loop, List.size_toArray, List.length_cons, List.length_nil, Nat.reduceAdd])); focus ((repeat' (first | (with_reducible first | exact wg | exact wh) | ((with_reducible first | apply wi | apply wj); focus (simp (discharger := omega) only [go_sem, simprocAttr]; with_reducible rfl)))); done)))
      exact ⟨N - (l + 1), _, by omega, Norm.headS (own := []) (keep := [1, 2, 4, 7, 8, 10, 48, 49]) (by refine ⟨?_, ?_⟩; (simp (discharger := omega) only [go_sem, simprocAttr]; with_reducible rfl); refine ⟨?_, ?_, ?_, ?_⟩ <;> (simp only [go_sem, simprocAttr]; with_reducible rfl)), l + 1, _, rfl, rfl, by omega, hinv.congr fun j hj => by
        by_cases h : j < l
        · rw [if_pos (by omega), if_pos h]
        · by_cases h' : j = l
          · subst h'
            rw [if_pos (by omega), if_neg h, if_pos rfl, htk]
          · rw [if_neg (by omega), if_neg h, if_neg h']⟩
  · obtain rfl : l = N := by omega
    have hWl := withW_len ok
    obtain ⟨W, hWe⟩ : ∃ W, withW a.base t k = W := ⟨_, rfl⟩
    rw [hWe] at hWl
    have hWg : ∀ j, j < l → W[j]! = withR a.base t k j := fun j hj => by
      have := withW_get ok hj
      rw [hWe] at this
      obtain ⟨q1, q2⟩ := List.getElem?_eq_some_iff.1 this
      rw [getElem!_pos W j q1, q2]
    have hWr : ∀ w ∈ W, w.length = r ∧ ∀ x ∈ w, 0 ≤ x ∧ x < ((manyOf a.base a.tracks).toNat : Int) := fun w hw => by
      rw [← hWe] at hw
      unfold withW at hw
      obtain ⟨j, _, rfl⟩ := List.mem_map.1 hw
      exact ⟨withR_len ok.rad, withR_bd ok j⟩
    obtain ⟨o1, o2⟩ := (hinv.congr (cont' := fun j => W[j]!) (fun j hj => by rw [if_pos hj]; exact hWg j hj)).opens hWl (fun w hw e => by have := (hWr w hw).1; rw [e] at this; simp at this; omega)
    rw [hWe]
    refine HW_seq ?_
    repeat' (first | (with_reducible first | apply v2 | apply v3 | apply v4 | apply v5 | apply v6 | apply v7 | apply v8 | apply v9 | apply va | apply vb | apply vc) | ((with_reducible apply vd); focus decide) | ((with_reducible apply ve); focus exact rfl) | ((with_reducible apply vf); focus exact rfl) | ((first | (with_reducible apply HW_run ttR_ok hG htb) | ((with_reducible apply HW_draw rfl ttR_ok hG htb); (focus kernel_rfl); focus simp only [List.range, List.range.loop, List.size_toArray, List.length_cons, List.length_nil, Nat.reduceAdd])); focus ((repeat' (first | (with_reducible first | exact wg | exact wh) | ((with_reducible first | apply wi | apply wj); focus (simp (discharger := omega) only [go_sem, simprocAttr]; with_reducible rfl)))); done)))
    refine HW_seq ?_
    repeat' (first | (with_reducible first | apply v2 | apply v3 | apply v4 | apply v5 | apply v6 | apply v7 | apply v8 | apply v9 | apply va | apply vb | apply vc) | ((with_reducible apply vd); focus decide) | ((with_reducible apply ve); focus exact rfl) | ((with_reducible apply vf); focus exact rfl) | ((first | (with_reducible apply HW_run ttR_ok hG htb) | ((with_reducible apply HW_draw rfl ttR_ok hG htb); (focus kernel_rfl); focus simp only [List.range, List.range.loop, List.size_toArray, List.length_cons, List.length_nil, Nat.reduceAdd])); focus ((repeat' (first | (with_reducible first | exact wg | exact wh) | ((with_reducible first | apply wi | apply wj); focus (simp (discharger := omega) only [go_sem, simprocAttr]; with_reducible rfl)))); done)))
    refine HW_norm (Norm.headS (own := []) (keep := [1, 2, 4, 7, 8, 10]) (by refine ⟨?_, ?_⟩; (simp (discharger := omega) only [go_sem, simprocAttr]; with_reducible rfl); refine ⟨?_, ?_, ?_, ?_⟩ <;> (simp only [go_sem, simprocAttr]; with_reducible rfl))) ?_
    refine HW_open (κ' := Nat) (by exact GS_openRow (st := ⟨111, [(1, .t (tNat k)), (2, .t (autoP a)), (4, .bptr 0 0), (7, .t .nilI), (8, .t (tNat l)), (10, .bptr 1 0)], [.box [.t (tInt M.base), .t (tInt M.tracks), .t (tIntss M.next), .t (tBools M.ends)], .box [.sref 2], .row 26 1 true ws]⟩) (j := 2) (W.map tInts) rfl o1 o2) ?_
    clear o1 o2 hinv htb
    have htb : Tab.ok Try.prog G [] := Tab.nil
    refine SW_norm (Norm.frzRow 2 rfl) ?_
    refine SW_norm (Norm.trB 1 0 rfl rfl rfl) ?_
    refine SW_norm (Norm.fixBox 1 rfl rfl) ?_
    refine SW_norm (Norm.tr 10 rfl rfl) ?_
    refine SW_norm (Norm.headS (own := []) (keep := [1, 2, 4, 7, 8, 10]) (by refine ⟨?_, ?_⟩; (simp (discharger := omega) only [go_sem, simprocAttr]; with_reducible rfl); refine ⟨?_, ?_, ?_, ?_⟩ <;> (simp only [go_sem, simprocAttr]; with_reducible rfl))) ?_
    obtain ⟨w0, hw0⟩ : ∃ w0, W[0]! = w0 := ⟨_, rfl⟩
    have hw0W := bang_mem hw0 (by omega)
    have gMr := gM.rows
    have hm0 := gM.m0
    have hm80 := gM.m80
    obtain ⟨m, hm⟩ : ∃ m, M.next.length = m := ⟨_, rfl⟩
    rw [hm] at gMr hm0 hm80
    have c8 := closure_snd hG gMr hm0 hm80 (letters := w0) (hWr w0 hw0W).2
    have hIm : Inm m (closeL M w0) := close_in gMr hm0 (hWr w0 hw0W).2 _
    have hIl : (closeL M w0).length ≤ m := close_len gMr hm0 (hWr w0 hw0W).2 _
    have hWb : ∀ j, j < l → (W[j]!).length ≤ 6 := fun j hj => by
      have := (hWr _ (bang_mem (i := j) rfl (by omega))).1
      omega
    have c9 := GrowN_snd hG hm80 (closeL M w0) l 58 (.ptr [tIntss W]) (tInt M.base) (tInt M.tracks) (tIntss M.next) (tBools M.ends) (stepW M.next W) hIm (by omega) hN36 (fun s j hs hj => stepW_in gMr (fun q hq => (hWr q hq).2) hs (by omega)) (fun s j hs ha hj => by
      have := inm_len hs ha
      have h2 := stepW_len (next := M.next) (s := s) (hWb j hj)
      have h3 : s.length * 6 ≤ 80 * 6 := Nat.mul_le_mul_right _ (by omega)
      omega) (fun s j hs ha hj => LeftStep_snd hG gMr (fun q hq => ⟨by have := (hWr q hq).1; omega, (hWr q hq).2⟩) s hs (by have := inm_len hs ha; omega) j (by omega))
    rw [hw0]
    obtain ⟨R, hR⟩ : ∃ R, iL (closeL M w0) = R := ⟨_, rfl⟩
    rw [hR] at c8 c9
    obtain ⟨S, hS⟩ : ∃ S, growSets (stepW M.next W) l (closeL M w0) = S := ⟨_, rfl⟩
    obtain ⟨D, hD⟩ : ∃ D, growRows (stepW M.next W) l (closeL M w0) = D := ⟨_, rfl⟩
    obtain ⟨gk, hgk⟩ : ∃ gk, growOk (stepW M.next W) l (closeL M w0) = gk := ⟨_, rfl⟩
    rw [hS, hD, hgk] at c9
    rw [hS, hD]
    have hoke : leftOk a (k : Int) = gk := by unfold leftOk; rw [hM, hNe, hFe, hW, hWe, hw0]; exact hgk
    have hWlen : 0 < W.length := by omega
    show SW _ _ _ _ ⟨111, [(1, .t (tNat k)), (2, .t (autoP a)), (4, .bptr 0 0), (7, .t .nilI), (8, .t (tNat l)), (10, .t (.ptr [tIntss W]))], [.box [.t (tInt M.base), .t (tInt M.tracks), .t (tIntss M.next), .t (tBools M.ends)]]⟩
    refine SW_seq ?_
    refine SW_drawM (fun q => if q = 4 then some ⟨[.box [.t (tInt M.base), .t (tInt M.tracks), .t (tIntss M.next), .t (tBools M.ends)]], [.t (.fn 46 []), .t (tAuto M), .t (tInts w0)], [.box [.t (tInt M.base), .t (tInt M.tracks), .t (tIntss M.next), .t (tBools M.ends)], .row 3 1 true R], .sref 1, pastG [] []⟩ else if q = 7 then some ⟨[.box [.t (tInt M.base), .t (tInt M.tracks), .t (tIntss M.next), .t (tBools M.ends)], .row 3 1 true R], [.t (.fn 45 []), .sref 1, .t (tNat l), .fn 58 [.t (.ptr [tIntss W]), .bptr 0 0]], [.hole, .box [.t (tInt M.base), .t (tInt M.tracks), .t (tIntss M.next), .t (tBools M.ends)], .box [.t (tIntss S)]], .t (.tup [tIntss S, tIntss D, .bool gk]), fun i => (posIn [1, 0] i).bind (pastG [.row 3 1 true R, .box [.t (tInt M.base), .t (tInt M.tracks), .t (tIntss M.next), .t (tBools M.ends)]] [])⟩ else none) [4, 7] [4] [0] rfl ttR_ok hG htb (t := ?zt3) ?topo3 ?hlk3 ?hml3 ?hok3 ?run3 ?rest3
    case topo3 => kernel_rfl
    case hlk3 =>
      intro q L h
      by_cases h4 : q = 4
      · subst h4; simp
      · by_cases h7 : q = 7
        · subst h7; simp
        · simp [h4, h7] at h
    case hml3 =>
      intro q L h h4
      obtain rfl : q = 4 := by simpa using h4
      rw [if_pos rfl] at h
      cases h
      exact past_none
    case hok3 =>
      intro q L o hL ho
      by_cases h4 : q = 4
      · subst h4
        rw [if_pos rfl] at hL
        cases hL
        cases ho
        exact LoudOk.call (asl := [.t (tAuto M), .t (tInts w0)]) (obs := []) (rst := [.box [.t (tInt M.base), .t (tInt M.tracks), .t (tIntss M.next), .t (tBools M.ends)]]) (ks := []) (cap := []) rfl rfl rfl c8 rfl rfl
      · rw [if_neg h4] at hL
        by_cases h7 : q = 7
        · subst h7
          rw [if_pos rfl] at hL
          cases hL
          cases ho
          refine LoudOk.perm [1, 0] rfl (LoudOk.call (asl := [.sref 0, .t (tNat l), .fn 58 [.t (.ptr [tIntss W]), .bptr 1 0]]) (obs := [.row 3 1 true R, .box [.t (tInt M.base), .t (tInt M.tracks), .t (tIntss M.next), .t (tBools M.ends)]]) (rst := []) (ks := []) (cap := []) rfl rfl rfl c9 rfl rfl) rfl rfl ?_
          intro v hv
          simp [Op.operands, Call.operands] at hv
        · rw [if_neg h7] at hL
          cases hL
    case run3 =>
      (simp only [List.range, List.range.loop, List.size_toArray, List.length_cons, List.length_nil, Nat.reduceAdd]; repeat' (first | (with_reducible exact runA_nil) | ((with_reducible apply runA_cons); focus (first | (apply stepM_quiet rfl rfl rfl rfl; (focus (intro H; simp (discharger := omega) only [go_sem, tAuto, hw0, simprocAttr]; with_reducible rfl)); (focus (simp only [go_sem, simprocAttr]; with_reducible rfl))) | (apply stepM_own rfl rfl (by decide) rfl rfl; (focus (simp (discharger := omega) only [go_sem, tAuto, hw0, simprocAttr]; with_reducible rfl)); (focus (simp only [go_sem, simprocAttr]; with_reducible rfl))) | (apply stepM_loud rfl rfl rfl rfl rfl rfl; (focus (simp only [go_sem, loudSt, St.put, List.map_cons, List.map_nil, SV.ren, renL, pastG, posIn, Option.bind, List.getElem?_cons_zero, List.getElem?_cons_succ, List.getElem?_nil, simprocAttr]; with_reducible rfl)))))))
    case rest3 =>
      cases gk with
      | false =>
        have he : leftErr a (k : Int) = 3 := by unfold leftErr; rw [if_neg (fun q => q hf), if_neg (by omega), if_pos hoke]
        have hS0 : S = [] := by rw [← hS]; unfold growSets; rw [if_neg (by rw [hgk]; decide)]
        have hD0 : D = [] := by rw [← hD]; unfold growRows; rw [if_neg (by rw [hgk]; decide)]
        rw [he, hS0, hD0]
        repeat' (first | (with_reducible first | apply w1 | apply w2 | apply w3 | apply w4 | apply w5 | apply w6 | apply w7 | apply w8 | apply w9 | apply wa | apply wb | apply wc) | ((with_reducible apply wd); focus decide) | ((with_reducible apply we); focus exact rfl) | ((with_reducible apply wf); focus exact rfl) | ((first | (with_reducible apply SW_run tt_ok hG htb) | ((with_reducible apply SW_draw rfl tt_ok hG htb); (focus kernel_rfl); focus simp only [List.range, List.range.loop, List.size_toArray, List.length_cons, List.length_nil, Nat.reduceAdd])); focus ((repeat' (first | (with_reducible first | exact wg | exact wh) | ((with_reducible first | apply wi | apply wj); focus (simp (discharger := omega) only [go_sem, simprocAttr]; with_reducible rfl)))); done)))
        exact (by simp (discharger := omega) only [go_sem, tAuto, tErr, simprocAttr])
      | true =>
        have he : leftErr a (k : Int) = 0 := by unfold leftErr; rw [if_neg (fun q => q hf), if_neg (by omega), if_neg (by rw [hoke]; decide)]
        rw [he]
        repeat' (first | (with_reducible first | apply w1 | apply w2 | apply w3 | apply w4 | apply w5 | apply w6 | apply w7 | apply w8 | apply w9 | apply wa | apply wb | apply wc) | ((with_reducible apply wd); focus decide) | ((with_reducible apply we); focus exact rfl) | ((with_reducible apply wf); focus exact rfl) | ((first | (with_reducible apply SW_run tt_ok hG htb) | ((with_reducible apply SW_draw rfl tt_ok hG htb); (focus kernel_rfl); focus simp only [List.range, List.range.loop, List.size_toArray, List.length_cons, List.length_nil, Nat.reduceAdd])); focus ((repeat' (first | (with_reducible first | exact wg | exact wh) | ((with_reducible first | apply wi | apply wj); focus (simp (discharger := omega) only [go_sem, simprocAttr]; with_reducible rfl)))); done)))
        exact (by simp (discharger := omega) only [go_sem, tAuto, tErr, simprocAttr])
end
end Go.Proofs.Ythcclcbliedodaa
namespace Go.Proofs.Ythcclcbliedodaa
open Go.RowKit

/-- What is known where nothing is wrong. -/
structure LeftIs (a : GAuto) (k t N nW r m : Nat) : Prop where
  ok : LeftOk a k t N nW r
  M : Good (leastA a) N m
  Wlen : (withW a.base t k).length = nW
  Wrow : ∀ w ∈ withW a.base t k, w.length = r ∧ ∀ x ∈ w, 0 ≤ x ∧ x < (N : Int)
  W : leftW a (k : Int) = withW a.base t k
  n : leftN a = nW
  first : Inm m (closeL (leastA a) ((withW a.base t k)[0]!))
  F : leftF a (k : Int) = closeL (leastA a) ((withW a.base t k)[0]!)
  len : (leftR a k).length = (leftS a k).length
  pos : 0 < (leftS a k).length
  few : (leftS a k).length ≤ 2000
  rows : Rows0 nW (leftS a k).length (leftR a k)
  sets : ∀ s ∈ leftS a k, Inm m s ∧ s.Pairwise (· < ·)
  gok : growOk (stepW (leastA a).next (withW a.base t k)) nW (closeL (leastA a) ((withW a.base t k)[0]!)) = true
  expl : Expl (nextD (stepW (leastA a).next (withW a.base t k))) nW (leftS a k) (leftR a k)
  start : (leftS a k)[0]! = canonL (closeL (leastA a) ((withW a.base t k)[0]!))
theorem leftErr_zero {a : GAuto} {track : Int} (h : leftErr a track = 0) : autoFault a = 0 ∧ 0 ≤ track ∧ track < a.tracks ∧ leftOk a track = true := by
  unfold leftErr at h
  split at h
  · rename_i h1; exact (h1 h).elim
  · rename_i h1
    split at h
    · omega
    · rename_i h2
      split at h
      · omega
      · rename_i h3
        exact ⟨Classical.not_not.1 h1, by omega, by omega, by simpa using h3⟩
theorem left_is {a : GAuto} {k : Nat} (h : leftErr a (k : Int) = 0) : ∃ t N nW r m, LeftIs a k t N nW r m := by
  obtain ⟨hf, _, hkt, hok⟩ := leftErr_zero h
  obtain ⟨t, nW, r, ok⟩ := left_ok hf hkt
  obtain ⟨_, _, gM⟩ := least_again (good_of hf)
  have htt : a.tracks - 1 = ((t : Nat) : Int) := by have := ok.tr; omega
  have hW : leftW a (k : Int) = withW a.base t k := by unfold leftW; rw [htt]; rfl
  have hNe : leftN a = nW := by unfold leftN; rw [htt, Int.toNat_natCast, ok.nWe, Int.toNat_natCast]
  have hFe : leftF a (k : Int) = closeL (leastA a) ((withW a.base t k)[0]!) := by unfold leftF; rw [hW]
  have hb : ¬ leftBad a (k : Int) := fun q => by
    rcases q with q | q | q
    · exact q hf
    · omega
    · omega
  have hS : leftS a (k : Int) = growSets (stepW (leastA a).next (withW a.base t k)) nW (closeL (leastA a) ((withW a.base t k)[0]!)) := by
    unfold leftS; rw [if_neg hb, hW, hNe, hFe]
  have hR : leftR a (k : Int) = growRows (stepW (leastA a).next (withW a.base t k)) nW (closeL (leastA a) ((withW a.base t k)[0]!)) := by
    unfold leftR; rw [if_neg hb, hW, hNe, hFe]
  have hg : growOk (stepW (leastA a).next (withW a.base t k)) nW (closeL (leastA a) ((withW a.base t k)[0]!)) = true := by
    unfold leftOk at hok; rw [hW, hNe, hFe] at hok; exact hok
  have hWl := withW_len ok
  have hWr : ∀ w ∈ withW a.base t k, w.length = r ∧ ∀ x ∈ w, 0 ≤ x ∧ x < ((manyOf a.base a.tracks).toNat : Int) := fun w hw => by
    unfold withW at hw
    obtain ⟨j, _, rfl⟩ := List.mem_map.1 hw
    exact ⟨withR_len ok.rad, withR_bd ok j⟩
  have hn0 := ok.nW0
  have hIm : Inm (leastA a).next.length (closeL (leastA a) ((withW a.base t k)[0]!)) := close_in gM.rows gM.m0 (hWr _ (bang_mem (l := withW a.base t k) (i := 0) rfl (by omega))).2 _
  obtain ⟨f1, f2, f3, f4, f5, f6⟩ := grow_facts hg
  have fS := grow_inm (n := nW) (stp := stepW (leastA a).next (withW a.base t k)) hIm (fun s l hs hl => stepW_in gM.rows (fun q hq => (hWr q hq).2) hs (by rw [hWl]; exact hl))
  rw [← hS] at f1 f2 f3 f4 f5 f6 fS
  rw [← hR] at f1 f4 f6
  exact ⟨t, _, nW, r, _, ok, gM, hWl, hWr, hW, hNe, hIm, hFe, f1, f2, f3, f4, fS, hg, f6, f5⟩
noncomputable def someE (a : GAuto) (track : Int) : List Bool := (leftS a track).map fun s => s.any (endOf (leastA a).ends)
noncomputable def someRE (a : GAuto) (track : Int) : List (List Int) × List Bool := leastRE (leftN a) (leftR a track) (someE a track)
open Classical in
noncomputable def someErr (a : GAuto) (track : Int) : Int := if leftErr a track ≠ 0 then leftErr a track else if (someRE a track).1.length ≤ 80 then 0 else 3
open Classical in
noncomputable def someA (a : GAuto) (track : Int) : GAuto := if someErr a track = 0 then ⟨a.base, a.tracks - 1, (someRE a track).1, (someRE a track).2⟩ else GAuto.zero
section
variable {G : World → Prop} (hG : Lasting G)
include hG
theorem SomeEnd_snd {a : GAuto} {m : Nat} (h : a.ends.length = m) (x : Int) (hx : 0 ≤ x ∧ x < (m : Int)) : Snd Try.prog G 43 ([tInt x] ++ [autoP a]) (.bool (endOf a.ends x)) := by
  have htb : Tab.ok Try.prog G [] := Tab.nil
  refine snd_of_body (n := 9) (tm := [(0, .t (tInt x)), (1, .t (autoP a))]) (rs := [.tmp 3]) tt_ok Try.func43 rfl rfl rfl rfl rfl ?_
  obtain ⟨b, hb⟩ : ∃ b, a.ends[x.toNat]! = b := ⟨_, rfl⟩
  have he : endOf a.ends x = b := by unfold endOf; exact bang_D hb (by omega)
  rw [he]
  repeat' (first | (with_reducible first | apply w1 | apply w2 | apply w3 | apply w4 | apply w5 | apply w6 | apply w7 | apply w8 | apply w9 | apply wa | apply wb | apply wc) | ((with_reducible apply wd); focus decide) | ((with_reducible apply we); focus exact rfl) | ((with_reducible apply wf); focus exact rfl) | ((first | (with_reducible apply SW_run tt_ok hG htb) | ((with_reducible apply SW_draw rfl tt_ok hG htb); (focus kernel_rfl); focus simp only [List.range, List.range.loop, List.size_toArray, List.length_cons, List.length_nil, Nat.reduceAdd])); focus ((repeat' (first | (with_reducible first | exact wg | exact wh) | ((with_reducible first | apply wi | apply wj); focus (simp (discharger := omega) only [go_sem, autoP, hb, simprocAttr]; with_reducible rfl)))); done)))
  exact (by simp (discharger := omega) only [go_sem, simprocAttr])
set_option maxHeartbeats 8000000 in
set_option maxRecDepth 100000 in
theorem Some_snd (a : GAuto) (track : Int) : Snd Try.prog G 20 [tAuto a, tInt track] (.tup [tAuto (someA a track), tErr (someErr a track)]) := by
  have c1 := left_snd hG a track
  refine snd_of_body (n := 42) (tm := [(0, .t (tAuto a)), (1, .t (tInt track))]) (rs := [.cell 4 25, .tmp 5]) tt_ok Try.func20 rfl rfl rfl rfl rfl ?_
  by_cases h0 : leftErr a track = 0
  rotate_left
  · have he : someErr a track = leftErr a track := if_pos h0
    have hz : someA a track = GAuto.zero := by unfold someA; rw [he, if_neg h0]
    rw [he, hz]
    generalize leftErr a track = e at *
    generalize leastOf a = M at *
    generalize leftS a track = S at *
    generalize leftR a track = R at *
    have htb := Tab.cons c1 Tab.nil
    repeat' (first | (with_reducible first | apply w1 | apply w2 | apply w3 | apply w4 | apply w5 | apply w6 | apply w7 | apply w8 | apply w9 | apply wa | apply wb | apply wc) | ((with_reducible apply wd); focus decide) | ((with_reducible apply we); focus exact rfl) | ((with_reducible apply wf); focus exact rfl) | ((first | (with_reducible apply SW_run tt_ok hG htb) | ((with_reducible apply SW_draw rfl tt_ok hG htb); (focus kernel_rfl); focus simp only [List.range, List.range.loop, List.size_toArray, List.length_cons, List.length_nil, Nat.reduceAdd])); focus ((repeat' (first | (with_reducible first | exact wg | exact wh) | ((with_reducible first | apply wi | apply wj); focus (simp (discharger := omega) only [go_sem, tAuto, tErr, h0, simprocAttr]; with_reducible rfl)))); done)))
    exact (by simp (discharger := omega) only [go_sem, tAuto, tErr, h0, GAuto.zero, simprocAttr])
  obtain ⟨hf, hk0, _, _⟩ := leftErr_zero h0
  obtain ⟨k, rfl⟩ : ∃ k : Nat, track = (k : Int) := ⟨track.toNat, by omega⟩
  obtain ⟨t, N, nW, r, m, L⟩ := left_is h0
  have hlA : leastOf a = leastA a := if_pos hf
  have htt : a.tracks - 1 = ((t : Nat) : Int) := by have := L.ok.tr; omega
  have htr := L.ok.tr
  have ht4 := L.ok.t4
  have hne := L.n
  have hpos := L.pos
  have hfew := L.few
  have hrows := L.rows
  have hsets := L.sets
  have gM := L.M
  have hrl := L.len
  have hn36 := L.ok.nW36
  rw [h0, hlA] at c1
  have hsE : someE a (k : Int) = (leftS a (k : Int)).map fun s => s.any (endOf (leastA a).ends) := rfl
  have hRE : someRE a (k : Int) = leastRE nW (leftR a (k : Int)) (someE a (k : Int)) := by unfold someRE; rw [hne]
  have he0 : someErr a (k : Int) = if (someRE a (k : Int)).1.length ≤ 80 then 0 else 3 := by unfold someErr; rw [if_neg (fun q => q h0)]
  have hz0 : someA a (k : Int) = if someErr a (k : Int) = 0 then ⟨a.base, a.tracks - 1, (someRE a (k : Int)).1, (someRE a (k : Int)).2⟩ else GAuto.zero := rfl
  rw [hz0, he0, hRE, htt, hsE]
  clear he0 hz0 hRE hsE
  generalize leastA a = M at *
  generalize leftS a (k : Int) = S at *
  generalize leftR a (k : Int) = R at *
  have htb := Tab.cons c1 Tab.nil
  repeat' (first | (with_reducible first | apply w1 | apply w2 | apply w3 | apply w4 | apply w5 | apply w6 | apply w7 | apply w8 | apply w9 | apply wa | apply wb | apply wc) | ((with_reducible apply wd); focus decide) | ((with_reducible apply we); focus exact rfl) | ((with_reducible apply wf); focus exact rfl) | ((first | (with_reducible apply SW_run tt_ok hG htb) | ((with_reducible apply SW_draw rfl tt_ok hG htb); (focus kernel_rfl); focus simp only [List.range, List.range.loop, List.size_toArray, List.length_cons, List.length_nil, Nat.reduceAdd])); focus ((repeat' (first | (with_reducible first | exact wg | exact wh) | ((with_reducible first | apply wi | apply wj); focus (simp (discharger := omega) only [go_sem, tAuto, tErr0, simprocAttr]; with_reducible rfl)))); done)))
  clear htb
  refine SW_norm (Norm.headS (own := []) (keep := [2, 4, 5, 6, 7, 8, 9]) (by refine ⟨?_, ?_⟩; (simp (discharger := omega) only [go_sem, simprocAttr]; with_reducible rfl); refine ⟨?_, ?_, ?_, ?_⟩ <;> (simp only [go_sem, simprocAttr]; with_reducible rfl))) ?_
  refine SW_norm (Norm.fixBox 0 rfl rfl) ?_
  refine SW_norm (Norm.fixBox 2 rfl rfl) ?_
  refine SW_norm (Norm.tr 2 rfl rfl) ?_
  refine SW_norm (Norm.tr 6 rfl rfl) ?_
  refine SW_norm (Norm.headS (own := []) (keep := [2, 4, 5, 6, 7, 8, 9]) (by refine ⟨?_, ?_⟩; (simp (discharger := omega) only [go_sem, simprocAttr]; with_reducible rfl); refine ⟨?_, ?_, ?_, ?_⟩ <;> (simp only [go_sem, simprocAttr]; with_reducible rfl))) ?_
  have c2 := Ends_snd hG S (by omega) 43 [autoP M] (endOf M.ends) (fun s hs x hx => SomeEnd_snd hG gM.ends x ((hsets s hs).1 x hx))
  obtain ⟨E, hE⟩ : ∃ E, (S.map fun s => s.any (endOf M.ends)) = E := ⟨_, rfl⟩
  rw [hE] at c2
  have hEl : E.length = S.length := by rw [← hE, List.length_map]
  have c3 := Shrink_snd hG a.base (t : Int) hrows hpos (by omega) (ends := E) hEl (by omega)
  rw [hE]
  have hmap : [autoP M] = [.ptr [.int .i64 M.base, .int .i64 M.tracks, tIntss M.next, tBools M.ends]] := rfl
  have htb := Tab.cons c2 (Tab.cons c3 Tab.nil)
  by_cases h80 : (leastRE nW R E).1.length ≤ 80
  · have hsh : shrinkT a.base (t : Int) nW R E = .tup [tAuto ⟨a.base, (t : Int), (leastRE nW R E).1, (leastRE nW R E).2⟩, .bool true] := if_pos h80
    rw [if_pos h80, if_pos rfl]
    rw [hsh] at htb c3
    generalize leastRE nW R E = RE at *
    refine SW_norm (Norm.hole _) ?_
    (with_reducible apply SW_drawA [(13, 1)] rfl tt_ok hG htb)
    · kernel_rfl
    · simp only [List.range, List.range.loop, List.size_toArray, List.length_cons, List.length_nil, Nat.reduceAdd]
      repeat' (first | (with_reducible exact runG_nil) | ((with_reducible apply runG_cons); focus (simp (discharger := omega) only [go_sem, autoP, tAuto, htt, simprocAttr]; with_reducible rfl)))
    repeat' (first | (with_reducible first | apply w1 | apply w2 | apply w3 | apply w4 | apply w5 | apply w6 | apply w7 | apply w8 | apply w9 | apply wa | apply wb | apply wc) | ((with_reducible apply wd); focus decide) | ((with_reducible apply we); focus exact rfl) | ((with_reducible apply wf); focus exact rfl) | ((first | (with_reducible apply SW_run tt_ok hG htb) | ((with_reducible apply SW_draw rfl tt_ok hG htb); (focus kernel_rfl); focus simp only [List.range, List.range.loop, List.size_toArray, List.length_cons, List.length_nil, Nat.reduceAdd])); focus ((repeat' (first | (with_reducible first | exact wg | exact wh) | ((with_reducible first | apply wi | apply wj); focus (simp (discharger := omega) only [go_sem, autoP, tAuto, tErr0, simprocAttr]; with_reducible rfl)))); done)))
    exact (by simp (discharger := omega) only [go_sem, tAuto, tErr0, simprocAttr])
  · have hsh : shrinkT a.base (t : Int) nW R E = .tup [tAuto GAuto.zero, .bool false] := if_neg h80
    rw [if_neg h80, if_neg (by decide)]
    rw [hsh] at htb c3
    refine SW_norm (Norm.hole _) ?_
    (with_reducible apply SW_drawA [(13, 1)] rfl tt_ok hG htb)
    · kernel_rfl
    · simp only [List.range, List.range.loop, List.size_toArray, List.length_cons, List.length_nil, Nat.reduceAdd]
      repeat' (first | (with_reducible exact runG_nil) | ((with_reducible apply runG_cons); focus (simp (discharger := omega) only [go_sem, autoP, tAuto, htt, simprocAttr]; with_reducible rfl)))
    repeat' (first | (with_reducible first | apply w1 | apply w2 | apply w3 | apply w4 | apply w5 | apply w6 | apply w7 | apply w8 | apply w9 | apply wa | apply wb | apply wc) | ((with_reducible apply wd); focus decide) | ((with_reducible apply we); focus exact rfl) | ((with_reducible apply wf); focus exact rfl) | ((first | (with_reducible apply SW_run tt_ok hG htb) | ((with_reducible apply SW_draw rfl tt_ok hG htb); (focus kernel_rfl); focus simp only [List.range, List.range.loop, List.size_toArray, List.length_cons, List.length_nil, Nat.reduceAdd])); focus ((repeat' (first | (with_reducible first | exact wg | exact wh) | ((with_reducible first | apply wi | apply wj); focus (simp (discharger := omega) only [go_sem, autoP, tAuto, simprocAttr]; with_reducible rfl)))); done)))
    exact (by simp (discharger := omega) only [go_sem, tAuto, tErr, GAuto.zero, simprocAttr])
end
end Go.Proofs.Ythcclcbliedodaa
namespace Go.Proofs.Ythcclcbliedodaa
open Go.RowKit

section
variable {G : World → Prop} (hG : Lasting G)
include hG
end
end Go.Proofs.Ythcclcbliedodaa
namespace Go.Proofs.Ythcclcbliedodaa
open Go.RowKit

/-- What words of some letters lead to. -/
inductive Rch (a : GAuto) (letters : List Int) : Int → Prop
  | zero : Rch a letters 0
  | step (s : Int) (j : Nat) (h : Rch a letters s) (hj : j < letters.length) : Rch a letters (closeD a letters s j)
theorem rch_of_closed {a : GAuto} {letters C : List Int} (h0 : (0 : Int) ∈ C) (hc : ∀ s ∈ C, ∀ j, j < letters.length → closeD a letters s j ∈ C) {x : Int} (h : Rch a letters x) : x ∈ C := by
  induction h with
  | zero => exact h0
  | step s j _ hj ih => exact hc s ih j hj
theorem closeL_mem {a : GAuto} {n m : Nat} (h : Rows0 n m a.next) (hm : 0 < m) {letters : List Int} (hl : ∀ l ∈ letters, 0 ≤ l ∧ l < (n : Int)) (x : Int) : x ∈ closeL a letters ↔ Rch a letters x := by
  have hlen := close_len h hm hl a.next.length
  have hfix : (growS (closeD a letters) letters.length 0 a.next.length).length ≤ a.next.length := by rw [h.len] at hlen ⊢; exact hlen
  unfold closeL
  constructor
  · exact growS_in' (p := Rch a letters) .zero (fun s j hj hs => .step s j hs hj) _ x
  · refine rch_of_closed (List.mem_of_getElem? (growS_zero _)) fun s hs j hj => ?_
    obtain ⟨i, hi⟩ := List.mem_iff_getElem?.1 hs
    have := growS_done (δ := closeD a letters) (n := letters.length) (s0 := 0) a.next.length i s (by have := (List.getElem?_eq_some_iff.1 hi).1; omega) hi j hj
    exact this
section
variable {G : World → Prop} (hG : Lasting G)
include hG
end
end Go.Proofs.Ythcclcbliedodaa
namespace Go.Proofs.Ythcclcbliedodaa

def walkOk (c : Nat → Nat → Bool) : Nat → List Nat → Bool
  | _, [] => true
  | s, l :: w => !c s l && walkOk c l w
def chain (c : Nat → Nat → Bool) : List Nat → Bool
  | [] => true
  | x :: w => walkOk c x w
theorem walkOk_congr {c c' : Nat → Nat → Bool} {n : Nat} (h : ∀ s l, s < n → l < n → c s l = c' s l) : ∀ (w : List Nat) (s : Nat), s < n → Ltr n w → walkOk c s w = walkOk c' s w
  | [], _, _, _ => rfl
  | l :: w, s, hs, hw => by
    have hl := hw l List.mem_cons_self
    show (!c s l && walkOk c l w) = (!c' s l && walkOk c' l w)
    rw [h s l hs hl, walkOk_congr h w l hl fun x hx => hw x (List.mem_cons_of_mem _ hx)]
theorem chain_congr {c c' : Nat → Nat → Bool} {n : Nat} (h : ∀ s l, s < n → l < n → c s l = c' s l) {w : List Nat} (hw : Ltr n w) : chain c w = chain c' w := by
  cases w with
  | nil => rfl
  | cons x w => exact walkOk_congr h w x (hw x List.mem_cons_self) fun y hy => hw y (List.mem_cons_of_mem _ hy)
theorem walkOk_iff {c : Nat → Nat → Bool} : ∀ (w : List Nat) (s : Nat), walkOk c s w = true ↔ ∀ i, i < w.length → c ((s :: w).getD i 0) (w.getD i 0) = false
  | [], _ => by simp [walkOk]
  | l :: w, s => by
    rw [walkOk, Bool.and_eq_true, walkOk_iff w l]
    constructor
    · rintro ⟨h1, h2⟩ i hi
      cases i with
      | zero => simpa using h1
      | succ i => simpa using h2 i (by simpa using hi)
    · intro h
      exact ⟨by simpa using h 0 (by simp), fun i hi => by simpa using h (i + 1) (by simpa using hi)⟩
theorem chain_iff {c : Nat → Nat → Bool} (w : List Nat) : chain c w = true ↔ ∀ i, i + 1 < w.length → c (w.getD i 0) (w.getD (i + 1) 0) = false := by
  cases w with
  | nil => simp [chain]
  | cons x w =>
    rw [chain, walkOk_iff]
    constructor
    · intro h i hi; simpa using h i (by simpa using hi)
    · intro h i hi; simpa using h i (by simpa using hi)
theorem walkOk_free {c : Nat → Nat → Bool} (h : ∀ s l, c s l = false) : ∀ (w : List Nat) (s : Nat), walkOk c s w = true
  | [], _ => rfl
  | l :: w, s => by rw [walkOk, h, walkOk_free h w l]; rfl
theorem chain_free {c : Nat → Nat → Bool} (h : ∀ s l, c s l = false) (w : List Nat) : chain c w = true := by
  cases w with
  | nil => rfl
  | cons x w => exact walkOk_free h w x

theorem map_range_take {α : Type} (f : Nat → α) {m k : Nat} (h : k < m) : ((List.range m).map f).take (k + 1) = ((List.range m).map f).take k ++ [f k] := by
  rw [List.take_succ_eq_append_getElem (by simpa using h)]; simp
/-- Rows out of a function. -/
def tabN (m n : Nat) (d : Nat → Nat → Nat) : List (List Int) := (List.range m).map fun s => (List.range n).map fun l => (d s l : Int)
def tabE (m : Nat) (e : Nat → Bool) : List Bool := (List.range m).map e
theorem tab_rows {m n : Nat} {d : Nat → Nat → Nat} (h : ∀ s l, s < m → l < n → d s l < m) : Rows0 n m (tabN m n d) := by
  refine ⟨by simp [tabN], fun r hr => ?_, fun r hr x hx => ?_⟩
  · obtain ⟨s, _, rfl⟩ := List.mem_map.1 hr
    simp
  · obtain ⟨s, hs, rfl⟩ := List.mem_map.1 hr
    obtain ⟨l, hl, rfl⟩ := List.mem_map.1 hx
    have := h s l (List.mem_range.1 hs) (List.mem_range.1 hl)
    omega
theorem tab_nx {m n : Nat} {d : Nat → Nat → Nat} {s l : Nat} (hs : s < m) (hl : l < n) : nx (tabN m n d) (s : Int) l = (d s l : Nat) := by
  unfold nx rowOf tabN
  have e : ((List.range m).map fun s => (List.range n).map fun l => (d s l : Int)).getD s [] = (List.range n).map fun l => (d s l : Int) := by
    rw [getD_lt (by simpa using hs)]; simp
  rw [Int.toNat_natCast, e, getD_lt (by simpa using hl)]
  simp
theorem tab_run {m n : Nat} {d : Nat → Nat → Nat} (h : ∀ s l, s < m → l < n → d s l < m) : ∀ (w : List Nat) (s : Nat), s < m → Ltr n w → runS (tabN m n d) (s : Int) w = (runN d s w : Nat) ∧ runN d s w < m
  | [], s, hs, _ => ⟨rfl, hs⟩
  | l :: w, s, hs, hw => by
    have hl := hw l List.mem_cons_self
    show runS (tabN m n d) (nx (tabN m n d) (s : Int) l) w = (runN d (d s l) w : Nat) ∧ runN d (d s l) w < m
    rw [tab_nx hs hl]
    exact tab_run h w _ (h s l hs hl) fun x hx => hw x (List.mem_cons_of_mem _ hx)
theorem tab_lang {m n : Nat} {d : Nat → Nat → Nat} {e : Nat → Bool} (h : ∀ s l, s < m → l < n → d s l < m) {s : Nat} (hs : s < m) {w : List Nat} (hw : Ltr n w) : lang (tabN m n d) (tabE m e) (s : Int) w = e (runN d s w) := by
  obtain ⟨h1, h2⟩ := tab_run h w s hs hw
  unfold lang endOf
  rw [h1, Int.toNat_natCast, getD_lt (by simpa [tabE] using h2)]
  simp [tabE]

/-- The program's machine: a state is the last letter; one more is where it went wrong. -/
def rightD (n : Nat) (c : Nat → Nat → Bool) (s l : Nat) : Nat := if s = n ∨ c s l = true then n else l
theorem rightD_lt {n : Nat} {c : Nat → Nat → Bool} (s l : Nat) (_hs : s < n + 1) (hl : l < n) : rightD n c s l < n + 1 := by unfold rightD; split <;> omega
theorem rightD_dead {n : Nat} {c : Nat → Nat → Bool} : ∀ w : List Nat, runN (rightD n c) n w = n
  | [] => rfl
  | l :: w => by show runN _ (rightD n c n l) w = n; rw [show rightD n c n l = n by simp [rightD]]; exact rightD_dead w
theorem rightD_walk {n : Nat} {c : Nat → Nat → Bool} : ∀ (w : List Nat) (s : Nat), s < n → Ltr n w → decide (runN (rightD n c) s w < n) = walkOk c s w
  | [], s, hs, _ => by simp [runN, walkOk, hs]
  | l :: w, s, hs, hw => by
    have hl := hw l List.mem_cons_self
    show decide (runN _ (rightD n c s l) w < n) = (!c s l && walkOk c l w)
    cases hc : c s l with
    | true =>
      rw [show rightD n c s l = n by simp [rightD, hc], rightD_dead]; simp
    | false =>
      rw [show rightD n c s l = l by rw [rightD, if_neg]; simp [hc]; omega, rightD_walk w l hl fun x hx => hw x (List.mem_cons_of_mem _ hx)]; simp
/-- Two letters that have a digit 1 on the same track, in base Fib. -/
def clash (base : Int) (t s l : Nat) : Bool := base == 1 && (List.range t).any fun k => digitAt (radix base) t (s : Int) k == 1 && digitAt (radix base) t (l : Int) k == 1
theorem clash_chk : ((List.range 6).all fun t => (List.range (2 ^ t)).all fun s => (List.range (2 ^ t)).all fun l => ((s &&& l) != 0) == clash 1 t s l) = true := by kernel_rfl
theorem clash_and {t s l : Nat} (ht : t ≤ 5) (hs : s < 2 ^ t) (hl : l < 2 ^ t) : ((s &&& l) != 0) = clash 1 t s l := by
  have h := clash_chk
  simp only [List.all_eq_true, List.mem_range, beq_iff_eq] at h
  exact h t (by omega) s hs l hl
theorem clash_other {base : Int} (h : base ≠ 1) (t s l : Nat) : clash base t s l = false := by simp [clash, h]

/-- A word whose digits are right on each track. -/
def rightWd (base : Int) (t : Nat) (w : List Nat) : Bool := chain (clash base t) w

def rightNext (n : Nat) : List (List Int) := tabN (n + 1) n (rightD n fun s l => s &&& l != 0)
def rightEnds (n : Nat) : List Bool := tabE (n + 1) fun s => decide (s < n)
theorem right_rows (n : Nat) : Rows0 n (n + 1) (rightNext n) := tab_rows rightD_lt
theorem right_lang {t n : Nat} (ht : t ≤ 5) (hn : n = 2 ^ t) {w : List Nat} (hw : Ltr n w) : lang (rightNext n) (rightEnds n) 0 w = rightWd 1 t w := by
  have hp : 0 < n := by rw [hn]; exact Nat.two_pow_pos t
  have h := tab_lang (e := fun s => decide (s < n)) (rightD_lt (n := n) (c := fun s l => s &&& l != 0)) (s := 0) (by omega) hw
  refine h.trans ?_
  show decide (runN _ 0 w < n) = _
  rw [rightD_walk w 0 hp hw]
  unfold rightWd
  rw [chain_congr (c' := fun s l => s &&& l != 0) (n := n) (fun s l hs hl => (clash_and ht (by omega) (by omega)).symm) hw]
  cases w with
  | nil => rfl
  | cons x w => show (!(0 &&& x != 0) && walkOk _ x w) = walkOk _ x w; simp
noncomputable def allRE (base : Int) (n : Nat) : List (List Int) × List Bool := if base = 1 then leastRE n (rightNext n) (rightEnds n) else ([List.replicate n 0], [true])
noncomputable def allA (base tracks : Int) : GAuto := if manyErr base tracks = 0 then ⟨base, tracks, (allRE base (manyOf base tracks).toNat).1, (allRE base (manyOf base tracks).toNat).2⟩ else GAuto.zero
theorem powW_two (t : Nat) : powW 2 t = ((2 ^ t : Nat) : Int) := by
  induction t with
  | zero => rfl
  | succ t ih => show powW 2 t * 2 = _; rw [ih]; rw [Nat.pow_succ]; omega
/-- All right words: what it is. -/
theorem allA_isLeast {base : Int} {t n : Nat} (h0 : manyErr base t = 0) (hn : manyOf base t = n) : IsLeast (allA base t) n base t (rightWd base t) ∧ (allA base t).next.length ≤ 37 := by
  obtain ⟨r0, t0, t5, p36, hm⟩ := many_ok h0
  have hn36 : n ≤ 36 := by omega
  unfold allA
  rw [if_pos h0, hn, Int.toNat_natCast]
  by_cases h1 : base = 1
  · subst h1
    have e : n = 2 ^ t := by
      have h2 : radix 1 = 2 := rfl
      rw [h2, powW_two, Int.toNat_natCast] at hm; omega
    have h := leastRE_spec (ends := rightEnds n) (right_rows n) (by omega)
    unfold allRE
    rw [if_pos rfl]
    exact ⟨⟨rfl, rfl, h.1.lang_congr fun w hw => right_lang (by omega) e hw⟩, by have := h.2; simp only; omega⟩
  · unfold allRE
    rw [if_neg h1]
    exact ⟨⟨rfl, rfl, (least_const n true).lang_congr fun w _ => (chain_free (clash_other h1 t) w).symm⟩, by simp⟩
theorem many_nat {base tracks : Int} (h0 : manyErr base tracks = 0) : ∃ t n : Nat, tracks = t ∧ manyOf base t = n ∧ t ≤ 5 ∧ 0 < n ∧ n ≤ 36 := by
  obtain ⟨r0, t0, t5, p36, hm⟩ := many_ok h0
  obtain ⟨t, rfl⟩ := Int.eq_ofNat_of_zero_le t0
  have := powW_pos (radix_two r0).1 (t : Int).toNat
  exact ⟨t, (manyOf base t).toNat, rfl, by omega, by omega, by omega, by omega⟩
theorem allA_good {base : Int} {t n : Nat} (h0 : manyErr base t = 0) (hn : manyOf base t = n) : Good (allA base t) n (allA base t).next.length := by
  obtain ⟨h, h37⟩ := allA_isLeast h0 hn
  obtain ⟨r0, t0, t5, p36, hm⟩ := many_ok h0
  have hp := powW_pos (radix_two r0).1 (t : Int).toNat
  exact ⟨by rw [h.base, h.tracks]; exact h0, by rw [h.base, h.tracks]; exact hn, by omega, by omega, h.least.length_pos, by omega, h.least.len, h.least.rows⟩
end Go.Proofs.Ythcclcbliedodaa
namespace Go.Proofs.Ythcclcbliedodaa

/-- The least rows and ends of a language. -/
noncomputable def leastL (n : Nat) (L : List Nat → Bool) : List (List Int) × List Bool := open Classical in if h : ∃ p : List (List Int) × List Bool, Least n p.1 p.2 L then Classical.choose h else ([], [])
theorem leastL_eq {n : Nat} {N : List (List Int)} {E : List Bool} {L : List Nat → Bool} (h : Least n N E L) : leastL n L = (N, E) := by
  have hx : ∃ p : List (List Int) × List Bool, Least n p.1 p.2 L := ⟨(N, E), h⟩
  unfold leastL
  rw [dif_pos hx]
  have := (Classical.choose_spec hx).unique h
  exact Prod.ext this.1 this.2
/-- Some table takes this language. -/
def Regular (n : Nat) (L : List Nat → Bool) : Prop := ∃ N E, Least n N E L
theorem Regular.of {n m : Nat} {next : List (List Int)} {ends : List Bool} {L : List Nat → Bool} (hR : Rows0 n m next) (hm : 0 < m) (h : ∀ w, Ltr n w → lang next ends 0 w = L w) : Regular n L :=
  ⟨_, _, (leastRE_spec (ends := ends) hR hm).1.lang_congr h⟩
theorem Regular.least {n : Nat} {L : List Nat → Bool} (h : Regular n L) : Least n (leastL n L).1 (leastL n L).2 L := by
  obtain ⟨N, E, h⟩ := h
  rw [leastL_eq h]; exact h
/-- A least automaton has no more states than words have kinds. -/
theorem Least.bound {n : Nat} {N : List (List Int)} {E : List Bool} {L : List Nat → Bool} (h : Least n N E L) (K : Nat) (κ : List Nat → Nat) (hκ : ∀ v, Ltr n v → κ v < K)
    (hres : ∀ v w, Ltr n v → Ltr n w → κ v = κ w → ∀ x, Ltr n x → L (v ++ x) = L (w ++ x)) : N.length ≤ K := by
  have hreach : ∀ k s, s ≤ k → s < N.length → ∃ v, Ltr n v ∧ runN (fun k l => ((N.getD k []).getD l 0).toNat) 0 v = s := by
    intro k
    induction k with
    | zero => intro s hs _; exact ⟨[], fun _ h => by simp at h, by rw [show s = 0 by omega]; rfl⟩
    | succ k ih =>
      intro s hs hlt
      by_cases h0 : s = 0
      · subst h0; exact ⟨[], fun _ h => by simp at h, rfl⟩
      · obtain ⟨q, l, hq, hl, e⟩ := h.canon.reach s (by omega) hlt
        obtain ⟨v, hv, ev⟩ := ih q (by omega) (by omega)
        refine ⟨v ++ [l], fun x hx => ?_, ?_⟩
        · rcases List.mem_append.1 hx with hx | hx
          · exact hv x hx
          · simp at hx; subst hx; exact hl
        · unfold runN at ev ⊢
          rw [List.foldl_append, ev]; exact e
  have hr : ∀ s, ∃ v, s < N.length → Ltr n v ∧ runN (fun k l => ((N.getD k []).getD l 0).toNat) 0 v = s := fun s => by
    by_cases hs : s < N.length
    · obtain ⟨v, hv⟩ := hreach s s (Nat.le_refl _) hs
      exact ⟨v, fun _ => hv⟩
    · exact ⟨[], fun h => (hs h).elim⟩
  obtain ⟨f, hf⟩ := Classical.axiomOfChoice hr
  have := nodup_boundN K ((List.range N.length).map fun s => κ (f s)) (by
    refine List.pairwise_map.2 (List.nodup_range.imp_of_mem fun {s q} hs hq hne e => hne ?_)
    have hs := List.mem_range.1 hs
    have hq := List.mem_range.1 hq
    obtain ⟨h1, h2⟩ := hf s hs
    obtain ⟨h3, h4⟩ := hf q hq
    refine h.canon.red s q hs hq fun x hx => ?_
    have := hres _ _ h1 h3 e x hx
    have app : ∀ v, Ltr n v → Ltr n (v ++ x) := fun v hv y hy => by
      rcases List.mem_append.1 hy with hy | hy
      · exact hv y hy
      · exact hx y hy
    rw [← h.canon.lang _ (app _ h1), ← h.canon.lang _ (app _ h3)] at this
    unfold runN at this h2 h4 ⊢
    rw [List.foldl_append, List.foldl_append, h2, h4] at this
    exact this) fun k hk => by
      obtain ⟨s, hs, rfl⟩ := List.mem_map.1 hk
      exact hκ _ (hf s (List.mem_range.1 hs)).1
  simpa using this

section
variable {base : Int} {t n m : Nat} {next : List (List Int)} {ends : List Bool}
end

section
variable {k m : Nat} {next : List (List Int)}
end

section
variable {A B : List (List Int)} {f g : Nat → Nat} {n n1 n2 ma mb : Nat}
end
end Go.Proofs.Ythcclcbliedodaa
namespace Go.Proofs.Ythcclcbliedodaa
open Go.RowKit

section
variable {G : World → Prop} (hG : Lasting G)
include hG
end
end Go.Proofs.Ythcclcbliedodaa
namespace Go.Proofs.Ythcclcbliedodaa
open Go.RowKit

/-- A word of all tracks that reads as one of what is left. -/
inductive Fill (W : List (List Int)) : List Nat → List Nat → Prop
  | nil : Fill W [] []
  | cons {k l : Nat} {v w : List Nat} (h : ((k : Nat) : Int) ∈ W[l]!) (t : Fill W v w) : Fill W (k :: v) (l :: w)
theorem bang_in {W : List (List Int)} {l : Nat} {k : Int} (h : k ∈ W[l]!) : ∃ r ∈ W, k ∈ r ∧ W[l]? = some r := by
  by_cases hl : l < W.length
  · exact ⟨_, bang_mem rfl hl, h, bang_get rfl hl⟩
  · rw [getElem!_neg W l hl] at h
    cases h
theorem Fill.ltr {W : List (List Int)} {N : Nat} (hW : ∀ r ∈ W, ∀ k ∈ r, 0 ≤ k ∧ k < (N : Int)) {v w : List Nat} (h : Fill W v w) : Ltr N v := by
  induction h with
  | nil => intro x hx; cases hx
  | cons h t ih =>
    intro x hx
    rcases List.mem_cons.1 hx with rfl | hx
    · obtain ⟨r, h1, h2, _⟩ := bang_in h
      have := hW r h1 _ h2
      omega
    · exact ih x hx
section
variable {next W : List (List Int)}
theorem stepW_mem (hW : ∀ r ∈ W, ∀ k ∈ r, 0 ≤ k) {s : List Int} {l : Nat} {x : Int} : x ∈ nextD (stepW next W) s l ↔ ∃ y ∈ s, ∃ k : Nat, ((k : Nat) : Int) ∈ W[l]! ∧ nx next y k = x := by
  unfold nextD
  rw [canonL_mem]
  unfold stepW
  rw [List.mem_flatMap]
  constructor
  · rintro ⟨y, hy, hx⟩
    obtain ⟨k, hk, rfl⟩ := List.mem_map.1 hx
    obtain ⟨r, h1, h2, _⟩ := bang_in hk
    have h0 := hW r h1 k h2
    exact ⟨y, hy, k.toNat, by rw [Int.toNat_of_nonneg h0]; exact hk, rfl⟩
  · rintro ⟨y, hy, k, hk, rfl⟩
    exact ⟨y, hy, List.mem_map.2 ⟨_, hk, by simp⟩⟩
theorem stepW_run (hW : ∀ r ∈ W, ∀ k ∈ r, 0 ≤ k) : ∀ (w : List Nat) (s : List Int) (x : Int), x ∈ w.foldl (nextD (stepW next W)) s ↔ ∃ y ∈ s, ∃ v, Fill W v w ∧ runS next y v = x
  | [], s, x => ⟨fun h => ⟨x, h, [], .nil, rfl⟩, fun ⟨y, hy, v, hv, e⟩ => by cases hv; cases e; exact hy⟩
  | l :: w, s, x => by
    rw [List.foldl_cons, stepW_run hW w]
    constructor
    · rintro ⟨y, hy, v, hv, e⟩
      obtain ⟨z, hz, k, hk, rfl⟩ := (stepW_mem hW).1 hy
      exact ⟨z, hz, k :: v, .cons hk hv, e⟩
    · rintro ⟨z, hz, v, hv, e⟩
      cases hv with
      | cons hk ht => exact ⟨_, (stepW_mem hW).2 ⟨z, hz, _, hk, rfl⟩, _, ht, e⟩
theorem runS_append (w v : List Nat) (s : Int) : runS next s (w ++ v) = runS next (runS next s w) v := List.foldl_append
end
theorem rch_words {a : GAuto} {letters : List Int} (hl : ∀ l ∈ letters, 0 ≤ l) {x : Int} : Rch a letters x ↔ ∃ z : List Nat, (∀ k ∈ z, ((k : Nat) : Int) ∈ letters) ∧ runS a.next 0 z = x := by
  constructor
  · intro h
    induction h with
    | zero => exact ⟨[], fun k hk => (by cases hk), rfl⟩
    | step s j _ hj ih =>
      obtain ⟨z, h1, rfl⟩ := ih
      have hm : letters[j]! ∈ letters := bang_mem rfl hj
      refine ⟨z ++ [(letters[j]!).toNat], fun k hk => ?_, ?_⟩
      · rcases List.mem_append.1 hk with hk | hk
        · exact h1 k hk
        · rw [List.mem_singleton] at hk
          subst hk
          rw [Int.toNat_of_nonneg (hl _ hm)]; exact hm
      · rw [runS_append]; rfl
  · rintro ⟨z, h1, rfl⟩
    have : ∀ (z : List Nat) (s : Int), Rch a letters s → (∀ k ∈ z, ((k : Nat) : Int) ∈ letters) → Rch a letters (runS a.next s z) := by
      intro z
      induction z with
      | nil => intro s hs _; exact hs
      | cons k z ih =>
        intro s hs hz
        refine ih _ ?_ fun x hx => hz x (List.mem_cons_of_mem _ hx)
        obtain ⟨j, hj⟩ := List.mem_iff_getElem?.1 (hz k List.mem_cons_self)
        obtain ⟨q1, q2⟩ := List.getElem?_eq_some_iff.1 hj
        have e : nx a.next s k = closeD a letters s j := by
          unfold closeD
          rw [getElem!_pos letters j q1, q2, Int.toNat_natCast]
        rw [e]
        exact .step s j hs q1
    exact this z 0 .zero h1
theorem any_iff {ends : List Bool} {s : List Int} : s.any (endOf ends) = true ↔ ∃ x ∈ s, endOf ends x = true := List.any_eq_true
theorem bool_iff {a b : Bool} (h : a = true ↔ b = true) : a = b := by
  cases a <;> cases b <;> simp_all
open Classical in
/-- With what is left out: some word of all, perhaps with letters ahead that are 0 elsewhere. -/
noncomputable def someL (L : List Nat → Bool) (W : List (List Int)) (w : List Nat) : Bool := decide (∃ z v, (∀ k ∈ z, ((k : Nat) : Int) ∈ W[0]!) ∧ Fill W v w ∧ L (z ++ v) = true)
open Classical in
theorem someL_true {L : List Nat → Bool} {W : List (List Int)} {w : List Nat} : someL L W w = true ↔ ∃ z v, (∀ k ∈ z, ((k : Nat) : Int) ∈ W[0]!) ∧ Fill W v w ∧ L (z ++ v) = true := by
  unfold someL
  exact decide_eq_true_iff
theorem left_lang {a : GAuto} {k t N nW r m : Nat} (h : LeftIs a k t N nW r m) {w : List Nat} (hw : Ltr nW w) : lang (leftR a k) (someE a k) 0 w = someL (lng (leastA a)) (withW a.base t k) w := by
  have hW : ∀ r ∈ withW a.base t k, ∀ x ∈ r, 0 ≤ x ∧ x < (N : Int) := fun q hq => (h.Wrow q hq).2
  have hW0 : ∀ r ∈ withW a.base t k, ∀ x ∈ r, 0 ≤ x := fun q hq x hx => (hW q hq x hx).1
  have hw0 : (withW a.base t k)[0]! ∈ withW a.base t k := bang_mem rfl (by have := h.Wlen; have := h.ok.nW0; omega)
  rw [h.expl.lang (E := fun s => s.any (endOf (leastA a).ends)) h.len (bang_get h.start h.pos) (fun i s hs => by unfold someE; rw [List.getElem?_map, hs]; rfl) hw]
  refine bool_iff ?_
  rw [any_iff, someL_true]
  constructor
  · rintro ⟨x, hx, he⟩
    obtain ⟨y, hy, v, hv, rfl⟩ := (stepW_run hW0 w _ x).1 hx
    rw [canonL_mem, closeL_mem h.M.rows h.M.m0 (hW _ hw0), rch_words (hW0 _ hw0)] at hy
    obtain ⟨z, hz, rfl⟩ := hy
    exact ⟨z, v, hz, hv, by unfold lng lang; rw [runS_append]; exact he⟩
  · rintro ⟨z, v, hz, hv, he⟩
    unfold lng lang at he
    rw [runS_append] at he
    exact ⟨_, (stepW_run hW0 w _ _).2 ⟨_, by rw [canonL_mem, closeL_mem h.M.rows h.M.m0 (hW _ hw0), rch_words (hW0 _ hw0)]; exact ⟨z, hz, rfl⟩, v, hv, rfl⟩, he⟩
end Go.Proofs.Ythcclcbliedodaa
namespace Go.Proofs.Ythcclcbliedodaa
open Go.RowKit

/-- A letter without a track. -/
def dropL (base : Int) (t j k : Nat) : Nat := (pack (radix base) ((unpack (radix base) (t + 1) (k : Int)).eraseIdx j)).toNat
section
variable {base : Int} {t j : Nat}
theorem erase_len (hj : j ≤ t) (k : Int) : ((unpack (radix base) (t + 1) k).eraseIdx j).length = t := by
  rw [List.length_eraseIdx_of_lt (by rw [unpack_length]; omega), unpack_length]; rfl
theorem erase_ok (hr : radix base ≠ 0) (k : Int) : ∀ x ∈ (unpack (radix base) (t + 1) k).eraseIdx j, 0 ≤ x ∧ x < radix base := fun x hx =>
  unpack_ok (radix_two hr).1 (t + 1) k x (List.mem_of_mem_eraseIdx hx)
theorem dropL_int (hr : radix base ≠ 0) (k : Nat) : ((dropL base t j k : Nat) : Int) = pack (radix base) ((unpack (radix base) (t + 1) (k : Int)).eraseIdx j) :=
  Int.toNat_of_nonneg (pack_bd (radix_two hr).1 _ (erase_ok hr _)).1
theorem unpack_drop (hr : radix base ≠ 0) (hj : j ≤ t) (k : Nat) : unpack (radix base) t ((dropL base t j k : Nat) : Int) = (unpack (radix base) (t + 1) (k : Int)).eraseIdx j := by
  have := unpack_pack (radix_two hr).1 _ (erase_ok (base := base) (t := t) (j := j) hr (k : Int))
  rw [erase_len hj] at this
  rw [dropL_int hr]; exact this
theorem with_mem (hr : radix base ≠ 0) (hj : j ≤ t) {l k : Nat} (hl : (l : Int) < powW (radix base) t) : ((k : Nat) : Int) ∈ withR base t j l ↔ ((k : Nat) : Int) < powW (radix base) (t + 1) ∧ dropL base t j k = l := by
  have h2 := (radix_two hr).1
  have hdl := unpack_length (radix base) t (l : Int)
  have hdp := pack_unpack h2 t (l : Int) (by omega) hl
  unfold withR
  rw [List.mem_map]
  constructor
  · rintro ⟨x, hx, e⟩
    have hx := List.mem_range.1 hx
    have hxb : 0 ≤ ((x : Nat) : Int) ∧ ((x : Nat) : Int) < radix base := by omega
    have hb := fixL_bd (base := base) hr (t := t) (k := j) hxb hj l
    rw [e] at hb
    refine ⟨hb.2, ?_⟩
    have hD : unpack (radix base) (t + 1) (k : Int) = fixD base t j x l := by
      have := unpack_pack h2 _ (fixD_ok (base := base) hr (t := t) (k := j) hxb l)
      rw [fixD_len _ _ hj] at this
      rw [← e]; exact this
    have hE : (fixD base t j x l).eraseIdx j = unpack (radix base) t (l : Int) := by
      unfold fixD
      rw [List.append_assoc, List.eraseIdx_append_of_length_le (by rw [List.length_take]; omega), List.length_take, Nat.min_eq_left (by omega), Nat.sub_self]
      exact List.take_append_drop j _
    have := dropL_int (base := base) (t := t) (j := j) hr k
    rw [hD, hE, hdp] at this
    omega
  · rintro ⟨hk, e⟩
    have hu := unpack_drop (base := base) (t := t) hr hj k
    rw [e] at hu
    obtain ⟨D, hD⟩ : ∃ D, unpack (radix base) (t + 1) (k : Int) = D := ⟨_, rfl⟩
    have hDl : D.length = t + 1 := by rw [← hD]; exact unpack_length _ _ _
    have hDo : ∀ x ∈ D, 0 ≤ x ∧ x < radix base := by rw [← hD]; exact unpack_ok h2 (t + 1) _
    have hDp : pack (radix base) D = (k : Int) := by rw [← hD]; exact pack_unpack h2 (t + 1) _ (by omega) hk
    have hjl : j < D.length := by omega
    have hb := hDo _ (List.getElem_mem hjl)
    refine ⟨D[j].toNat, List.mem_range.2 (by omega), ?_⟩
    rw [Int.toNat_of_nonneg hb.1]
    unfold fixL
    have : fixD base t j D[j] l = D := by
      unfold fixD
      rw [hu, hD, List.eraseIdx_eq_take_drop_succ, List.take_append_of_le_length (by rw [List.length_take]; omega), List.take_take, Nat.min_self, List.drop_append_of_le_length (by rw [List.length_take]; omega)]
      rw [show List.drop j (List.take j D) = [] from List.drop_eq_nil_of_le (by rw [List.length_take]; omega), List.nil_append, List.append_assoc, List.singleton_append, List.getElem_cons_drop, List.take_append_drop]
    rw [this, hDp]
end
section
variable {a : GAuto} {k t N nW r : Nat}
theorem LeftOk.rad0 (h : LeftOk a k t N nW r) : radix a.base ≠ 0 := by have := h.rad; have := h.r2; omega
theorem LeftOk.nWp (h : LeftOk a k t N nW r) : ((nW : Nat) : Int) = powW (radix a.base) t := by
  obtain ⟨_, _, _, _, e⟩ := many_ok h.many
  rw [← h.nWe, e, Int.toNat_natCast]
theorem fill_iff (h : LeftOk a k t N nW r) : ∀ {w v : List Nat}, Ltr nW w → (Fill (withW a.base t k) v w ↔ Ltr N v ∧ v.map (dropL a.base t k) = w)
  | [], v, _ => by
    constructor
    · intro hv; cases hv; exact ⟨fun x hx => (by cases hx), rfl⟩
    · rintro ⟨_, e⟩
      rw [List.map_eq_nil_iff] at e
      subst e; exact .nil
  | l :: w, v, hw => by
    have hl := hw l List.mem_cons_self
    have hw' : Ltr nW w := fun x hx => hw x (List.mem_cons_of_mem _ hx)
    have hg : (withW a.base t k)[l]! = withR a.base t k l := bang0' (withW_get h hl)
    have hwm := fun x : Nat => with_mem (base := a.base) (t := t) (j := k) h.rad0 h.kt (l := l) (k := x) (by rw [← h.nWp]; omega)
    have hN := h.N_eq
    constructor
    · intro hv
      cases hv with
      | cons hk ht =>
        rw [hg, hwm] at hk
        obtain ⟨q1, q2⟩ := (fill_iff h hw').1 ht
        exact ⟨fun x hx => by
          rcases List.mem_cons.1 hx with rfl | hx
          · omega
          · exact q1 x hx, by rw [List.map_cons, hk.2, q2]⟩
    · rintro ⟨q1, q2⟩
      cases v with
      | nil => cases q2
      | cons x v =>
        rw [List.map_cons, List.cons.injEq] at q2
        have hx := q1 x List.mem_cons_self
        refine .cons ?_ ((fill_iff h hw').2 ⟨fun y hy => q1 y (List.mem_cons_of_mem _ hy), q2.2⟩)
        rw [hg, hwm]
        exact ⟨by omega, q2.1⟩
where
  bang0' {l : List (List Int)} {i : Nat} {x : List Int} (h : l[i]? = some x) : l[i]! = x := by
    obtain ⟨q1, q2⟩ := List.getElem?_eq_some_iff.1 h
    rw [getElem!_pos l i q1, q2]
theorem lead_iff (h : LeftOk a k t N nW r) {z : List Nat} : (∀ x ∈ z, ((x : Nat) : Int) ∈ (withW a.base t k)[0]!) ↔ Ltr N z ∧ z.map (dropL a.base t k) = List.replicate z.length 0 := by
  have hg : (withW a.base t k)[0]! = withR a.base t k 0 := by
    obtain ⟨q1, q2⟩ := List.getElem?_eq_some_iff.1 (withW_get h h.nW0)
    rw [getElem!_pos _ 0 q1, q2]
  have hwm := fun x : Nat => with_mem (base := a.base) (t := t) (j := k) h.rad0 h.kt (l := 0) (k := x) (by rw [← h.nWp]; have := h.nW0; omega)
  have hN := h.N_eq
  rw [hg, List.eq_replicate_iff]
  constructor
  · intro q
    refine ⟨fun x hx => ?_, by simp, fun y hy => ?_⟩
    · have := (hwm x).1 (q x hx); omega
    · obtain ⟨x, hx, rfl⟩ := List.mem_map.1 hy
      exact ((hwm x).1 (q x hx)).2
  · rintro ⟨q1, _, q2⟩ x hx
    have := q1 x hx
    exact (hwm x).2 ⟨by omega, q2 _ (List.mem_map.2 ⟨x, hx, rfl⟩)⟩
theorem someL_iff (h : LeftOk a k t N nW r) {L : List Nat → Bool} {w : List Nat} (hw : Ltr nW w) : someL L (withW a.base t k) w = true ↔ ∃ u i, Ltr N u ∧ u.map (dropL a.base t k) = List.replicate i 0 ++ w ∧ L u = true := by
  rw [someL_true]
  constructor
  · rintro ⟨z, v, hz, hv, hL⟩
    obtain ⟨z1, z2⟩ := (lead_iff h).1 hz
    obtain ⟨v1, v2⟩ := (fill_iff h hw).1 hv
    exact ⟨z ++ v, z.length, fun x hx => (List.mem_append.1 hx).elim (z1 x) (v1 x), by rw [List.map_append, z2, v2], hL⟩
  · rintro ⟨u, i, hu, e, hL⟩
    obtain ⟨z, v, rfl, e1, e2⟩ := List.map_eq_append_iff.1 e
    have hzl : z.length = i := by have := congrArg List.length e1; simpa using this
    exact ⟨z, v, (lead_iff h).2 ⟨fun x hx => hu x (List.mem_append_left _ hx), by rw [hzl]; exact e1⟩, (fill_iff h hw).2 ⟨fun x hx => hu x (List.mem_append_right _ hx), e2⟩, hL⟩
end
/-- Few sets come up. -/
theorem nodup_few {σ : Type} {l : List σ} {p : σ → Prop} (f : σ → Nat) {K : Nat} (hn : l.Nodup) (hp : ∀ s ∈ l, p s) (hf : ∀ s, p s → f s < K) (hi : ∀ s t, p s → p t → f s = f t → s = t) : l.length ≤ K := by
  have : (l.map f).Nodup := by
    unfold List.Nodup
    rw [List.pairwise_map]
    exact List.Pairwise.imp_of_mem (fun {s t} hs ht hne e => hne (hi s t (hp s hs) (hp t ht) e)) hn
  have := nodup_boundN K (l.map f) this fun x hx => by
    obtain ⟨s, hs, rfl⟩ := List.mem_map.1 hx
    exact hf s (hp s hs)
  simpa using this
theorem sets_few {σ : Type} [DecidableEq σ] {δ : σ → Nat → σ} {n : Nat} {s0 : σ} {p : σ → Prop} (f : σ → Nat) {K : Nat} (h0 : p s0) (hp : ∀ s l, l < n → p s → p (δ s l)) (hf : ∀ s, p s → f s < K) (hi : ∀ s t, p s → p t → f s = f t → s = t) (hK : K ≤ 2000) : setsOk δ n s0 = true := by
  unfold setsOk
  rw [decide_eq_true_iff]
  exact Nat.le_trans (nodup_few f sets_nodup (growS_in' h0 hp _) hf hi) hK
/-- 0s ahead do not matter. -/
def Closed (n : Nat) (L : List Nat → Bool) : Prop := ∀ w, Ltr n w → L (0 :: w) = L w
theorem Closed.congr {n : Nat} {L L' : List Nat → Bool} (hn : 0 < n) (h : Closed n L) (he : ∀ w, Ltr n w → L w = L' w) : Closed n L' := fun w hw => by
  rw [← he w hw, ← he (0 :: w) (fun x hx => by rcases List.mem_cons.1 hx with rfl | hx; exact hn; exact hw x hx)]
  exact h w hw
end Go.Proofs.Ythcclcbliedodaa
namespace Go.Proofs.Ythcclcbliedodaa
open Go.RowKit

/-- The states that lead to one at a letter. -/
def fromL (next : List (List Int)) (m : Nat) (t : Int) (l : Nat) : List Int := ((List.range m).filter fun x : Nat => decide (nx next ((x : Nat) : Int) l = t)).map fun x : Nat => ((x : Nat) : Int)
def stepT (next : List (List Int)) (m : Nat) (s : List Int) (l : Nat) : List Int := s.flatMap fun t => fromL next m t l
/-- The states with an end. -/
def endsF (ends : List Bool) (m : Nat) : List Int := ((List.range m).filter fun x : Nat => endOf ends ((x : Nat) : Int)).map fun x : Nat => ((x : Nat) : Int)
noncomputable def turnN (a : GAuto) : Nat := (manyOf a.base a.tracks).toNat
noncomputable def turnF (a : GAuto) : List Int := endsF (leastA a).ends (leastA a).next.length
noncomputable def turnD (a : GAuto) : List Int → Nat → List Int := stepT (leastA a).next (leastA a).next.length
noncomputable def turnS (a : GAuto) : List (List Int) := if autoFault a ≠ 0 then [] else growSets (turnD a) (turnN a) (turnF a)
noncomputable def turnR (a : GAuto) : List (List Int) := if autoFault a ≠ 0 then [] else growRows (turnD a) (turnN a) (turnF a)
/-- What is known where nothing is wrong. -/
structure TurnIs (a : GAuto) (n m : Nat) : Prop where
  ok : Good a n a.next.length
  M : Good (leastA a) n m
  nE : turnN a = n
  mE : (leastA a).next.length = m
  D : turnD a = stepT (leastA a).next m
  F : turnF a = endsF (leastA a).ends m
  len : (turnR a).length = (turnS a).length
  pos : 0 < (turnS a).length
  few : (turnS a).length ≤ 2000
  rows : Rows0 n (turnS a).length (turnR a)
  sets : ∀ s ∈ turnS a, Inm m s ∧ s.Pairwise (· < ·)
  gok : growOk (stepT (leastA a).next m) n (endsF (leastA a).ends m) = true
  Se : turnS a = growSets (stepT (leastA a).next m) n (endsF (leastA a).ends m)
  Re : turnR a = growRows (stepT (leastA a).next m) n (endsF (leastA a).ends m)
  expl : Expl (nextD (stepT (leastA a).next m)) n (turnS a) (turnR a)
  start : (turnS a)[0]! = canonL (endsF (leastA a).ends m)
/-- Each state of a least automaton is reached. -/
theorem Least.word {n : Nat} {N : List (List Int)} {E : List Bool} {L : List Nat → Bool} (h : Least n N E L) : ∀ k, k < N.length → ∃ u, Ltr n u ∧ Go.Proofs.Ythcclcbliedodaa.runS N 0 u = ((k : Nat) : Int) := by
  intro k
  induction k using Nat.strongRecOn with
  | ind k ih =>
    intro hk
    by_cases h0 : k = 0
    · subst h0; exact ⟨[], fun x hx => by (cases hx), rfl⟩
    · obtain ⟨s, l, hs, hl, e⟩ := h.canon.reach k (by omega) hk
      obtain ⟨u, hu, eu⟩ := ih s hs (by omega)
      refine ⟨u ++ [l], fun x hx => ?_, ?_⟩
      · rcases List.mem_append.1 hx with hx | hx
        · exact hu x hx
        · rw [List.mem_singleton] at hx; subst hx; exact hl
      · rw [runS_append, eu]
        have hr := h.rows
        have hb := nx_ok hr (s := ((s : Nat) : Int)) (by omega) hl
        show nx N ((s : Nat) : Int) l = _
        have e2 : (nx N ((s : Nat) : Int) l).toNat = k := by rw [← e]; rfl
        omega
end Go.Proofs.Ythcclcbliedodaa
namespace Go.Proofs.Ythcclcbliedodaa
open Go.RowKit

end Go.Proofs.Ythcclcbliedodaa
namespace Go.Proofs.Ythcclcbliedodaa
open Go.RowKit

theorem growOk_small {stp : List Int → Nat → List Int} {n m : Nat} {first : List Int} (hm : m ≤ 10) (hf : Inm m first) (hs : ∀ s l, Inm m s → l < n → Inm m (stp s l)) : growOk stp n first = true := by
  unfold growOk
  refine sets_few (p := fun s => Inm m s ∧ s.Pairwise (· < ·)) (fun s => bitsN (fun i => decide (((i : Nat) : Int) ∈ s)) m) (K := 2 ^ m) ⟨hf.canon, (canonL_spec _).1⟩ (fun s l hl h => ⟨(hs s l h.1 hl).canon, (canonL_spec _).1⟩) (fun s _ => bitsN_lt _ _) (fun s t h1 h2 e => ?_) ?_
  · refine asc_eq h1.2 h2.2 fun x => ?_
    have key : ∀ i, i < m → (((i : Nat) : Int) ∈ s ↔ ((i : Nat) : Int) ∈ t) := fun i hi => by
      have := bitsN_inj e hi
      simpa using this
    constructor
    · intro hx
      have hb := h1.1 x hx
      have := key x.toNat (by omega)
      rw [Int.toNat_of_nonneg hb.1] at this
      exact this.1 hx
    · intro hx
      have hb := h2.1 x hx
      have := key x.toNat (by omega)
      rw [Int.toNat_of_nonneg hb.1] at this
      exact this.2 hx
  · have := Nat.pow_le_pow_right (n := 2) (by decide) hm
    omega
end Go.Proofs.Ythcclcbliedodaa
namespace Go.Proofs.Ythcclcbliedodaa
open Go.RowKit

theorem tk8' (x y : Bool) : tk 8 x y = (x && y) := by cases x <;> cases y <;> decide
theorem all_fib1 : allA 1 1 = ⟨1, 1, [[0, 1], [0, 2], [2, 2]], [true, true, false]⟩ := by
  have h : leastRE 2 (rightNext 2) (rightEnds 2) = ([[0, 1], [0, 2], [2, 2]], [true, true, false]) :=
    leastRE_chk [[], [1]] (by decide +kernel) (right_rows 2) (by decide) fun w _ => by
      have e1 : rightNext 2 = [[0, 1], [0, 2], [2, 2]] := by decide +kernel
      have e2 : rightEnds 2 = [true, true, false] := by decide +kernel
      rw [e1, e2]
  have e : manyErr 1 1 = 0 := by decide
  have e2 : (manyOf 1 1).toNat = 2 := by decide
  unfold allA allRE
  rw [if_pos e, if_pos rfl, e2, h]
theorem unpack2 (r s : Nat) : unpack (r : Int) 2 (s : Int) = [((s / r % r : Nat) : Int), ((s % r : Nat) : Int)] := by
  show [(s : Int) / (r : Int) % (r : Int), (s : Int) % (r : Int)] = _
  simp
theorem unpack1 (r : Nat) {x : Nat} (h : x < r) : unpack (r : Int) 1 (x : Int) = [((x : Nat) : Int)] := by
  show [(x : Int) % (r : Int)] = _
  rw [Int.emod_eq_of_lt (by omega) (by omega)]
section
variable {base : Int} {r : Nat}
theorem spread0 (hr : radix base = (r : Int)) (s : Nat) : (spreadL base 2 [0] s).toNat = s / r % r := by
  unfold spreadL digitAt
  rw [hr, unpack2]
  show (0 * (r : Int) + ((s / r % r : Nat) : Int)).toNat = _
  omega
theorem spread1 (hr : radix base = (r : Int)) (s : Nat) : (spreadL base 2 [1] s).toNat = s % r := by
  unfold spreadL digitAt
  rw [hr, unpack2]
  show (0 * (r : Int) + ((s % r : Nat) : Int)).toNat = _
  omega
theorem drop1 (hr : radix base = (r : Int)) (s : Nat) : dropL base 1 1 s = s / r % r := by
  unfold dropL
  rw [hr, unpack2]
  show (0 * (r : Int) + ((s / r % r : Nat) : Int)).toNat = _
  omega
theorem clash1 (hr : radix base = (r : Int)) {x y : Nat} (hx : x < r) (hy : y < r) : clash base 1 x y = (base == 1 && (((x : Nat) : Int) == 1 && ((y : Nat) : Int) == 1)) := by
  unfold clash digitAt
  rw [hr, unpack1 r hx, unpack1 r hy]
  simp [List.range, List.range.loop]
theorem clash2 (hr : radix base = (r : Int)) (h0 : 0 < r) (s l : Nat) : clash base 2 s l = (clash base 1 (s / r % r) (l / r % r) || clash base 1 (s % r) (l % r)) := by
  rw [clash1 hr (Nat.mod_lt _ h0) (Nat.mod_lt _ h0), clash1 hr (Nat.mod_lt _ h0) (Nat.mod_lt _ h0)]
  unfold clash digitAt
  rw [hr, unpack2, unpack2]
  generalize ((s / r % r : Nat) : Int) = a1
  generalize ((s % r : Nat) : Int) = a2
  generalize ((l / r % r : Nat) : Int) = b1
  generalize ((l % r : Nat) : Int) = b2
  simp [List.range, List.range.loop, Bool.and_or_distrib_left]
theorem getD_map0 {f : Nat → Nat} {w : List Nat} {i : Nat} (h : i < w.length) : (w.map f).getD i 0 = f (w.getD i 0) := by
  rw [List.getD_eq_getElem?_getD, List.getElem?_map, List.getD_eq_getElem?_getD, List.getElem?_eq_getElem h]; rfl
/-- Right on two tracks: right on the one, and on the other. -/
theorem right2 (hr : radix base = (r : Int)) (h0 : 0 < r) (w : List Nat) : rightWd base 2 w = (rightWd base 1 (w.map fun s => s / r % r) && rightWd base 1 (w.map fun s => s % r)) := by
  refine bool_iff ?_
  unfold rightWd
  rw [Bool.and_eq_true, chain_iff, chain_iff, chain_iff]
  simp only [List.length_map]
  constructor
  · intro h
    refine ⟨fun i hi => ?_, fun i hi => ?_⟩
    · have := h i hi
      rw [clash2 hr h0, Bool.or_eq_false_iff] at this
      rw [getD_map0 (by omega), getD_map0 hi]; exact this.1
    · have := h i hi
      rw [clash2 hr h0, Bool.or_eq_false_iff] at this
      rw [getD_map0 (by omega), getD_map0 hi]; exact this.2
  · rintro ⟨h1, h2⟩ i hi
    have q1 := h1 i hi
    have q2 := h2 i hi
    rw [getD_map0 (by omega), getD_map0 hi] at q1 q2
    rw [clash2 hr h0, q1, q2]; rfl
theorem right_zeros {t : Nat} (i : Nat) {w : List Nat} (h : rightWd base t (List.replicate i 0 ++ w) = true) : rightWd base t w = true := by
  unfold rightWd at h ⊢
  rw [chain_iff] at h ⊢
  intro j hj
  have := h (i + j) (by rw [List.length_append, List.length_replicate]; omega)
  rw [List.getD_eq_getElem?_getD, List.getD_eq_getElem?_getD, List.getElem?_append_right (by simp), List.getElem?_append_right (by simp; omega), List.length_replicate, show i + j - i = j by omega, show i + j + 1 - i = j + 1 by omega] at this
  rw [List.getD_eq_getElem?_getD, List.getD_eq_getElem?_getD]; exact this
end
/-- What is known of the base. -/
theorem two_base {base : Int} (h : manyErr base 2 = 0) : ∃ r : Nat, radix base = (r : Int) ∧ 2 ≤ r ∧ r ≤ 6 ∧ manyErr base 1 = 0 ∧ manyOf base 2 = ((r * r : Nat) : Int) ∧ manyOf base 1 = ((r : Nat) : Int) := by
  obtain ⟨r0, _, _, _, hm⟩ := many_ok h
  obtain ⟨h2, h6⟩ := radix_two r0
  obtain ⟨r, hr⟩ := Int.eq_ofNat_of_zero_le (show 0 ≤ radix base by omega)
  have h1 : manyErr base 1 = 0 := manyErr_less (t := 1) h
  obtain ⟨_, _, _, _, hm1⟩ := many_ok h1
  refine ⟨r, hr, by omega, by omega, h1, ?_, ?_⟩
  · rw [hm, hr]
    show 1 * (r : Int) * (r : Int) = _
    rw [Int.one_mul, Int.natCast_mul]
  · rw [hm1, hr]
    show 1 * (r : Int) = _
    rw [Int.one_mul]
/-- Spread on two tracks, and put together: all right words of two. -/
theorem spreads {base : Int} (h : manyErr base 2 = 0) : manyErr base 1 = 0 ∧ spreadErr (allA base 1) 2 [0] = 0 ∧ spreadErr (allA base 1) 2 [1] = 0 ∧ bothErr (spreadOf (allA base 1) 2 [0]) (spreadOf (allA base 1) 2 [1]) 8 = 0 ∧ bothOf (spreadOf (allA base 1) 2 [0]) (spreadOf (allA base 1) 2 [1]) 8 = allA base 2 := by
  obtain ⟨r, hr, r2, r6, h1, hn2, hn1⟩ := two_base h
  have hA1 := (allA_isLeast (t := 1) h1 hn1).1
  have g1 := allA_good (t := 1) h1 hn1
  obtain ⟨hA2, h37⟩ := allA_isLeast (t := 2) h hn2
  rw [show ((1 : Nat) : Int) = 1 from rfl] at hA1 g1
  rw [show ((2 : Nat) : Int) = 2 from rfl] at hA2 h37
  have hb := hA1.base
  have ht := hA1.tracks
  have e0 : spreadErr (allA base 1) 2 [0] = 0 := spreadErr_ok g1 (t := 2) (by rw [hb]; exact h) (by rw [ht]; rfl) (by simp)
  have e1 : spreadErr (allA base 1) 2 [1] = 0 := spreadErr_ok g1 (t := 2) (by rw [hb]; exact h) (by rw [ht]; rfl) (by simp)
  obtain ⟨x1, x2⟩ := spread_of g1 (t := 2) (n' := r * r) (by rw [hb]; exact h) (by rw [hb]; exact hn2) (at' := [0]) (by rw [ht]; rfl) (by simp)
  obtain ⟨y1, y2⟩ := spread_of g1 (t := 2) (n' := r * r) (by rw [hb]; exact h) (by rw [hb]; exact hn2) (at' := [1]) (by rw [ht]; rfl) (by simp)
  rw [show ((2 : Nat) : Int) = 2 from rfl] at x1 x2 y1 y2
  have hb2 := bothErr_zero (how := 8) (c := allA base 2) (L := rightWd base 2) x2 y2 (by rw [x1.base, y1.base]) (by rw [x1.tracks, y1.tracks]) (by omega) ⟨by rw [hA2.base, x1.base, hb], by rw [hA2.tracks, x1.tracks], hA2.least⟩ (by omega) fun w hw => by
    have q1 : Ltr r (w.map fun s => s / r % r) := fun x hx => by obtain ⟨y, _, rfl⟩ := List.mem_map.1 hx; exact Nat.mod_lt _ (by omega)
    have q2 : Ltr r (w.map fun s => s % r) := fun x hx => by obtain ⟨y, _, rfl⟩ := List.mem_map.1 hx; exact Nat.mod_lt _ (by omega)
    rw [tk8', x1.lng hw, y1.lng hw, right2 hr (by omega)]
    simp only [hb, spread0 hr, spread1 hr]
    rw [hA1.lng q1, hA1.lng q2]
  exact ⟨h1, e0, e1, hb2.1, hb2.2⟩
theorem all_few {base : Int} {t n : Nat} (h0 : manyErr base t = 0) (hn : manyOf base t = n) : (allA base t).next.length ≤ if base = 1 then n + 1 else 1 := by
  unfold allA
  rw [if_pos h0, hn, Int.toNat_natCast]
  by_cases h1 : base = 1
  · subst h1
    rw [if_pos rfl]
    obtain ⟨r0, t0, t5, p36, hm⟩ := many_ok h0
    have hp := powW_pos (radix_two r0).1 (t : Int).toNat
    have h := leastRE_spec (ends := rightEnds n) (right_rows n) (by omega)
    unfold allRE
    rw [if_pos rfl]
    exact h.2
  · unfold allRE
    rw [if_neg h1, if_neg h1]
    simp
/-- Of all right words of two tracks, the second left out: those of one. -/
theorem less_right {base : Int} (h : manyErr base 2 = 0) : someErr (allA base 2) 1 = 0 ∧ someA (allA base 2) 1 = allA base 1 := by
  obtain ⟨r, hr, r2, r6, h1, hn2, hn1⟩ := two_base h
  obtain ⟨hA1, h37⟩ := allA_isLeast (t := 1) h1 hn1
  obtain ⟨hA2, _⟩ := allA_isLeast (t := 2) h hn2
  have g2 := allA_good (t := 2) h hn2
  have hfew := all_few (t := 2) h hn2
  rw [show ((1 : Nat) : Int) = 1 from rfl] at hA1 h37
  rw [show ((2 : Nat) : Int) = 2 from rfl] at hA2 g2 hfew
  obtain ⟨A, hA⟩ : ∃ A, allA base 2 = A := ⟨_, rfl⟩
  rw [hA] at hA2 g2 hfew ⊢
  have hb := hA2.base
  have ht := hA2.tracks
  have hle : leastA A = A := (leastA_isLeast g2).1.unique (by rw [hb, ht]; exact hA2) fun w hw => hA2.lng hw
  have hm10 : A.next.length ≤ 10 := by
    split at hfew
    · rename_i e
      subst e
      have : radix 1 = 2 := rfl
      have : r = 2 := by omega
      subst this
      omega
    · omega
  have hf := g2.fault
  obtain ⟨t, nW, q, ok⟩ := left_ok (a := A) (k := 1) hf (by rw [ht]; decide)
  have htt : t = 1 := by have := ok.tr; omega
  subst htt
  have hW : leftW A 1 = withW A.base 1 1 := by unfold leftW; rw [ht]; rfl
  have hWr : ∀ w ∈ withW A.base 1 1, w.length = q ∧ ∀ x ∈ w, 0 ≤ x ∧ x < ((manyOf A.base A.tracks).toNat : Int) := fun w hw => by
    unfold withW at hw
    obtain ⟨j, _, rfl⟩ := List.mem_map.1 hw
    exact ⟨withR_len ok.rad, withR_bd ok j⟩
  have hWl := withW_len ok
  have hNe : leftN A = nW := by unfold leftN; rw [ht]; exact congrArg Int.toNat ok.nWe
  have hN : (manyOf A.base A.tracks).toNat = r * r := by rw [hb, ht, hn2]; rfl
  have gR := ok.good.rows
  have hw0 : (withW A.base 1 1)[0]! ∈ withW A.base 1 1 := bang_mem rfl (by have := ok.nW0; omega)
  have hok : leftOk A 1 = true := by
    unfold leftOk leftF
    rw [hle, hW, hNe]
    exact growOk_small (m := A.next.length) hm10 (close_in gR ok.good.m0 (hWr _ hw0).2 _) fun s l hs hl => stepW_in gR (fun w hw => (hWr w hw).2) hs (by omega)
  have hle0 : leftErr A ((1 : Nat) : Int) = 0 := by
    unfold leftErr
    rw [if_neg (by rw [hf]; decide), if_neg (by rw [ht]; decide), if_neg (by rw [show ((1 : Nat) : Int) = 1 from rfl, hok]; decide)]
  obtain ⟨t', N', nW', r', m', L⟩ := left_is hle0
  have htt : t' = 1 := by have := L.ok.tr; omega
  subst htt
  have hn' : nW' = r := by have := L.ok.nWe; rw [hb] at this; rw [show (((1 : Nat)) : Int) = 1 from rfl, hn1] at this; omega
  have hN' : N' = r * r := by have := L.ok.good.n_eq; rw [hb, ht, hn2] at this; omega
  subst hn' hN'
  have hRE : someRE A 1 = ((allA base 1).next, (allA base 1).ends) := by
    have e : someRE A 1 = leastRE nW' (leftR A ((1 : Nat) : Int)) (someE A ((1 : Nat) : Int)) := by unfold someRE; rw [← L.n]; rfl
    rw [e]
    refine leastRE_eq L.rows L.pos (hA1.least.lang_congr fun w hw => ?_)
    rw [left_lang L hw, hle]
    refine bool_iff ?_
    rw [someL_iff L.ok hw]
    have hd : dropL A.base 1 1 = fun s => s / nW' % nW' := funext fun s => by rw [hb]; exact drop1 hr s
    rw [hd]
    constructor
    · intro hright
      refine ⟨w.map fun l => l * nW', 0, fun x hx => ?_, ?_, ?_⟩
      · obtain ⟨l, hl, rfl⟩ := List.mem_map.1 hx
        exact Nat.mul_lt_mul_of_pos_right (hw l hl) (by omega)
      · rw [List.map_map, List.replicate_zero, List.nil_append]
        conv => rhs; rw [← List.map_id w]
        refine List.map_congr_left fun l hl => ?_
        show l * nW' / nW' % nW' = l
        rw [Nat.mul_div_cancel _ (by omega), Nat.mod_eq_of_lt (hw l hl)]
      · have hl2 : Ltr (nW' * nW') (w.map fun l => l * nW') := fun x hx => by
          obtain ⟨l, hl, rfl⟩ := List.mem_map.1 hx
          exact Nat.mul_lt_mul_of_pos_right (hw l hl) (by omega)
        rw [hA2.lng hl2, right2 hr (by omega), List.map_map, List.map_map, Bool.and_eq_true]
        have e1 : w.map ((fun s => s / nW' % nW') ∘ fun l => l * nW') = w := by
          conv => rhs; rw [← List.map_id w]
          refine List.map_congr_left fun l hl => ?_
          show l * nW' / nW' % nW' = l
          rw [Nat.mul_div_cancel _ (by omega), Nat.mod_eq_of_lt (hw l hl)]
        rw [e1]
        refine ⟨hright, ?_⟩
        unfold rightWd
        rw [chain_iff]
        intro i hi
        rw [List.length_map] at hi
        rw [getD_map0 (by omega), getD_map0 hi]
        show clash base 1 (_ * nW' % nW') (_ * nW' % nW') = false
        rw [Nat.mul_mod_left, Nat.mul_mod_left, clash1 hr (by omega) (by omega)]
        simp
    · rintro ⟨u, i, u1, u2, u3⟩
      rw [hA2.lng u1, right2 hr (by omega), Bool.and_eq_true, u2] at u3
      exact right_zeros i u3.1
  have he : someErr A 1 = 0 := by
    unfold someErr
    rw [if_neg (by rw [show (1 : Int) = ((1 : Nat) : Int) from rfl, hle0]; decide), hRE, if_pos (by show (allA base 1).next.length ≤ 80; omega)]
  refine ⟨he, ?_⟩
  unfold someA
  rw [if_pos he, hRE, hb, ht]
  have := hA1.base
  have := hA1.tracks
  cases hq : allA base 1
  simp_all
end Go.Proofs.Ythcclcbliedodaa
namespace Go.Proofs.Ythcclcbliedodaa
open Go.RowKit

theorem and64' {s l : Nat} (hs : s < 1000) (hl : l < 1000) : IntKind.i64.wrap ((BitVec.ofInt 64 (s : Int) &&& BitVec.ofInt 64 (l : Int)).toNat : Int) = ((s &&& l : Nat) : Int) := by
  have h1 : (BitVec.ofInt 64 (s : Int) &&& BitVec.ofInt 64 (l : Int)).toNat = s &&& l := by
    rw [BitVec.ofInt_natCast, BitVec.ofInt_natCast, BitVec.toNat_and, BitVec.toNat_ofNat, BitVec.toNat_ofNat, Nat.mod_eq_of_lt (by omega), Nat.mod_eq_of_lt (by omega)]
  rw [h1]
  have : s &&& l ≤ s := Nat.and_le_left
  exact wrap_i64 _ (by omega)
/-- The same, as the walk writes it. -/
theorem and64 {s l : Nat} (hs : s < 1000) (hl : l < 1000) : IntKind.i64.wrap ((@BitVec.toNat 64 (@HAnd.hAnd (BitVec 64) (BitVec 64) (BitVec 64) (@instHAndOfAndOp (BitVec IntKind.i64.bits) (@BitVec.instAndOp IntKind.i64.bits)) (BitVec.ofInt 64 (s : Int)) (BitVec.ofInt 64 (l : Int))) : Nat) : Int) = ((s &&& l : Nat) : Int) := and64' hs hl
section
variable {G : World → Prop} (hG : Lasting G)
include hG
set_option maxHeartbeats 4000000 in
set_option maxRecDepth 100000 in
theorem All_snd (base tracks : Int) : Snd Try.prog G 26 [tInt base, tInt tracks] (.tup [tAuto (allA base tracks), tErr (manyErr base tracks)]) := by
  have c1 := Many_snd hG base tracks
  refine snd_of_body (n := 81) (tm := [(0, .t (tInt base)), (1, .t (tInt tracks))]) (rs := [.cell 4 25, .tmp 5]) tt_ok Try.func26 rfl rfl rfl rfl rfl ?_
  unfold allA
  by_cases h0 : manyErr base tracks = 0
  · obtain ⟨t, n, rfl, hn, ht5, hn0, hn36⟩ := many_nat h0
    rw [h0, hn] at c1
    rw [if_pos h0, h0, hn, Int.toNat_natCast]
    have htb := Tab.cons c1 Tab.nil
    by_cases h1 : base = 1
    · subst h1
      have hS := Shrink_snd (G := G) (ends := rightEnds n) hG 1 t (right_rows n) (by omega) (by omega) (by simp [rightEnds, tabE]) (by omega)
      have hle := (leastRE_spec (ends := rightEnds n) (right_rows n) (by omega)).2
      have hT : shrinkT 1 t n (rightNext n) (rightEnds n) = .tup [tAuto ⟨1, t, (leastRE n (rightNext n) (rightEnds n)).1, (leastRE n (rightNext n) (rightEnds n)).2⟩, .bool true] := by
        unfold shrinkT; rw [if_pos (by omega)]
      rw [hT] at hS
      unfold allRE
      rw [if_pos rfl]
      generalize (⟨1, t, (leastRE n (rightNext n) (rightEnds n)).1, (leastRE n (rightNext n) (rightEnds n)).2⟩ : GAuto) = c at hS
      repeat' (first | (with_reducible first | apply w1 | apply w2 | apply w3 | apply w4 | apply w5 | apply w6 | apply w7 | apply w8 | apply w9 | apply wa | apply wb | apply wc) | ((with_reducible apply wd); focus decide) | ((with_reducible apply we); focus exact rfl) | ((with_reducible apply wf); focus exact rfl) | ((first | (with_reducible apply SW_run tt_ok hG htb) | ((with_reducible apply SW_draw rfl tt_ok hG htb); (focus kernel_rfl); focus simp only [List.range, List.range.loop, List.size_toArray, List.length_cons, List.length_nil, Nat.reduceAdd])); focus ((repeat' (first | (with_reducible first | exact wg | exact wh) | ((with_reducible first | apply wi | apply wj); focus (simp (discharger := omega) only [go_sem, tErr, simprocAttr]; with_reducible rfl)))); done)))
      refine SW_loop (fun k s => ∃ (i : Nat) (nt et : List T), k = n + 1 - i ∧ s = ⟨81, [(0, .t (tInt 1)), (1, .t (tInt t)), (4, .bptr 0 0), (6, .t (tInt n)), (8, .sref 1), (9, .sref 2), (35, .t (tInt (n + 1))), (36, .t (tInt i))], [.box [.t (tInt 0), .t (tInt 0), .nil, .nil], .row 26 1 false nt, .row 4 1 false et]⟩ ∧
          nt = ((rightNext n).take i).map tInts ∧ et = ((rightEnds n).take i).map T.bool ∧ i ≤ n + 1) (n + 1)
        ⟨_, Norm.headS (own := [(8, 26, 1, false), (9, 4, 1, false)]) (keep := [0, 1, 4, 6, 8, 9, 35, 36]) (by refine ⟨?_, ?_⟩; (simp (discharger := omega) only [go_sem, simprocAttr]; with_reducible rfl); refine ⟨?_, ?_, ?_, ?_⟩ <;> (simp only [go_sem, simprocAttr]; with_reducible rfl)), 0, _, _, rfl, rfl, rfl, rfl, Nat.zero_le _⟩ ?_
      clear htb
      have htb := Tab.cons hS Tab.nil
      rintro k s ⟨i, nt, et, rfl, rfl, hnt, het, hi⟩
      have hntl : nt.length = i := by rw [hnt]; simp [rightNext, tabN]; omega
      have hetl : et.length = i := by rw [het]; simp [rightEnds, tabE]; omega
      by_cases hlt : i < n + 1
      · repeat' (first | (with_reducible first | apply w1 | apply w2 | apply w3 | apply w4 | apply w5 | apply w6 | apply w7 | apply w8 | apply w9 | apply wa | apply wb | apply wc) | ((with_reducible apply wd); focus decide) | ((with_reducible apply we); focus exact rfl) | ((with_reducible apply wf); focus exact rfl) | ((first | (with_reducible apply SW_run tt_ok hG htb) | ((with_reducible apply SW_draw rfl tt_ok hG htb); (focus kernel_rfl); focus simp only [List.range, List.range.loop, List.size_toArray, List.length_cons, List.length_nil, Nat.reduceAdd])); focus ((repeat' (first | (with_reducible first | exact wg | exact wh) | ((with_reducible first | apply wi | apply wj); focus (simp (discharger := omega) only [go_sem, simprocAttr]; with_reducible rfl)))); done)))
        refine SW_loop (fun k s => ∃ (l : Nat) (rt : List T), k = n - l ∧ s = ⟨81, [(0, .t (tInt 1)), (1, .t (tInt t)), (4, .bptr 0 0), (6, .t (tInt n)), (8, .sref 1), (9, .sref 2), (10, .t (tInt i)), (11, .sref 3), (35, .t (tInt (n + 1))), (36, .t (tInt i)), (39, .t (tInt n)), (40, .t (tInt l))], [.box [.t (tInt 0), .t (tInt 0), .nil, .nil], .row 26 1 false nt, .row 4 1 false et, .row 3 1 false rt]⟩ ∧
            rt = (((List.range n).map fun l => (rightD n (fun s l => s &&& l != 0) i l : Int)).take l).map tInt ∧ l ≤ n) n
          ⟨_, Norm.headS (own := [(8, 26, 1, false), (9, 4, 1, false), (11, 3, 1, false)]) (keep := [0, 1, 4, 6, 8, 9, 10, 11, 35, 36, 39, 40]) (by refine ⟨?_, ?_⟩; (simp (discharger := omega) only [go_sem, simprocAttr]; with_reducible rfl); refine ⟨?_, ?_, ?_, ?_⟩ <;> (simp only [go_sem, simprocAttr]; with_reducible rfl)), 0, _, rfl, rfl, rfl, Nat.zero_le _⟩ ?_
        rintro k s ⟨l, rt, rfl, rfl, hrt, hl⟩
        have hrtl : rt.length = l := by rw [hrt]; simp; omega
        by_cases hlt2 : l < n
        · have hand := and64 (s := i) (l := l) (by omega) (by omega)
          have htk := map_range_take (fun l => (rightD n (fun s l => s &&& l != 0) i l : Int)) hlt2
          by_cases hin : i = n
          · have hv : rightD n (fun s l => s &&& l != 0) i l = n := by simp [rightD, hin]
            repeat' (first | (with_reducible first | apply w1 | apply w2 | apply w3 | apply w4 | apply w5 | apply w6 | apply w7 | apply w8 | apply w9 | apply wa | apply wb | apply wc) | ((with_reducible apply wd); focus decide) | ((with_reducible apply we); focus exact rfl) | ((with_reducible apply wf); focus exact rfl) | ((first | (with_reducible apply SW_run tt_ok hG htb) | ((with_reducible apply SW_draw rfl tt_ok hG htb); (focus kernel_rfl); focus simp only [List.range, List.range.loop, List.size_toArray, List.length_cons, List.length_nil, Nat.reduceAdd])); focus ((repeat' (first | (with_reducible first | exact wg | exact wh) | ((with_reducible first | apply wi | apply wj); focus (simp (discharger := omega) only [go_sem, hand, simprocAttr]; with_reducible rfl)))); done)))
            exact ⟨n - (l + 1), _, by omega, Norm.headS (own := [(8, 26, 1, false), (9, 4, 1, false), (11, 3, 1, false)]) (keep := [0, 1, 4, 6, 8, 9, 10, 11, 35, 36, 39, 40]) (by refine ⟨?_, ?_⟩; (simp (discharger := omega) only [go_sem, simprocAttr]; with_reducible rfl); refine ⟨?_, ?_, ?_, ?_⟩ <;> (simp only [go_sem, simprocAttr]; with_reducible rfl)), l + 1, _, rfl, rfl, by rw [htk, List.map_append, ← hrt, hv]; rfl, by omega⟩
          · by_cases ha : i &&& l = 0
            · have hv : rightD n (fun s l => s &&& l != 0) i l = l := by simp [rightD, hin, ha]
              replace hand := hand.trans (show ((i &&& l : Nat) : Int) = 0 by rw [ha]; rfl)
              repeat' (first | (with_reducible first | apply w1 | apply w2 | apply w3 | apply w4 | apply w5 | apply w6 | apply w7 | apply w8 | apply w9 | apply wa | apply wb | apply wc) | ((with_reducible apply wd); focus decide) | ((with_reducible apply we); focus exact rfl) | ((with_reducible apply wf); focus exact rfl) | ((first | (with_reducible apply SW_run tt_ok hG htb) | ((with_reducible apply SW_draw rfl tt_ok hG htb); (focus kernel_rfl); focus simp only [List.range, List.range.loop, List.size_toArray, List.length_cons, List.length_nil, Nat.reduceAdd])); focus ((repeat' (first | (with_reducible first | exact wg | exact wh) | ((with_reducible first | apply wi | apply wj); focus (simp (discharger := omega) only [go_sem, hand, simprocAttr]; with_reducible rfl)))); done)))
              exact ⟨n - (l + 1), _, by omega, Norm.headS (own := [(8, 26, 1, false), (9, 4, 1, false), (11, 3, 1, false)]) (keep := [0, 1, 4, 6, 8, 9, 10, 11, 35, 36, 39, 40]) (by refine ⟨?_, ?_⟩; (simp (discharger := omega) only [go_sem, simprocAttr]; with_reducible rfl); refine ⟨?_, ?_, ?_, ?_⟩ <;> (simp only [go_sem, simprocAttr]; with_reducible rfl)), l + 1, _, rfl, rfl, by rw [htk, List.map_append, ← hrt, hv]; rfl, by omega⟩
            · have hv : rightD n (fun s l => s &&& l != 0) i l = n := by simp [rightD, ha]
              have ha2 : ¬ (((i &&& l : Nat) : Int) = 0) := by omega
              repeat' (first | (with_reducible first | apply w1 | apply w2 | apply w3 | apply w4 | apply w5 | apply w6 | apply w7 | apply w8 | apply w9 | apply wa | apply wb | apply wc) | ((with_reducible apply wd); focus decide) | ((with_reducible apply we); focus exact rfl) | ((with_reducible apply wf); focus exact rfl) | ((first | (with_reducible apply SW_run tt_ok hG htb) | ((with_reducible apply SW_draw rfl tt_ok hG htb); (focus kernel_rfl); focus simp only [List.range, List.range.loop, List.size_toArray, List.length_cons, List.length_nil, Nat.reduceAdd])); focus ((repeat' (first | (with_reducible first | exact wg | exact wh) | ((with_reducible first | apply wi | apply wj); focus (simp (discharger := omega) only [go_sem, hand, ha2, simprocAttr]; with_reducible rfl)))); done)))
              exact ⟨n - (l + 1), _, by omega, Norm.headS (own := [(8, 26, 1, false), (9, 4, 1, false), (11, 3, 1, false)]) (keep := [0, 1, 4, 6, 8, 9, 10, 11, 35, 36, 39, 40]) (by refine ⟨?_, ?_⟩; (simp (discharger := omega) only [go_sem, simprocAttr]; with_reducible rfl); refine ⟨?_, ?_, ?_, ?_⟩ <;> (simp only [go_sem, simprocAttr]; with_reducible rfl)), l + 1, _, rfl, rfl, by rw [htk, List.map_append, ← hrt, hv]; rfl, by omega⟩
        · obtain rfl : l = n := by omega
          rw [List.take_of_length_le (by simp)] at hrt
          have htk := map_range_take (fun s => (List.range l).map fun k => (rightD l (fun s l => s &&& l != 0) s k : Int)) hlt
          have htk2 := map_range_take (fun s => decide (s < l)) hlt
          by_cases hin : i < l
          · repeat' (first | (with_reducible first | apply w1 | apply w2 | apply w3 | apply w4 | apply w5 | apply w6 | apply w7 | apply w8 | apply w9 | apply wa | apply wb | apply wc) | ((with_reducible apply wd); focus decide) | ((with_reducible apply we); focus exact rfl) | ((with_reducible apply wf); focus exact rfl) | ((first | (with_reducible apply SW_run tt_ok hG htb) | ((with_reducible apply SW_draw rfl tt_ok hG htb); (focus kernel_rfl); focus simp only [List.range, List.range.loop, List.size_toArray, List.length_cons, List.length_nil, Nat.reduceAdd])); focus ((repeat' (first | (with_reducible first | exact wg | exact wh) | ((with_reducible first | apply wi | apply wj); focus (simp (discharger := omega) only [go_sem, simprocAttr]; with_reducible rfl)))); done)))
            exact ⟨l + 1 - (i + 1), _, by omega, Norm.headS (own := [(8, 26, 1, false), (9, 4, 1, false)]) (keep := [0, 1, 4, 6, 8, 9, 35, 36]) (by refine ⟨?_, ?_⟩; (simp (discharger := omega) only [go_sem, simprocAttr]; with_reducible rfl); refine ⟨?_, ?_, ?_, ?_⟩ <;> (simp only [go_sem, simprocAttr]; with_reducible rfl)), i + 1, _, _, rfl, rfl, by rw [rightNext, tabN, htk, List.map_append, hnt, hrt]; rfl, by rw [rightEnds, tabE, htk2, List.map_append, het, decide_eq_true hin]; rfl, by omega⟩
          · repeat' (first | (with_reducible first | apply w1 | apply w2 | apply w3 | apply w4 | apply w5 | apply w6 | apply w7 | apply w8 | apply w9 | apply wa | apply wb | apply wc) | ((with_reducible apply wd); focus decide) | ((with_reducible apply we); focus exact rfl) | ((with_reducible apply wf); focus exact rfl) | ((first | (with_reducible apply SW_run tt_ok hG htb) | ((with_reducible apply SW_draw rfl tt_ok hG htb); (focus kernel_rfl); focus simp only [List.range, List.range.loop, List.size_toArray, List.length_cons, List.length_nil, Nat.reduceAdd])); focus ((repeat' (first | (with_reducible first | exact wg | exact wh) | ((with_reducible first | apply wi | apply wj); focus (simp (discharger := omega) only [go_sem, simprocAttr]; with_reducible rfl)))); done)))
            exact ⟨l + 1 - (i + 1), _, by omega, Norm.headS (own := [(8, 26, 1, false), (9, 4, 1, false)]) (keep := [0, 1, 4, 6, 8, 9, 35, 36]) (by refine ⟨?_, ?_⟩; (simp (discharger := omega) only [go_sem, simprocAttr]; with_reducible rfl); refine ⟨?_, ?_, ?_, ?_⟩ <;> (simp only [go_sem, simprocAttr]; with_reducible rfl)), i + 1, _, _, rfl, rfl, by rw [rightNext, tabN, htk, List.map_append, hnt, hrt]; rfl, by rw [rightEnds, tabE, htk2, List.map_append, het, decide_eq_false hin]; rfl, by omega⟩
      · obtain rfl : i = n + 1 := by omega
        rw [List.take_of_length_le (by simp [rightNext, tabN])] at hnt
        rw [List.take_of_length_le (by simp [rightEnds, tabE])] at het
        subst hnt het
        refine SW_norm (Norm.frz 8 rfl rfl) ?_
        refine SW_norm (Norm.frz 9 rfl rfl) ?_
        repeat' (first | (with_reducible first | apply w1 | apply w2 | apply w3 | apply w4 | apply w5 | apply w6 | apply w7 | apply w8 | apply w9 | apply wa | apply wb | apply wc) | ((with_reducible apply wd); focus decide) | ((with_reducible apply we); focus exact rfl) | ((with_reducible apply wf); focus exact rfl) | ((first | (with_reducible apply SW_run tt_ok hG htb) | ((with_reducible apply SW_draw rfl tt_ok hG htb); (focus kernel_rfl); focus simp only [List.range, List.range.loop, List.size_toArray, List.length_cons, List.length_nil, Nat.reduceAdd])); focus ((repeat' (first | (with_reducible first | exact wg | exact wh) | ((with_reducible first | apply wi | apply wj); focus (simp (discharger := omega) only [go_sem, tAuto, tErr, simprocAttr]; with_reducible rfl)))); done)))
        exact (by simp (discharger := omega) only [go_sem, tAuto, tErr, simprocAttr])
    · unfold allRE
      rw [if_neg h1]
      repeat' (first | (with_reducible first | apply w1 | apply w2 | apply w3 | apply w4 | apply w5 | apply w6 | apply w7 | apply w8 | apply w9 | apply wa | apply wb | apply wc) | ((with_reducible apply wd); focus decide) | ((with_reducible apply we); focus exact rfl) | ((with_reducible apply wf); focus exact rfl) | ((first | (with_reducible apply SW_run tt_ok hG htb) | ((with_reducible apply SW_draw rfl tt_ok hG htb); (focus kernel_rfl); focus simp only [List.range, List.range.loop, List.size_toArray, List.length_cons, List.length_nil, Nat.reduceAdd])); focus ((repeat' (first | (with_reducible first | exact wg | exact wh) | ((with_reducible first | apply wi | apply wj); focus (simp (discharger := omega) only [go_sem, tErr, h1, simprocAttr]; with_reducible rfl)))); done)))
      exact (by simp (discharger := omega) only [go_sem, tAuto, tErr, List.map_replicate, simprocAttr])
  · generalize manyErr base tracks = f at c1 h0
    rw [if_neg h0]
    have htb := Tab.cons c1 Tab.nil
    repeat' (first | (with_reducible first | apply w1 | apply w2 | apply w3 | apply w4 | apply w5 | apply w6 | apply w7 | apply w8 | apply w9 | apply wa | apply wb | apply wc) | ((with_reducible apply wd); focus decide) | ((with_reducible apply we); focus exact rfl) | ((with_reducible apply wf); focus exact rfl) | ((first | (with_reducible apply SW_run tt_ok hG htb) | ((with_reducible apply SW_draw rfl tt_ok hG htb); (focus kernel_rfl); focus simp only [List.range, List.range.loop, List.size_toArray, List.length_cons, List.length_nil, Nat.reduceAdd])); focus ((repeat' (first | (with_reducible first | exact wg | exact wh) | ((with_reducible first | apply wi | apply wj); focus (simp (discharger := omega) only [go_sem, tErr, h0, simprocAttr]; with_reducible rfl)))); done)))
    exact (by simp (discharger := omega) only [go_sem, tAuto, tErr, GAuto.zero, h0, simprocAttr])
end
end Go.Proofs.Ythcclcbliedodaa
namespace Go.Proofs.Ythcclcbliedodaa
open Go.RowKit

section
variable {G : World → Prop} (hG : Lasting G)
include hG
end
end Go.Proofs.Ythcclcbliedodaa
namespace Go.Proofs.Ythcclcbliedodaa
open Go.RowKit

section
variable {G : World → Prop} (hG : Lasting G)
include hG
set_option maxHeartbeats 4000000 in
theorem SpreadF_snd (d at' : List Int) (h : ∀ i ∈ at', 0 ≤ i ∧ i < (d.length : Int)) (hl : at'.length ≤ 1000000) : Snd Try.prog G 50 [tInts d, .ptr [tInts at']] (tInts (at'.map fun i => d.getD i.toNat 0)) := by
  have htb : Tab.ok Try.prog G [] := Tab.nil
  refine snd_of_body (n := 26) (tm := [(0, .t (tInts d)), (1, .t (.ptr [tInts at']))]) (rs := [.tmp 3]) tt_ok Try.func50 rfl rfl rfl rfl rfl ?_
  repeat' (first | (with_reducible first | apply w1 | apply w2 | apply w3 | apply w4 | apply w5 | apply w6 | apply w7 | apply w8 | apply w9 | apply wa | apply wb | apply wc) | ((with_reducible apply wd); focus decide) | ((with_reducible apply we); focus exact rfl) | ((with_reducible apply wf); focus exact rfl) | ((first | (with_reducible apply SW_run tt_ok hG htb) | ((with_reducible apply SW_draw rfl tt_ok hG htb); (focus kernel_rfl); focus simp only [List.range, List.range.loop, List.size_toArray, List.length_cons, List.length_nil, Nat.reduceAdd])); focus ((repeat' (first | (with_reducible first | exact wg | exact wh) | ((with_reducible first | apply wi | apply wj); focus (simp (discharger := omega) only [go_sem, loadT, simprocAttr]; with_reducible rfl)))); done)))
  refine SW_loop (fun m s => ∃ (i : Nat) (ot : List T), m = at'.length - i ∧ s = ⟨26, [(0, .t (tInts d)), (4, .sref 0), (10, .t (tInts at')), (11, .t (tInt at'.length)), (12, .t (tInt i))], [.row 3 1 true ot]⟩ ∧ i ≤ at'.length ∧ ot = ((at'.take i).map fun i => tInt (d.getD i.toNat 0)) ++ List.replicate (at'.length - i) (tInt 0)) at'.length
    ⟨_, Norm.headS (own := [(4, 3, 1, true)]) (keep := [0, 4, 10, 11, 12]) (by refine ⟨?_, ?_⟩; (simp (discharger := omega) only [go_sem, simprocAttr]; with_reducible rfl); refine ⟨?_, ?_, ?_, ?_⟩ <;> (simp only [go_sem, simprocAttr]; with_reducible rfl)), 0, _, rfl, rfl, Nat.zero_le _, by simp [tInt]⟩ ?_
  rintro m s ⟨i, ot, rfl, rfl, hi, hot⟩
  have hol : ot.length = at'.length := by rw [hot]; simp; omega
  by_cases hlt : i < at'.length
  · obtain ⟨x, hx⟩ : ∃ x, at'[i]! = x := ⟨_, rfl⟩
    have hxd := h x (bang_mem hx hlt)
    obtain ⟨y, hy⟩ : ∃ y, d[x.toNat]! = y := ⟨_, rfl⟩
    have hyD : d.getD x.toNat 0 = y := bang_D hy (by omega)
    have htk := take_next hx hlt
    obtain ⟨r, hr⟩ : ∃ r, at'.length - i = r + 1 := ⟨at'.length - i - 1, by omega⟩
    repeat' (first | (with_reducible first | apply w1 | apply w2 | apply w3 | apply w4 | apply w5 | apply w6 | apply w7 | apply w8 | apply w9 | apply wa | apply wb | apply wc) | ((with_reducible apply wd); focus decide) | ((with_reducible apply we); focus exact rfl) | ((with_reducible apply wf); focus exact rfl) | ((first | (with_reducible apply SW_run tt_ok hG htb) | ((with_reducible apply SW_draw rfl tt_ok hG htb); (focus kernel_rfl); focus simp only [List.range, List.range.loop, List.size_toArray, List.length_cons, List.length_nil, Nat.reduceAdd])); focus ((repeat' (first | (with_reducible first | exact wg | exact wh) | ((with_reducible first | apply wi | apply wj); focus (simp (discharger := omega) only [go_sem, hx, hy, simprocAttr]; with_reducible rfl)))); done)))
    refine ⟨at'.length - (i + 1), _, by omega, Norm.headS (own := [(4, 3, 1, true)]) (keep := [0, 4, 10, 11, 12]) (by refine ⟨?_, ?_⟩; (simp (discharger := omega) only [go_sem, simprocAttr]; with_reducible rfl); refine ⟨?_, ?_, ?_, ?_⟩ <;> (simp only [go_sem, simprocAttr]; with_reducible rfl)), i + 1, _, rfl, rfl, by omega, ?_⟩
    rw [← hyD, hot, htk, hr, show at'.length - (i + 1) = r by omega, List.replicate_succ, List.set_append_right _ _ (by simp; omega)]
    simp [tInt, Nat.min_eq_left (show i ≤ at'.length by omega)]
  · obtain rfl : i = at'.length := by omega
    rw [Nat.sub_self, List.replicate_zero, List.append_nil, List.take_length] at hot
    repeat' (first | (with_reducible first | apply w1 | apply w2 | apply w3 | apply w4 | apply w5 | apply w6 | apply w7 | apply w8 | apply w9 | apply wa | apply wb | apply wc) | ((with_reducible apply wd); focus decide) | ((with_reducible apply we); focus exact rfl) | ((with_reducible apply wf); focus exact rfl) | ((first | (with_reducible apply SW_run tt_ok hG htb) | ((with_reducible apply SW_draw rfl tt_ok hG htb); (focus kernel_rfl); focus simp only [List.range, List.range.loop, List.size_toArray, List.length_cons, List.length_nil, Nat.reduceAdd])); focus ((repeat' (first | (with_reducible first | exact wg | exact wh) | ((with_reducible first | apply wi | apply wj); focus (simp (discharger := omega) only [go_sem, simprocAttr]; with_reducible rfl)))); done)))
    exact (by simp (discharger := omega) only [go_sem, hot, List.map_map, Function.comp_def, simprocAttr])
end
end Go.Proofs.Ythcclcbliedodaa
namespace Go.Proofs.Ythcclcbliedodaa
open Go.RowKit

section
variable {G : World → Prop} (hG : Lasting G)
include hG
set_option maxHeartbeats 4000000 in
set_option maxRecDepth 100000 in
theorem remade_snd {a : GAuto} {n m : Nat} (g : Good a n m) (t n' : Nat) (h0 : manyErr a.base t = 0) (hn : manyOf a.base t = n') (gf : Nat) (cap : List T) (hne1 : ¬ (30 = gf)) (hne2 : ¬ (31 = gf)) (F : Nat → List Int) (f : Nat → Int)
    (hF : ∀ l, l < n' → Snd Try.prog G gf (tInts (unpack (radix a.base) t (l : Int)) :: cap) (tInts (F l))) (hP : ∀ l, l < n' → packErr a.base (F l) = 0 ∧ packOf a.base (F l) = f l) (hf : ∀ l, 0 ≤ f l ∧ f l < (n : Int)) :
    Snd Try.prog G 49 [tAuto a, tInt t, tInt n', .fn gf cap] (tAuto (reletA a t ((List.range n').map f))) := by
  have hm80 := g.m80
  have hn36 := g.n36
  have hlen := g.rows.len
  have h36 : n' ≤ 36 := by obtain ⟨_, _, _, p36, hm⟩ := many_ok h0; omega
  have htb : Tab.ok Try.prog G [] := Tab.nil
  refine snd_of_body (n := 85) (tm := [(0, .t (tAuto a)), (1, .t (tInt t)), (2, .t (tInt n')), (3, .t (.fn gf cap))]) (rs := [.cell 8 25]) tt_ok Try.func49 rfl rfl rfl rfl rfl ?_
  repeat' (first | (with_reducible first | apply w1 | apply w2 | apply w3 | apply w4 | apply w5 | apply w6 | apply w7 | apply w8 | apply w9 | apply wa | apply wb | apply wc) | ((with_reducible apply wd); focus decide) | ((with_reducible apply we); focus exact rfl) | ((with_reducible apply wf); focus exact rfl) | ((first | (with_reducible apply SW_run tt_ok hG htb) | ((with_reducible apply SW_draw rfl tt_ok hG htb); (focus kernel_rfl); focus simp only [List.range, List.range.loop, List.size_toArray, List.length_cons, List.length_nil, Nat.reduceAdd])); focus ((repeat' (first | (with_reducible first | exact wg | exact wh) | ((with_reducible first | apply wi | apply wj); focus (simp (discharger := omega) only [go_sem, tAuto, simprocAttr]; with_reducible rfl)))); done)))
  clear htb
  refine SW_loop (fun k s => ∃ (l : Nat) (ot : List T), k = n' - l ∧ s = ⟨85, [(1, .t (tInt t)), (3, .t (.fn gf cap)), (4, .bptr 0 0), (8, .bptr 1 0), (9, .sref 2), (23, .t (tInt n')), (24, .t (tInt l))], [.box [.t (tInt a.base), .t (tInt a.tracks), .t (tIntss a.next), .t (tBools a.ends)], .box [.t (tInt 0), .t (tInt 0), .nil, .nil], .row 3 1 true ot]⟩ ∧ l ≤ n' ∧ ot = (((List.range n').map f).take l).map tInt ++ List.replicate (n' - l) (tInt 0)) n'
    ⟨_, Norm.headS (own := [(9, 3, 1, true)]) (keep := [1, 3, 4, 8, 9, 23, 24]) (by refine ⟨?_, ?_⟩; (simp (discharger := omega) only [go_sem, simprocAttr]; with_reducible rfl); refine ⟨?_, ?_, ?_, ?_⟩ <;> (simp only [go_sem, simprocAttr]; with_reducible rfl)), 0, _, rfl, rfl, Nat.zero_le _, by simp [tInt]⟩ ?_
  rintro k s ⟨l, ot, rfl, rfl, hl, hot⟩
  have hol : ot.length = n' := by rw [hot]; simp; omega
  by_cases hlt : l < n'
  · have c1 := Unpack_snd hG a.base t (l : Int)
    obtain ⟨u1, u2⟩ := unpackErr_ok (base := a.base) (t := (t : Int)) (l := (l : Int)) h0 (by omega)
    rw [u1, u2, Int.toNat_natCast] at c1
    have c2 := Pack_snd hG a.base (F l)
    rw [(hP l hlt).1, (hP l hlt).2] at c2
    have c3 := hF l hlt
    have htk := map_range_take f hlt
    obtain ⟨r, hr⟩ : ∃ r, n' - l = r + 1 := ⟨n' - l - 1, by omega⟩
    generalize unpack (radix a.base) t (l : Int) = d at c1 c3
    generalize F l = e at c2 c3
    generalize f l = v at c2 htk
    have htb := Tab.cons c1 (Tab.cons c2 (Tab.cons c3 Tab.nil))
    repeat' (first | (with_reducible first | apply w1 | apply w2 | apply w3 | apply w4 | apply w5 | apply w6 | apply w7 | apply w8 | apply w9 | apply wa | apply wb | apply wc) | ((with_reducible apply wd); focus decide) | ((with_reducible apply we); focus exact rfl) | ((with_reducible apply wf); focus exact rfl) | ((first | (with_reducible apply SW_run tt_ok hG htb) | ((with_reducible apply SW_draw rfl tt_ok hG htb); (focus kernel_rfl); focus simp only [List.range, List.range.loop, List.size_toArray, List.length_cons, List.length_nil, Nat.reduceAdd])); focus ((repeat' (first | (with_reducible first | exact wg | exact wh) | ((with_reducible first | apply wi | apply wj); focus (simp (discharger := omega) only [go_sem, tErr, hne1, hne2, simprocAttr]; with_reducible rfl)))); done)))
    refine ⟨n' - (l + 1), _, by omega, Norm.headS (own := [(9, 3, 1, true)]) (keep := [1, 3, 4, 8, 9, 23, 24]) (by refine ⟨?_, ?_⟩; (simp (discharger := omega) only [go_sem, simprocAttr]; with_reducible rfl); refine ⟨?_, ?_, ?_, ?_⟩ <;> (simp only [go_sem, simprocAttr]; with_reducible rfl)), l + 1, _, rfl, rfl, by omega, ?_⟩
    rw [hot, htk, hr, show n' - (l + 1) = r by omega, List.replicate_succ, List.set_append_right _ _ (by simp; omega)]
    simp [tInt, Nat.min_eq_left (show l ≤ n' by omega)]
  · obtain rfl : l = n' := by omega
    rw [Nat.sub_self, List.replicate_zero, List.append_nil, List.take_of_length_le (by simp)] at hot
    have hto : ∀ x ∈ (List.range l).map f, 0 ≤ x ∧ x < (n : Int) := fun x hx => by obtain ⟨j, _, rfl⟩ := List.mem_map.1 hx; exact hf j
    have htl : ((List.range l).map f).length = l := by simp
    generalize (List.range l).map f = to at *
    have hR := relet_rows g.rows htl hto
    have hle := (reletA_isLeast g t hto).2
    have hS := Shrink_snd (G := G) hG a.base t hR g.m0 (by omega) g.ends (by omega)
    have hT : shrinkT a.base t l (relet a.next to) a.ends = .tup [tAuto (reletA a t to), .bool true] := by
      unfold shrinkT
      have : (leastRE l (relet a.next to) a.ends).1.length ≤ 80 := by unfold reletA at hle; rw [htl] at hle; simp only at hle; omega
      rw [if_pos this, reletA, htl]
    rw [hT] at hS
    generalize reletA a t to = c at *
    refine SW_norm (Norm.frz 9 rfl rfl) ?_
    have htb : Tab.ok Try.prog G [] := Tab.nil
    repeat' (first | (with_reducible first | apply w1 | apply w2 | apply w3 | apply w4 | apply w5 | apply w6 | apply w7 | apply w8 | apply w9 | apply wa | apply wb | apply wc) | ((with_reducible apply wd); focus decide) | ((with_reducible apply we); focus exact rfl) | ((with_reducible apply wf); focus exact rfl) | ((first | (with_reducible apply SW_run tt_ok hG htb) | ((with_reducible apply SW_draw rfl tt_ok hG htb); (focus kernel_rfl); focus simp only [List.range, List.range.loop, List.size_toArray, List.length_cons, List.length_nil, Nat.reduceAdd])); focus ((repeat' (first | (with_reducible first | exact wg | exact wh) | ((with_reducible first | apply wi | apply wj); focus (simp (discharger := omega) only [go_sem, simprocAttr]; with_reducible rfl)))); done)))
    refine SW_loop (fun k s => ∃ (i : Nat) (nt : List T), k = a.next.length - i ∧ s = ⟨85, [(1, .t (tInt t)), (4, .bptr 0 0), (8, .bptr 1 0), (9, .sref 2), (13, .sref 3), (49, .t (tIntss a.next)), (50, .t (tInt a.next.length)), (51, .t (tInt i))], [.box [.t (tInt a.base), .t (tInt a.tracks), .t (tIntss a.next), .t (tBools a.ends)], .box [.t (tInt 0), .t (tInt 0), .nil, .nil], .froz ot, .row 26 1 false nt]⟩ ∧ i ≤ a.next.length ∧ nt = ((relet a.next to).take i).map tInts) a.next.length
      ⟨_, Norm.headS (own := [(13, 26, 1, false)]) (keep := [1, 4, 8, 9, 13, 49, 50, 51]) (by refine ⟨?_, ?_⟩; (simp (discharger := omega) only [go_sem, simprocAttr]; with_reducible rfl); refine ⟨?_, ?_, ?_, ?_⟩ <;> (simp only [go_sem, simprocAttr]; with_reducible rfl)), 0, _, rfl, rfl, Nat.zero_le _, by simp⟩ ?_
    rintro k s ⟨i, nt, rfl, rfl, hi, hnt⟩
    have hntl : nt.length = i := by rw [hnt]; simp [relet]; omega
    subst hot
    by_cases hlt2 : i < a.next.length
    · obtain ⟨row, hrow⟩ : ∃ row, a.next[i]! = row := ⟨_, rfl⟩
      have hrl : row.length = n := g.rows.row _ (bang_mem hrow hlt2)
      repeat' (first | (with_reducible first | apply w1 | apply w2 | apply w3 | apply w4 | apply w5 | apply w6 | apply w7 | apply w8 | apply w9 | apply wa | apply wb | apply wc) | ((with_reducible apply wd); focus decide) | ((with_reducible apply we); focus exact rfl) | ((with_reducible apply wf); focus exact rfl) | ((first | (with_reducible apply SW_run tt_ok hG htb) | ((with_reducible apply SW_draw rfl tt_ok hG htb); (focus kernel_rfl); focus simp only [List.range, List.range.loop, List.size_toArray, List.length_cons, List.length_nil, Nat.reduceAdd])); focus ((repeat' (first | (with_reducible first | exact wg | exact wh) | ((with_reducible first | apply wi | apply wj); focus (simp (discharger := omega) only [go_sem, hrow, simprocAttr]; with_reducible rfl)))); done)))
      refine SW_loop (fun k s => ∃ (j : Nat) (rt : List T), k = to.length - j ∧ s = ⟨85, [(1, .t (tInt t)), (4, .bptr 0 0), (8, .bptr 1 0), (9, .sref 2), (13, .sref 3), (15, .t (tInts row)), (16, .sref 4), (49, .t (tIntss a.next)), (50, .t (tInt a.next.length)), (51, .t (tInt i)), (55, .sref 2), (56, .t (tInt to.length)), (57, .t (tInt j))], [.box [.t (tInt a.base), .t (tInt a.tracks), .t (tIntss a.next), .t (tBools a.ends)], .box [.t (tInt 0), .t (tInt 0), .nil, .nil], .froz (to.map tInt), .row 26 1 false nt, .row 3 1 false rt]⟩ ∧ j ≤ to.length ∧ rt = ((to.map fun l => row.getD l.toNat 0).take j).map tInt) to.length
        ⟨_, Norm.headS (own := [(13, 26, 1, false), (16, 3, 1, false)]) (keep := [1, 4, 8, 9, 13, 15, 16, 49, 50, 51, 55, 56, 57]) (by refine ⟨?_, ?_⟩; (simp (discharger := omega) only [go_sem, simprocAttr]; with_reducible rfl); refine ⟨?_, ?_, ?_, ?_⟩ <;> (simp only [go_sem, simprocAttr]; with_reducible rfl)), 0, _, rfl, rfl, Nat.zero_le _, by simp⟩ ?_
      rintro k s ⟨j, rt, rfl, rfl, hj, hrt⟩
      have hrtl : rt.length = j := by rw [hrt]; simp; omega
      by_cases hlt3 : j < to.length
      · obtain ⟨x, hx⟩ : ∃ x, to[j]! = x := ⟨_, rfl⟩
        have hxn := hto x (bang_mem hx hlt3)
        obtain ⟨y, hy⟩ : ∃ y, row[x.toNat]! = y := ⟨_, rfl⟩
        have hyD : row.getD x.toNat 0 = y := bang_D hy (by omega)
        have htk : (to.map fun l => row.getD l.toNat 0).take (j + 1) = (to.map fun l => row.getD l.toNat 0).take j ++ [y] := by
          rw [List.take_succ_eq_append_getElem (by simpa using hlt3)]
          simp only [List.getElem_map]
          rw [bang_at hx hlt3, hyD]
        repeat' (first | (with_reducible first | apply w1 | apply w2 | apply w3 | apply w4 | apply w5 | apply w6 | apply w7 | apply w8 | apply w9 | apply wa | apply wb | apply wc) | ((with_reducible apply wd); focus decide) | ((with_reducible apply we); focus exact rfl) | ((with_reducible apply wf); focus exact rfl) | ((first | (with_reducible apply SW_run tt_ok hG htb) | ((with_reducible apply SW_draw rfl tt_ok hG htb); (focus kernel_rfl); focus simp only [List.range, List.range.loop, List.size_toArray, List.length_cons, List.length_nil, Nat.reduceAdd])); focus ((repeat' (first | (with_reducible first | exact wg | exact wh) | ((with_reducible first | apply wi | apply wj); focus (simp (discharger := omega) only [go_sem, hx, hy, simprocAttr]; with_reducible rfl)))); done)))
        exact ⟨to.length - (j + 1), _, by omega, Norm.headS (own := [(13, 26, 1, false), (16, 3, 1, false)]) (keep := [1, 4, 8, 9, 13, 15, 16, 49, 50, 51, 55, 56, 57]) (by refine ⟨?_, ?_⟩; (simp (discharger := omega) only [go_sem, simprocAttr]; with_reducible rfl); refine ⟨?_, ?_, ?_, ?_⟩ <;> (simp only [go_sem, simprocAttr]; with_reducible rfl)), j + 1, _, rfl, rfl, by omega, by rw [htk, List.map_append, ← hrt]; rfl⟩
      · obtain rfl : j = to.length := by omega
        rw [List.take_of_length_le (by simp)] at hrt
        have htk : (relet a.next to).take (i + 1) = (relet a.next to).take i ++ [to.map fun l => row.getD l.toNat 0] := by
          rw [List.take_succ_eq_append_getElem (by simpa [relet] using hlt2)]
          simp only [relet, List.getElem_map]
          rw [bang_at hrow hlt2]
        repeat' (first | (with_reducible first | apply w1 | apply w2 | apply w3 | apply w4 | apply w5 | apply w6 | apply w7 | apply w8 | apply w9 | apply wa | apply wb | apply wc) | ((with_reducible apply wd); focus decide) | ((with_reducible apply we); focus exact rfl) | ((with_reducible apply wf); focus exact rfl) | ((first | (with_reducible apply SW_run tt_ok hG htb) | ((with_reducible apply SW_draw rfl tt_ok hG htb); (focus kernel_rfl); focus simp only [List.range, List.range.loop, List.size_toArray, List.length_cons, List.length_nil, Nat.reduceAdd])); focus ((repeat' (first | (with_reducible first | exact wg | exact wh) | ((with_reducible first | apply wi | apply wj); focus (simp (discharger := omega) only [go_sem, simprocAttr]; with_reducible rfl)))); done)))
        exact ⟨a.next.length - (i + 1), _, by omega, Norm.headS (own := [(13, 26, 1, false)]) (keep := [1, 4, 8, 9, 13, 49, 50, 51]) (by refine ⟨?_, ?_⟩; (simp (discharger := omega) only [go_sem, simprocAttr]; with_reducible rfl); refine ⟨?_, ?_, ?_, ?_⟩ <;> (simp only [go_sem, simprocAttr]; with_reducible rfl)), i + 1, _, rfl, rfl, by omega, by rw [htk, List.map_append, ← hnt, hrt]; rfl⟩
    · obtain rfl : i = a.next.length := by omega
      rw [List.take_of_length_le (by simp [relet])] at hnt
      subst hnt
      clear htb
      have htb := Tab.cons hS Tab.nil
      refine SW_norm (Norm.frz 13 rfl rfl) ?_
      repeat' (first | (with_reducible first | apply w1 | apply w2 | apply w3 | apply w4 | apply w5 | apply w6 | apply w7 | apply w8 | apply w9 | apply wa | apply wb | apply wc) | ((with_reducible apply wd); focus decide) | ((with_reducible apply we); focus exact rfl) | ((with_reducible apply wf); focus exact rfl) | ((first | (with_reducible apply SW_run tt_ok hG htb) | ((with_reducible apply SW_draw rfl tt_ok hG htb); (focus kernel_rfl); focus simp only [List.range, List.range.loop, List.size_toArray, List.length_cons, List.length_nil, Nat.reduceAdd])); focus ((repeat' (first | (with_reducible first | exact wg | exact wh) | ((with_reducible first | apply wi | apply wj); focus (simp (discharger := omega) only [go_sem, tAuto, simprocAttr]; with_reducible rfl)))); done)))
      exact (by simp (discharger := omega) only [go_sem, tAuto, simprocAttr])
set_option maxHeartbeats 4000000 in
set_option maxRecDepth 100000 in
theorem Spread_snd (a : GAuto) (tracks : Int) (at' : List Int) : Snd Try.prog G 27 [tAuto a, tInt tracks, tInts at'] (.tup [tAuto (spreadOf a tracks at'), tErr (spreadErr a tracks at')]) := by
  have c1 := Check_snd hG a
  have c2 := Many_snd hG a.base tracks
  refine snd_of_body (n := 58) (tm := [(0, .t (tAuto a)), (1, .t (tInt tracks)), (2, .t (tInts at'))]) (rs := [.cell 6 25, .tmp 7]) tt_ok Try.func27 rfl rfl rfl rfl rfl ?_
  by_cases h1 : autoFault a = 0
  · by_cases h2 : manyErr a.base tracks = 0
    · rw [h1] at c1
      rw [h2] at c2
      have htb := Tab.cons c1 (Tab.cons c2 Tab.nil)
      by_cases h3 : (at'.length : Int) = a.tracks
      · have hal5 : at'.length ≤ 5 := by
          have := many_ok (good_of h1).many
          omega
        repeat' (first | (with_reducible first | apply w1 | apply w2 | apply w3 | apply w4 | apply w5 | apply w6 | apply w7 | apply w8 | apply w9 | apply wa | apply wb | apply wc) | ((with_reducible apply wd); focus decide) | ((with_reducible apply we); focus exact rfl) | ((with_reducible apply wf); focus exact rfl) | ((first | (with_reducible apply SW_run tt_ok hG htb) | ((with_reducible apply SW_draw rfl tt_ok hG htb); (focus kernel_rfl); focus simp only [List.range, List.range.loop, List.size_toArray, List.length_cons, List.length_nil, Nat.reduceAdd])); focus ((repeat' (first | (with_reducible first | exact wg | exact wh) | ((with_reducible first | apply wi | apply wj); focus (simp (discharger := omega) only [go_sem, tAuto, tErr, h3, simprocAttr]; with_reducible rfl)))); done)))
        clear htb
        have htb : Tab.ok Try.prog G [] := Tab.nil
        refine SW_loop (fun k s => ∃ i : Nat, k = at'.length - i ∧ s = ⟨58, [(1, .t (tInt tracks)), (3, .bptr 0 0), (5, .bptr 1 0), (6, .bptr 2 0), (9, .t (tInt (manyOf a.base tracks))), (37, .t (tInts at')), (38, .t (tInt a.tracks)), (39, .t (tInt i))], [.box [.t (tInt a.base), .t (tInt a.tracks), .t (tIntss a.next), .t (tBools a.ends)], .box [.t (tInts at')], .box [.t (tInt 0), .t (tInt 0), .nil, .nil]]⟩ ∧ i ≤ at'.length ∧ ∀ x ∈ at'.take i, 0 ≤ x ∧ x < tracks) at'.length
          ⟨_, Norm.headS (own := []) (keep := [1, 3, 5, 6, 9, 37, 38, 39]) (by refine ⟨?_, ?_⟩; (simp (discharger := omega) only [go_sem, simprocAttr]; with_reducible rfl); refine ⟨?_, ?_, ?_, ?_⟩ <;> (simp only [go_sem, simprocAttr]; with_reducible rfl)), 0, rfl, rfl, Nat.zero_le _, fun x hx => by simp at hx⟩ ?_
        rintro k s ⟨i, rfl, rfl, hi, hA⟩
        by_cases hlt : i < at'.length
        · obtain ⟨x, hx⟩ : ∃ x, at'[i]! = x := ⟨_, rfl⟩
          have htk := take_next hx hlt
          have hxm := bang_mem hx hlt
          have hbad : ¬ (0 ≤ x ∧ x < tracks) → spreadErr a tracks at' = 1 ∧ spreadOf a tracks at' = GAuto.zero := fun hb => by
            have : spreadErr a tracks at' = 1 := by
              unfold spreadErr
              rw [if_neg (by omega), if_neg (by omega), if_neg (by omega), if_neg]
              intro hall
              exact hb (by simpa using List.all_eq_true.1 hall x hxm)
            exact ⟨this, by unfold spreadOf; rw [if_neg (by omega)]⟩
          by_cases hx0 : x < 0
          · obtain ⟨e1, e2⟩ := hbad (by omega)
            rw [e1, e2]
            repeat' (first | (with_reducible first | apply w1 | apply w2 | apply w3 | apply w4 | apply w5 | apply w6 | apply w7 | apply w8 | apply w9 | apply wa | apply wb | apply wc) | ((with_reducible apply wd); focus decide) | ((with_reducible apply we); focus exact rfl) | ((with_reducible apply wf); focus exact rfl) | ((first | (with_reducible apply SW_run tt_ok hG htb) | ((with_reducible apply SW_draw rfl tt_ok hG htb); (focus kernel_rfl); focus simp only [List.range, List.range.loop, List.size_toArray, List.length_cons, List.length_nil, Nat.reduceAdd])); focus ((repeat' (first | (with_reducible first | exact wg | exact wh) | ((with_reducible first | apply wi | apply wj); focus (simp (discharger := omega) only [go_sem, tAuto, tErr, hx, simprocAttr]; with_reducible rfl)))); done)))
            exact (by simp (discharger := omega) only [go_sem, tAuto, tErr, GAuto.zero, simprocAttr])
          · by_cases hxt : tracks ≤ x
            · obtain ⟨e1, e2⟩ := hbad (by omega)
              rw [e1, e2]
              repeat' (first | (with_reducible first | apply w1 | apply w2 | apply w3 | apply w4 | apply w5 | apply w6 | apply w7 | apply w8 | apply w9 | apply wa | apply wb | apply wc) | ((with_reducible apply wd); focus decide) | ((with_reducible apply we); focus exact rfl) | ((with_reducible apply wf); focus exact rfl) | ((first | (with_reducible apply SW_run tt_ok hG htb) | ((with_reducible apply SW_draw rfl tt_ok hG htb); (focus kernel_rfl); focus simp only [List.range, List.range.loop, List.size_toArray, List.length_cons, List.length_nil, Nat.reduceAdd])); focus ((repeat' (first | (with_reducible first | exact wg | exact wh) | ((with_reducible first | apply wi | apply wj); focus (simp (discharger := omega) only [go_sem, tAuto, tErr, hx, simprocAttr]; with_reducible rfl)))); done)))
              exact (by simp (discharger := omega) only [go_sem, tAuto, tErr, GAuto.zero, simprocAttr])
            · repeat' (first | (with_reducible first | apply w1 | apply w2 | apply w3 | apply w4 | apply w5 | apply w6 | apply w7 | apply w8 | apply w9 | apply wa | apply wb | apply wc) | ((with_reducible apply wd); focus decide) | ((with_reducible apply we); focus exact rfl) | ((with_reducible apply wf); focus exact rfl) | ((first | (with_reducible apply SW_run tt_ok hG htb) | ((with_reducible apply SW_draw rfl tt_ok hG htb); (focus kernel_rfl); focus simp only [List.range, List.range.loop, List.size_toArray, List.length_cons, List.length_nil, Nat.reduceAdd])); focus ((repeat' (first | (with_reducible first | exact wg | exact wh) | ((with_reducible first | apply wi | apply wj); focus (simp (discharger := omega) only [go_sem, tAuto, tErr, hx, simprocAttr]; with_reducible rfl)))); done)))
              exact ⟨at'.length - (i + 1), _, by omega, Norm.headS (own := []) (keep := [1, 3, 5, 6, 9, 37, 38, 39]) (by refine ⟨?_, ?_⟩; (simp (discharger := omega) only [go_sem, simprocAttr]; with_reducible rfl); refine ⟨?_, ?_, ?_, ?_⟩ <;> (simp only [go_sem, simprocAttr]; with_reducible rfl)), i + 1, rfl, rfl, by omega, fun y hy => by
                rw [htk] at hy
                rcases List.mem_append.1 hy with h | h
                · exact hA y h
                · simp at h; subst h; omega⟩
        · obtain rfl : i = at'.length := by omega
          rw [List.take_length] at hA
          have he : spreadErr a tracks at' = 0 := by
            unfold spreadErr
            rw [if_neg (by omega), if_neg (by omega), if_neg (by omega), if_pos (by rw [List.all_eq_true]; intro x hx; simpa using hA x hx)]
          obtain ⟨n, m, t, n', g, rfl, ht5, q1, q2, q3, q4, q5, q6, q7, q8, q9, q10⟩ := spread_ok he
          rw [he, q8]
          have hdl : ∀ l : Nat, (unpack (radix a.base) t (l : Int)).length = t := fun l => unpack_length _ _ _
          have hr := remade_snd hG g t n' q1 q2 50 [.ptr [tInts at']] (by decide) (by decide) (fun (l : Nat) => at'.map fun (i : Int) => digitAt (radix a.base) t (l : Int) i.toNat) (spreadL a.base t at')
            (fun l hl => by
              have := SpreadF_snd hG (unpack (radix a.base) t (l : Int)) at' (fun i hi => by rw [hdl]; exact q6 i hi) (by omega)
              exact this)
            (fun l hl => by
              have := packErr_ok (base := a.base) (d := at'.map fun i => digitAt (radix a.base) t (l : Int) i.toNat) (by rw [List.length_map, q5]; exact g.many) (fun x hx => by
                obtain ⟨i, _, rfl⟩ := List.mem_map.1 hx
                exact digitAt_ok (radix_two q10).1 t _ _)
              exact this) q7
          rw [q2]
          generalize reletA a t ((List.range n').map (spreadL a.base t at')) = c at *
          clear htb
          have htb := Tab.cons hr Tab.nil
          repeat' (first | (with_reducible first | apply w1 | apply w2 | apply w3 | apply w4 | apply w5 | apply w6 | apply w7 | apply w8 | apply w9 | apply wa | apply wb | apply wc) | ((with_reducible apply wd); focus decide) | ((with_reducible apply we); focus exact rfl) | ((with_reducible apply wf); focus exact rfl) | ((first | (with_reducible apply SW_run tt_ok hG htb) | ((with_reducible apply SW_draw rfl tt_ok hG htb); (focus kernel_rfl); focus simp only [List.range, List.range.loop, List.size_toArray, List.length_cons, List.length_nil, Nat.reduceAdd])); focus ((repeat' (first | (with_reducible first | exact wg | exact wh) | ((with_reducible first | apply wi | apply wj); focus (simp (discharger := omega) only [go_sem, tAuto, tErr, simprocAttr]; with_reducible rfl)))); done)))
          refine SW_norm (Norm.fixBox 1 rfl rfl) ?_
          repeat' (first | (with_reducible first | apply w1 | apply w2 | apply w3 | apply w4 | apply w5 | apply w6 | apply w7 | apply w8 | apply w9 | apply wa | apply wb | apply wc) | ((with_reducible apply wd); focus decide) | ((with_reducible apply we); focus exact rfl) | ((with_reducible apply wf); focus exact rfl) | ((first | (with_reducible apply SW_run tt_ok hG htb) | ((with_reducible apply SW_draw rfl tt_ok hG htb); (focus kernel_rfl); focus simp only [List.range, List.range.loop, List.size_toArray, List.length_cons, List.length_nil, Nat.reduceAdd])); focus ((repeat' (first | (with_reducible first | exact wg | exact wh) | ((with_reducible first | apply wi | apply wj); focus (simp (discharger := omega) only [go_sem, tAuto, tErr, simprocAttr]; with_reducible rfl)))); done)))
          exact (by simp (discharger := omega) only [go_sem, tAuto, tErr, simprocAttr])
      · have he : spreadErr a tracks at' = 2 := by unfold spreadErr; rw [if_neg (by omega), if_neg (by omega), if_pos h3]
        have hv : spreadOf a tracks at' = GAuto.zero := by unfold spreadOf; rw [if_neg (by omega)]
        rw [he, hv]
        repeat' (first | (with_reducible first | apply w1 | apply w2 | apply w3 | apply w4 | apply w5 | apply w6 | apply w7 | apply w8 | apply w9 | apply wa | apply wb | apply wc) | ((with_reducible apply wd); focus decide) | ((with_reducible apply we); focus exact rfl) | ((with_reducible apply wf); focus exact rfl) | ((first | (with_reducible apply SW_run tt_ok hG htb) | ((with_reducible apply SW_draw rfl tt_ok hG htb); (focus kernel_rfl); focus simp only [List.range, List.range.loop, List.size_toArray, List.length_cons, List.length_nil, Nat.reduceAdd])); focus ((repeat' (first | (with_reducible first | exact wg | exact wh) | ((with_reducible first | apply wi | apply wj); focus (simp (discharger := omega) only [go_sem, tAuto, tErr, h3, simprocAttr]; with_reducible rfl)))); done)))
        exact (by simp (discharger := omega) only [go_sem, tAuto, tErr, GAuto.zero, simprocAttr])
    · have he : spreadErr a tracks at' = manyErr a.base tracks := by unfold spreadErr; rw [if_neg (by omega), if_pos h2]
      have hv : spreadOf a tracks at' = GAuto.zero := by unfold spreadOf; rw [if_neg (by omega)]
      rw [he, hv]
      rw [h1] at c1
      generalize manyErr a.base tracks = f at *
      generalize manyOf a.base tracks = q at *
      have htb := Tab.cons c1 (Tab.cons c2 Tab.nil)
      repeat' (first | (with_reducible first | apply w1 | apply w2 | apply w3 | apply w4 | apply w5 | apply w6 | apply w7 | apply w8 | apply w9 | apply wa | apply wb | apply wc) | ((with_reducible apply wd); focus decide) | ((with_reducible apply we); focus exact rfl) | ((with_reducible apply wf); focus exact rfl) | ((first | (with_reducible apply SW_run tt_ok hG htb) | ((with_reducible apply SW_draw rfl tt_ok hG htb); (focus kernel_rfl); focus simp only [List.range, List.range.loop, List.size_toArray, List.length_cons, List.length_nil, Nat.reduceAdd])); focus ((repeat' (first | (with_reducible first | exact wg | exact wh) | ((with_reducible first | apply wi | apply wj); focus (simp (discharger := omega) only [go_sem, tAuto, tErr, h2, simprocAttr]; with_reducible rfl)))); done)))
      exact (by simp (discharger := omega) only [go_sem, tAuto, tErr, GAuto.zero, h2, simprocAttr])
  · have he : spreadErr a tracks at' = autoFault a := by unfold spreadErr; rw [if_pos h1]
    have hv : spreadOf a tracks at' = GAuto.zero := by unfold spreadOf; rw [if_neg (by omega)]
    rw [he, hv]
    generalize autoFault a = f at *
    have htb := Tab.cons c1 Tab.nil
    repeat' (first | (with_reducible first | apply w1 | apply w2 | apply w3 | apply w4 | apply w5 | apply w6 | apply w7 | apply w8 | apply w9 | apply wa | apply wb | apply wc) | ((with_reducible apply wd); focus decide) | ((with_reducible apply we); focus exact rfl) | ((with_reducible apply wf); focus exact rfl) | ((first | (with_reducible apply SW_run tt_ok hG htb) | ((with_reducible apply SW_draw rfl tt_ok hG htb); (focus kernel_rfl); focus simp only [List.range, List.range.loop, List.size_toArray, List.length_cons, List.length_nil, Nat.reduceAdd])); focus ((repeat' (first | (with_reducible first | exact wg | exact wh) | ((with_reducible first | apply wi | apply wj); focus (simp (discharger := omega) only [go_sem, tAuto, tErr, h1, simprocAttr]; with_reducible rfl)))); done)))
    exact (by simp (discharger := omega) only [go_sem, tAuto, tErr, GAuto.zero, h1, simprocAttr])
end
end Go.Proofs.Ythcclcbliedodaa
namespace Go.Proofs.Ythcclcbliedodaa
open Go.RowKit

theorem list_same {α : Type} [Inhabited α] {l l' : List α} (hl : l.length = l'.length) (h : ∀ j, j < l.length → l[j]! = l'[j]!) : l = l' := by
  refine List.ext_getElem hl fun i h1 h2 => ?_
  have := h i h1
  rwa [getElem!_pos l i h1, getElem!_pos l' i h2] at this
section
variable {G : World → Prop} (hG : Lasting G)
include hG
set_option maxHeartbeats 4000000 in
theorem SInts_snd (d d' : List Int) : Snd Try.prog G 55 [tInts d, tInts d'] (.bool (decide (d = d'))) := by
  have htb : Tab.ok Try.prog G [] := Tab.nil
  refine snd_of_body (n := 26) (tm := [(0, .t (tInts d)), (1, .t (tInts d'))]) (rs := [.tmp 4]) tt_ok Try.func55 rfl rfl rfl rfl rfl ?_
  refine SW_len (t := 0) (l := _) rfl fun hlen => ?_
  simp only [List.length_map] at hlen
  by_cases hl : d.length = d'.length
  · repeat' (first | (with_reducible first | apply w1 | apply w2 | apply w3 | apply w4 | apply w5 | apply w6 | apply w7 | apply w8 | apply w9 | apply wa | apply wb | apply wc) | ((with_reducible apply wd); focus decide) | ((with_reducible apply we); focus exact rfl) | ((with_reducible apply wf); focus exact rfl) | ((first | (with_reducible apply SW_run tt_ok hG htb) | ((with_reducible apply SW_draw rfl tt_ok hG htb); (focus kernel_rfl); focus simp only [List.range, List.range.loop, List.size_toArray, List.length_cons, List.length_nil, Nat.reduceAdd])); focus ((repeat' (first | (with_reducible first | exact wg | exact wh) | ((with_reducible first | apply wi | apply wj); focus (simp (discharger := omega) only [go_sem, hl, simprocAttr]; with_reducible rfl)))); done)))
    refine SW_loop (fun n s => ∃ k : Nat, n = d.length - k ∧ s = ⟨26, [(0, .t (tInts d)), (1, .t (tInts d')), (5, .t (tInt k))], []⟩ ∧ k ≤ d.length ∧ ∀ j, j < k → d[j]! = d'[j]!) d.length ⟨_, Norm.headS (own := []) (keep := [0, 1, 5]) (by refine ⟨?_, ?_⟩; (simp (discharger := omega) only [go_sem, simprocAttr]; with_reducible rfl); refine ⟨?_, ?_, ?_, ?_⟩ <;> (simp only [go_sem, simprocAttr]; with_reducible rfl)), 0, rfl, rfl, Nat.zero_le _, fun j hj => by omega⟩ ?_
    rintro n s ⟨k, rfl, rfl, hk, hA⟩
    by_cases hlt : k < d.length
    · by_cases h : d[k]! = d'[k]!
      · repeat' (first | (with_reducible first | apply w1 | apply w2 | apply w3 | apply w4 | apply w5 | apply w6 | apply w7 | apply w8 | apply w9 | apply wa | apply wb | apply wc) | ((with_reducible apply wd); focus decide) | ((with_reducible apply we); focus exact rfl) | ((with_reducible apply wf); focus exact rfl) | ((first | (with_reducible apply SW_run tt_ok hG htb) | ((with_reducible apply SW_draw rfl tt_ok hG htb); (focus kernel_rfl); focus simp only [List.range, List.range.loop, List.size_toArray, List.length_cons, List.length_nil, Nat.reduceAdd])); focus ((repeat' (first | (with_reducible first | exact wg | exact wh) | ((with_reducible first | apply wi | apply wj); focus (simp (discharger := omega) only [go_sem, h, simprocAttr]; with_reducible rfl)))); done)))
        exact ⟨d.length - (k + 1), _, by omega, Norm.headS (own := []) (keep := [0, 1, 5]) (by refine ⟨?_, ?_⟩; (simp (discharger := omega) only [go_sem, simprocAttr]; with_reducible rfl); refine ⟨?_, ?_, ?_, ?_⟩ <;> (simp only [go_sem, simprocAttr]; with_reducible rfl)), k + 1, rfl, rfl, by omega, fun j hj => by
          by_cases e : j = k
          · subst e; exact h
          · exact hA j (by omega)⟩
      · rw [decide_eq_false (fun e => h (by rw [e]))]
        repeat' (first | (with_reducible first | apply w1 | apply w2 | apply w3 | apply w4 | apply w5 | apply w6 | apply w7 | apply w8 | apply w9 | apply wa | apply wb | apply wc) | ((with_reducible apply wd); focus decide) | ((with_reducible apply we); focus exact rfl) | ((with_reducible apply wf); focus exact rfl) | ((first | (with_reducible apply SW_run tt_ok hG htb) | ((with_reducible apply SW_draw rfl tt_ok hG htb); (focus kernel_rfl); focus simp only [List.range, List.range.loop, List.size_toArray, List.length_cons, List.length_nil, Nat.reduceAdd])); focus ((repeat' (first | (with_reducible first | exact wg | exact wh) | ((with_reducible first | apply wi | apply wj); focus (simp (discharger := omega) only [go_sem, h, simprocAttr]; with_reducible rfl)))); done)))
        exact (by simp (discharger := omega) only [go_sem, simprocAttr])
    · rw [decide_eq_true (list_same hl fun j hj => hA j (by omega))]
      repeat' (first | (with_reducible first | apply w1 | apply w2 | apply w3 | apply w4 | apply w5 | apply w6 | apply w7 | apply w8 | apply w9 | apply wa | apply wb | apply wc) | ((with_reducible apply wd); focus decide) | ((with_reducible apply we); focus exact rfl) | ((with_reducible apply wf); focus exact rfl) | ((first | (with_reducible apply SW_run tt_ok hG htb) | ((with_reducible apply SW_draw rfl tt_ok hG htb); (focus kernel_rfl); focus simp only [List.range, List.range.loop, List.size_toArray, List.length_cons, List.length_nil, Nat.reduceAdd])); focus ((repeat' (first | (with_reducible first | exact wg | exact wh) | ((with_reducible first | apply wi | apply wj); focus (simp (discharger := omega) only [go_sem, simprocAttr]; with_reducible rfl)))); done)))
      exact (by simp (discharger := omega) only [go_sem, simprocAttr])
  · rw [decide_eq_false (fun e => hl (by rw [e]))]
    repeat' (first | (with_reducible first | apply w1 | apply w2 | apply w3 | apply w4 | apply w5 | apply w6 | apply w7 | apply w8 | apply w9 | apply wa | apply wb | apply wc) | ((with_reducible apply wd); focus decide) | ((with_reducible apply we); focus exact rfl) | ((with_reducible apply wf); focus exact rfl) | ((first | (with_reducible apply SW_run tt_ok hG htb) | ((with_reducible apply SW_draw rfl tt_ok hG htb); (focus kernel_rfl); focus simp only [List.range, List.range.loop, List.size_toArray, List.length_cons, List.length_nil, Nat.reduceAdd])); focus ((repeat' (first | (with_reducible first | exact wg | exact wh) | ((with_reducible first | apply wi | apply wj); focus (simp (discharger := omega) only [go_sem, hl, simprocAttr]; with_reducible rfl)))); done)))
    exact (by simp (discharger := omega) only [go_sem, simprocAttr])
set_option maxHeartbeats 4000000 in
theorem Lists_snd (d d' : List (List Int)) : Snd Try.prog G 41 [tIntss d, tIntss d'] (.bool (decide (d = d'))) := by
  have htb : Tab.ok Try.prog G [] := Tab.nil
  refine snd_of_body (n := 29) (tm := [(0, .t (tIntss d)), (1, .t (tIntss d'))]) (rs := [.tmp 4]) tt_ok Try.func41 rfl rfl rfl rfl rfl ?_
  refine SW_len (t := 0) (l := _) rfl fun hlen => ?_
  simp only [List.length_map] at hlen
  by_cases hl : d.length = d'.length
  · repeat' (first | (with_reducible first | apply w1 | apply w2 | apply w3 | apply w4 | apply w5 | apply w6 | apply w7 | apply w8 | apply w9 | apply wa | apply wb | apply wc) | ((with_reducible apply wd); focus decide) | ((with_reducible apply we); focus exact rfl) | ((with_reducible apply wf); focus exact rfl) | ((first | (with_reducible apply SW_run tt_ok hG htb) | ((with_reducible apply SW_draw rfl tt_ok hG htb); (focus kernel_rfl); focus simp only [List.range, List.range.loop, List.size_toArray, List.length_cons, List.length_nil, Nat.reduceAdd])); focus ((repeat' (first | (with_reducible first | exact wg | exact wh) | ((with_reducible first | apply wi | apply wj); focus (simp (discharger := omega) only [go_sem, hl, simprocAttr]; with_reducible rfl)))); done)))
    refine SW_loop (fun n s => ∃ k : Nat, n = d.length - k ∧ s = ⟨29, [(0, .t (tIntss d)), (1, .t (tIntss d')), (5, .t (tInt k))], []⟩ ∧ k ≤ d.length ∧ ∀ j, j < k → d[j]! = d'[j]!) d.length ⟨_, Norm.headS (own := []) (keep := [0, 1, 5]) (by refine ⟨?_, ?_⟩; (simp (discharger := omega) only [go_sem, simprocAttr]; with_reducible rfl); refine ⟨?_, ?_, ?_, ?_⟩ <;> (simp only [go_sem, simprocAttr]; with_reducible rfl)), 0, rfl, rfl, Nat.zero_le _, fun j hj => by omega⟩ ?_
    rintro n s ⟨k, rfl, rfl, hk, hA⟩
    by_cases hlt : k < d.length
    · have htb := Tab.cons (SInts_snd hG d[k]! d'[k]!) Tab.nil
      by_cases h : d[k]! = d'[k]!
      · rw [decide_eq_true h] at htb
        repeat' (first | (with_reducible first | apply w1 | apply w2 | apply w3 | apply w4 | apply w5 | apply w6 | apply w7 | apply w8 | apply w9 | apply wa | apply wb | apply wc) | ((with_reducible apply wd); focus decide) | ((with_reducible apply we); focus exact rfl) | ((with_reducible apply wf); focus exact rfl) | ((first | (with_reducible apply SW_run tt_ok hG htb) | ((with_reducible apply SW_draw rfl tt_ok hG htb); (focus kernel_rfl); focus simp only [List.range, List.range.loop, List.size_toArray, List.length_cons, List.length_nil, Nat.reduceAdd])); focus ((repeat' (first | (with_reducible first | exact wg | exact wh) | ((with_reducible first | apply wi | apply wj); focus (simp (discharger := omega) only [go_sem, simprocAttr]; with_reducible rfl)))); done)))
        exact ⟨d.length - (k + 1), _, by omega, Norm.headS (own := []) (keep := [0, 1, 5]) (by refine ⟨?_, ?_⟩; (simp (discharger := omega) only [go_sem, simprocAttr]; with_reducible rfl); refine ⟨?_, ?_, ?_, ?_⟩ <;> (simp only [go_sem, simprocAttr]; with_reducible rfl)), k + 1, rfl, rfl, by omega, fun j hj => by
          by_cases e : j = k
          · subst e; exact h
          · exact hA j (by omega)⟩
      · rw [decide_eq_false (fun e => h (by rw [e]))]
        rw [decide_eq_false h] at htb
        repeat' (first | (with_reducible first | apply w1 | apply w2 | apply w3 | apply w4 | apply w5 | apply w6 | apply w7 | apply w8 | apply w9 | apply wa | apply wb | apply wc) | ((with_reducible apply wd); focus decide) | ((with_reducible apply we); focus exact rfl) | ((with_reducible apply wf); focus exact rfl) | ((first | (with_reducible apply SW_run tt_ok hG htb) | ((with_reducible apply SW_draw rfl tt_ok hG htb); (focus kernel_rfl); focus simp only [List.range, List.range.loop, List.size_toArray, List.length_cons, List.length_nil, Nat.reduceAdd])); focus ((repeat' (first | (with_reducible first | exact wg | exact wh) | ((with_reducible first | apply wi | apply wj); focus (simp (discharger := omega) only [go_sem, simprocAttr]; with_reducible rfl)))); done)))
        exact (by simp (discharger := omega) only [go_sem, simprocAttr])
    · rw [decide_eq_true (list_same hl fun j hj => hA j (by omega))]
      repeat' (first | (with_reducible first | apply w1 | apply w2 | apply w3 | apply w4 | apply w5 | apply w6 | apply w7 | apply w8 | apply w9 | apply wa | apply wb | apply wc) | ((with_reducible apply wd); focus decide) | ((with_reducible apply we); focus exact rfl) | ((with_reducible apply wf); focus exact rfl) | ((first | (with_reducible apply SW_run tt_ok hG htb) | ((with_reducible apply SW_draw rfl tt_ok hG htb); (focus kernel_rfl); focus simp only [List.range, List.range.loop, List.size_toArray, List.length_cons, List.length_nil, Nat.reduceAdd])); focus ((repeat' (first | (with_reducible first | exact wg | exact wh) | ((with_reducible first | apply wi | apply wj); focus (simp (discharger := omega) only [go_sem, simprocAttr]; with_reducible rfl)))); done)))
      exact (by simp (discharger := omega) only [go_sem, simprocAttr])
  · rw [decide_eq_false (fun e => hl (by rw [e]))]
    repeat' (first | (with_reducible first | apply w1 | apply w2 | apply w3 | apply w4 | apply w5 | apply w6 | apply w7 | apply w8 | apply w9 | apply wa | apply wb | apply wc) | ((with_reducible apply wd); focus decide) | ((with_reducible apply we); focus exact rfl) | ((with_reducible apply wf); focus exact rfl) | ((first | (with_reducible apply SW_run tt_ok hG htb) | ((with_reducible apply SW_draw rfl tt_ok hG htb); (focus kernel_rfl); focus simp only [List.range, List.range.loop, List.size_toArray, List.length_cons, List.length_nil, Nat.reduceAdd])); focus ((repeat' (first | (with_reducible first | exact wg | exact wh) | ((with_reducible first | apply wi | apply wj); focus (simp (discharger := omega) only [go_sem, hl, simprocAttr]; with_reducible rfl)))); done)))
    exact (by simp (discharger := omega) only [go_sem, simprocAttr])
def autoSame (a b : GAuto) : Bool := decide (a.base = b.base ∧ a.tracks = b.tracks ∧ a.next = b.next ∧ a.ends = b.ends)
omit hG in
theorem autoSame_self (a : GAuto) : autoSame a a = true := by simp [autoSame]
set_option maxHeartbeats 4000000 in
theorem Autos_snd (a b : GAuto) : Snd Try.prog G 19 [tAuto a, tAuto b] (.bool (autoSame a b)) := by
  have htb := Tab.cons (Lists_snd hG a.next b.next) Tab.nil
  refine snd_of_body (n := 55) (tm := [(0, .t (tAuto a)), (1, .t (tAuto b))]) (rs := [.tmp 4]) tt_ok Try.func19 rfl rfl rfl rfl rfl ?_
  unfold autoSame
  refine SW_lenA (t := 0) (i := 3) (l := a.ends.map T.bool) rfl rfl fun hlen => ?_
  simp only [List.length_map] at hlen
  by_cases h1 : a.base = b.base
  · by_cases h2 : a.tracks = b.tracks
    · by_cases h3 : a.next = b.next
      · rw [decide_eq_true h3] at htb
        by_cases h4 : a.ends.length = b.ends.length
        · repeat' (first | (with_reducible first | apply w1 | apply w2 | apply w3 | apply w4 | apply w5 | apply w6 | apply w7 | apply w8 | apply w9 | apply wa | apply wb | apply wc) | ((with_reducible apply wd); focus decide) | ((with_reducible apply we); focus exact rfl) | ((with_reducible apply wf); focus exact rfl) | ((first | (with_reducible apply SW_run tt_ok hG htb) | ((with_reducible apply SW_draw rfl tt_ok hG htb); (focus kernel_rfl); focus simp only [List.range, List.range.loop, List.size_toArray, List.length_cons, List.length_nil, Nat.reduceAdd])); focus ((repeat' (first | (with_reducible first | exact wg | exact wh) | ((with_reducible first | apply wi | apply wj); focus (simp (discharger := omega) only [go_sem, tAuto, h1, h2, h4, simprocAttr]; with_reducible rfl)))); done)))
          refine SW_loop (fun n s => ∃ k : Nat, n = a.ends.length - k ∧ s = ⟨55, [(2, .bptr 0 0), (3, .bptr 1 0), (6, .t (tInt k))], [.box [.t (tInt a.base), .t (tInt a.tracks), .t (tIntss a.next), .t (tBools a.ends)], .box [.t (tInt b.base), .t (tInt b.tracks), .t (tIntss b.next), .t (tBools b.ends)]]⟩ ∧ k ≤ a.ends.length ∧ ∀ j, j < k → a.ends[j]! = b.ends[j]!) a.ends.length
            ⟨_, Norm.headS (own := []) (keep := [2, 3, 6]) (by refine ⟨?_, ?_⟩; (simp (discharger := omega) only [go_sem, simprocAttr]; with_reducible rfl); refine ⟨?_, ?_, ?_, ?_⟩ <;> (simp only [go_sem, simprocAttr]; with_reducible rfl)), 0, rfl, by rw [← h1, ← h2]; rfl, Nat.zero_le _, fun j hj => by omega⟩ ?_
          rintro n s ⟨k, rfl, rfl, hk, hA⟩
          by_cases hlt : k < a.ends.length
          · by_cases h : a.ends[k]! = b.ends[k]!
            · have hb : (a.ends[k]! == b.ends[k]!) = true := by rw [h]; simp
              repeat' (first | (with_reducible first | apply w1 | apply w2 | apply w3 | apply w4 | apply w5 | apply w6 | apply w7 | apply w8 | apply w9 | apply wa | apply wb | apply wc) | ((with_reducible apply wd); focus decide) | ((with_reducible apply we); focus exact rfl) | ((with_reducible apply wf); focus exact rfl) | ((first | (with_reducible apply SW_run tt_ok hG htb) | ((with_reducible apply SW_draw rfl tt_ok hG htb); (focus kernel_rfl); focus simp only [List.range, List.range.loop, List.size_toArray, List.length_cons, List.length_nil, Nat.reduceAdd])); focus ((repeat' (first | (with_reducible first | exact wg | exact wh) | ((with_reducible first | apply wi | apply wj); focus (simp (discharger := omega) only [go_sem, hb, simprocAttr]; with_reducible rfl)))); done)))
              exact ⟨a.ends.length - (k + 1), _, by omega, Norm.headS (own := []) (keep := [2, 3, 6]) (by refine ⟨?_, ?_⟩; (simp (discharger := omega) only [go_sem, simprocAttr]; with_reducible rfl); refine ⟨?_, ?_, ?_, ?_⟩ <;> (simp only [go_sem, simprocAttr]; with_reducible rfl)), k + 1, rfl, rfl, by omega, fun j hj => by
                by_cases e : j = k
                · subst e; exact h
                · exact hA j (by omega)⟩
            · have hb : (a.ends[k]! == b.ends[k]!) = false := by simpa using h
              rw [decide_eq_false (fun e => h (by rw [e.2.2.2]))]
              repeat' (first | (with_reducible first | apply w1 | apply w2 | apply w3 | apply w4 | apply w5 | apply w6 | apply w7 | apply w8 | apply w9 | apply wa | apply wb | apply wc) | ((with_reducible apply wd); focus decide) | ((with_reducible apply we); focus exact rfl) | ((with_reducible apply wf); focus exact rfl) | ((first | (with_reducible apply SW_run tt_ok hG htb) | ((with_reducible apply SW_draw rfl tt_ok hG htb); (focus kernel_rfl); focus simp only [List.range, List.range.loop, List.size_toArray, List.length_cons, List.length_nil, Nat.reduceAdd])); focus ((repeat' (first | (with_reducible first | exact wg | exact wh) | ((with_reducible first | apply wi | apply wj); focus (simp (discharger := omega) only [go_sem, hb, simprocAttr]; with_reducible rfl)))); done)))
              exact (by simp (discharger := omega) only [go_sem, simprocAttr])
          · rw [decide_eq_true ⟨h1, h2, h3, list_same h4 fun j hj => hA j (by omega)⟩]
            repeat' (first | (with_reducible first | apply w1 | apply w2 | apply w3 | apply w4 | apply w5 | apply w6 | apply w7 | apply w8 | apply w9 | apply wa | apply wb | apply wc) | ((with_reducible apply wd); focus decide) | ((with_reducible apply we); focus exact rfl) | ((with_reducible apply wf); focus exact rfl) | ((first | (with_reducible apply SW_run tt_ok hG htb) | ((with_reducible apply SW_draw rfl tt_ok hG htb); (focus kernel_rfl); focus simp only [List.range, List.range.loop, List.size_toArray, List.length_cons, List.length_nil, Nat.reduceAdd])); focus ((repeat' (first | (with_reducible first | exact wg | exact wh) | ((with_reducible first | apply wi | apply wj); focus (simp (discharger := omega) only [go_sem, simprocAttr]; with_reducible rfl)))); done)))
            exact (by simp (discharger := omega) only [go_sem, simprocAttr])
        · rw [decide_eq_false (fun e => h4 (by rw [e.2.2.2]))]
          repeat' (first | (with_reducible first | apply w1 | apply w2 | apply w3 | apply w4 | apply w5 | apply w6 | apply w7 | apply w8 | apply w9 | apply wa | apply wb | apply wc) | ((with_reducible apply wd); focus decide) | ((with_reducible apply we); focus exact rfl) | ((with_reducible apply wf); focus exact rfl) | ((first | (with_reducible apply SW_run tt_ok hG htb) | ((with_reducible apply SW_draw rfl tt_ok hG htb); (focus kernel_rfl); focus simp only [List.range, List.range.loop, List.size_toArray, List.length_cons, List.length_nil, Nat.reduceAdd])); focus ((repeat' (first | (with_reducible first | exact wg | exact wh) | ((with_reducible first | apply wi | apply wj); focus (simp (discharger := omega) only [go_sem, tAuto, h1, h2, h4, simprocAttr]; with_reducible rfl)))); done)))
          exact (by simp (discharger := omega) only [go_sem, simprocAttr])
      · rw [decide_eq_false h3] at htb
        rw [decide_eq_false (fun e => h3 e.2.2.1)]
        repeat' (first | (with_reducible first | apply w1 | apply w2 | apply w3 | apply w4 | apply w5 | apply w6 | apply w7 | apply w8 | apply w9 | apply wa | apply wb | apply wc) | ((with_reducible apply wd); focus decide) | ((with_reducible apply we); focus exact rfl) | ((with_reducible apply wf); focus exact rfl) | ((first | (with_reducible apply SW_run tt_ok hG htb) | ((with_reducible apply SW_draw rfl tt_ok hG htb); (focus kernel_rfl); focus simp only [List.range, List.range.loop, List.size_toArray, List.length_cons, List.length_nil, Nat.reduceAdd])); focus ((repeat' (first | (with_reducible first | exact wg | exact wh) | ((with_reducible first | apply wi | apply wj); focus (simp (discharger := omega) only [go_sem, tAuto, h1, h2, simprocAttr]; with_reducible rfl)))); done)))
        exact (by simp (discharger := omega) only [go_sem, simprocAttr])
    · rw [decide_eq_false (fun e => h2 e.2.1)]
      repeat' (first | (with_reducible first | apply w1 | apply w2 | apply w3 | apply w4 | apply w5 | apply w6 | apply w7 | apply w8 | apply w9 | apply wa | apply wb | apply wc) | ((with_reducible apply wd); focus decide) | ((with_reducible apply we); focus exact rfl) | ((with_reducible apply wf); focus exact rfl) | ((first | (with_reducible apply SW_run tt_ok hG htb) | ((with_reducible apply SW_draw rfl tt_ok hG htb); (focus kernel_rfl); focus simp only [List.range, List.range.loop, List.size_toArray, List.length_cons, List.length_nil, Nat.reduceAdd])); focus ((repeat' (first | (with_reducible first | exact wg | exact wh) | ((with_reducible first | apply wi | apply wj); focus (simp (discharger := omega) only [go_sem, tAuto, h1, h2, simprocAttr]; with_reducible rfl)))); done)))
      exact (by simp (discharger := omega) only [go_sem, simprocAttr])
  · rw [decide_eq_false (fun e => h1 e.1)]
    repeat' (first | (with_reducible first | apply w1 | apply w2 | apply w3 | apply w4 | apply w5 | apply w6 | apply w7 | apply w8 | apply w9 | apply wa | apply wb | apply wc) | ((with_reducible apply wd); focus decide) | ((with_reducible apply we); focus exact rfl) | ((with_reducible apply wf); focus exact rfl) | ((first | (with_reducible apply SW_run tt_ok hG htb) | ((with_reducible apply SW_draw rfl tt_ok hG htb); (focus kernel_rfl); focus simp only [List.range, List.range.loop, List.size_toArray, List.length_cons, List.length_nil, Nat.reduceAdd])); focus ((repeat' (first | (with_reducible first | exact wg | exact wh) | ((with_reducible first | apply wi | apply wj); focus (simp (discharger := omega) only [go_sem, tAuto, h1, simprocAttr]; with_reducible rfl)))); done)))
    exact (by simp (discharger := omega) only [go_sem, simprocAttr])
end
end Go.Proofs.Ythcclcbliedodaa
namespace Go.Proofs.Ythcclcbliedodaa
open Go.ChangeShapes Go.WideShapes Go.ChangeAt Go.RowKit Go.Joins Go.Deep

section
variable {H : Type} {enc : TypeId × Value → H} {w : World} {sp : Nat → Bool} {held : Bool}
end
theorem walkN {P : Program} {G : World → Prop} {f : Nat} {xs : List T} {w : World} {vs : Array Value} (h : Snd P G f xs (.bool true)) (hG : G w) (hl : vs.size = xs.length) (hx : ∀ (k : Nat) (y : T) (v : Value), xs[k]? = some y → vs[k]? = some v → RepT (· < w.heap.size) w y v) : Calls P f vs w (Ret (.bool true) w) :=
  (h.calls (· < w.heap.size) w vs hG hl hx).mono fun e w' hq => by obtain ⟨u, h1, h2, h3⟩ := hq; cases h2; exact ⟨h1, h3⟩
end Go.Proofs.Ythcclcbliedodaa
namespace Go.Proofs.Ythcclcbliedodaa
open Go.RowKit

section
variable {G : World → Prop} (hG : Lasting G)
include hG
set_option maxHeartbeats 8000000 in
set_option maxRecDepth 100000 in
theorem RightSpreads_snd (base : Int) : Snd Try.prog G 8 [tInt base] (.bool true) := by
  have c0 := All_snd hG 1 1
  rw [all_fib1, show manyErr 1 1 = 0 by decide] at c0
  have c1 := All_snd hG base 2
  refine snd_of_body (n := 96) (tm := [(0, .t (tInt base))]) (rs := [.tmp 2]) tt_ok Try.func8 rfl rfl rfl rfl rfl ?_
  have htb := Tab.cons c0 Tab.nil
  repeat' (first | (with_reducible first | apply w1 | apply w2 | apply w3 | apply w4 | apply w5 | apply w6 | apply w7 | apply w8 | apply w9 | apply wa | apply wb | apply wc) | ((with_reducible apply wd); focus decide) | ((with_reducible apply we); focus exact rfl) | ((with_reducible apply wf); focus exact rfl) | ((first | (with_reducible apply SW_run tt_ok hG htb) | ((with_reducible apply SW_draw rfl tt_ok hG htb); (focus kernel_rfl); focus simp only [List.range, List.range.loop, List.size_toArray, List.length_cons, List.length_nil, Nat.reduceAdd])); focus ((repeat' (first | (with_reducible first | exact wg | exact wh) | ((with_reducible first | apply wi | apply wj); focus (simp (discharger := omega) only [go_sem, tAuto, tErr0, simprocAttr]; with_reducible rfl)))); done)))
  clear htb c0
  by_cases h : manyErr base 2 = 0
  rotate_left
  · generalize manyErr base 2 = e at *
    generalize allA base 2 = A at *
    have htb := Tab.cons c1 Tab.nil
    repeat' (first | (with_reducible first | apply w1 | apply w2 | apply w3 | apply w4 | apply w5 | apply w6 | apply w7 | apply w8 | apply w9 | apply wa | apply wb | apply wc) | ((with_reducible apply wd); focus decide) | ((with_reducible apply we); focus exact rfl) | ((with_reducible apply wf); focus exact rfl) | ((first | (with_reducible apply SW_run tt_ok hG htb) | ((with_reducible apply SW_draw rfl tt_ok hG htb); (focus kernel_rfl); focus simp only [List.range, List.range.loop, List.size_toArray, List.length_cons, List.length_nil, Nat.reduceAdd])); focus ((repeat' (first | (with_reducible first | exact wg | exact wh) | ((with_reducible first | apply wi | apply wj); focus (simp (discharger := omega) only [go_sem, tAuto, tErr, h, simprocAttr]; with_reducible rfl)))); done)))
    exact (by simp (discharger := omega) only [go_sem, simprocAttr])
  obtain ⟨h1, e0, e1, e2, e3⟩ := spreads h
  obtain ⟨l1, l2⟩ := less_right h
  have c2 := All_snd hG base 1
  have c3 := Spread_snd hG (allA base 1) 2 [0]
  have c4 := Spread_snd hG (allA base 1) 2 [1]
  have c5 := Both_snd hG (spreadOf (allA base 1) 2 [0]) (spreadOf (allA base 1) 2 [1]) 8
  have c6 := Autos_snd hG (allA base 2) (allA base 2)
  have c7 := Some_snd hG (allA base 2) 1
  have c8 := Autos_snd hG (allA base 1) (allA base 1)
  rw [h] at c1
  rw [h1] at c2
  rw [e0] at c3
  rw [e1] at c4
  rw [e2, e3] at c5
  rw [l1, l2] at c7
  rw [autoSame_self] at c6 c8
  clear e0 e1 e2 e3 l1 l2
  generalize spreadOf (allA base 1) 2 [0] = x at *
  generalize spreadOf (allA base 1) 2 [1] = y at *
  generalize allA base 2 = A at *
  generalize allA base 1 = B at *
  have htb := Tab.cons c1 Tab.nil
  repeat' (first | (with_reducible first | apply w1 | apply w2 | apply w3 | apply w4 | apply w5 | apply w6 | apply w7 | apply w8 | apply w9 | apply wa | apply wb | apply wc) | ((with_reducible apply wd); focus decide) | ((with_reducible apply we); focus exact rfl) | ((with_reducible apply wf); focus exact rfl) | ((first | (with_reducible apply SW_run tt_ok hG htb) | ((with_reducible apply SW_draw rfl tt_ok hG htb); (focus kernel_rfl); focus simp only [List.range, List.range.loop, List.size_toArray, List.length_cons, List.length_nil, Nat.reduceAdd])); focus ((repeat' (first | (with_reducible first | exact wg | exact wh) | ((with_reducible first | apply wi | apply wj); focus (simp (discharger := omega) only [go_sem, tAuto, tErr0, simprocAttr]; with_reducible rfl)))); done)))
  clear htb
  have htb := Tab.cons c2 (Tab.cons c3 Tab.nil)
  repeat' (first | (with_reducible first | apply w1 | apply w2 | apply w3 | apply w4 | apply w5 | apply w6 | apply w7 | apply w8 | apply w9 | apply wa | apply wb | apply wc) | ((with_reducible apply wd); focus decide) | ((with_reducible apply we); focus exact rfl) | ((with_reducible apply wf); focus exact rfl) | ((first | (with_reducible apply SW_run tt_ok hG htb) | ((with_reducible apply SW_draw rfl tt_ok hG htb); (focus kernel_rfl); focus simp only [List.range, List.range.loop, List.size_toArray, List.length_cons, List.length_nil, Nat.reduceAdd])); focus ((repeat' (first | (with_reducible first | exact wg | exact wh) | ((with_reducible first | apply wi | apply wj); focus (simp (discharger := omega) only [go_sem, tAuto, tErr0, simprocAttr]; with_reducible rfl)))); done)))
  clear htb
  have htb := Tab.cons c4 (Tab.cons c5 (Tab.cons c6 (Tab.cons c7 Tab.nil)))
  repeat' (first | (with_reducible first | apply w1 | apply w2 | apply w3 | apply w4 | apply w5 | apply w6 | apply w7 | apply w8 | apply w9 | apply wa | apply wb | apply wc) | ((with_reducible apply wd); focus decide) | ((with_reducible apply we); focus exact rfl) | ((with_reducible apply wf); focus exact rfl) | ((first | (with_reducible apply SW_run tt_ok hG htb) | ((with_reducible apply SW_draw rfl tt_ok hG htb); (focus kernel_rfl); focus simp only [List.range, List.range.loop, List.size_toArray, List.length_cons, List.length_nil, Nat.reduceAdd])); focus ((repeat' (first | (with_reducible first | exact wg | exact wh) | ((with_reducible first | apply wi | apply wj); focus (simp (discharger := omega) only [go_sem, tAuto, tErr0, simprocAttr]; with_reducible rfl)))); done)))
  clear htb
  have htb := Tab.cons c8 Tab.nil
  repeat' (first | (with_reducible first | apply w1 | apply w2 | apply w3 | apply w4 | apply w5 | apply w6 | apply w7 | apply w8 | apply w9 | apply wa | apply wb | apply wc) | ((with_reducible apply wd); focus decide) | ((with_reducible apply we); focus exact rfl) | ((with_reducible apply wf); focus exact rfl) | ((first | (with_reducible apply SW_run tt_ok hG htb) | ((with_reducible apply SW_draw rfl tt_ok hG htb); (focus kernel_rfl); focus simp only [List.range, List.range.loop, List.size_toArray, List.length_cons, List.length_nil, Nat.reduceAdd])); focus ((repeat' (first | (with_reducible first | exact wg | exact wh) | ((with_reducible first | apply wi | apply wj); focus (simp (discharger := omega) only [go_sem, tAuto, tErr0, simprocAttr]; with_reducible rfl)))); done)))
  exact (by simp (discharger := omega) only [go_sem, simprocAttr])
end
theorem RightSpreads_walk (base : Int) (w : World) (_ : I64 base) : Calls Try.prog 8 #[.int .i64 base] w (Ret (.bool true) w) :=
  walkN (RightSpreads_snd (G := fun _ => True) (fun _ _ _ _ => trivial) base) trivial rfl fun k y z p q => by
    match k, p, q with
    | 0, p, q => cases p; cases q; exact .int _ _
end Go.Proofs.Ythcclcbliedodaa
namespace Go.Proofs.Ythcclcbliedodaa.rightSpreads
open Go.ChangeShapes Go.WideShapes Go.ChangeAt Go.RowKit

set_option maxRecDepth 100000 in
theorem lifted (os : Os) (started : os.Started) (H : Type) (enc : TypeId × Value → H) :
    ReturnsInHanded {} Try.checked os 8 .any (Rows.rightSpreadsSpec.pre6 enc Try.prog Try.f8 Rows.rightSpreadsRow.domain false) (Rows.rightSpreadsSpec.post enc Try.prog Try.f8 false true false false) := by
  refine returnsInHanded_of_change (C := Try.checked) own started (by kernel_rfl) Try.func8
    (ChangeSpec.witness6 (enc := enc) (C := Try.checked) false ⟨#[], #[.int .i64 0], []⟩ 8 (by kernel_rfl) (by kernel_rfl) (by kernel_rfl) (by kernel_rfl)) ?_
  intro W base args ds gs before hval0 hW hcnd _
  have hval : ∀ (j : Nat) t v, Try.f8.params[j]? = some t → args[j]? = some v → Value.okWide Try.prog W .any base t v := hval0
  have hW' := hW
  obtain ⟨p, q, hA0, hV, rfl, hfz, hnd⟩ := hW
  have hA : DataW.TrodAll enc Try.prog W 0 (fun _ => true) true Try.f8.params.toList args.toList ds p := hA0
  rw [Try.params8] at hA hval
  obtain ⟨v0, vs0, d0, ds0, p0, q0, hargs, rfl, rfl, h0, r0⟩ := trodAll_cons hA
  obtain ⟨rfl, rfl, rfl⟩ := trodAll_nil r0
  obtain rfl : args = #[v0] := by cases args; simp_all
  obtain ⟨rfl, rfl⟩ := trodVars_none hV
  obtain ⟨a0, rfl, rfl, rfl, w0⟩ := open_int Try.underlying3 (hval 0 3 v0 rfl rfl) h0
  clear hA0 hval0
  refine (RightSpreads_walk a0 W (i64_of_wf w0)).mono fun e W' ⟨he, bel⟩ => ?_
  subst he
  exact ⟨_, rfl, _, _, _, [], _, [], hW', trodAll_mk1 (shut_bool Try.underlying4 _), (trodAll_cons_mk (shut_int Try.underlying3 w0) trodAll_mk0), rfl, bel.frame _, fun h => by cases h⟩

theorem over : Rows.rightSpreadsRow.holds Try.pinned (OpenSpec.ofChange Rows.rightSpreadsSpec) :=
  OpenClaim.holds_of_wide 8 Try.f8 rfl rfl rfl rfl rfl rfl rfl ⟨rfl, rfl, rfl, rfl, rfl⟩ rfl rfl rfl rfl rfl (by kernel_rfl) Try.func8 (by kernel_rfl)
    (of_decide_eq_true (by kernel_rfl)) (by unfold Func.isWrapper; first | (rw [if_pos (by decide +kernel)]; kernel_rfl) | (rw [if_neg (by decide +kernel)]; exact ⟨rfl, rfl⟩))
    (fun os started H enc _ => lifted os started H enc)

/-- THE STATEMENT. -/
theorem proved : Rows.RightSpreadsSaid := over
#print axioms proved
end Go.Proofs.Ythcclcbliedodaa.rightSpreads
