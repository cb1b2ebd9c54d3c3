/- The law SomeClosed returns true at every input and leaves its arguments as they read. No conditions. -/
import Derived.Test.YthcclcbliedodaaLay
import Derived.Test.YthcclcbliedodaaM5
import Derived.Shelf.Slices.Clone
import Derived.Shelf.Spec.SlicesInsert
import Derived.Shelf.Spec.SlicesInsertGrow
import Derived.Ground.Names2Prog
import Derived.Lib.SmallJoins
set_option linter.unusedSimpArgs false
set_option linter.unusedVariables false
set_option linter.unnecessarySimpa false
set_option linter.unusedSectionVars false
namespace Go.Proofs.Ythcclcbliedodaa
open Go.RowKit

theorem bang0 {l : List (List Int)} {x : List Int} (h : l[0]? = some x) : l[0]! = x := by
  cases l with
  | nil => simp at h
  | cons y l => simpa using h
theorem grow_facts {stp : List Int → Nat → List Int} {n : Nat} {first : List Int} (h : growOk stp n first = true) :
    (growRows stp n first).length = (growSets stp n first).length ∧ 0 < (growSets stp n first).length ∧ (growSets stp n first).length ≤ 2000 ∧ Rows0 n (growSets stp n first).length (growRows stp n first) ∧ (growSets stp n first)[0]! = canonL first ∧ Expl (nextD stp) n (growSets stp n first) (growRows stp n first) := by
  have hs : growSets stp n first = setsOf (nextD stp) n (canonL first) := if_pos h
  have hr : growRows stp n first = rowsOf (nextD stp) n (canonL first) := if_pos h
  have hex := rowsOf_expl h
  have hl : (rowsOf (nextD stp) n (canonL first)).length = (setsOf (nextD stp) n (canonL first)).length := rowsOf_len
  have h0 : (setsOf (nextD stp) n (canonL first))[0]? = some (canonL first) := by unfold setsOf; generalize 2001 = k; exact growS_zero k
  have h2 : (setsOf (nextD stp) n (canonL first)).length ≤ 2000 := by
    have h' := h
    unfold growOk setsOk at h'
    exact of_decide_eq_true h'
  rw [hs, hr]
  obtain ⟨q1, q2⟩ := List.getElem?_eq_some_iff.1 h0
  exact ⟨hl, q1, h2, hex.table hl, bang0 h0, hex⟩
theorem grow_inm {stp : List Int → Nat → List Int} {n m : Nat} {first : List Int} (hf : Inm m first) (hs : ∀ s l, Inm m s → l < n → Inm m (stp s l)) : ∀ s ∈ growSets stp n first, Inm m s ∧ s.Pairwise (· < ·) := fun s h => by
  unfold growSets at h
  split at h
  · unfold setsOf at h
    generalize 2001 = k at h
    exact growS_in' (p := fun s => Inm m s ∧ s.Pairwise (· < ·)) ⟨hf.canon, (canonL_spec _).1⟩ (fun s l hl hp => ⟨(hs s l hp.1 hl).canon, (canonL_spec _).1⟩) k s h
  · simp at h
theorem inm_len {m : Nat} {s : List Int} (h : Inm m s) (ha : s.Pairwise (· < ·)) : s.length ≤ m := asc_len ha h
/-- What comes of an automaton's sets, a state ahead of all. -/
def closeRows0 (rows : List (List Int)) : List (List Int) := ((-1) :: (rows[0]!).drop 1) :: rows
def closeRows (rows : List (List Int)) : List (List Int) := (closeRows0 rows).map fun r => r.map (· + 1)
def closeEnds (ends : List Bool) (sets : List (List Int)) : List Bool := (sets[0]! :: sets).map fun s => s.any (endOf ends)
theorem closeRows0_row {n k : Nat} {rows : List (List Int)} (h : Rows0 n k rows) (hk : 0 < k) (hn : 0 < n) : ∀ r ∈ closeRows0 rows, r.length = n ∧ ∀ t ∈ r, -1 ≤ t ∧ t < (k : Int) := by
  have hl := h.len
  have h0 : rows[0]! ∈ rows := bang_mem rfl (by omega)
  intro r hr
  rcases List.mem_cons.1 hr with rfl | hr
  · have := h.row _ h0
    refine ⟨by rw [List.length_cons, List.length_drop]; omega, fun t ht => ?_⟩
    rcases List.mem_cons.1 ht with rfl | ht
    · omega
    · have := h.ok _ h0 t (List.mem_of_mem_drop ht); omega
  · exact ⟨h.row r hr, fun t ht => by have := h.ok r hr t ht; omega⟩
theorem closeRows_ok {n k : Nat} {rows : List (List Int)} (h : Rows0 n k rows) (hk : 0 < k) (hn : 0 < n) : Rows0 n (k + 1) (closeRows rows) := by
  refine ⟨by simp [closeRows, closeRows0, h.len], fun r hr => ?_, fun r hr t ht => ?_⟩
  · obtain ⟨q, hq, rfl⟩ := List.mem_map.1 hr
    rw [List.length_map]
    exact (closeRows0_row h hk hn q hq).1
  · obtain ⟨q, hq, rfl⟩ := List.mem_map.1 hr
    obtain ⟨u, hu, rfl⟩ := List.mem_map.1 ht
    have := (closeRows0_row h hk hn q hq).2 u hu
    omega
end Go.Proofs.Ythcclcbliedodaa
namespace Go.Proofs
open Go.Shelf
end Go.Proofs
namespace Go.Proofs.Ythcclcbliedodaa
open Go.RowKit Go.Lib

theorem blk_set {w : World} {g i : Nat} {cs : Array Value} {t : TypeId} {fr : Nat × Nat} (h : w.heap[g]? = some (.cells cs t fr)) (v : Value) : (w.setCell ⟨g, i, none⟩ v).heap[g]? = some (.cells (cs.setIfInBounds i v) t fr) := by
  unfold World.setCell
  simp only [Array.getElem?_modify, if_true, h, Option.map_some, Option.isSome_none, Bool.false_eq_true, if_false]
theorem setCells_blk (b : Nat) : ∀ (vs : List Value) (o : Nat) (w : World) (cur : Array Value) (e : TypeId) (fr : Nat × Nat), w.heap[b]? = some (.cells cur e fr) → o + vs.length ≤ cur.size → ∃ cur' : Array Value, (w.setCells b o vs).heap[b]? = some (.cells cur' e fr) ∧ cur'.size = cur.size ∧ cur'.toList = cur.toList.take o ++ vs ++ cur.toList.drop (o + vs.length)
  | [], o, w, cur, e, fr, h, _ => ⟨cur, h, rfl, by simp⟩
  | v :: r, o, w, cur, e, fr, h, hl => by
    simp only [List.length_cons] at hl
    obtain ⟨cur', h1, h2, h3⟩ := setCells_blk b r (o + 1) (w.setCell ⟨b, o, none⟩ v) (cur.setIfInBounds o v) e fr (blk_set h v) (by simp; omega)
    refine ⟨cur', h1, by simpa using h2, ?_⟩
    have hlt : o < cur.toList.length := by simp; omega
    rw [h3, Array.toList_setIfInBounds, List.set_eq_take_append_cons_drop, if_pos hlt]
    have e1 : (cur.toList.take o).length = o := by rw [List.length_take]; omega
    have e0 : (cur.toList.take o).take (o + 1) = cur.toList.take o := List.take_of_length_le (by omega)
    have e9 : (cur.toList.take o).drop (o + 1 + r.length) = [] := List.drop_of_length_le (by omega)
    rw [List.take_append, List.drop_append, e1, e0, e9]
    have e2 : o + 1 - o = 1 := by omega
    have e3 : o + 1 + r.length - o = r.length + 1 := by omega
    rw [e2, e3]
    simp only [List.take_succ_cons, List.take_zero, List.drop_succ_cons, List.nil_append, List.drop_drop, List.append_assoc, List.cons_append, List.length_cons]
    rw [show o + 1 + r.length = o + (r.length + 1) by omega]
theorem setCells_grown (b : Nat) : ∀ (vs : List Value) (o : Nat) (w : World), w.grownBy (w.setCells b o vs) (some b)
  | [], o, w => ⟨rfl, rfl, rfl, Nat.le_refl _, fun _ _ _ => rfl⟩
  | v :: r, o, w => by
    have h := setCells_grown b r (o + 1) (w.setCell ⟨b, o, none⟩ v)
    refine ⟨h.os, h.tape, h.output, by have := h.size; rwa [World.size_setCell] at this, fun k hk hne => ?_⟩
    have h1 := h.block k (by rw [World.size_setCell]; exact hk) hne
    rw [World.setCells, h1]
    exact heap_setCell_other w _ k v (fun e => hne (by rw [e]))
theorem grown_trans {w w1 w2 : World} {o : Option Nat} (h : w.grownBy w1 o) (h2 : w1.grownBy w2 o) : w.grownBy w2 o :=
  ⟨h2.os.trans h.os, h2.tape.trans h.tape, h2.output.trans h.output, Nat.le_trans h.size h2.size, fun k hk hne => (h2.block k (Nat.lt_of_lt_of_le hk h.size) hne).trans (h.block k hk hne)⟩
theorem grown_drew (w : World) (o : Option Nat) : w.grownBy w.drew o := ⟨rfl, rfl, rfl, Nat.le_refl _, fun _ _ _ => rfl⟩
theorem iL_sz (l : List Int) : ∀ x ∈ iL l, x.cells.length = 1 := fun x hx => by
  obtain ⟨y, _, rfl⟩ := List.mem_map.1 hx; rfl
section
variable {P : Program} {C : Ctx} {hd : List Hd} {w w' : World} {e : Nat} {l ys : List Int}
theorem row_new {obs : List Ob} (hr : StR C ⟨0, [], obs⟩ hd act0 w) (hb : Below w.heap.size w w') {g n' cap : Nat} (ho : w'.ownsRow w.heap.size e 1 (.slice (some ⟨g, 0, none⟩) n' cap) n' (ys.map (Value.int .i64))) (hn : n' = ys.length) (hm : ys.length ≤ maxLen) :
    ∃ hd', StR C ⟨0, [], [.row e 1 true (iL ys)]⟩ hd' act0 w' ∧ RepS (vis C hd') w' hd' (.sref 0) (.slice (some ⟨g, 0, none⟩) n' cap) := by
  have hlt := ho.lt g rfl
  have ho2 : w'.ownsRow C.w0.heap.size e 1 (.slice (some ⟨g, 0, none⟩) n' cap) n' (ys.map (Value.int .i64)) := by
    refine ⟨ho.1, ?_⟩
    rcases ho.2 with q | ⟨g', cap', cur, q, hB, r⟩
    · exact .inl q
    · exact .inr ⟨g', cap', cur, q, Nat.le_trans hr.below.size hB, r⟩
  have hr1 := hr.new hb (.row e 1 true (iL ys)) (.sl (some ⟨g, 0, none⟩) n' cap (some g)) (fun b hbo => by
    simp only [Hd.own, Option.some.injEq] at hbo
    subst hbo
    exact hlt) ⟨by rw [iL_length]; exact hn, Nat.one_pos, by rw [iL_length]; exact hm, iL_sz ys, .inl ⟨_, ho2, rfl, iL_rep _ _ _⟩⟩
  have hlast : (hd ++ [Hd.sl (some ⟨g, 0, none⟩) n' cap (some g)])[obs.length]? = some (.sl (some ⟨g, 0, none⟩) n' cap (some g)) := by
    have := hr.hl
    simp only at this
    rw [← this, List.getElem?_append_right (Nat.le_refl _), Nat.sub_self]; rfl
  have hr2 : StR C ⟨0, [(0, .pinS obs.length (some ⟨g, 0, none⟩) n' cap)], obs ++ [.row e 1 true (iL ys)]⟩ (hd ++ [Hd.sl (some ⟨g, 0, none⟩) n' cap (some g)]) act0 w' := ⟨hr1.below, hr1.df, hr1.nt, hr1.hl, hr1.ob, hr1.own, hr1.dist, fun t y hy => (by
    simp only [look] at hy
    split at hy
    · cases hy
      exact .pinS _ _ _ _ _ hlast
    · cases hy), hr1.ext⟩
  obtain ⟨hd2, hr3⟩ := Norm.ids [obs.length] rfl _ C _ _ _ hr2
  have hp := hr3.sl 0 (.pinS 0 (some ⟨g, 0, none⟩) n' cap) (by simp [look, SV.ren, posIn])
  generalize act0.tmps.getD 0 undef = u at hp
  cases hp
  rename_i o hh
  refine ⟨hd2, ⟨hr3.below, hr3.df, hr3.nt, ?_, fun i o' h h1 h2 => hr3.ob i o' h (by simpa [Ob.ren] using h1) h2, hr3.own, hr3.dist, fun t y hy => by simp [look] at hy, hr3.ext⟩, .sref _ _ _ _ o hh⟩
  have := hr3.hl
  simpa using this
end
section
variable {G : World → Prop}
theorem Clone_snd (d : List Int) (hd1 : d.length ≤ 1000000) : SndG Try.prog G 57 [.t (tInts d)] [] [] (.sref 0) [.row 3 1 true (iL d)] := by
  refine ⟨enter_body Try.func57 rfl rfl, Nat.zero_le _, fun i l h => by simp at h, fun C hd w vs hG hr hvs hrep => ?_⟩
  obtain ⟨v, rfl⟩ : ∃ v, vs = #[v] := by
    match vs, hvs with
    | ⟨[v]⟩, _ => exact ⟨v, rfl⟩
  have hv := (hrep 0 _ _ rfl rfl).toT
  obtain ⟨a, cap, sz, xs, e1, hmx, h0, hf, ha, h1, hx⟩ := hv.listInv
  have hdl : (d.map tInt).length = d.length := List.length_map _
  have nilrow : ∀ {w' : World}, Below w.heap.size w w' → StR C ⟨0, [], [.row 3 1 true (iL [])]⟩ (hd ++ [.sl none 0 0 none]) act0 w' := fun {w'} hb => by
    have := hr.new hb (.row 3 1 true (iL [])) (.sl none 0 0 none) (fun b hb => by simp [Hd.own] at hb) ⟨rfl, Nat.one_pos, Nat.zero_le _, fun x hx => by simp [iL] at hx, .inl ⟨[], World.ownsRow_nil _ _ _ _, rfl, RepL.nil _ _⟩⟩
    exact this
  have hd0 : hd = [] := List.eq_nil_of_length_eq_zero hr.hl
  have fin : ∀ (v' : Value) (w' : World), w'.ownsRow w.heap.size 3 1 v' d.length (d.map (Value.int .i64)) → Below w.heap.size w w' → ∃ hd', StR C ⟨0, [], [.row 3 1 true (iL d)]⟩ hd' act0 w' ∧ RepS (vis C hd') w' hd' (.sref 0) v' := fun v' w' hown hb => by
    rcases hown.2 with ⟨rfl, hn⟩ | ⟨g, cap', cur, rfl, _⟩
    · obtain rfl : d = [] := List.eq_nil_of_length_eq_zero hn
      exact ⟨_, nilrow hb, .sref _ _ _ _ none (by rw [hd0]; rfl)⟩
    · exact row_new hr hb hown rfl (by unfold maxLen; omega)
  by_cases hd2 : d = []
  · subst hd2
    cases a with
    | none =>
      subst e1
      refine (Any.slices_Clone_int_nil Try.layClone _ cap w).mono fun e' w' ⟨q1, q2⟩ => ?_
      subst q1 q2
      exact ⟨_, _, rfl, nilrow (Below.refl _ _), (fun i l b h => by simp at h), (fun i hi => by simp at hi), .sref _ _ _ _ none (by rw [hd0]; rfl)⟩
    | some ad =>
      subst e1
      refine (Any.slices_Clone_int_zero Try.layClone ad cap w).mono fun e' w' ⟨v', q1, q2, _, q3⟩ => ?_
      subst q1
      obtain ⟨hd', f1, f2⟩ := fin v' w' q2 q3
      exact ⟨_, hd', rfl, f1, (fun i l b h => by simp at h), (fun i hi => by simp at hi), f2⟩
  · obtain ⟨b, off, rfl, _, hc⟩ := ha (by simpa using hd2)
    have hsz : sz = 1 := by
      cases d with
      | nil => exact (hd2 rfl).elim
      | cons z d => exact (hf (tInt z) (by simp)).symm
    subst hsz
    subst e1
    have hcell : ∀ j, j < d.length → w.cell? ⟨b, off + j, none⟩ = some (.int .i64 (d.getD j 0)) := fun j hj => by
      rw [hc j (by rw [hdl]; omega)]
      have hy := hx j (tInt d[j]) (by
        have : flat (d.map tInt) = d.map tInt := flat_iL d
        rw [this, List.getElem?_map, List.getElem?_eq_getElem hj]; rfl)
      generalize xs j = u at hy
      unfold tInt at hy
      cases hy
      rw [List.getD_eq_getElem?_getD, List.getElem?_eq_getElem hj]; rfl
    rw [hdl]
    refine (Any.slices_Clone_int Try.layClone b off d.length cap d w (Nat.le_refl _) (by omega) hcell).mono fun e' w' ⟨v', q1, q2, _, q3⟩ => ?_
    subst q1
    rw [List.take_of_length_le (Nat.le_refl _)] at q2
    obtain ⟨hd', f1, f2⟩ := fin v' w' q2 q3
    exact ⟨_, hd', rfl, f1, (fun i l b h => by simp at h), (fun i hi => by simp at hi), f2⟩
theorem drew_alloc_below (w : World) (o : Obj) : Below w.heap.size w (w.drew.alloc o) := by
  have h := alloc_below w.drew o
  exact ⟨h.os, h.tape, h.output, h.size, h.block⟩
theorem layInsert_t3 : Try.layInsert_ren.t 3 = 3 := rfl
/-- A new block that begins with these. -/
theorem owns_new {w w' : World} {g n' cap e : Nat} {arr : Array Value} {ys : List Int} (hB : w.heap.size ≤ g) (hg : w'.heap[g]? = some (.cells arr e (0, 0))) (hs : arr.size = cap) (hn : n' ≤ cap) (hm : cap ≤ maxLen) (hl : n' = ys.length) (ht : arr.toList.take n' = ys.map (Value.int .i64)) : w'.ownsRow w.heap.size e 1 (.slice (some ⟨g, 0, none⟩) n' cap) n' (ys.map (Value.int .i64)) :=
  ⟨by rw [List.length_map, Nat.mul_one, hl], .inr ⟨g, cap, arr, rfl, hB, hg, hn, hm, by rw [Nat.mul_one]; exact hs, by rw [Nat.mul_one]; exact ht⟩⟩
def insL (l : List Int) (k : Nat) (x : Int) : List Int := l.take k ++ [x] ++ l.drop k
theorem insL_length {l : List Int} {k : Nat} {x : Int} (hk : k ≤ l.length) : (insL l k x).length = l.length + 1 := by
  unfold insL; simp; omega
theorem insL_end {l : List Int} {x : Int} : insL l l.length x = l ++ [x] := by
  unfold insL; simp
set_option maxHeartbeats 4000000 in
theorem Insert_own (l : List Int) (k : Nat) (x : Int) (hk : k ≤ l.length) (hl : l.length ≤ 1000000) :
    SndG Try.prog G 56 [.sref 0, .t (tNat k), .lit [tInt x]] [.row 3 1 true (iL l)] [] (.sref 0) [.row 3 1 true (iL (insL l k x))] := by
  refine ⟨enter_body Try.func56 rfl rfl, Nat.le_refl _, fun i q h => ?_, fun C hd w vs hG hr hvs hrep => ?_⟩
  · match i, h with
    | 0, h => cases h
  obtain ⟨v0, v1, v2, rfl⟩ : ∃ v0 v1 v2, vs = #[v0, v1, v2] := by
    match vs, hvs with
    | ⟨[v0, v1, v2]⟩, _ => exact ⟨v0, v1, v2, rfl⟩
  obtain ⟨ad, cap, rfl, hd0, hown⟩ := row_open hr (hrep 0 _ _ rfl rfl)
  have hk1 : RepT (vis C hd) w (.int .i64 (k : Int)) v1 := (hrep 1 _ _ rfl rfl).toT
  cases hk1
  have hlit : RepS (vis C hd) w hd (.lit [tInt x]) v2 := hrep 2 _ _ rfl rfl
  cases hlit
  rename_i vb hlr hz
  obtain ⟨a', cap', sz', xs, e1, _, _, hf', ha, _, hx'⟩ := hlr.listInv
  obtain ⟨b', off', e2, hS, hc⟩ := ha (by simp)
  rw [e2] at e1
  injection e1 with q1 q2 q3
  injection q1 with q1
  injection q1 with q1 q4 q5
  subst q1 q4
  have hsz' : sz' = 1 := (hf' (tInt x) (by simp)).symm
  subst hsz'
  obtain ⟨lv, lt, hzb⟩ := hz (by simp)
  have hcx : w.cell? ⟨vb, 0 + 0, none⟩ = some (.int .i64 x) := by
    rw [hc 0 (by simp)]
    have hy := hx' 0 (tInt x) rfl
    generalize xs 0 = u at hy
    unfold tInt at hy
    cases hy
    rfl
  have hvs' : ∀ (j : Nat) (v : Value), ([Value.int .i64 x] : List Value)[j]? = some v → w.cell? ⟨vb, 0 + j, none⟩ = some v := fun j v hj => by
    match j, hj with
    | 0, hj => cases hj; exact hcx
  have h1v : ∀ v ∈ ([Value.int .i64 x] : List Value), v.oneCell' = true := fun v hv => by
    simp at hv; subst hv; rfl
  have hil := insL_length (x := x) hk
  have post : ∀ (v' : Value) (w' : World), (∃ hd', StR C ⟨0, [], [.row 3 1 true (iL (insL l k x))]⟩ hd' act0 w' ∧ RepS (vis C hd') w' hd' (.sref 0) v') → ∃ v hd', Ending.returned v' = .returned v ∧ StR C ⟨0, [], [.row 3 1 true (iL (insL l k x))]⟩ hd' act0 w' ∧ (∀ (i : Nat) (q : List SV) (b : Nat), ([.row 3 1 true (iL l)] : List Ob)[i]? = some (.box q) → hd[i]? = some (.bx b true) → hd'[i]? = some (.bx b true)) ∧ (∀ i ∈ ([] : List Nat), ∀ h, hd[i]? = some h → hd'[i]? = some h) ∧ RepS (vis C hd') w' hd' (.sref 0) v := fun v' w' ⟨hd', f1, f2⟩ => by
    refine ⟨v', hd', rfl, f1, fun i q b h1 h2 => ?_, (fun i hi => by simp at hi), f2⟩
    match i, h1 with
    | 0, h1 => cases h1
  have hlm : (l.map (Value.int .i64)).length = l.length := List.length_map _
  rcases hown.2 with ⟨q, hn0⟩ | ⟨g, cap2, cur, q, hB, hg, h1, h2, h3, h4⟩
  · -- nothing until now
    obtain rfl : l = [] := List.eq_nil_of_length_eq_zero hn0
    obtain rfl : k = 0 := by simpa using hk
    cases q
    refine (Any2.slices_Insert_int_end_grow Try.layInsert none 0 0 vb 0 1 1 [] [.int .i64 x] w (by decide) (Nat.le_refl _) (by decide) (by decide) rfl rfl (fun _ => rfl) (fun a h => by cases h) hvs' h1v).mono fun e' w' ⟨q1, q2⟩ => ?_
    rw [layInsert_t3] at q1 q2
    subst q1
    refine post _ _ ?_
    have hge := grownCap_ge w (0 + 1) 0 3
    have hle := grownCap_le_maxLen w (0 + 1) 0 3 (by decide)
    refine row_new hr (by rw [q2]; exact drew_alloc_below _ _) (owns_new (Nat.le_refl _) (by rw [q2]; exact heap_alloc_new w.drew _) ?_ hge hle rfl ?_) rfl (by simp [insL, maxLen])
    · simp only [Array.size_append, List.size_toArray, List.length_append, List.length_cons, List.length_nil, size_zeroCells]
      have : (Value.int .i64 0).cells.size = 1 := rfl
      rw [this]
      show 0 + (0 + 1) + (grownCap w (0 + 1) 0 3 - (0 + 1)) * 1 = grownCap w (0 + 1) 0 3
      omega
    · simp [insL]
  · cases q
    have h3' : cur.size = cap := by omega
    have h4' : cur.toList.take l.length = l.map (Value.int .i64) := by rw [Nat.mul_one] at h4; exact h4
    have hne : vb ≠ g := fun e => by
      have := hS.2 (Hd.sl (some ⟨g, 0, none⟩) l.length cap (some g)) (by rw [hd0]; exact List.mem_cons_self)
      exact this (by rw [e]; rfl)
    have hcs : ∀ (j : Nat) (v : Value), (l.map (Value.int .i64))[j]? = some v → w.cell? ⟨g, 0 + j, none⟩ = some v := fun j v hj => by
      have hjl := (List.getElem?_eq_some_iff.1 hj).1
      rw [hlm] at hjl
      rw [← h4', List.getElem?_take, if_pos hjl] at hj
      simp only [World.cell?, hg]
      simpa using hj
    have hsp : ∀ j, j < cap → (w.cell? ⟨g, 0 + j, none⟩).isSome = true := fun j hj => by
      simp only [World.cell?, hg]
      simp
      omega
    have hfz : ∀ j, w.frozen? ⟨g, j, none⟩ = false := fun j => by
      simp [World.frozen?, hg]
    have h1c : ∀ v ∈ l.map (Value.int .i64), v.oneCell' = true := fun v hv => by
      obtain ⟨y, _, rfl⟩ := List.mem_map.1 hv; rfl
    have inplace : ∀ w' : World, w.grownBy w' (some g) → (∃ cur' : Array Value, w'.heap[g]? = some (.cells cur' 3 (0, 0)) ∧ cur'.size = cap ∧ cur'.toList.take (l.length + 1) = (insL l k x).map (Value.int .i64)) → l.length + 1 ≤ cap →
        ∃ hd', StR C ⟨0, [], [.row 3 1 true (iL (insL l k x))]⟩ hd' act0 w' ∧ RepS (vis C hd') w' hd' (.sref 0) (.slice (some ⟨g, 0, none⟩) (l.length + 1) cap) := fun w' hgb ⟨cur', f1, f2, f3⟩ hroom => by
      refine ⟨_, row_change hr hd0 (n' := l.length + 1) rfl hgb ⟨by rw [List.length_map, hil, Nat.mul_one], .inr ⟨g, cap, cur', rfl, hB, f1, hroom, h2, by omega, by rw [Nat.mul_one]; exact f3⟩⟩ hil.symm (by rw [hil]; unfold maxLen; omega), .sref _ _ _ _ _ rfl⟩
    have hap : ∀ (A B D : List Value) (n : Nat), A.length + B.length = n → (A ++ B ++ D).take n = A ++ B := fun A B D n h => by
      rw [List.take_append_of_le_length (by simp; omega), List.take_of_length_le (by simp; omega)]
    by_cases hkn : k = l.length
    · subst hkn
      by_cases hroom : l.length + 1 ≤ cap
      · refine (Any2.slices_Insert_int_end_room Try.layInsert g 0 l.length cap vb 0 1 1 [.int .i64 x] w (by decide) hroom (by unfold maxLen at h2; omega) rfl (fun j hj => by rw [Nat.add_assoc]; exact hsp _ (by omega)) (fun j hj => hfz _) hvs' h1v).mono fun e' w' ⟨q1, q2⟩ => ?_
        subst q1
        refine post _ _ (inplace w' (by rw [q2]; exact setCells_grown _ _ _ _) ?_ hroom)
        obtain ⟨cur', f1, f2, f3⟩ := setCells_blk g [.int .i64 x] (0 + l.length) w cur 3 (0, 0) hg (by simp; omega)
        refine ⟨cur', by rw [q2]; exact f1, by omega, ?_⟩
        rw [insL_end, f3, Nat.zero_add, h4', List.map_append]
        exact hap _ _ _ _ (by simp)
      · refine (Any2.slices_Insert_int_end_grow Try.layInsert (some ⟨g, 0, none⟩) l.length cap vb 0 1 1 (l.map (.int .i64)) [.int .i64 x] w (by decide) h1 (by omega) (by omega) hlm rfl (fun h => by cases h) (fun a h j v hj => by cases h; rw [Addr.add_lit]; exact hcs j v hj) hvs' h1v).mono fun e' w' ⟨q1, q2⟩ => ?_
        rw [layInsert_t3] at q1 q2
        subst q1
        refine post _ _ ?_
        have hge := grownCap_ge w (l.length + 1) cap 3
        have hle := grownCap_le_maxLen w (l.length + 1) cap 3 (by unfold maxLen; omega)
        refine row_new hr (by rw [q2]; exact drew_alloc_below _ _) (owns_new (Nat.le_refl _) (by rw [q2]; exact heap_alloc_new w.drew _) ?_ hge hle hil.symm ?_) hil.symm (by rw [hil]; unfold maxLen; omega)
        · have : (Value.int .i64 0).cells.size = 1 := rfl
          simp only [Array.size_append, List.size_toArray, List.length_append, List.length_cons, List.length_nil, size_zeroCells, this, hlm]
          show l.length + (0 + 1) + (grownCap w (l.length + 1) cap 3 - (l.length + 1)) * 1 = grownCap w (l.length + 1) cap 3
          omega
        · rw [insL_end, Array.toList_append, List.take_append_of_le_length (by simp), List.take_of_length_le (by simp), List.map_append]
          rfl
    · have hkl : k < l.length := by omega
      have hdr : (l.map (Value.int .i64)).drop k = (l.drop k).map (Value.int .i64) := by rw [List.map_drop]
      have hmap : (insL l k x).map (Value.int .i64) = (l.map (Value.int .i64)).take k ++ [.int .i64 x] ++ (l.map (Value.int .i64)).drop k := by
        unfold insL
        simp only [List.map_append, List.map_take, List.map_drop, List.map_cons, List.map_nil]
      by_cases hroom : l.length + 1 ≤ cap
      · refine (Any2.slices_Insert_int_shift Try.layInsert g 0 l.length cap k vb 0 1 1 (l.map (.int .i64)) [.int .i64 x] w hkl (by decide) hroom (by unfold maxLen at h2; omega) hne hlm rfl hcs (fun j hj => hsp j (by omega)) (fun j hj => hfz _) hvs' h1c h1v lt 3 lv.size cur.size (by simp [World.shape?, hzb]) (by simp [World.shape?, hg]) (by omega) (by simp [World.frozen?, hzb]) (by simp [World.frozen?, hzb])).mono fun e' w' ⟨q1, q2⟩ => ?_
        subst q1
        obtain ⟨c1, f1, f2, f3⟩ := setCells_blk g ((l.map (Value.int .i64)).drop k) (0 + (k + 1)) w.drew cur 3 (0, 0) hg (by rw [List.length_drop, hlm]; omega)
        obtain ⟨c2, g1, g2, g3⟩ := setCells_blk g [.int .i64 x] (0 + k) _ c1 3 (0, 0) f1 (by simp; omega)
        refine post _ _ (inplace w' (by rw [q2]; exact grown_trans (grown_drew _ _) (grown_trans (setCells_grown _ _ _ _) (setCells_grown _ _ _ _))) ⟨c2, by rw [q2]; exact g1, by omega, ?_⟩ hroom)
        have hcl : cur.toList.length = cap := by simpa using h3'
        have hk1 : (cur.toList.take (0 + (k + 1))).length = k + 1 := by rw [List.length_take]; omega
        have htk : cur.toList.take k = (l.map (Value.int .i64)).take k := by rw [← h4', List.take_take, Nat.min_eq_left (by omega)]
        rw [g3, f3, hmap]
        have e1 : (cur.toList.take (0 + (k + 1)) ++ (l.map (Value.int .i64)).drop k ++ cur.toList.drop (0 + (k + 1) + ((l.map (Value.int .i64)).drop k).length)).take (0 + k) = (l.map (Value.int .i64)).take k := by
          rw [List.append_assoc, List.take_append_of_le_length (by omega), List.take_take, Nat.min_eq_left (by omega), Nat.zero_add, htk]
        have e2 : (cur.toList.take (0 + (k + 1)) ++ (l.map (Value.int .i64)).drop k ++ cur.toList.drop (0 + (k + 1) + ((l.map (Value.int .i64)).drop k).length)).drop (0 + k + ([Value.int .i64 x] : List Value).length) = (l.map (Value.int .i64)).drop k ++ cur.toList.drop (0 + (k + 1) + ((l.map (Value.int .i64)).drop k).length) := by
          rw [List.append_assoc]
          exact List.drop_left' (by rw [hk1]; simp)
        rw [e1, e2, ← List.append_assoc]
        exact List.take_left' (by simp; omega)
      · refine (Any2.slices_Insert_int_grow Try.layInsert g 0 l.length cap k vb 0 1 1 (l.map (.int .i64)) [.int .i64 x] w hkl (by decide) h1 (by omega) (by omega) hlm rfl hcs hvs' h1c h1v).mono fun e' w' ⟨q1, q2⟩ => ?_
        rw [layInsert_t3] at q1 q2
        subst q1
        refine post _ _ ?_
        have hge := grownCap_ge w (l.length + 1) cap 3
        have hle := grownCap_le_maxLen w (l.length + 1) cap 3 (by unfold maxLen; omega)
        obtain ⟨A, hA⟩ : ∃ A : Array Value, (((l.map (Value.int .i64)).take k).toArray ++ Builtin.zeroCells (Value.int .i64 0).cells (l.length + 1 - k) ++ Builtin.zeroCells (Value.int .i64 0).cells (grownCap w (l.length + 1) cap 3 - (l.length + 1))) = A := ⟨_, rfl⟩
        have hAs : A.size = grownCap w (l.length + 1) cap 3 := by
          rw [← hA]
          have : (Value.int .i64 0).cells.size = 1 := rfl
          simp only [Array.size_append, List.size_toArray, List.length_take, size_zeroCells, this, hlm]
          omega
        have hAt : A.toList.take k = (l.map (Value.int .i64)).take k := by
          rw [← hA, Array.toList_append, Array.toList_append, List.append_assoc]
          exact List.take_left' (by simp; omega)
        have q2' : w' = (((w.alloc (.cells A 3)).drew.setCells w.heap.size k [.int .i64 x]).drew).setCells w.heap.size (k + 1) ((l.map (Value.int .i64)).drop k) := by rw [← hA]; exact q2
        obtain ⟨c1, f1, f2, f3⟩ := setCells_blk w.heap.size [.int .i64 x] k (w.alloc (.cells A 3)).drew A 3 (0, 0) (heap_alloc_new w _) (by simp; omega)
        obtain ⟨c2, g1, g2, g3⟩ := setCells_blk w.heap.size ((l.map (Value.int .i64)).drop k) (k + 1) (((w.alloc (.cells A 3)).drew.setCells w.heap.size k [.int .i64 x]).drew) c1 3 (0, 0) f1 (by rw [List.length_drop, hlm]; omega)
        have hgb := grown_trans (setCells_grown w.heap.size [.int .i64 x] k (w.alloc (.cells A 3)).drew) (grown_trans (grown_drew _ _) (setCells_grown w.heap.size ((l.map (Value.int .i64)).drop k) (k + 1) (((w.alloc (.cells A 3)).drew.setCells w.heap.size k [.int .i64 x]).drew)))
        have hal := alloc_below w (.cells A 3)
        refine row_new hr ⟨?_, ?_, ?_, ?_, fun b hb => ?_⟩ (owns_new (Nat.le_refl _) (by rw [q2']; exact g1) (by omega) hge hle hil.symm ?_) hil.symm (by rw [hil]; unfold maxLen; omega)
        · rw [q2', hgb.os]; exact hal.os
        · rw [q2', hgb.tape]; exact hal.tape
        · rw [q2', hgb.output]; exact hal.output
        · rw [q2']; exact Nat.le_trans hal.size hgb.size
        · rw [q2', hgb.block b (Nat.lt_of_lt_of_le hb hal.size) (fun e => by cases e; omega)]
          exact hal.block b hb
        · rw [g3, f3, hmap]
          have hAl : A.toList.length = grownCap w (l.length + 1) cap 3 := by simpa using hAs
          have hkA : (A.toList.take k).length = k := by rw [List.length_take]; omega
          have e1 : (A.toList.take k ++ [Value.int .i64 x] ++ A.toList.drop (k + ([Value.int .i64 x] : List Value).length)).take (k + 1) = (l.map (Value.int .i64)).take k ++ [Value.int .i64 x] := by
            rw [← hAt]
            exact List.take_left' (by rw [List.length_append, hkA]; rfl)
          rw [e1]
          exact List.take_left' (by simp; omega)
/-- What a call hands back, in another form. -/
theorem SndG.post {P : Program} {f : Nat} {xs : List SV} {obs obs' obs'' : List Ob} {r r' : SV} {tm : List (Nat × SV)} (h : SndG P G f xs obs [] r obs') (hlen : obs.length ≤ obs''.length) (hbox : ∀ (i : Nat) (l : List SV), obs[i]? ≠ some (.box l)) (hl : look tm 0 = some r') (hn : Norm ⟨1, [(0, r)], obs'⟩ ⟨1, tm, obs''⟩) : SndG P G f xs obs [] r' obs'' :=
  ⟨h.enter, hlen, fun i l q => (hbox i l q).elim, fun C hd w vs hG hr hvs hrep => (h.calls C hd w vs hG hr hvs hrep).mono fun e w' ⟨v, hd', e1, h1, _, _, h2⟩ => by
    have hr1 : StR C ⟨1, [(0, r)], obs'⟩ hd' { tmps := #[v], defers := [] } w' := ⟨h1.below, rfl, rfl, h1.hl, h1.ob, h1.own, h1.dist, fun t y hy => (by
      simp only [look] at hy
      split at hy
      · rename_i e; subst e; cases hy; exact h2
      · cases hy), h1.ext⟩
    obtain ⟨hd2, hr2⟩ := hn C hd' _ w' hr1
    exact ⟨v, hd2, e1, ⟨hr2.below, rfl, rfl, hr2.hl, hr2.ob, hr2.own, hr2.dist, fun t y hy => by simp [look] at hy, hr2.ext⟩, fun i l b q => (hbox i l q).elim, fun i hi => by simp at hi, hr2.sl 0 r' hl⟩⟩
theorem Insert_snd (l : List Int) (k : Nat) (x : Int) (hk : k ≤ l.length) (hl : l.length ≤ 1000000) :
    SndG Try.prog G 56 [.sref 0, .t (tNat k), .lit [tInt x]] [.row 3 1 true (iL l)] [] (.t (tInts (insL l k x))) [.froz (iL (insL l k x))] := by
  refine (Insert_own l k x hk hl).post (Nat.le_refl _) (fun i q h => ?_) (tm := [(0, .t (.list (iL (insL l k x)))), (0, .sref 0)]) rfl ((Norm.frzRow 0 rfl).trans (Norm.datum 0 0 rfl rfl))
  match i, h with
  | 0, h => cases h
end
end Go.Proofs.Ythcclcbliedodaa
namespace Go.Proofs.Ythcclcbliedodaa
open Go.RowKit

section
variable {G : World → Prop} (hG : Lasting G)
include hG
set_option maxHeartbeats 4000000 in
theorem Pack_snd (base : Int) (d : List Int) : Snd Try.prog G 31 [tInt base, tInts d] (.tup [tInt (packOf base d), tErr (packErr base d)]) := by
  have htb := Tab.cons (Radix_snd hG base) (Tab.cons (Many_snd hG base d.length) Tab.nil)
  refine snd_of_body (n := 45) (tm := [(0, .t (tInt base)), (1, .t (tInts d))]) (rs := [.tmp 4, .tmp 5]) tt_ok Try.func31 rfl rfl rfl rfl rfl ?_
  by_cases h0 : manyErr base d.length = 0
  · obtain ⟨h1, _, h5, hp36, _⟩ := many_ok h0
    obtain ⟨r2, r6⟩ := radix_two h1
    have hdig : ∀ {i : Nat} (hi : i < d.length), ¬ (0 ≤ d[i] ∧ d[i] < radix base) → packErr base d = 1 ∧ packOf base d = 0 := fun hi hx => packErr_digit h0 hi hx
    have hok : (∀ x ∈ d, 0 ≤ x ∧ x < radix base) → packErr base d = 0 ∧ packOf base d = pack (radix base) d := packErr_ok h0
    rw [h0] at htb
    generalize manyOf base d.length = mo at htb
    generalize radix base = k at *
    repeat' (first | (with_reducible first | apply w1 | apply w2 | apply w3 | apply w4 | apply w5 | apply w6 | apply w7 | apply w8 | apply w9 | apply wa | apply wb | apply wc) | ((with_reducible apply wd); focus decide) | ((with_reducible apply we); focus exact rfl) | ((with_reducible apply wf); focus exact rfl) | ((first | (with_reducible apply SW_run tt_ok hG htb) | ((with_reducible apply SW_draw rfl tt_ok hG htb); (focus kernel_rfl); focus simp only [List.range, List.range.loop, List.size_toArray, List.length_cons, List.length_nil, Nat.reduceAdd])); focus ((repeat' (first | (with_reducible first | exact wg | exact wh) | ((with_reducible first | apply wi | apply wj); focus (simp (discharger := omega) only [go_sem, tErr, simprocAttr]; with_reducible rfl)))); done)))
    refine SW_loop (fun m s => ∃ i : Nat, m = d.length - i ∧ s = ⟨45, [(8, .t (tInt k)), (9, .t (tInt (pack k (d.take i)))), (24, .t (tInts d)), (25, .t (tInt d.length)), (26, .t (tInt i))], []⟩ ∧ i ≤ d.length ∧ ∀ x ∈ d.take i, 0 ≤ x ∧ x < k) d.length ⟨_, Norm.headS (own := []) (keep := [8, 9, 24, 25, 26]) (by refine ⟨?_, ?_⟩; (simp (discharger := omega) only [go_sem, simprocAttr]; with_reducible rfl); refine ⟨?_, ?_, ?_, ?_⟩ <;> (simp only [go_sem, simprocAttr]; with_reducible rfl)), 0, rfl, rfl, Nat.zero_le _, fun x hx => by simp at hx⟩ ?_
    rintro m s ⟨i, rfl, rfl, hi, hA⟩
    have hb := pack_bd r2 _ hA
    have hb2 := powW_bd r2 r6 (j := (d.take i).length) (by simp; omega)
    by_cases hlt : i < d.length
    · obtain ⟨x, hx⟩ : ∃ x, d[i]! = x := ⟨_, rfl⟩
      have htk := take_next hx hlt
      have hat := bang_at hx hlt
      by_cases hx0 : 0 ≤ x
      · by_cases hxk : x < k
        · have hA' : ∀ y ∈ d.take (i + 1), 0 ≤ y ∧ y < k := fun y hy => by
            rw [htk] at hy
            rcases List.mem_append.1 hy with h | h
            · exact hA y h
            · simp at h; subst h; exact ⟨hx0, hxk⟩
          have hpk : pack k (d.take (i + 1)) = pack k (d.take i) * k + x := by rw [htk, pack_snoc]
          have hm1 : 0 ≤ pack k (d.take i) * k := Int.mul_nonneg hb.1 (by omega)
          have hm2 : pack k (d.take i) * k ≤ 7776 * 6 := Int.mul_le_mul (by omega) r6 (by omega) (by omega)
          repeat' (first | (with_reducible first | apply w1 | apply w2 | apply w3 | apply w4 | apply w5 | apply w6 | apply w7 | apply w8 | apply w9 | apply wa | apply wb | apply wc) | ((with_reducible apply wd); focus decide) | ((with_reducible apply we); focus exact rfl) | ((with_reducible apply wf); focus exact rfl) | ((first | (with_reducible apply SW_run tt_ok hG htb) | ((with_reducible apply SW_draw rfl tt_ok hG htb); (focus kernel_rfl); focus simp only [List.range, List.range.loop, List.size_toArray, List.length_cons, List.length_nil, Nat.reduceAdd])); focus ((repeat' (first | (with_reducible first | exact wg | exact wh) | ((with_reducible first | apply wi | apply wj); focus (simp (discharger := omega) only [go_sem, hx, simprocAttr]; with_reducible rfl)))); done)))
          exact ⟨d.length - (i + 1), _, by omega, Norm.headS (own := []) (keep := [8, 9, 24, 25, 26]) (by refine ⟨?_, ?_⟩; (simp (discharger := omega) only [go_sem, simprocAttr]; with_reducible rfl); refine ⟨?_, ?_, ?_, ?_⟩ <;> (simp only [go_sem, simprocAttr]; with_reducible rfl)), i + 1, rfl, by rw [hpk]; rfl, by omega, hA'⟩
        · obtain ⟨e1, e2⟩ := hdig hlt (by rw [hat]; omega)
          rw [e1, e2]
          repeat' (first | (with_reducible first | apply w1 | apply w2 | apply w3 | apply w4 | apply w5 | apply w6 | apply w7 | apply w8 | apply w9 | apply wa | apply wb | apply wc) | ((with_reducible apply wd); focus decide) | ((with_reducible apply we); focus exact rfl) | ((with_reducible apply wf); focus exact rfl) | ((first | (with_reducible apply SW_run tt_ok hG htb) | ((with_reducible apply SW_draw rfl tt_ok hG htb); (focus kernel_rfl); focus simp only [List.range, List.range.loop, List.size_toArray, List.length_cons, List.length_nil, Nat.reduceAdd])); focus ((repeat' (first | (with_reducible first | exact wg | exact wh) | ((with_reducible first | apply wi | apply wj); focus (simp (discharger := omega) only [go_sem, hx, simprocAttr]; with_reducible rfl)))); done)))
          exact (by simp (discharger := omega) only [go_sem, tErr, simprocAttr])
      · obtain ⟨e1, e2⟩ := hdig hlt (by rw [hat]; omega)
        rw [e1, e2]
        repeat' (first | (with_reducible first | apply w1 | apply w2 | apply w3 | apply w4 | apply w5 | apply w6 | apply w7 | apply w8 | apply w9 | apply wa | apply wb | apply wc) | ((with_reducible apply wd); focus decide) | ((with_reducible apply we); focus exact rfl) | ((with_reducible apply wf); focus exact rfl) | ((first | (with_reducible apply SW_run tt_ok hG htb) | ((with_reducible apply SW_draw rfl tt_ok hG htb); (focus kernel_rfl); focus simp only [List.range, List.range.loop, List.size_toArray, List.length_cons, List.length_nil, Nat.reduceAdd])); focus ((repeat' (first | (with_reducible first | exact wg | exact wh) | ((with_reducible first | apply wi | apply wj); focus (simp (discharger := omega) only [go_sem, hx, simprocAttr]; with_reducible rfl)))); done)))
        exact (by simp (discharger := omega) only [go_sem, tErr, simprocAttr])
    · obtain rfl : i = d.length := by omega
      rw [List.take_length] at hA hb ⊢
      obtain ⟨e1, e2⟩ := hok hA
      rw [e1, e2]
      repeat' (first | (with_reducible first | apply w1 | apply w2 | apply w3 | apply w4 | apply w5 | apply w6 | apply w7 | apply w8 | apply w9 | apply wa | apply wb | apply wc) | ((with_reducible apply wd); focus decide) | ((with_reducible apply we); focus exact rfl) | ((with_reducible apply wf); focus exact rfl) | ((first | (with_reducible apply SW_run tt_ok hG htb) | ((with_reducible apply SW_draw rfl tt_ok hG htb); (focus kernel_rfl); focus simp only [List.range, List.range.loop, List.size_toArray, List.length_cons, List.length_nil, Nat.reduceAdd])); focus ((repeat' (first | (with_reducible first | exact wg | exact wh) | ((with_reducible first | apply wi | apply wj); focus (simp (discharger := omega) only [go_sem, simprocAttr]; with_reducible rfl)))); done)))
      exact (by simp (discharger := omega) only [go_sem, tErr, simprocAttr])
  · obtain ⟨e1, e2⟩ := packErr_many h0
    rw [e1, e2]
    generalize manyErr base d.length = e at *
    repeat' (first | (with_reducible first | apply w1 | apply w2 | apply w3 | apply w4 | apply w5 | apply w6 | apply w7 | apply w8 | apply w9 | apply wa | apply wb | apply wc) | ((with_reducible apply wd); focus decide) | ((with_reducible apply we); focus exact rfl) | ((with_reducible apply wf); focus exact rfl) | ((first | (with_reducible apply SW_run tt_ok hG htb) | ((with_reducible apply SW_draw rfl tt_ok hG htb); (focus kernel_rfl); focus simp only [List.range, List.range.loop, List.size_toArray, List.length_cons, List.length_nil, Nat.reduceAdd])); focus ((repeat' (first | (with_reducible first | exact wg | exact wh) | ((with_reducible first | apply wi | apply wj); focus (simp (discharger := omega) only [go_sem, tErr, h0, simprocAttr]; with_reducible rfl)))); done)))
    exact (by simp (discharger := omega) only [go_sem, tErr, h0, simprocAttr])
set_option maxHeartbeats 4000000 in
theorem Unpack_snd (base t l : Int) : Snd Try.prog G 30 [tInt base, tInt t, tInt l] (.tup [tInts (unpackOf base t l), tErr (unpackErr base t l)]) := by
  have htb := Tab.cons (Radix_snd hG base) (Tab.cons (Many_snd hG base t) Tab.nil)
  refine snd_of_body (n := 52) (tm := [(0, .t (tInt base)), (1, .t (tInt t)), (2, .t (tInt l))]) (rs := [.tmp 6, .tmp 7]) tt_ok Try.func30 rfl rfl rfl rfl rfl ?_
  by_cases h0 : manyErr base t = 0
  · obtain ⟨h1, h2, h5, hp36, hm⟩ := many_ok h0
    obtain ⟨r2, r6⟩ := radix_two h1
    have hp1 := powW_pos r2 t.toNat
    have hok : ¬ (l < 0 ∨ manyOf base t ≤ l) → unpackErr base t l = 0 ∧ unpackOf base t l = unpack (radix base) t.toNat l := unpackErr_ok h0
    have hno : (l < 0 ∨ manyOf base t ≤ l) → unpackErr base t l = 1 ∧ unpackOf base t l = [] := unpackErr_letter h0
    rw [h0] at htb
    rw [← hm] at hp36 hp1
    generalize manyOf base t = mo at *
    generalize radix base = k at *
    by_cases hl0 : l < 0
    · obtain ⟨e1, e2⟩ := hno (by omega)
      rw [e1, e2]
      repeat' (first | (with_reducible first | apply w1 | apply w2 | apply w3 | apply w4 | apply w5 | apply w6 | apply w7 | apply w8 | apply w9 | apply wa | apply wb | apply wc) | ((with_reducible apply wd); focus decide) | ((with_reducible apply we); focus exact rfl) | ((with_reducible apply wf); focus exact rfl) | ((first | (with_reducible apply SW_run tt_ok hG htb) | ((with_reducible apply SW_draw rfl tt_ok hG htb); (focus kernel_rfl); focus simp only [List.range, List.range.loop, List.size_toArray, List.length_cons, List.length_nil, Nat.reduceAdd])); focus ((repeat' (first | (with_reducible first | exact wg | exact wh) | ((with_reducible first | apply wi | apply wj); focus (simp (discharger := omega) only [go_sem, tErr, simprocAttr]; with_reducible rfl)))); done)))
      exact (by simp (discharger := omega) only [go_sem, tErr, simprocAttr])
    · by_cases hl1 : mo ≤ l
      · obtain ⟨e1, e2⟩ := hno (by omega)
        rw [e1, e2]
        repeat' (first | (with_reducible first | apply w1 | apply w2 | apply w3 | apply w4 | apply w5 | apply w6 | apply w7 | apply w8 | apply w9 | apply wa | apply wb | apply wc) | ((with_reducible apply wd); focus decide) | ((with_reducible apply we); focus exact rfl) | ((with_reducible apply wf); focus exact rfl) | ((first | (with_reducible apply SW_run tt_ok hG htb) | ((with_reducible apply SW_draw rfl tt_ok hG htb); (focus kernel_rfl); focus simp only [List.range, List.range.loop, List.size_toArray, List.length_cons, List.length_nil, Nat.reduceAdd])); focus ((repeat' (first | (with_reducible first | exact wg | exact wh) | ((with_reducible first | apply wi | apply wj); focus (simp (discharger := omega) only [go_sem, tErr, simprocAttr]; with_reducible rfl)))); done)))
        exact (by simp (discharger := omega) only [go_sem, tErr, simprocAttr])
      · obtain ⟨e1, e2⟩ := hok (by omega)
        rw [e1, e2]
        obtain ⟨t, rfl⟩ := Int.eq_ofNat_of_zero_le h2
        rw [Int.toNat_natCast] at *
        repeat' (first | (with_reducible first | apply w1 | apply w2 | apply w3 | apply w4 | apply w5 | apply w6 | apply w7 | apply w8 | apply w9 | apply wa | apply wb | apply wc) | ((with_reducible apply wd); focus decide) | ((with_reducible apply we); focus exact rfl) | ((with_reducible apply wf); focus exact rfl) | ((first | (with_reducible apply SW_run tt_ok hG htb) | ((with_reducible apply SW_draw rfl tt_ok hG htb); (focus kernel_rfl); focus simp only [List.range, List.range.loop, List.size_toArray, List.length_cons, List.length_nil, Nat.reduceAdd])); focus ((repeat' (first | (with_reducible first | exact wg | exact wh) | ((with_reducible first | apply wi | apply wj); focus (simp (discharger := omega) only [go_sem, tErr, simprocAttr]; with_reducible rfl)))); done)))
        refine SW_loop (fun m s => ∃ (j : Nat) (q : Int) (u : List Int) (ot : List T), m = t - j ∧ s = ⟨52, [(1, .t (tInt t)), (2, .t (tInt q)), (10, .t (tInt k)), (11, .sref 0), (34, .t (tInt t)), (35, .t (tInt j))], [.row 3 1 true ot]⟩ ∧ ot = (List.replicate (t - j) 0 ++ u).map tInt ∧ j ≤ t ∧ 0 ≤ q ∧ q ≤ 36 ∧ u.length = j ∧ unpack k t l = unpack k (t - j) q ++ u) t
          ⟨_, Norm.headS (own := [(11, 3, 1, true)]) (keep := [1, 2, 10, 11, 34, 35]) (by refine ⟨?_, ?_⟩; (simp (discharger := omega) only [go_sem, simprocAttr]; with_reducible rfl); refine ⟨?_, ?_, ?_, ?_⟩ <;> (simp only [go_sem, simprocAttr]; with_reducible rfl)), 0, l, [], _, rfl, rfl, by simp [tInt], Nat.zero_le _, by omega, by omega, rfl, by simp⟩ ?_
        rintro m s ⟨j, q, u, ot, rfl, rfl, hot, hj, q0, q36, hu, hU⟩
        have hol : ot.length = t := by rw [hot]; simp; omega
        by_cases hlt : j < t
        · have q1 : q.tmod k = q % k := by rw [Int.tmod_eq_emod_of_nonneg q0]
          have q2 : q.tdiv k = q / k := by rw [Int.tdiv_eq_ediv_of_nonneg q0]
          have q3 : 0 ≤ q / k := Int.ediv_nonneg q0 (by omega)
          have q4 : q / k ≤ q := Int.ediv_le_self _ q0
          obtain ⟨r, hr⟩ : ∃ r : Nat, t - j = r + 1 := ⟨t - j - 1, by omega⟩
          have hr' : (t : Int) - 1 - (j : Int) = (r : Nat) := by omega
          repeat' (first | (with_reducible first | apply w1 | apply w2 | apply w3 | apply w4 | apply w5 | apply w6 | apply w7 | apply w8 | apply w9 | apply wa | apply wb | apply wc) | ((with_reducible apply wd); focus decide) | ((with_reducible apply we); focus exact rfl) | ((with_reducible apply wf); focus exact rfl) | ((first | (with_reducible apply SW_run tt_ok hG htb) | ((with_reducible apply SW_draw rfl tt_ok hG htb); (focus kernel_rfl); focus simp only [List.range, List.range.loop, List.size_toArray, List.length_cons, List.length_nil, Nat.reduceAdd])); focus ((repeat' (first | (with_reducible first | exact wg | exact wh) | ((with_reducible first | apply wi | apply wj); focus (simp (discharger := omega) only [go_sem, q1, q2, hr', simprocAttr]; with_reducible rfl)))); done)))
          refine ⟨t - (j + 1), _, by omega, Norm.headS (own := [(11, 3, 1, true)]) (keep := [1, 2, 10, 11, 34, 35]) (by refine ⟨?_, ?_⟩; (simp (discharger := omega) only [go_sem, simprocAttr]; with_reducible rfl); refine ⟨?_, ?_, ?_, ?_⟩ <;> (simp only [go_sem, simprocAttr]; with_reducible rfl)), j + 1, q / k, (q % k) :: u, _, rfl, rfl, ?_, by omega, q3, by omega, by simp [hu], ?_⟩
          · have e : t - (j + 1) = r := by omega
            rw [hot, hr, e, List.replicate_succ', List.append_assoc, List.map_append, List.map_append, List.set_append_right _ _ (by simp)]
            simp [tInt]
          · have e : t - (j + 1) = r := by omega
            rw [hU, hr, e, unpack, List.append_assoc]; rfl
        · obtain rfl : j = t := by omega
          have : unpack k j l = u := by rw [hU]; simp [unpack]
          rw [this]
          rw [Nat.sub_self, List.replicate_zero, List.nil_append] at hot
          repeat' (first | (with_reducible first | apply w1 | apply w2 | apply w3 | apply w4 | apply w5 | apply w6 | apply w7 | apply w8 | apply w9 | apply wa | apply wb | apply wc) | ((with_reducible apply wd); focus decide) | ((with_reducible apply we); focus exact rfl) | ((with_reducible apply wf); focus exact rfl) | ((first | (with_reducible apply SW_run tt_ok hG htb) | ((with_reducible apply SW_draw rfl tt_ok hG htb); (focus kernel_rfl); focus simp only [List.range, List.range.loop, List.size_toArray, List.length_cons, List.length_nil, Nat.reduceAdd])); focus ((repeat' (first | (with_reducible first | exact wg | exact wh) | ((with_reducible first | apply wi | apply wj); focus (simp (discharger := omega) only [go_sem, simprocAttr]; with_reducible rfl)))); done)))
          exact (by simp (discharger := omega) only [go_sem, tErr, hot, simprocAttr])
  · obtain ⟨e1, e2⟩ := unpackErr_many (l := l) h0
    rw [e1, e2]
    generalize manyErr base t = e at *
    repeat' (first | (with_reducible first | apply w1 | apply w2 | apply w3 | apply w4 | apply w5 | apply w6 | apply w7 | apply w8 | apply w9 | apply wa | apply wb | apply wc) | ((with_reducible apply wd); focus decide) | ((with_reducible apply we); focus exact rfl) | ((with_reducible apply wf); focus exact rfl) | ((first | (with_reducible apply SW_run tt_ok hG htb) | ((with_reducible apply SW_draw rfl tt_ok hG htb); (focus kernel_rfl); focus simp only [List.range, List.range.loop, List.size_toArray, List.length_cons, List.length_nil, Nat.reduceAdd])); focus ((repeat' (first | (with_reducible first | exact wg | exact wh) | ((with_reducible first | apply wi | apply wj); focus (simp (discharger := omega) only [go_sem, tErr, h0, simprocAttr]; with_reducible rfl)))); done)))
    exact (by simp (discharger := omega) only [go_sem, tErr, h0, simprocAttr])
end
end Go.Proofs.Ythcclcbliedodaa
namespace Go.Proofs.Ythcclcbliedodaa
open Go.RowKit

section
variable {G : World → Prop} (hG : Lasting G)
include hG
set_option maxHeartbeats 16000000 in
set_option maxRecDepth 100000 in
theorem left_snd (a : GAuto) (track : Int) : Snd Try.prog G 42 [tAuto a, tInt track] (.tup [tAuto (leastOf a), tIntss (leftS a track), tIntss (leftR a track), tErr (leftErr a track)]) := by
  have c1 := Least_snd hG a
  refine sndH_of_body (κ := Nat) (n := 111) (tm := [(0, .t (tAuto a)), (1, .t (tInt track))]) (rs := [.cell 4 25, .tmp 5, .tmp 6, .tmp 7]) ttR_ok Try.func42 rfl rfl rfl rfl rfl ?_
  by_cases hf : autoFault a = 0
  rotate_left
  · have he : leftErr a track = autoFault a := if_pos hf
    have hb : leftBad a track := .inl hf
    have hS : leftS a track = [] := if_pos hb
    have hR : leftR a track = [] := if_pos hb
    have hl0 : leastOf a = GAuto.zero := if_neg hf
    rw [he, hS, hR, hl0]
    rw [hl0] at c1
    generalize autoFault a = e at *
    have htb := Tab.cons c1 Tab.nil
    repeat' (first | (with_reducible first | apply v1 | apply v2 | apply v3 | apply v4 | apply v5 | apply v6 | apply v7 | apply v8 | apply v9 | apply va | apply vb | apply vc) | ((with_reducible apply vd); focus decide) | ((with_reducible apply ve); focus exact rfl) | ((with_reducible apply vf); focus exact rfl) | ((first | (with_reducible apply HW_run ttR_ok hG htb) | ((with_reducible apply HW_draw rfl ttR_ok hG htb); (focus kernel_rfl); focus simp only [List.range, List.range.loop, List.size_toArray, List.length_cons, List.length_nil, Nat.reduceAdd])); focus ((repeat' (first | (with_reducible first | exact wg | exact wh) | ((with_reducible first | apply wi | apply wj); focus (simp (discharger := omega) only [go_sem, tAuto, tErr, hf, simprocAttr]; with_reducible rfl)))); done)))
    exact (by simp (discharger := omega) only [go_sem, tAuto, tErr, hf, GAuto.zero, simprocAttr])
  have hlA : leastOf a = leastA a := if_pos hf
  have g0 := good_of hf
  obtain ⟨_, _, gM⟩ := least_again g0
  obtain ⟨M, hM⟩ : ∃ M, leastA a = M := ⟨_, rfl⟩
  rw [hlA, hf, hM] at c1
  rw [hlA, hM]
  rw [hM] at gM
  by_cases hk0 : track < 0
  · have hb : leftBad a track := .inr (.inl hk0)
    have hS : leftS a track = [] := if_pos hb
    have hR : leftR a track = [] := if_pos hb
    have he : leftErr a track = 1 := by unfold leftErr; rw [if_neg (fun q => q hf), if_pos (.inl hk0)]
    rw [hS, hR, he]
    have htb := Tab.cons c1 Tab.nil
    repeat' (first | (with_reducible first | apply v1 | apply v2 | apply v3 | apply v4 | apply v5 | apply v6 | apply v7 | apply v8 | apply v9 | apply va | apply vb | apply vc) | ((with_reducible apply vd); focus decide) | ((with_reducible apply ve); focus exact rfl) | ((with_reducible apply vf); focus exact rfl) | ((first | (with_reducible apply HW_run ttR_ok hG htb) | ((with_reducible apply HW_draw rfl ttR_ok hG htb); (focus kernel_rfl); focus simp only [List.range, List.range.loop, List.size_toArray, List.length_cons, List.length_nil, Nat.reduceAdd])); focus ((repeat' (first | (with_reducible first | exact wg | exact wh) | ((with_reducible first | apply wi | apply wj); focus (simp (discharger := omega) only [go_sem, tErr0, tAuto, simprocAttr]; with_reducible rfl)))); done)))
    exact (by simp (discharger := omega) only [go_sem, tAuto, tErr, simprocAttr])
  by_cases hkt : a.tracks ≤ track
  · have hb : leftBad a track := .inr (.inr hkt)
    have hS : leftS a track = [] := if_pos hb
    have hR : leftR a track = [] := if_pos hb
    have he : leftErr a track = 1 := by unfold leftErr; rw [if_neg (fun q => q hf), if_pos (.inr hkt)]
    rw [hS, hR, he]
    have htb := Tab.cons c1 Tab.nil
    repeat' (first | (with_reducible first | apply v1 | apply v2 | apply v3 | apply v4 | apply v5 | apply v6 | apply v7 | apply v8 | apply v9 | apply va | apply vb | apply vc) | ((with_reducible apply vd); focus decide) | ((with_reducible apply ve); focus exact rfl) | ((with_reducible apply vf); focus exact rfl) | ((first | (with_reducible apply HW_run ttR_ok hG htb) | ((with_reducible apply HW_draw rfl ttR_ok hG htb); (focus kernel_rfl); focus simp only [List.range, List.range.loop, List.size_toArray, List.length_cons, List.length_nil, Nat.reduceAdd])); focus ((repeat' (first | (with_reducible first | exact wg | exact wh) | ((with_reducible first | apply wi | apply wj); focus (simp (discharger := omega) only [go_sem, tErr0, tAuto, simprocAttr]; with_reducible rfl)))); done)))
    exact (by simp (discharger := omega) only [go_sem, tAuto, tErr, simprocAttr])
  obtain ⟨k, rfl⟩ : ∃ k : Nat, track = (k : Int) := ⟨track.toNat, by omega⟩
  obtain ⟨t, N, r, ok⟩ := left_ok hf (by omega : (k : Int) < a.tracks)
  have hb : ¬ leftBad a (k : Int) := fun q => by
    rcases q with q | q | q
    · exact q hf
    · omega
    · omega
  have hS : leftS a (k : Int) = _ := if_neg hb
  have hR : leftR a (k : Int) = _ := if_neg hb
  have htt : a.tracks - 1 = ((t : Nat) : Int) := by have := ok.tr; omega
  have hW : leftW a (k : Int) = withW a.base t k := by unfold leftW; rw [htt]; rfl
  have hNe : leftN a = N := by unfold leftN; rw [htt, Int.toNat_natCast, ok.nWe, Int.toNat_natCast]
  have hFe : leftF a (k : Int) = closeL M ((withW a.base t k)[0]!) := by unfold leftF; rw [hW, hM]
  rw [hS, hR, hM, hNe, hFe, hW]
  have c2 := Many_snd hG a.base (t : Int)
  rw [ok.many, ok.nWe] at c2
  have c3 := Radix_snd hG a.base
  rw [ok.rad] at c3
  have htr := ok.tr
  have ht4 := ok.t4
  have hkt2 := ok.kt
  have hN36 := ok.nW36
  have hN0 := ok.nW0
  have hr2 := ok.r2
  have hr6 := ok.r6
  have h1 : ¬ (a.tracks ≤ (k : Int)) := hkt
  have htb := Tab.cons c1 (Tab.cons c2 Tab.nil)
  repeat' (first | (with_reducible first | apply v1 | apply v2 | apply v3 | apply v4 | apply v5 | apply v6 | apply v7 | apply v8 | apply v9 | apply va | apply vb | apply vc) | ((with_reducible apply vd); focus decide) | ((with_reducible apply ve); focus exact rfl) | ((with_reducible apply vf); focus exact rfl) | ((first | (with_reducible apply HW_run ttR_ok hG htb) | ((with_reducible apply HW_draw rfl ttR_ok hG htb); (focus kernel_rfl); focus simp only [List.range, List.range.loop, List.size_toArray, List.length_cons, List.length_nil, Nat.reduceAdd])); focus ((repeat' (first | (with_reducible first | exact wg | exact wh) | ((with_reducible first | apply wi | apply wj); focus (simp (discharger := omega) only [go_sem, tErr0, tAuto, htt, simprocAttr]; with_reducible rfl)))); done)))
  clear htb
  have htb := Tab.cons c3 Tab.nil
  refine HW_norm (Norm.headS (own := []) (keep := [1, 2, 4, 7, 8, 10, 48, 49]) (by refine ⟨?_, ?_⟩; (simp (discharger := omega) only [go_sem, simprocAttr]; with_reducible rfl); refine ⟨?_, ?_, ?_, ?_⟩ <;> (simp only [go_sem, simprocAttr]; with_reducible rfl))) ?_
  refine HW_norm (Norm.fixBox 0 rfl rfl) ?_
  refine HW_norm (Norm.tr 2 rfl rfl) ?_
  refine HW_loop (fun mm st g => ∃ (l : Nat) (ws : List T), mm = N - l ∧ st = ⟨111, [(1, .t (tNat k)), (2, .t (autoP a)), (4, .bptr 0 0), (7, .t .nilI), (8, .t (tNat N)), (10, .bptr 1 0), (48, .t (tNat N)), (49, .t (tNat l))], [.box [.t (tInt M.base), .t (tInt M.tracks), .t (tIntss M.next), .t (tBools M.ends)], .box [.sref 2], .row 26 1 true ws]⟩ ∧ l ≤ N ∧ HdrInv g ws N (fun j => if j < l then withR a.base t k j else [])) N
    ⟨_, Norm.headS (own := []) (keep := [1, 2, 4, 7, 8, 10, 48, 49]) (by refine ⟨?_, ?_⟩; (simp (discharger := omega) only [go_sem, simprocAttr]; with_reducible rfl); refine ⟨?_, ?_, ?_, ?_⟩ <;> (simp only [go_sem, simprocAttr]; with_reducible rfl)), 0, _, rfl, rfl, Nat.zero_le _, (HdrInv.init N).congr fun j hj => by rw [if_neg (by omega)]⟩ ?_
  rintro mm st g ⟨l, ws, rfl, rfl, hl, hinv⟩
  have hwl : ws.length = N := hinv.1
  by_cases hlt : l < N
  · have c4 := Unpack_snd hG a.base (t : Int) (l : Int)
    obtain ⟨u1, u2⟩ := unpackErr_ok (base := a.base) (t := (t : Int)) (l := (l : Int)) ok.many (by rw [ok.nWe]; omega)
    rw [u1, u2, Int.toNat_natCast] at c4
    obtain ⟨d, hd⟩ : ∃ d, unpack (radix a.base) t (l : Int) = d := ⟨_, rfl⟩
    rw [hd] at c4
    have hdl : d.length = t := by rw [← hd]; exact unpack_length _ _ _
    clear htb
    have htb := Tab.cons c4 (Tab.cons c3 Tab.nil)
    repeat' (first | (with_reducible first | apply v1 | apply v2 | apply v3 | apply v4 | apply v5 | apply v6 | apply v7 | apply v8 | apply v9 | apply va | apply vb | apply vc) | ((with_reducible apply vd); focus decide) | ((with_reducible apply ve); focus exact rfl) | ((with_reducible apply vf); focus exact rfl) | ((first | (with_reducible apply HW_run ttR_ok hG htb) | ((with_reducible apply HW_draw rfl ttR_ok hG htb); (focus kernel_rfl); focus simp only [List.range, List.range.loop, List.size_toArray, List.length_cons, List.length_nil, Nat.reduceAdd])); focus ((repeat' (first | (with_reducible first | exact wg | exact wh) | ((with_reducible first | apply wi | apply wj); focus (simp (discharger := omega) only [go_sem, tErr0, autoP, htt, simprocAttr]; with_reducible rfl)))); done)))
    refine HW_loop (fun mm st g => ∃ (x : Nat) (ws : List T), mm = r - x ∧ st = ⟨111, [(1, .t (tNat k)), (2, .t (autoP a)), (4, .bptr 0 0), (7, .t .nilI), (8, .t (tNat N)), (10, .bptr 1 0), (11, .t (tNat l)), (12, .t (tInts d)), (48, .t (tNat N)), (49, .t (tNat l)), (64, .t (tNat r)), (65, .t (tNat x))], [.box [.t (tInt M.base), .t (tInt M.tracks), .t (tIntss M.next), .t (tBools M.ends)], .box [.sref 2], .row 26 1 true ws]⟩ ∧ x ≤ r ∧ HdrInv g ws N (fun j => if j < l then withR a.base t k j else if j = l then (withR a.base t k l).take x else [])) r
      ⟨_, Norm.headS (own := []) (keep := [1, 2, 4, 7, 8, 10, 11, 12, 48, 49, 64, 65]) (by refine ⟨?_, ?_⟩; (simp (discharger := omega) only [go_sem, simprocAttr]; with_reducible rfl); refine ⟨?_, ?_, ?_, ?_⟩ <;> (simp only [go_sem, simprocAttr]; with_reducible rfl)), 0, _, rfl, rfl, Nat.zero_le _, hinv.congr fun j hj => by
        by_cases h : j < l
        · rw [if_pos h, if_pos h]
        · rw [if_neg h, if_neg h, List.take_zero]; simp⟩ ?_
    rintro mm st g ⟨x, ws, rfl, rfl, hx, hinv⟩
    have hwl : ws.length = N := hinv.1
    by_cases hxr : x < r
    · obtain ⟨y, hy⟩ : ∃ y, insL d k (x : Int) = y := ⟨_, rfl⟩
      have hyf : y = fixD a.base t k (x : Int) l := by rw [← hy]; unfold insL fixD; rw [hd]
      have hyl : y.length = t + 1 := by rw [← hy, insL_length (by omega), hdl]
      obtain ⟨v, hv⟩ : ∃ v, fixL a.base t k (x : Int) l = v := ⟨_, rfl⟩
      have c5 := Pack_snd hG a.base y
      have hrr := ok.rad
      obtain ⟨p1, p2⟩ := packErr_ok (base := a.base) (d := y) (by rw [hyl, ← ok.tr]; exact ok.good.many) (by rw [hyf]; exact fixD_ok (by omega) (by omega) l)
      have p3 : pack (radix a.base) y = v := by rw [hyf]; exact hv
      rw [p1, p2, p3] at c5
      have c6 := Clone_snd (G := G) d (by omega)
      have c7 := Insert_snd (G := G) d k (x : Int) (by omega) (by omega)
      rw [hy] at c7
      clear htb
      have htb := Tab.cons c5 Tab.nil
      repeat' (first | (with_reducible first | apply v1 | apply v2 | apply v3 | apply v4 | apply v5 | apply v6 | apply v7 | apply v8 | apply v9 | apply va | apply vb | apply vc) | ((with_reducible apply vd); focus decide) | ((with_reducible apply ve); focus exact rfl) | ((with_reducible apply vf); focus exact rfl) | ((first | (with_reducible apply HW_run ttR_ok hG htb) | ((with_reducible apply HW_draw rfl ttR_ok hG htb); (focus kernel_rfl); focus simp only [List.range, List.range.loop, List.size_toArray, List.length_cons, List.length_nil, Nat.reduceAdd])); focus ((repeat' (first | (with_reducible first | exact wg | exact wh) | ((with_reducible first | apply wi | apply wj); focus (simp (discharger := omega) only [go_sem, simprocAttr]; with_reducible rfl)))); done)))
      refine HW_norm (Norm.headS (own := []) (keep := [1, 2, 4, 7, 8, 10, 11, 12, 14, 48, 49, 64, 65]) (by refine ⟨?_, ?_⟩; (simp (discharger := omega) only [go_sem, simprocAttr]; with_reducible rfl); refine ⟨?_, ?_, ?_, ?_⟩ <;> (simp only [go_sem, simprocAttr]; with_reducible rfl))) ?_
      refine HW_sw ?_
      refine SW_drawS (fun q => if q = 3 then some ⟨[.box [.t (tInt M.base), .t (tInt M.tracks), .t (tIntss M.next), .t (tBools M.ends)], .box [.sref 2], .row 26 1 true ws], [.t (.fn 57 []), .t (tInts d)], [.box [.t (tInt M.base), .t (tInt M.tracks), .t (tIntss M.next), .t (tBools M.ends)], .box [.sref 2], .row 26 1 true ws, .row 3 1 true (iL d)], .sref 3, pastG [] []⟩ else if q = 7 then some ⟨[.box [.t (tInt M.base), .t (tInt M.tracks), .t (tIntss M.next), .t (tBools M.ends)], .box [.sref 2], .row 26 1 true ws, .row 3 1 true (iL d)], [.t (.fn 56 []), .sref 3, .t (tNat k), .lit [tInt (x : Int)]], [.froz (iL y), .box [.t (tInt M.base), .t (tInt M.tracks), .t (tIntss M.next), .t (tBools M.ends)], .box [.sref 3], .row 26 1 true ws], .t (tInts y), fun i => (posIn [3, 0, 1, 2] i).bind (pastG [.row 3 1 true (iL d)] [])⟩ else none) [3, 7] rfl ttR_ok hG htb (t := ?zt) ?topo ?hlk ?hok ?run ?rest
      case topo => kernel_rfl
      case hlk =>
        intro q L h
        by_cases h3 : q = 3
        · subst h3; simp
        · by_cases h7 : q = 7
          · subst h7; simp
          · simp [h3, h7] at h
      case hok =>
        intro q L o hL ho
        by_cases h3 : q = 3
        · subst h3
          rw [if_pos rfl] at hL
          cases hL
          cases ho
          exact LoudOk.call (asl := [.t (tInts d)]) (obs := []) (rst := [.box [.t (tInt M.base), .t (tInt M.tracks), .t (tIntss M.next), .t (tBools M.ends)], .box [.sref 2], .row 26 1 true ws]) (ks := []) (cap := []) rfl rfl rfl c6 rfl rfl
        · rw [if_neg h3] at hL
          by_cases h7 : q = 7
          · subst h7
            rw [if_pos rfl] at hL
            cases hL
            cases ho
            refine LoudOk.perm [3, 0, 1, 2] rfl (LoudOk.call (asl := [.sref 0, .t (tNat k), .lit [tInt (x : Int)]]) (obs := [.row 3 1 true (iL d)]) (rst := [.box [.t (tInt M.base), .t (tInt M.tracks), .t (tIntss M.next), .t (tBools M.ends)], .box [.sref 3], .row 26 1 true ws]) (ks := []) (cap := []) rfl rfl rfl c7 rfl rfl) rfl rfl ?_
            intro v hv
            simp [Op.operands, Call.operands] at hv
          · rw [if_neg h7] at hL
            cases hL
      case run =>
        (simp only [List.range, List.range.loop, List.size_toArray, List.length_cons, List.length_nil, Nat.reduceAdd]; repeat' (first | (with_reducible exact runA_nil) | ((with_reducible apply runA_cons); focus (first | (apply stepS_quietE rfl rfl rfl rfl; (focus (intro H; simp (discharger := omega) only [go_sem, autoP, tErr0, simprocAttr]; with_reducible rfl)); (focus rfl); (focus rfl); (focus (simp only [go_sem, simprocAttr]; with_reducible rfl))) | (apply stepS_loud rfl rfl rfl rfl rfl rfl; (focus (simp only [go_sem, loudSt, St.put, List.map_cons, List.map_nil, SV.ren, renL, pastG, posIn, Option.bind, List.getElem?_cons_zero, List.getElem?_cons_succ, List.getElem?_nil, simprocAttr]; with_reducible rfl)))))))
      case rest =>
        refine HThen_n ?_
        refine HW_norm (Norm.headS (own := []) (keep := [1, 2, 4, 7, 8, 10, 11, 12, 15, 48, 49, 64, 65]) (by refine ⟨?_, ?_⟩; (simp (discharger := omega) only [go_sem, simprocAttr]; with_reducible rfl); refine ⟨?_, ?_, ?_, ?_⟩ <;> (simp only [go_sem, simprocAttr]; with_reducible rfl))) ?_
        obtain ⟨sv, hsv⟩ : ∃ sv, ws[l]! = sv := ⟨_, rfl⟩
        have hhd := hinv.2 l hlt
        dsimp only at hhd
        rw [if_neg (by omega), if_pos rfl, hsv] at hhd
        obtain ⟨ra, rn, rc, rfl⟩ : ∃ ra rn rc, sv = .raw ra rn rc := by rcases hhd with ⟨_, _, h⟩ | ⟨q, _, _, _, _, h⟩ <;> exact ⟨_, _, _, h⟩
        have hcl : ((withR a.base t k l).take x).length ≤ 6 := by rw [List.length_take]; omega
        refine HW_drawH (A := ⟨8, .tmp 85, .tmp 87, .raw ra rn rc, [tInt v], l, 3, 1, iL ((withR a.base t k l).take x), g⟩) 10 rfl ttR_ok hG htb ?topo (t := 26) (i := ⟨.slice 3, 1, 24, [.t (.raw none 0 0)], false⟩) (ie := ⟨.int .i64, 1, 8, [.t (.int .i64 0)], false⟩) ⟨_, rfl, rfl, rfl⟩ rfl rfl (by show ttR 3 = _; rfl) rfl hhd rfl rfl ?hb ?hm rfl ?run2
        case topo => kernel_rfl
        case hb =>
          simp only [iL_length, List.length_cons, List.length_nil]
          show _ * 8 ≤ _
          omega
        case hm =>
          simp only [iL_length, List.length_cons, List.length_nil]
          unfold maxLen
          omega
        case run2 =>
          intro c
          have hst := hinv.step hlt v c (cont' := fun j => if j < l then withR a.base t k j else if j = l then (withR a.base t k l).take (x + 1) else []) (by rw [if_neg (by omega), if_pos rfl, if_neg (by omega), if_pos rfl, withR_take ok.rad hxr, hv]) (fun j h1 h2 => by
            by_cases h : j < l
            · rw [if_pos h, if_pos h]
            · rw [if_neg h, if_neg h, if_neg h1, if_neg h1])
          rw [if_neg (by omega), if_pos rfl] at hst
          refine ⟨?t2, ?r1, ?r2⟩
          case r1 =>
            (simp only [List.range, List.range.loop, List.size_toArray, List.length_cons, List.length_nil, Nat.reduceAdd]; repeat' (first | (with_reducible exact runA_nil) | ((with_reducible apply runA_cons); focus (first | (apply stepH_q rfl (by simp) (by simp) rfl rfl; (focus (simp (discharger := omega) only [go_sem, hsv, simprocAttr]; with_reducible rfl)); (focus (simp only [go_sem, simprocAttr]; with_reducible rfl))) | (apply stepH_a rfl rfl rfl rfl rfl rfl rfl; (focus (simp only [go_sem, simprocAttr]; with_reducible rfl))) | (apply stepH_l rfl (by simp) rfl; (focus (simp (discharger := omega) only [go_sem, hsv, simprocAttr]; with_reducible rfl)))))))
          case r2 =>
            dsimp only
            repeat' (first | (with_reducible first | apply v1 | apply v2 | apply v3 | apply v4 | apply v5 | apply v6 | apply v7 | apply v8 | apply v9 | apply va | apply vb | apply vc) | ((with_reducible apply vd); focus decide) | ((with_reducible apply ve); focus exact rfl) | ((with_reducible apply vf); focus exact rfl) | ((first | (with_reducible apply HW_run ttR_ok hG htb) | ((with_reducible apply HW_draw rfl ttR_ok hG htb); (focus kernel_rfl); focus simp only [List.range, List.range.loop, List.size_toArray, List.length_cons, List.length_nil, Nat.reduceAdd])); focus ((repeat' (first | (with_reducible first | exact wg | exact wh) | ((with_reducible first | apply wi | apply wj); focus (simp (discharger := omega) only [go_sem, simprocAttr]; with_reducible rfl)))); done)))
            exact ⟨r - (x + 1), _, by omega, Norm.headS (own := []) (keep := [1, 2, 4, 7, 8, 10, 11, 12, 48, 49, 64, 65]) (by refine ⟨?_, ?_⟩; (simp (discharger := omega) only [go_sem, simprocAttr]; with_reducible rfl); refine ⟨?_, ?_, ?_, ?_⟩ <;> (simp only [go_sem, simprocAttr]; with_reducible rfl)), x + 1, _, rfl, rfl, by omega, hst⟩
    · obtain rfl : x = r := by omega
      have htk : (withR a.base t k l).take x = withR a.base t k l := List.take_of_length_le (by rw [withR_len ok.rad]; exact Nat.le_refl _)
      repeat' (first | (with_reducible first | apply v1 | apply v2 | apply v3 | apply v4 | apply v5 | apply v6 | apply v7 | apply v8 | apply v9 | apply va | apply vb | apply vc) | ((with_reducible apply vd); focus decide) | ((with_reducible apply ve); focus exact rfl) | ((with_reducible apply vf); focus exact rfl) | ((first | (with_reducible apply HW_run ttR_ok hG htb) | ((with_reducible apply HW_draw rfl ttR_ok hG htb); (focus kernel_rfl); focus simp only [List.range, List.range.loop, List.size_toArray, List.length_cons, List.length_nil, Nat.reduceAdd])); focus ((repeat' (first | (with_reducible first | exact wg | exact wh) | ((with_reducible first | apply wi | apply wj); focus (simp (discharger := omega) only [go_sem, simprocAttr]; with_reducible rfl)))); done)))
      exact ⟨N - (l + 1), _, by omega, Norm.headS (own := []) (keep := [1, 2, 4, 7, 8, 10, 48, 49]) (by refine ⟨?_, ?_⟩; (simp (discharger := omega) only [go_sem, simprocAttr]; with_reducible rfl); refine ⟨?_, ?_, ?_, ?_⟩ <;> (simp only [go_sem, simprocAttr]; with_reducible rfl)), l + 1, _, rfl, rfl, by omega, hinv.congr fun j hj => by
        by_cases h : j < l
        · rw [if_pos (by omega), if_pos h]
        · by_cases h' : j = l
          · subst h'
            rw [if_pos (by omega), if_neg h, if_pos rfl, htk]
          · rw [if_neg (by omega), if_neg h, if_neg h']⟩
  · obtain rfl : l = N := by omega
    have hWl := withW_len ok
    obtain ⟨W, hWe⟩ : ∃ W, withW a.base t k = W := ⟨_, rfl⟩
    rw [hWe] at hWl
    have hWg : ∀ j, j < l → W[j]! = withR a.base t k j := fun j hj => by
      have := withW_get ok hj
      rw [hWe] at this
      obtain ⟨q1, q2⟩ := List.getElem?_eq_some_iff.1 this
      rw [getElem!_pos W j q1, q2]
    have hWr : ∀ w ∈ W, w.length = r ∧ ∀ x ∈ w, 0 ≤ x ∧ x < ((manyOf a.base a.tracks).toNat : Int) := fun w hw => by
      rw [← hWe] at hw
      unfold withW at hw
      obtain ⟨j, _, rfl⟩ := List.mem_map.1 hw
      exact ⟨withR_len ok.rad, withR_bd ok j⟩
    obtain ⟨o1, o2⟩ := (hinv.congr (cont' := fun j => W[j]!) (fun j hj => by rw [if_pos hj]; exact hWg j hj)).opens hWl (fun w hw e => by have := (hWr w hw).1; rw [e] at this; simp at this; omega)
    rw [hWe]
    refine HW_seq ?_
    repeat' (first | (with_reducible first | apply v2 | apply v3 | apply v4 | apply v5 | apply v6 | apply v7 | apply v8 | apply v9 | apply va | apply vb | apply vc) | ((with_reducible apply vd); focus decide) | ((with_reducible apply ve); focus exact rfl) | ((with_reducible apply vf); focus exact rfl) | ((first | (with_reducible apply HW_run ttR_ok hG htb) | ((with_reducible apply HW_draw rfl ttR_ok hG htb); (focus kernel_rfl); focus simp only [List.range, List.range.loop, List.size_toArray, List.length_cons, List.length_nil, Nat.reduceAdd])); focus ((repeat' (first | (with_reducible first | exact wg | exact wh) | ((with_reducible first | apply wi | apply wj); focus (simp (discharger := omega) only [go_sem, simprocAttr]; with_reducible rfl)))); done)))
    refine HW_seq ?_
    repeat' (first | (with_reducible first | apply v2 | apply v3 | apply v4 | apply v5 | apply v6 | apply v7 | apply v8 | apply v9 | apply va | apply vb | apply vc) | ((with_reducible apply vd); focus decide) | ((with_reducible apply ve); focus exact rfl) | ((with_reducible apply vf); focus exact rfl) | ((first | (with_reducible apply HW_run ttR_ok hG htb) | ((with_reducible apply HW_draw rfl ttR_ok hG htb); (focus kernel_rfl); focus simp only [List.range, List.range.loop, List.size_toArray, List.length_cons, List.length_nil, Nat.reduceAdd])); focus ((repeat' (first | (with_reducible first | exact wg | exact wh) | ((with_reducible first | apply wi | apply wj); focus (simp (discharger := omega) only [go_sem, simprocAttr]; with_reducible rfl)))); done)))
    refine HW_norm (Norm.headS (own := []) (keep := [1, 2, 4, 7, 8, 10]) (by refine ⟨?_, ?_⟩; (simp (discharger := omega) only [go_sem, simprocAttr]; with_reducible rfl); refine ⟨?_, ?_, ?_, ?_⟩ <;> (simp only [go_sem, simprocAttr]; with_reducible rfl))) ?_
    refine HW_open (κ' := Nat) (by exact GS_openRow (st := ⟨111, [(1, .t (tNat k)), (2, .t (autoP a)), (4, .bptr 0 0), (7, .t .nilI), (8, .t (tNat l)), (10, .bptr 1 0)], [.box [.t (tInt M.base), .t (tInt M.tracks), .t (tIntss M.next), .t (tBools M.ends)], .box [.sref 2], .row 26 1 true ws]⟩) (j := 2) (W.map tInts) rfl o1 o2) ?_
    clear o1 o2 hinv htb
    have htb : Tab.ok Try.prog G [] := Tab.nil
    refine SW_norm (Norm.frzRow 2 rfl) ?_
    refine SW_norm (Norm.trB 1 0 rfl rfl rfl) ?_
    refine SW_norm (Norm.fixBox 1 rfl rfl) ?_
    refine SW_norm (Norm.tr 10 rfl rfl) ?_
    refine SW_norm (Norm.headS (own := []) (keep := [1, 2, 4, 7, 8, 10]) (by refine ⟨?_, ?_⟩; (simp (discharger := omega) only [go_sem, simprocAttr]; with_reducible rfl); refine ⟨?_, ?_, ?_, ?_⟩ <;> (simp only [go_sem, simprocAttr]; with_reducible rfl))) ?_
    obtain ⟨w0, hw0⟩ : ∃ w0, W[0]! = w0 := ⟨_, rfl⟩
    have hw0W := bang_mem hw0 (by omega)
    have gMr := gM.rows
    have hm0 := gM.m0
    have hm80 := gM.m80
    obtain ⟨m, hm⟩ : ∃ m, M.next.length = m := ⟨_, rfl⟩
    rw [hm] at gMr hm0 hm80
    have c8 := closure_snd hG gMr hm0 hm80 (letters := w0) (hWr w0 hw0W).2
    have hIm : Inm m (closeL M w0) := close_in gMr hm0 (hWr w0 hw0W).2 _
    have hIl : (closeL M w0).length ≤ m := close_len gMr hm0 (hWr w0 hw0W).2 _
    have hWb : ∀ j, j < l → (W[j]!).length ≤ 6 := fun j hj => by
      have := (hWr _ (bang_mem (i := j) rfl (by omega))).1
      omega
    have c9 := GrowN_snd hG hm80 (closeL M w0) l 58 (.ptr [tIntss W]) (tInt M.base) (tInt M.tracks) (tIntss M.next) (tBools M.ends) (stepW M.next W) hIm (by omega) hN36 (fun s j hs hj => stepW_in gMr (fun q hq => (hWr q hq).2) hs (by omega)) (fun s j hs ha hj => by
      have := inm_len hs ha
      have h2 := stepW_len (next := M.next) (s := s) (hWb j hj)
      have h3 : s.length * 6 ≤ 80 * 6 := Nat.mul_le_mul_right _ (by omega)
      omega) (fun s j hs ha hj => LeftStep_snd hG gMr (fun q hq => ⟨by have := (hWr q hq).1; omega, (hWr q hq).2⟩) s hs (by have := inm_len hs ha; omega) j (by omega))
    rw [hw0]
    obtain ⟨R, hR⟩ : ∃ R, iL (closeL M w0) = R := ⟨_, rfl⟩
    rw [hR] at c8 c9
    obtain ⟨S, hS⟩ : ∃ S, growSets (stepW M.next W) l (closeL M w0) = S := ⟨_, rfl⟩
    obtain ⟨D, hD⟩ : ∃ D, growRows (stepW M.next W) l (closeL M w0) = D := ⟨_, rfl⟩
    obtain ⟨gk, hgk⟩ : ∃ gk, growOk (stepW M.next W) l (closeL M w0) = gk := ⟨_, rfl⟩
    rw [hS, hD, hgk] at c9
    rw [hS, hD]
    have hoke : leftOk a (k : Int) = gk := by unfold leftOk; rw [hM, hNe, hFe, hW, hWe, hw0]; exact hgk
    have hWlen : 0 < W.length := by omega
    show SW _ _ _ _ ⟨111, [(1, .t (tNat k)), (2, .t (autoP a)), (4, .bptr 0 0), (7, .t .nilI), (8, .t (tNat l)), (10, .t (.ptr [tIntss W]))], [.box [.t (tInt M.base), .t (tInt M.tracks), .t (tIntss M.next), .t (tBools M.ends)]]⟩
    refine SW_seq ?_
    refine SW_drawM (fun q => if q = 4 then some ⟨[.box [.t (tInt M.base), .t (tInt M.tracks), .t (tIntss M.next), .t (tBools M.ends)]], [.t (.fn 46 []), .t (tAuto M), .t (tInts w0)], [.box [.t (tInt M.base), .t (tInt M.tracks), .t (tIntss M.next), .t (tBools M.ends)], .row 3 1 true R], .sref 1, pastG [] []⟩ else if q = 7 then some ⟨[.box [.t (tInt M.base), .t (tInt M.tracks), .t (tIntss M.next), .t (tBools M.ends)], .row 3 1 true R], [.t (.fn 45 []), .sref 1, .t (tNat l), .fn 58 [.t (.ptr [tIntss W]), .bptr 0 0]], [.hole, .box [.t (tInt M.base), .t (tInt M.tracks), .t (tIntss M.next), .t (tBools M.ends)], .box [.t (tIntss S)]], .t (.tup [tIntss S, tIntss D, .bool gk]), fun i => (posIn [1, 0] i).bind (pastG [.row 3 1 true R, .box [.t (tInt M.base), .t (tInt M.tracks), .t (tIntss M.next), .t (tBools M.ends)]] [])⟩ else none) [4, 7] [4] [0] rfl ttR_ok hG htb (t := ?zt3) ?topo3 ?hlk3 ?hml3 ?hok3 ?run3 ?rest3
    case topo3 => kernel_rfl
    case hlk3 =>
      intro q L h
      by_cases h4 : q = 4
      · subst h4; simp
      · by_cases h7 : q = 7
        · subst h7; simp
        · simp [h4, h7] at h
    case hml3 =>
      intro q L h h4
      obtain rfl : q = 4 := by simpa using h4
      rw [if_pos rfl] at h
      cases h
      exact past_none
    case hok3 =>
      intro q L o hL ho
      by_cases h4 : q = 4
      · subst h4
        rw [if_pos rfl] at hL
        cases hL
        cases ho
        exact LoudOk.call (asl := [.t (tAuto M), .t (tInts w0)]) (obs := []) (rst := [.box [.t (tInt M.base), .t (tInt M.tracks), .t (tIntss M.next), .t (tBools M.ends)]]) (ks := []) (cap := []) rfl rfl rfl c8 rfl rfl
      · rw [if_neg h4] at hL
        by_cases h7 : q = 7
        · subst h7
          rw [if_pos rfl] at hL
          cases hL
          cases ho
          refine LoudOk.perm [1, 0] rfl (LoudOk.call (asl := [.sref 0, .t (tNat l), .fn 58 [.t (.ptr [tIntss W]), .bptr 1 0]]) (obs := [.row 3 1 true R, .box [.t (tInt M.base), .t (tInt M.tracks), .t (tIntss M.next), .t (tBools M.ends)]]) (rst := []) (ks := []) (cap := []) rfl rfl rfl c9 rfl rfl) rfl rfl ?_
          intro v hv
          simp [Op.operands, Call.operands] at hv
        · rw [if_neg h7] at hL
          cases hL
    case run3 =>
      (simp only [List.range, List.range.loop, List.size_toArray, List.length_cons, List.length_nil, Nat.reduceAdd]; repeat' (first | (with_reducible exact runA_nil) | ((with_reducible apply runA_cons); focus (first | (apply stepM_quiet rfl rfl rfl rfl; (focus (intro H; simp (discharger := omega) only [go_sem, tAuto, hw0, simprocAttr]; with_reducible rfl)); (focus (simp only [go_sem, simprocAttr]; with_reducible rfl))) | (apply stepM_own rfl rfl (by decide) rfl rfl; (focus (simp (discharger := omega) only [go_sem, tAuto, hw0, simprocAttr]; with_reducible rfl)); (focus (simp only [go_sem, simprocAttr]; with_reducible rfl))) | (apply stepM_loud rfl rfl rfl rfl rfl rfl; (focus (simp only [go_sem, loudSt, St.put, List.map_cons, List.map_nil, SV.ren, renL, pastG, posIn, Option.bind, List.getElem?_cons_zero, List.getElem?_cons_succ, List.getElem?_nil, simprocAttr]; with_reducible rfl)))))))
    case rest3 =>
      cases gk with
      | false =>
        have he : leftErr a (k : Int) = 3 := by unfold leftErr; rw [if_neg (fun q => q hf), if_neg (by omega), if_pos hoke]
        have hS0 : S = [] := by rw [← hS]; unfold growSets; rw [if_neg (by rw [hgk]; decide)]
        have hD0 : D = [] := by rw [← hD]; unfold growRows; rw [if_neg (by rw [hgk]; decide)]
        rw [he, hS0, hD0]
        repeat' (first | (with_reducible first | apply w1 | apply w2 | apply w3 | apply w4 | apply w5 | apply w6 | apply w7 | apply w8 | apply w9 | apply wa | apply wb | apply wc) | ((with_reducible apply wd); focus decide) | ((with_reducible apply we); focus exact rfl) | ((with_reducible apply wf); focus exact rfl) | ((first | (with_reducible apply SW_run tt_ok hG htb) | ((with_reducible apply SW_draw rfl tt_ok hG htb); (focus kernel_rfl); focus simp only [List.range, List.range.loop, List.size_toArray, List.length_cons, List.length_nil, Nat.reduceAdd])); focus ((repeat' (first | (with_reducible first | exact wg | exact wh) | ((with_reducible first | apply wi | apply wj); focus (simp (discharger := omega) only [go_sem, simprocAttr]; with_reducible rfl)))); done)))
        exact (by simp (discharger := omega) only [go_sem, tAuto, tErr, simprocAttr])
      | true =>
        have he : leftErr a (k : Int) = 0 := by unfold leftErr; rw [if_neg (fun q => q hf), if_neg (by omega), if_neg (by rw [hoke]; decide)]
        rw [he]
        repeat' (first | (with_reducible first | apply w1 | apply w2 | apply w3 | apply w4 | apply w5 | apply w6 | apply w7 | apply w8 | apply w9 | apply wa | apply wb | apply wc) | ((with_reducible apply wd); focus decide) | ((with_reducible apply we); focus exact rfl) | ((with_reducible apply wf); focus exact rfl) | ((first | (with_reducible apply SW_run tt_ok hG htb) | ((with_reducible apply SW_draw rfl tt_ok hG htb); (focus kernel_rfl); focus simp only [List.range, List.range.loop, List.size_toArray, List.length_cons, List.length_nil, Nat.reduceAdd])); focus ((repeat' (first | (with_reducible first | exact wg | exact wh) | ((with_reducible first | apply wi | apply wj); focus (simp (discharger := omega) only [go_sem, simprocAttr]; with_reducible rfl)))); done)))
        exact (by simp (discharger := omega) only [go_sem, tAuto, tErr, simprocAttr])
end
end Go.Proofs.Ythcclcbliedodaa
namespace Go.Proofs.Ythcclcbliedodaa
open Go.RowKit

/-- What is known where nothing is wrong. -/
structure LeftIs (a : GAuto) (k t N nW r m : Nat) : Prop where
  ok : LeftOk a k t N nW r
  M : Good (leastA a) N m
  Wlen : (withW a.base t k).length = nW
  Wrow : ∀ w ∈ withW a.base t k, w.length = r ∧ ∀ x ∈ w, 0 ≤ x ∧ x < (N : Int)
  W : leftW a (k : Int) = withW a.base t k
  n : leftN a = nW
  first : Inm m (closeL (leastA a) ((withW a.base t k)[0]!))
  F : leftF a (k : Int) = closeL (leastA a) ((withW a.base t k)[0]!)
  len : (leftR a k).length = (leftS a k).length
  pos : 0 < (leftS a k).length
  few : (leftS a k).length ≤ 2000
  rows : Rows0 nW (leftS a k).length (leftR a k)
  sets : ∀ s ∈ leftS a k, Inm m s ∧ s.Pairwise (· < ·)
  gok : growOk (stepW (leastA a).next (withW a.base t k)) nW (closeL (leastA a) ((withW a.base t k)[0]!)) = true
  expl : Expl (nextD (stepW (leastA a).next (withW a.base t k))) nW (leftS a k) (leftR a k)
  start : (leftS a k)[0]! = canonL (closeL (leastA a) ((withW a.base t k)[0]!))
theorem leftErr_zero {a : GAuto} {track : Int} (h : leftErr a track = 0) : autoFault a = 0 ∧ 0 ≤ track ∧ track < a.tracks ∧ leftOk a track = true := by
  unfold leftErr at h
  split at h
  · rename_i h1; exact (h1 h).elim
  · rename_i h1
    split at h
    · omega
    · rename_i h2
      split at h
      · omega
      · rename_i h3
        exact ⟨Classical.not_not.1 h1, by omega, by omega, by simpa using h3⟩
theorem left_is {a : GAuto} {k : Nat} (h : leftErr a (k : Int) = 0) : ∃ t N nW r m, LeftIs a k t N nW r m := by
  obtain ⟨hf, _, hkt, hok⟩ := leftErr_zero h
  obtain ⟨t, nW, r, ok⟩ := left_ok hf hkt
  obtain ⟨_, _, gM⟩ := least_again (good_of hf)
  have htt : a.tracks - 1 = ((t : Nat) : Int) := by have := ok.tr; omega
  have hW : leftW a (k : Int) = withW a.base t k := by unfold leftW; rw [htt]; rfl
  have hNe : leftN a = nW := by unfold leftN; rw [htt, Int.toNat_natCast, ok.nWe, Int.toNat_natCast]
  have hFe : leftF a (k : Int) = closeL (leastA a) ((withW a.base t k)[0]!) := by unfold leftF; rw [hW]
  have hb : ¬ leftBad a (k : Int) := fun q => by
    rcases q with q | q | q
    · exact q hf
    · omega
    · omega
  have hS : leftS a (k : Int) = growSets (stepW (leastA a).next (withW a.base t k)) nW (closeL (leastA a) ((withW a.base t k)[0]!)) := by
    unfold leftS; rw [if_neg hb, hW, hNe, hFe]
  have hR : leftR a (k : Int) = growRows (stepW (leastA a).next (withW a.base t k)) nW (closeL (leastA a) ((withW a.base t k)[0]!)) := by
    unfold leftR; rw [if_neg hb, hW, hNe, hFe]
  have hg : growOk (stepW (leastA a).next (withW a.base t k)) nW (closeL (leastA a) ((withW a.base t k)[0]!)) = true := by
    unfold leftOk at hok; rw [hW, hNe, hFe] at hok; exact hok
  have hWl := withW_len ok
  have hWr : ∀ w ∈ withW a.base t k, w.length = r ∧ ∀ x ∈ w, 0 ≤ x ∧ x < ((manyOf a.base a.tracks).toNat : Int) := fun w hw => by
    unfold withW at hw
    obtain ⟨j, _, rfl⟩ := List.mem_map.1 hw
    exact ⟨withR_len ok.rad, withR_bd ok j⟩
  have hn0 := ok.nW0
  have hIm : Inm (leastA a).next.length (closeL (leastA a) ((withW a.base t k)[0]!)) := close_in gM.rows gM.m0 (hWr _ (bang_mem (l := withW a.base t k) (i := 0) rfl (by omega))).2 _
  obtain ⟨f1, f2, f3, f4, f5, f6⟩ := grow_facts hg
  have fS := grow_inm (n := nW) (stp := stepW (leastA a).next (withW a.base t k)) hIm (fun s l hs hl => stepW_in gM.rows (fun q hq => (hWr q hq).2) hs (by rw [hWl]; exact hl))
  rw [← hS] at f1 f2 f3 f4 f5 f6 fS
  rw [← hR] at f1 f4 f6
  exact ⟨t, _, nW, r, _, ok, gM, hWl, hWr, hW, hNe, hIm, hFe, f1, f2, f3, f4, fS, hg, f6, f5⟩
noncomputable def someE (a : GAuto) (track : Int) : List Bool := (leftS a track).map fun s => s.any (endOf (leastA a).ends)
noncomputable def someRE (a : GAuto) (track : Int) : List (List Int) × List Bool := leastRE (leftN a) (leftR a track) (someE a track)
open Classical in
noncomputable def someErr (a : GAuto) (track : Int) : Int := if leftErr a track ≠ 0 then leftErr a track else if (someRE a track).1.length ≤ 80 then 0 else 3
open Classical in
noncomputable def someA (a : GAuto) (track : Int) : GAuto := if someErr a track = 0 then ⟨a.base, a.tracks - 1, (someRE a track).1, (someRE a track).2⟩ else GAuto.zero
section
variable {G : World → Prop} (hG : Lasting G)
include hG
theorem SomeEnd_snd {a : GAuto} {m : Nat} (h : a.ends.length = m) (x : Int) (hx : 0 ≤ x ∧ x < (m : Int)) : Snd Try.prog G 43 ([tInt x] ++ [autoP a]) (.bool (endOf a.ends x)) := by
  have htb : Tab.ok Try.prog G [] := Tab.nil
  refine snd_of_body (n := 9) (tm := [(0, .t (tInt x)), (1, .t (autoP a))]) (rs := [.tmp 3]) tt_ok Try.func43 rfl rfl rfl rfl rfl ?_
  obtain ⟨b, hb⟩ : ∃ b, a.ends[x.toNat]! = b := ⟨_, rfl⟩
  have he : endOf a.ends x = b := by unfold endOf; exact bang_D hb (by omega)
  rw [he]
  repeat' (first | (with_reducible first | apply w1 | apply w2 | apply w3 | apply w4 | apply w5 | apply w6 | apply w7 | apply w8 | apply w9 | apply wa | apply wb | apply wc) | ((with_reducible apply wd); focus decide) | ((with_reducible apply we); focus exact rfl) | ((with_reducible apply wf); focus exact rfl) | ((first | (with_reducible apply SW_run tt_ok hG htb) | ((with_reducible apply SW_draw rfl tt_ok hG htb); (focus kernel_rfl); focus simp only [List.range, List.range.loop, List.size_toArray, List.length_cons, List.length_nil, Nat.reduceAdd])); focus ((repeat' (first | (with_reducible first | exact wg | exact wh) | ((with_reducible first | apply wi | apply wj); focus (simp (discharger := omega) only [go_sem, autoP, hb, simprocAttr]; with_reducible rfl)))); done)))
  exact (by simp (discharger := omega) only [go_sem, simprocAttr])
set_option maxHeartbeats 8000000 in
set_option maxRecDepth 100000 in
theorem Some_snd (a : GAuto) (track : Int) : Snd Try.prog G 20 [tAuto a, tInt track] (.tup [tAuto (someA a track), tErr (someErr a track)]) := by
  have c1 := left_snd hG a track
  refine snd_of_body (n := 42) (tm := [(0, .t (tAuto a)), (1, .t (tInt track))]) (rs := [.cell 4 25, .tmp 5]) tt_ok Try.func20 rfl rfl rfl rfl rfl ?_
  by_cases h0 : leftErr a track = 0
  rotate_left
  · have he : someErr a track = leftErr a track := if_pos h0
    have hz : someA a track = GAuto.zero := by unfold someA; rw [he, if_neg h0]
    rw [he, hz]
    generalize leftErr a track = e at *
    generalize leastOf a = M at *
    generalize leftS a track = S at *
    generalize leftR a track = R at *
    have htb := Tab.cons c1 Tab.nil
    repeat' (first | (with_reducible first | apply w1 | apply w2 | apply w3 | apply w4 | apply w5 | apply w6 | apply w7 | apply w8 | apply w9 | apply wa | apply wb | apply wc) | ((with_reducible apply wd); focus decide) | ((with_reducible apply we); focus exact rfl) | ((with_reducible apply wf); focus exact rfl) | ((first | (with_reducible apply SW_run tt_ok hG htb) | ((with_reducible apply SW_draw rfl tt_ok hG htb); (focus kernel_rfl); focus simp only [List.range, List.range.loop, List.size_toArray, List.length_cons, List.length_nil, Nat.reduceAdd])); focus ((repeat' (first | (with_reducible first | exact wg | exact wh) | ((with_reducible first | apply wi | apply wj); focus (simp (discharger := omega) only [go_sem, tAuto, tErr, h0, simprocAttr]; with_reducible rfl)))); done)))
    exact (by simp (discharger := omega) only [go_sem, tAuto, tErr, h0, GAuto.zero, simprocAttr])
  obtain ⟨hf, hk0, _, _⟩ := leftErr_zero h0
  obtain ⟨k, rfl⟩ : ∃ k : Nat, track = (k : Int) := ⟨track.toNat, by omega⟩
  obtain ⟨t, N, nW, r, m, L⟩ := left_is h0
  have hlA : leastOf a = leastA a := if_pos hf
  have htt : a.tracks - 1 = ((t : Nat) : Int) := by have := L.ok.tr; omega
  have htr := L.ok.tr
  have ht4 := L.ok.t4
  have hne := L.n
  have hpos := L.pos
  have hfew := L.few
  have hrows := L.rows
  have hsets := L.sets
  have gM := L.M
  have hrl := L.len
  have hn36 := L.ok.nW36
  rw [h0, hlA] at c1
  have hsE : someE a (k : Int) = (leftS a (k : Int)).map fun s => s.any (endOf (leastA a).ends) := rfl
  have hRE : someRE a (k : Int) = leastRE nW (leftR a (k : Int)) (someE a (k : Int)) := by unfold someRE; rw [hne]
  have he0 : someErr a (k : Int) = if (someRE a (k : Int)).1.length ≤ 80 then 0 else 3 := by unfold someErr; rw [if_neg (fun q => q h0)]
  have hz0 : someA a (k : Int) = if someErr a (k : Int) = 0 then ⟨a.base, a.tracks - 1, (someRE a (k : Int)).1, (someRE a (k : Int)).2⟩ else GAuto.zero := rfl
  rw [hz0, he0, hRE, htt, hsE]
  clear he0 hz0 hRE hsE
  generalize leastA a = M at *
  generalize leftS a (k : Int) = S at *
  generalize leftR a (k : Int) = R at *
  have htb := Tab.cons c1 Tab.nil
  repeat' (first | (with_reducible first | apply w1 | apply w2 | apply w3 | apply w4 | apply w5 | apply w6 | apply w7 | apply w8 | apply w9 | apply wa | apply wb | apply wc) | ((with_reducible apply wd); focus decide) | ((with_reducible apply we); focus exact rfl) | ((with_reducible apply wf); focus exact rfl) | ((first | (with_reducible apply SW_run tt_ok hG htb) | ((with_reducible apply SW_draw rfl tt_ok hG htb); (focus kernel_rfl); focus simp only [List.range, List.range.loop, List.size_toArray, List.length_cons, List.length_nil, Nat.reduceAdd])); focus ((repeat' (first | (with_reducible first | exact wg | exact wh) | ((with_reducible first | apply wi | apply wj); focus (simp (discharger := omega) only [go_sem, tAuto, tErr0, simprocAttr]; with_reducible rfl)))); done)))
  clear htb
  refine SW_norm (Norm.headS (own := []) (keep := [2, 4, 5, 6, 7, 8, 9]) (by refine ⟨?_, ?_⟩; (simp (discharger := omega) only [go_sem, simprocAttr]; with_reducible rfl); refine ⟨?_, ?_, ?_, ?_⟩ <;> (simp only [go_sem, simprocAttr]; with_reducible rfl))) ?_
  refine SW_norm (Norm.fixBox 0 rfl rfl) ?_
  refine SW_norm (Norm.fixBox 2 rfl rfl) ?_
  refine SW_norm (Norm.tr 2 rfl rfl) ?_
  refine SW_norm (Norm.tr 6 rfl rfl) ?_
  refine SW_norm (Norm.headS (own := []) (keep := [2, 4, 5, 6, 7, 8, 9]) (by refine ⟨?_, ?_⟩; (simp (discharger := omega) only [go_sem, simprocAttr]; with_reducible rfl); refine ⟨?_, ?_, ?_, ?_⟩ <;> (simp only [go_sem, simprocAttr]; with_reducible rfl))) ?_
  have c2 := Ends_snd hG S (by omega) 43 [autoP M] (endOf M.ends) (fun s hs x hx => SomeEnd_snd hG gM.ends x ((hsets s hs).1 x hx))
  obtain ⟨E, hE⟩ : ∃ E, (S.map fun s => s.any (endOf M.ends)) = E := ⟨_, rfl⟩
  rw [hE] at c2
  have hEl : E.length = S.length := by rw [← hE, List.length_map]
  have c3 := Shrink_snd hG a.base (t : Int) hrows hpos (by omega) (ends := E) hEl (by omega)
  rw [hE]
  have hmap : [autoP M] = [.ptr [.int .i64 M.base, .int .i64 M.tracks, tIntss M.next, tBools M.ends]] := rfl
  have htb := Tab.cons c2 (Tab.cons c3 Tab.nil)
  by_cases h80 : (leastRE nW R E).1.length ≤ 80
  · have hsh : shrinkT a.base (t : Int) nW R E = .tup [tAuto ⟨a.base, (t : Int), (leastRE nW R E).1, (leastRE nW R E).2⟩, .bool true] := if_pos h80
    rw [if_pos h80, if_pos rfl]
    rw [hsh] at htb c3
    generalize leastRE nW R E = RE at *
    refine SW_norm (Norm.hole _) ?_
    (with_reducible apply SW_drawA [(13, 1)] rfl tt_ok hG htb)
    · kernel_rfl
    · simp only [List.range, List.range.loop, List.size_toArray, List.length_cons, List.length_nil, Nat.reduceAdd]
      repeat' (first | (with_reducible exact runG_nil) | ((with_reducible apply runG_cons); focus (simp (discharger := omega) only [go_sem, autoP, tAuto, htt, simprocAttr]; with_reducible rfl)))
    repeat' (first | (with_reducible first | apply w1 | apply w2 | apply w3 | apply w4 | apply w5 | apply w6 | apply w7 | apply w8 | apply w9 | apply wa | apply wb | apply wc) | ((with_reducible apply wd); focus decide) | ((with_reducible apply we); focus exact rfl) | ((with_reducible apply wf); focus exact rfl) | ((first | (with_reducible apply SW_run tt_ok hG htb) | ((with_reducible apply SW_draw rfl tt_ok hG htb); (focus kernel_rfl); focus simp only [List.range, List.range.loop, List.size_toArray, List.length_cons, List.length_nil, Nat.reduceAdd])); focus ((repeat' (first | (with_reducible first | exact wg | exact wh) | ((with_reducible first | apply wi | apply wj); focus (simp (discharger := omega) only [go_sem, autoP, tAuto, tErr0, simprocAttr]; with_reducible rfl)))); done)))
    exact (by simp (discharger := omega) only [go_sem, tAuto, tErr0, simprocAttr])
  · have hsh : shrinkT a.base (t : Int) nW R E = .tup [tAuto GAuto.zero, .bool false] := if_neg h80
    rw [if_neg h80, if_neg (by decide)]
    rw [hsh] at htb c3
    refine SW_norm (Norm.hole _) ?_
    (with_reducible apply SW_drawA [(13, 1)] rfl tt_ok hG htb)
    · kernel_rfl
    · simp only [List.range, List.range.loop, List.size_toArray, List.length_cons, List.length_nil, Nat.reduceAdd]
      repeat' (first | (with_reducible exact runG_nil) | ((with_reducible apply runG_cons); focus (simp (discharger := omega) only [go_sem, autoP, tAuto, htt, simprocAttr]; with_reducible rfl)))
    repeat' (first | (with_reducible first | apply w1 | apply w2 | apply w3 | apply w4 | apply w5 | apply w6 | apply w7 | apply w8 | apply w9 | apply wa | apply wb | apply wc) | ((with_reducible apply wd); focus decide) | ((with_reducible apply we); focus exact rfl) | ((with_reducible apply wf); focus exact rfl) | ((first | (with_reducible apply SW_run tt_ok hG htb) | ((with_reducible apply SW_draw rfl tt_ok hG htb); (focus kernel_rfl); focus simp only [List.range, List.range.loop, List.size_toArray, List.length_cons, List.length_nil, Nat.reduceAdd])); focus ((repeat' (first | (with_reducible first | exact wg | exact wh) | ((with_reducible first | apply wi | apply wj); focus (simp (discharger := omega) only [go_sem, autoP, tAuto, simprocAttr]; with_reducible rfl)))); done)))
    exact (by simp (discharger := omega) only [go_sem, tAuto, tErr, GAuto.zero, simprocAttr])
end
end Go.Proofs.Ythcclcbliedodaa
namespace Go.Proofs.Ythcclcbliedodaa
open Go.RowKit

section
variable {G : World → Prop} (hG : Lasting G)
include hG
end
end Go.Proofs.Ythcclcbliedodaa
namespace Go.Proofs.Ythcclcbliedodaa
open Go.RowKit

/-- What words of some letters lead to. -/
inductive Rch (a : GAuto) (letters : List Int) : Int → Prop
  | zero : Rch a letters 0
  | step (s : Int) (j : Nat) (h : Rch a letters s) (hj : j < letters.length) : Rch a letters (closeD a letters s j)
theorem rch_of_closed {a : GAuto} {letters C : List Int} (h0 : (0 : Int) ∈ C) (hc : ∀ s ∈ C, ∀ j, j < letters.length → closeD a letters s j ∈ C) {x : Int} (h : Rch a letters x) : x ∈ C := by
  induction h with
  | zero => exact h0
  | step s j _ hj ih => exact hc s ih j hj
theorem closeL_mem {a : GAuto} {n m : Nat} (h : Rows0 n m a.next) (hm : 0 < m) {letters : List Int} (hl : ∀ l ∈ letters, 0 ≤ l ∧ l < (n : Int)) (x : Int) : x ∈ closeL a letters ↔ Rch a letters x := by
  have hlen := close_len h hm hl a.next.length
  have hfix : (growS (closeD a letters) letters.length 0 a.next.length).length ≤ a.next.length := by rw [h.len] at hlen ⊢; exact hlen
  unfold closeL
  constructor
  · exact growS_in' (p := Rch a letters) .zero (fun s j hj hs => .step s j hs hj) _ x
  · refine rch_of_closed (List.mem_of_getElem? (growS_zero _)) fun s hs j hj => ?_
    obtain ⟨i, hi⟩ := List.mem_iff_getElem?.1 hs
    have := growS_done (δ := closeD a letters) (n := letters.length) (s0 := 0) a.next.length i s (by have := (List.getElem?_eq_some_iff.1 hi).1; omega) hi j hj
    exact this
section
variable {G : World → Prop} (hG : Lasting G)
include hG
end
end Go.Proofs.Ythcclcbliedodaa
namespace Go.Proofs.Ythcclcbliedodaa

def walkOk (c : Nat → Nat → Bool) : Nat → List Nat → Bool
  | _, [] => true
  | s, l :: w => !c s l && walkOk c l w
def chain (c : Nat → Nat → Bool) : List Nat → Bool
  | [] => true
  | x :: w => walkOk c x w
/-- Two letters that have a digit 1 on the same track, in base Fib. -/
def clash (base : Int) (t s l : Nat) : Bool := base == 1 && (List.range t).any fun k => digitAt (radix base) t (s : Int) k == 1 && digitAt (radix base) t (l : Int) k == 1
end Go.Proofs.Ythcclcbliedodaa
namespace Go.Proofs.Ythcclcbliedodaa

/-- The least rows and ends of a language. -/
noncomputable def leastL (n : Nat) (L : List Nat → Bool) : List (List Int) × List Bool := open Classical in if h : ∃ p : List (List Int) × List Bool, Least n p.1 p.2 L then Classical.choose h else ([], [])
theorem leastL_eq {n : Nat} {N : List (List Int)} {E : List Bool} {L : List Nat → Bool} (h : Least n N E L) : leastL n L = (N, E) := by
  have hx : ∃ p : List (List Int) × List Bool, Least n p.1 p.2 L := ⟨(N, E), h⟩
  unfold leastL
  rw [dif_pos hx]
  have := (Classical.choose_spec hx).unique h
  exact Prod.ext this.1 this.2
/-- Some table takes this language. -/
def Regular (n : Nat) (L : List Nat → Bool) : Prop := ∃ N E, Least n N E L
theorem Regular.of {n m : Nat} {next : List (List Int)} {ends : List Bool} {L : List Nat → Bool} (hR : Rows0 n m next) (hm : 0 < m) (h : ∀ w, Ltr n w → lang next ends 0 w = L w) : Regular n L :=
  ⟨_, _, (leastRE_spec (ends := ends) hR hm).1.lang_congr h⟩
theorem Regular.least {n : Nat} {L : List Nat → Bool} (h : Regular n L) : Least n (leastL n L).1 (leastL n L).2 L := by
  obtain ⟨N, E, h⟩ := h
  rw [leastL_eq h]; exact h
/-- A least automaton has no more states than words have kinds. -/
theorem Least.bound {n : Nat} {N : List (List Int)} {E : List Bool} {L : List Nat → Bool} (h : Least n N E L) (K : Nat) (κ : List Nat → Nat) (hκ : ∀ v, Ltr n v → κ v < K)
    (hres : ∀ v w, Ltr n v → Ltr n w → κ v = κ w → ∀ x, Ltr n x → L (v ++ x) = L (w ++ x)) : N.length ≤ K := by
  have hreach : ∀ k s, s ≤ k → s < N.length → ∃ v, Ltr n v ∧ runN (fun k l => ((N.getD k []).getD l 0).toNat) 0 v = s := by
    intro k
    induction k with
    | zero => intro s hs _; exact ⟨[], fun _ h => by simp at h, by rw [show s = 0 by omega]; rfl⟩
    | succ k ih =>
      intro s hs hlt
      by_cases h0 : s = 0
      · subst h0; exact ⟨[], fun _ h => by simp at h, rfl⟩
      · obtain ⟨q, l, hq, hl, e⟩ := h.canon.reach s (by omega) hlt
        obtain ⟨v, hv, ev⟩ := ih q (by omega) (by omega)
        refine ⟨v ++ [l], fun x hx => ?_, ?_⟩
        · rcases List.mem_append.1 hx with hx | hx
          · exact hv x hx
          · simp at hx; subst hx; exact hl
        · unfold runN at ev ⊢
          rw [List.foldl_append, ev]; exact e
  have hr : ∀ s, ∃ v, s < N.length → Ltr n v ∧ runN (fun k l => ((N.getD k []).getD l 0).toNat) 0 v = s := fun s => by
    by_cases hs : s < N.length
    · obtain ⟨v, hv⟩ := hreach s s (Nat.le_refl _) hs
      exact ⟨v, fun _ => hv⟩
    · exact ⟨[], fun h => (hs h).elim⟩
  obtain ⟨f, hf⟩ := Classical.axiomOfChoice hr
  have := nodup_boundN K ((List.range N.length).map fun s => κ (f s)) (by
    refine List.pairwise_map.2 (List.nodup_range.imp_of_mem fun {s q} hs hq hne e => hne ?_)
    have hs := List.mem_range.1 hs
    have hq := List.mem_range.1 hq
    obtain ⟨h1, h2⟩ := hf s hs
    obtain ⟨h3, h4⟩ := hf q hq
    refine h.canon.red s q hs hq fun x hx => ?_
    have := hres _ _ h1 h3 e x hx
    have app : ∀ v, Ltr n v → Ltr n (v ++ x) := fun v hv y hy => by
      rcases List.mem_append.1 hy with hy | hy
      · exact hv y hy
      · exact hx y hy
    rw [← h.canon.lang _ (app _ h1), ← h.canon.lang _ (app _ h3)] at this
    unfold runN at this h2 h4 ⊢
    rw [List.foldl_append, List.foldl_append, h2, h4] at this
    exact this) fun k hk => by
      obtain ⟨s, hs, rfl⟩ := List.mem_map.1 hk
      exact hκ _ (hf s (List.mem_range.1 hs)).1
  simpa using this

section
variable {base : Int} {t n m : Nat} {next : List (List Int)} {ends : List Bool}
end

/-- Rows with a state ahead that waits for what is no 0. -/
def lateRow (r : List Int) : List Int := (List.range r.length).map fun x => if x = 0 then 0 else r.getD x 0 + 1
def late (next : List (List Int)) : List (List Int) := lateRow (next.getD 0 []) :: next.map fun r => r.map (· + 1)
section
variable {k m : Nat} {next : List (List Int)}
theorem late_nx0 (h : Rows0 k m next) (hm : 0 < m) {l : Nat} (hl : l < k) : nx (late next) 0 l = if l = 0 then 0 else nx next 0 l + 1 := by
  have h1 : next.getD 0 [] ∈ next := by rw [getD_lt (by have := h.len; omega)]; exact List.getElem_mem _
  have h2 := h.row _ h1
  show (lateRow (next.getD 0 [])).getD l 0 = if l = 0 then 0 else (next.getD 0 []).getD l 0 + 1
  unfold lateRow
  rw [List.getD_eq_getElem?_getD, List.getElem?_map, List.getElem?_range (by omega)]
  rfl
theorem late_nx (h : Rows0 k m next) {s : Int} (hs : 0 ≤ s ∧ s < (m : Int)) {l : Nat} (hl : l < k) : nx (late next) (s + 1) l = nx next s l + 1 := by
  obtain ⟨i, rfl⟩ := Int.eq_ofNat_of_zero_le hs.1
  have hi : i < next.length := by have := h.len; omega
  have h2 := h.row _ (List.getElem_mem hi)
  show (rowOf (late next) (i + 1)).getD l 0 = (rowOf next i).getD l 0 + 1
  have e1 : rowOf (late next) ((i : Int) + 1) = (next[i]).map (· + 1) := by
    unfold rowOf late
    rw [show ((i : Int) + 1).toNat = i + 1 by omega, List.getD_cons_succ, List.getD_eq_getElem?_getD, List.getElem?_map, List.getElem?_eq_getElem hi]
    rfl
  have e2 : rowOf next (i : Int) = next[i] := by
    unfold rowOf
    rw [Int.toNat_natCast, getD_lt hi]
  rw [e1, e2, getD_lt (by simpa using h2 ▸ hl), getD_lt (by omega)]
  simp
theorem late_run (h : Rows0 k m next) : ∀ (w : List Nat) (s : Int), (0 ≤ s ∧ s < (m : Int)) → Ltr k w → runS (late next) (s + 1) w = runS next s w + 1
  | [], _, _, _ => rfl
  | l :: w, s, hs, hw => by
    show runS (late next) (nx (late next) (s + 1) l) w = runS next (nx next s l) w + 1
    rw [late_nx h hs (hw l List.mem_cons_self)]
    exact late_run h w _ (nx_ok h hs (hw l List.mem_cons_self)) fun x hx => hw x (List.mem_cons_of_mem _ hx)
theorem late_zeros (h : Rows0 k m next) (hm : 0 < m) (hk : 0 < k) : ∀ (j : Nat) (w : List Nat), runS (late next) 0 (List.replicate j 0 ++ w) = runS (late next) 0 w
  | 0, w => rfl
  | j + 1, w => by
    show runS (late next) (nx (late next) 0 0) (List.replicate j 0 ++ w) = _
    rw [late_nx0 h hm hk, if_pos rfl]
    exact late_zeros h hm hk j w
end

section
variable {A B : List (List Int)} {f g : Nat → Nat} {n n1 n2 ma mb : Nat}
end
end Go.Proofs.Ythcclcbliedodaa
namespace Go.Proofs.Ythcclcbliedodaa
open Go.RowKit

noncomputable def closeN (a : GAuto) : Nat := (manyOf a.base a.tracks).toNat
noncomputable def closeS (a : GAuto) : List (List Int) := growSets (stepF (leastA a).next) (closeN a) (closeL (leastA a) [0])
noncomputable def closeR (a : GAuto) : List (List Int) := growRows (stepF (leastA a).next) (closeN a) (closeL (leastA a) [0])
noncomputable def closeOk (a : GAuto) : Bool := growOk (stepF (leastA a).next) (closeN a) (closeL (leastA a) [0])
noncomputable def closeRE (a : GAuto) : List (List Int) × List Bool := leastRE (closeN a) (closeRows (closeR a)) (closeEnds (leastA a).ends (closeS a))
noncomputable def closeErr (a : GAuto) : Int := if autoFault a ≠ 0 then autoFault a else if closeOk a = false then 3 else if (closeRE a).1.length ≤ 80 then 0 else 3
noncomputable def closeA (a : GAuto) : GAuto := if closeErr a = 0 then ⟨a.base, a.tracks, (closeRE a).1, (closeRE a).2⟩ else GAuto.zero
section
variable {G : World → Prop} (hG : Lasting G)
include hG
set_option maxHeartbeats 16000000 in
set_option maxRecDepth 100000 in
theorem Close_snd (a : GAuto) : Snd Try.prog G 25 [tAuto a] (.tup [tAuto (closeA a), tErr (closeErr a)]) := by
  have c1 := Least_snd hG a
  refine snd_of_body (n := 105) (tm := [(0, .t (tAuto a))]) (rs := [.cell 2 25, .tmp 3]) tt_ok Try.func25 rfl rfl rfl rfl rfl ?_
  by_cases hf : autoFault a = 0
  rotate_left
  · have he : closeErr a = autoFault a := if_pos hf
    have hz : closeA a = GAuto.zero := by unfold closeA; rw [he, if_neg hf]
    have hl0 : leastOf a = GAuto.zero := if_neg hf
    rw [he, hz]
    rw [hl0] at c1
    generalize autoFault a = e at *
    have htb := Tab.cons c1 Tab.nil
    repeat' (first | (with_reducible first | apply w1 | apply w2 | apply w3 | apply w4 | apply w5 | apply w6 | apply w7 | apply w8 | apply w9 | apply wa | apply wb | apply wc) | ((with_reducible apply wd); focus decide) | ((with_reducible apply we); focus exact rfl) | ((with_reducible apply wf); focus exact rfl) | ((first | (with_reducible apply SW_run tt_ok hG htb) | ((with_reducible apply SW_draw rfl tt_ok hG htb); (focus kernel_rfl); focus simp only [List.range, List.range.loop, List.size_toArray, List.length_cons, List.length_nil, Nat.reduceAdd])); focus ((repeat' (first | (with_reducible first | exact wg | exact wh) | ((with_reducible first | apply wi | apply wj); focus (simp (discharger := omega) only [go_sem, tAuto, tErr, hf, simprocAttr]; with_reducible rfl)))); done)))
    exact (by simp (discharger := omega) only [go_sem, tAuto, tErr, hf, GAuto.zero, simprocAttr])
  have g := good_of hf
  obtain ⟨n, hn⟩ : ∃ n, (manyOf a.base a.tracks).toNat = n := ⟨_, rfl⟩
  rw [hn] at g
  have hlA : leastOf a = leastA a := if_pos hf
  obtain ⟨_, _, gM⟩ := least_again g
  obtain ⟨M, hM⟩ : ∃ M, leastA a = M := ⟨_, rfl⟩
  rw [hlA, hf, hM] at c1
  rw [hM] at gM
  obtain ⟨m, hm⟩ : ∃ m, M.next.length = m := ⟨_, rfl⟩
  rw [hm] at gM
  have htb := Tab.cons c1 Tab.nil
  repeat' (first | (with_reducible first | apply w1 | apply w2 | apply w3 | apply w4 | apply w5 | apply w6 | apply w7 | apply w8 | apply w9 | apply wa | apply wb | apply wc) | ((with_reducible apply wd); focus decide) | ((with_reducible apply we); focus exact rfl) | ((with_reducible apply wf); focus exact rfl) | ((first | (with_reducible apply SW_run tt_ok hG htb) | ((with_reducible apply SW_draw rfl tt_ok hG htb); (focus kernel_rfl); focus simp only [List.range, List.range.loop, List.size_toArray, List.length_cons, List.length_nil, Nat.reduceAdd])); focus ((repeat' (first | (with_reducible first | exact wg | exact wh) | ((with_reducible first | apply wi | apply wj); focus (simp (discharger := omega) only [go_sem, tErr0, tAuto, simprocAttr]; with_reducible rfl)))); done)))
  clear htb
  have htb : Tab.ok Try.prog G [] := Tab.nil
  refine SW_norm (Norm.headS (own := []) (keep := [1, 2, 3, 4]) (by refine ⟨?_, ?_⟩; (simp (discharger := omega) only [go_sem, simprocAttr]; with_reducible rfl); refine ⟨?_, ?_, ?_, ?_⟩ <;> (simp only [go_sem, simprocAttr]; with_reducible rfl))) ?_
  refine SW_norm (Norm.fixBox 0 rfl rfl) ?_
  refine SW_norm (Norm.fixBox 2 rfl rfl) ?_
  refine SW_norm (Norm.tr 1 rfl rfl) ?_
  refine SW_norm (Norm.tr 4 rfl rfl) ?_
  refine SW_norm (Norm.headS (own := []) (keep := [1, 2, 3, 4]) (by refine ⟨?_, ?_⟩; (simp (discharger := omega) only [go_sem, simprocAttr]; with_reducible rfl); refine ⟨?_, ?_, ?_, ?_⟩ <;> (simp only [go_sem, simprocAttr]; with_reducible rfl))) ?_
  have hm80 := gM.m80
  have hn36 := gM.n36
  have hn0 := gM.n0
  have hm0 := gM.m0
  have c2 := closure_lit hG gM.rows gM.m0 hm80 (letters := [0]) (fun l hl => by simp at hl; omega)
  have hIm : Inm m (closeL M [0]) := close_in gM.rows hm0 (fun l hl => by simp at hl; omega) _
  have hIl : (closeL M [0]).length ≤ m := close_len gM.rows hm0 (fun l hl => by simp at hl; omega) _
  have c3 := Grow_snd hG hm80 (closeL M [0]) n 47 [autoP M] (stepF M.next) hIm (by omega) hn36 (fun s l hs hl => stepF_in gM.rows hs hl) (fun s l hs ha hl => by have := inm_len hs ha; simp [stepF]; omega) (fun s l hs ha hl => CloseStep_snd hG gM.rows s hs (by have := inm_len hs ha; omega) l hl)
  obtain ⟨R, hR⟩ : ∃ R, iL (closeL M [0]) = R := ⟨_, rfl⟩
  rw [hR] at c2 c3
  obtain ⟨r0, hr0⟩ : ∃ r0, M.next[0]! = r0 := ⟨_, rfl⟩
  have hrl := gM.rows.row r0 (bang_mem hr0 (by have := gM.m0; omega))
  show SW _ _ _ _ ⟨105, [(1, .t (autoP a)), (2, .bptr 0 0), (3, .t .nilI), (4, .t (autoP M))], [.box [.t (tInt 0), .t (tInt 0), .nil, .nil]]⟩
  obtain ⟨S, hS⟩ : ∃ S, growSets (stepF M.next) n (closeL M [0]) = S := ⟨_, rfl⟩
  obtain ⟨N, hN⟩ : ∃ N, growRows (stepF M.next) n (closeL M [0]) = N := ⟨_, rfl⟩
  obtain ⟨ok, hok⟩ : ∃ ok, growOk (stepF M.next) n (closeL M [0]) = ok := ⟨_, rfl⟩
  rw [hS, hN, hok] at c3
  refine SW_drawS (fun k => if k = 2 then some ⟨[.box [.t (tInt 0), .t (tInt 0), .nil, .nil]], [.t (.fn 46 []), .t (tAuto M), .lit (iL [0])], [.box [.t (tInt 0), .t (tInt 0), .nil, .nil], .row 3 1 true R], .sref 1, pastG [] []⟩ else if k = 9 then some ⟨[.box [.t (tInt 0), .t (tInt 0), .nil, .nil], .row 3 1 true R], [.t (.fn 45 []), .sref 1, .t (tNat n), .t (.fn 47 [autoP M])], [.hole, .box [.t (tInt 0), .t (tInt 0), .nil, .nil], .box [.t (tIntss S)]], .t (.tup [tIntss S, tIntss N, .bool ok]), fun i => (posIn [1, 0] i).bind (pastG [.row 3 1 true R] [])⟩ else none) [2, 9] rfl tt_ok hG htb (t := ?zt) ?topo ?hlk ?hok ?run ?rest
  case topo => kernel_rfl
  case hlk =>
    intro k L h
    by_cases h2 : k = 2
    · subst h2; simp
    · by_cases h9 : k = 9
      · subst h9; simp
      · simp [h2, h9] at h
  case hok =>
    intro k L o hL ho
    by_cases h2 : k = 2
    · subst h2
      rw [if_pos rfl] at hL
      cases hL
      cases ho
      exact LoudOk.call (asl := [.t (tAuto M), .lit (iL [0])]) (obs := []) (rst := [.box [.t (tInt 0), .t (tInt 0), .nil, .nil]]) (ks := []) (cap := []) rfl rfl rfl c2 rfl rfl
    · rw [if_neg h2] at hL
      by_cases h9 : k = 9
      · subst h9
        rw [if_pos rfl] at hL
        cases hL
        cases ho
        refine LoudOk.perm [1, 0] rfl (LoudOk.call (asl := [.sref 0, .t (tNat n), .t (.fn 47 [autoP M])]) (obs := [.row 3 1 true R]) (rst := [.box [.t (tInt 0), .t (tInt 0), .nil, .nil]]) (ks := []) (cap := []) rfl rfl rfl c3 rfl rfl) rfl rfl ?_
        intro v hv
        simp [Op.operands, Call.operands] at hv
      · rw [if_neg h9] at hL
        cases hL
  case run =>
    (simp only [List.range, List.range.loop, List.size_toArray, List.length_cons, List.length_nil, Nat.reduceAdd]; repeat' (first | (with_reducible exact runA_nil) | ((with_reducible apply runA_cons); focus (first | (apply stepS_quietE rfl rfl rfl rfl; (focus (intro H; simp (discharger := omega) only [go_sem, autoP, tAuto, hr0, hrl, hm, simprocAttr]; with_reducible rfl)); (focus rfl); (focus rfl); (focus (simp only [go_sem, simprocAttr]; with_reducible rfl))) | (apply stepS_loud rfl rfl rfl rfl rfl rfl; (focus (simp only [go_sem, loudSt, St.put, List.map_cons, List.map_nil, SV.ren, renL, pastG, posIn, Option.bind, List.getElem?_cons_zero, List.getElem?_cons_succ, List.getElem?_nil, simprocAttr]; with_reducible rfl)))))))
  case rest =>
    have hSe : closeS a = S := by unfold closeS closeN; rw [hn, hM]; exact hS
    have hNe : closeR a = N := by unfold closeR closeN; rw [hn, hM]; exact hN
    have hoke : closeOk a = ok := by unfold closeOk closeN; rw [hn, hM]; exact hok
    cases ok with
    | false =>
      have he : closeErr a = 3 := by unfold closeErr; rw [if_neg (fun q => q hf), if_pos hoke]
      have hz : closeA a = GAuto.zero := by unfold closeA; rw [he, if_neg (by decide)]
      rw [he, hz]
      repeat' (first | (with_reducible first | apply w1 | apply w2 | apply w3 | apply w4 | apply w5 | apply w6 | apply w7 | apply w8 | apply w9 | apply wa | apply wb | apply wc) | ((with_reducible apply wd); focus decide) | ((with_reducible apply we); focus exact rfl) | ((with_reducible apply wf); focus exact rfl) | ((first | (with_reducible apply SW_run tt_ok hG htb) | ((with_reducible apply SW_draw rfl tt_ok hG htb); (focus kernel_rfl); focus simp only [List.range, List.range.loop, List.size_toArray, List.length_cons, List.length_nil, Nat.reduceAdd])); focus ((repeat' (first | (with_reducible first | exact wg | exact wh) | ((with_reducible first | apply wi | apply wj); focus (simp (discharger := omega) only [go_sem, simprocAttr]; with_reducible rfl)))); done)))
      exact (by simp (discharger := omega) only [go_sem, tAuto, tErr, GAuto.zero, simprocAttr])
    | true =>
      obtain ⟨f1, f2, f3, f4, f5, _⟩ := grow_facts hok
      have fS := grow_inm hIm (fun s l hs hl => stepF_in gM.rows hs hl) (n := n)
      rw [hS, hN] at f1 f4
      rw [hS] at f2 f3 f5 fS
      have hRE := closeRows_ok f4 f2 hn0
      have hr0w := closeRows0_row f4 f2 hn0
      obtain ⟨nr, hnr⟩ : ∃ nr, N[0]! = nr := ⟨_, rfl⟩
      have hnrl := f4.row nr (bang_mem hnr (by omega))
      have hr0e : closeRows0 N = ((-1) :: nr.drop 1) :: N := by unfold closeRows0; rw [hnr]
      have hN0 : 0 < N.length := by omega
      have hnr1 : 1 ≤ nr.length := by omega
      have hrows0 : (closeRows0 N).length = N.length + 1 := by rw [hr0e]; rfl
      have hall : ∀ l : List Int, (l.all fun _ => true) = true := fun l => by simp
      have hall2 : ∀ l : List (List Int), (l.all fun _ => true) = true := fun l => by simp
      obtain ⟨d, hd⟩ : ∃ d, nr.drop 1 = d := ⟨_, rfl⟩
      rw [hd] at hr0e
      have hdl : d.length + 1 = n := by rw [← hd, List.length_drop]; omega
      have hdr : List.drop 1 (List.take nr.length (List.map tInt nr)) = d.map tInt := by
        rw [List.take_of_length_le (by simp), ← hd, List.map_drop]
      repeat' (first | (with_reducible first | refine SW_seq ?_ | refine SW_block ?_ | refine SThen_n ?_ | refine SThen_r ?_ | refine SThen_e ?_ | refine SIn_n ?_ | refine SIn_r ?_ | refine SIn_eq ?_ | refine SW_skip ?_ | refine SW_exit ?_ | refine SW_ret ?_ | refine SPost_r ?_) | ((with_reducible refine SIn_ne ?_ ?_); focus decide) | ((with_reducible refine SW_true ?_ ?_); focus exact rfl) | ((with_reducible refine SW_false ?_ ?_); focus exact rfl) | ((with_reducible apply SW_run tt_ok hG htb); focus ((repeat' (first | (with_reducible exact runX_nil) | ((with_reducible apply runX_cons); focus (simp (discharger := omega) only [go_sem, simprocAttr]; with_reducible rfl)))); done)))
      refine SW_region ?_
      refine SL_k tt_ok hG htb 6 (by simp only [List.take_succ_cons, List.take_zero]; rfl) (by simp only [List.drop_succ_cons, List.drop_zero, Nat.reduceAdd]; rfl) (by (repeat' (first | (with_reducible exact runX_nil) | ((with_reducible apply runX_cons); focus (simp (discharger := omega) only [go_sem, hnr, Function.comp_def, hall, hall2, hdr, List.length_map, simprocAttr]; with_reducible rfl))))) ?_
      refine SL_norm (Norm.frzRow 3 rfl) ?_
      refine SL_litO tt_ok rfl rfl rfl rfl rfl rfl (ys := [.list (tInt (-1) :: d.map tInt)]) (by simp only [go_sem, simprocAttr]) ?_
      refine SL_done tt_ok hG htb (by (repeat' (first | (with_reducible exact runX_nil) | ((with_reducible apply runX_cons); focus (simp (discharger := omega) only [go_sem, simprocAttr]; with_reducible rfl))))) ?_
      repeat' (first | (with_reducible first | refine SW_seq ?_ | refine SW_block ?_ | refine SThen_n ?_ | refine SThen_r ?_ | refine SThen_e ?_ | refine SIn_n ?_ | refine SIn_r ?_ | refine SIn_eq ?_ | refine SW_skip ?_ | refine SW_exit ?_ | refine SW_ret ?_ | refine SPost_r ?_) | ((with_reducible refine SIn_ne ?_ ?_); focus decide) | ((with_reducible refine SW_true ?_ ?_); focus exact rfl) | ((with_reducible refine SW_false ?_ ?_); focus exact rfl) | ((with_reducible apply SW_run tt_ok hG htb); focus ((repeat' (first | (with_reducible exact runX_nil) | ((with_reducible apply runX_cons); focus (simp (discharger := omega) only [go_sem, hall2, Function.comp_def, List.length_map, simprocAttr]; with_reducible rfl)))); done)))
      obtain ⟨Q, hQ⟩ : ∃ Q, closeRows0 N = Q := ⟨_, rfl⟩
      obtain ⟨Q', hQ'⟩ : ∃ Q', closeRows N = Q' := ⟨_, rfl⟩
      have hQQ : Q' = Q.map fun r => r.map (· + 1) := by rw [← hQ', ← hQ]; rfl
      rw [hQ] at hr0w hr0e hrows0
      rw [hQ'] at hRE
      have hQl' : Q'.length = N.length + 1 := by rw [hQQ, List.length_map]; exact hrows0
      refine SW_loop (fun mm st => ∃ (i : Nat) (rs : List T), mm = N.length + 1 - i ∧ st = ⟨105, [(1, .t (autoP a)), (2, .bptr 0 0), (3, .t .nilI), (4, .t (autoP M)), (6, .t (tIntss S)), (9, .sref 1), (54, .sref 1), (55, .t (tNat (N.length + 1))), (56, .t (tNat i))], [.box [.t (tInt 0), .t (tInt 0), .nil, .nil], .row 26 1 true rs]⟩ ∧ i ≤ N.length + 1 ∧ rs = (Q'.take i ++ Q.drop i).map tInts) (N.length + 1)
        ⟨_, Norm.headS (own := []) (keep := [1, 2, 3, 4, 6, 9, 54, 55, 56]) (by refine ⟨?_, ?_⟩; (simp (discharger := omega) only [go_sem, simprocAttr]; with_reducible rfl); refine ⟨?_, ?_, ?_, ?_⟩ <;> (simp only [go_sem, simprocAttr]; with_reducible rfl)), 0, _, rfl, rfl, Nat.zero_le _, by rw [hr0e]; rfl⟩ ?_
      rintro mm st ⟨i, rs, rfl, rfl, hi, hrs⟩
      have hrl2 : rs.length = N.length + 1 := by rw [hrs]; simp [hrows0, hQl']; omega
      by_cases hlt : i < N.length + 1
      · obtain ⟨q, hq⟩ : ∃ q, Q[i]? = some q := ⟨_, List.getElem?_eq_getElem (by omega)⟩
        have hqw := (hr0w q (List.mem_of_getElem? hq)).1
        have hlt3 : ((i : Nat) : Int) < ((N.length + 1 : Nat) : Int) := by omega
        have hri : rs[i]! = tInts q := by
          have : rs[i]? = some (tInts q) := by
            rw [hrs, List.getElem?_map, List.getElem?_append_right (by rw [List.length_take]; omega), List.length_take, Nat.min_eq_left (by omega), Nat.sub_self, List.getElem?_drop, Nat.add_zero, hq]; rfl
          obtain ⟨q1, q2⟩ := List.getElem?_eq_some_iff.1 this
          rw [getElem!_pos rs i q1]; exact q2
        obtain ⟨q', hq'⟩ : ∃ q' : List Int, q.map (· + 1) = q' := ⟨_, rfl⟩
        have hql' : q'.length = n := by rw [← hq', List.length_map]; exact hqw
        have hset : (Q'.take i ++ Q.drop i).set i q' = Q'.take (i + 1) ++ Q.drop (i + 1) := by
          have hQi : Q'[i]? = some q' := by rw [hQQ, List.getElem?_map, hq]; simp [hq']
          obtain ⟨w1, w2⟩ := List.getElem?_eq_some_iff.1 hQi
          obtain ⟨w3, w4⟩ := List.getElem?_eq_some_iff.1 hq
          rw [List.set_append_right _ _ (by rw [List.length_take]; omega), List.length_take, Nat.min_eq_left (by omega), Nat.sub_self, List.drop_eq_getElem_cons w3, List.set_cons_zero, List.take_succ_eq_append_getElem w1, w2, List.append_assoc]; rfl
        repeat' (first | (with_reducible first | apply w1 | apply w2 | apply w3 | apply w4 | apply w5 | apply w6 | apply w7 | apply w8 | apply w9 | apply wa | apply wb | apply wc) | ((with_reducible apply wd); focus decide) | ((with_reducible apply we); focus exact rfl) | ((with_reducible apply wf); focus exact rfl) | ((first | (with_reducible apply SW_run tt_ok hG htb) | ((with_reducible apply SW_draw rfl tt_ok hG htb); (focus kernel_rfl); focus simp only [List.range, List.range.loop, List.size_toArray, List.length_cons, List.length_nil, Nat.reduceAdd])); focus ((repeat' (first | (with_reducible first | exact wg | exact wh) | ((with_reducible first | apply wi | apply wj); focus (simp (discharger := omega) only [go_sem, hlt3, hrl2, hri, hqw, simprocAttr]; with_reducible rfl)))); done)))
        refine SW_loop (fun mm st => ∃ (l : Nat) (rr : List T), mm = n - l ∧ st = ⟨105, [(1, .t (autoP a)), (2, .bptr 0 0), (3, .t .nilI), (4, .t (autoP M)), (6, .t (tIntss S)), (9, .sref 1), (54, .sref 1), (55, .t (tNat (N.length + 1))), (56, .t (tNat i)), (10, .t (tNat i)), (12, .sref 2), (64, .t (tInts q)), (65, .t (tNat n)), (66, .t (tNat l))], [.box [.t (tInt 0), .t (tInt 0), .nil, .nil], .row 26 1 true rs, .row 3 1 true rr]⟩ ∧ l ≤ n ∧ rr = (fillB q' l).map (T.int .i64)) n
          ⟨_, Norm.headS (own := []) (keep := [1, 2, 3, 4, 6, 9, 54, 55, 56, 10, 12, 64, 65, 66]) (by refine ⟨?_, ?_⟩; (simp (discharger := omega) only [go_sem, simprocAttr]; with_reducible rfl); refine ⟨?_, ?_, ?_, ?_⟩ <;> (simp only [go_sem, simprocAttr]; with_reducible rfl)), 0, _, rfl, rfl, Nat.zero_le _, by rw [fillB_zero, List.map_replicate, hql']⟩ ?_
        rintro mm st ⟨l, rr, rfl, rfl, hl, hrr⟩
        have hrrl : rr.length = n := by rw [hrr, List.length_map, fillB_len (by omega), hql']
        by_cases hll : l < n
        · obtain ⟨t, ht⟩ : ∃ t, q[l]! = t := ⟨_, rfl⟩
          have htg := bang_get ht (by omega)
          have htg' : q'[l]? = some (t + 1) := by rw [← hq', List.getElem?_map, htg]; rfl
          have htb2 := (hr0w q (List.mem_of_getElem? hq)).2 t (bang_mem ht (by omega))
          have hwr : IntKind.i64.wrap (t + 1) = t + 1 := wrap_i64 _ (by omega)
          repeat' (first | (with_reducible first | apply w1 | apply w2 | apply w3 | apply w4 | apply w5 | apply w6 | apply w7 | apply w8 | apply w9 | apply wa | apply wb | apply wc) | ((with_reducible apply wd); focus decide) | ((with_reducible apply we); focus exact rfl) | ((with_reducible apply wf); focus exact rfl) | ((first | (with_reducible apply SW_run tt_ok hG htb) | ((with_reducible apply SW_draw rfl tt_ok hG htb); (focus kernel_rfl); focus simp only [List.range, List.range.loop, List.size_toArray, List.length_cons, List.length_nil, Nat.reduceAdd])); focus ((repeat' (first | (with_reducible first | exact wg | exact wh) | ((with_reducible first | apply wi | apply wj); focus (simp (discharger := omega) only [go_sem, ht, hrrl, hqw, hwr, simprocAttr]; with_reducible rfl)))); done)))
          exact ⟨n - (l + 1), _, by omega, Norm.headS (own := []) (keep := [1, 2, 3, 4, 6, 9, 54, 55, 56, 10, 12, 64, 65, 66]) (by refine ⟨?_, ?_⟩; (simp (discharger := omega) only [go_sem, simprocAttr]; with_reducible rfl); refine ⟨?_, ?_, ?_, ?_⟩ <;> (simp only [go_sem, simprocAttr]; with_reducible rfl)), l + 1, _, rfl, rfl, by omega, by rw [← fillB_set htg', List.map_set, ← hrr]⟩
        · obtain rfl : l = n := by omega
          have hrr2 : rr = q'.map (T.int .i64) := by rw [hrr, ← hql', fillB_all]
          repeat' (first | (with_reducible first | apply w1 | apply w2 | apply w3 | apply w4 | apply w5 | apply w6 | apply w7 | apply w8 | apply w9 | apply wa | apply wb | apply wc) | ((with_reducible apply wd); focus decide) | ((with_reducible apply we); focus exact rfl) | ((with_reducible apply wf); focus exact rfl) | ((first | (with_reducible apply SW_run tt_ok hG htb) | ((with_reducible apply SW_draw rfl tt_ok hG htb); (focus kernel_rfl); focus simp only [List.range, List.range.loop, List.size_toArray, List.length_cons, List.length_nil, Nat.reduceAdd])); focus ((repeat' (first | (with_reducible first | exact wg | exact wh) | ((with_reducible first | apply wi | apply wj); focus (simp (discharger := omega) only [go_sem, hrl2, simprocAttr]; with_reducible rfl)))); done)))
          exact ⟨N.length + 1 - (i + 1), _, by omega, Norm.headS (own := []) (keep := [1, 2, 3, 4, 6, 9, 54, 55, 56]) (by refine ⟨?_, ?_⟩; (simp (discharger := omega) only [go_sem, simprocAttr]; with_reducible rfl); refine ⟨?_, ?_, ?_, ?_⟩ <;> (simp only [go_sem, simprocAttr]; with_reducible rfl)), i + 1, _, rfl, rfl, by omega, by rw [← hset, List.map_set, ← hrs, hrr2]; rfl⟩
      · obtain rfl : i = N.length + 1 := by omega
        have hrs2 : rs = Q'.map tInts := by
          rw [hrs, List.take_of_length_le (by omega), List.drop_of_length_le (by omega), List.append_nil]
        obtain ⟨s0, hs0⟩ : ∃ s0, S[0]! = s0 := ⟨_, rfl⟩
        have hSs : ∀ s ∈ s0 :: S, Inm m s := fun s hs => by
          rcases List.mem_cons.1 hs with rfl | hs
          · exact (fS _ (bang_mem hs0 f2)).1
          · exact (fS s hs).1
        have c5 := Ends_snd hG (s0 :: S) (by simp; omega) 48 [autoP M] (endOf M.ends) (fun s hs x hx => CloseEnd_snd hG gM.ends x (hSs s hs x hx))
        obtain ⟨E, hE⟩ : ∃ E, ((s0 :: S).map fun s => s.any (endOf M.ends)) = E := ⟨_, rfl⟩
        rw [hE] at c5
        have hEl : E.length = S.length + 1 := by rw [← hE]; simp
        have c6 := Shrink_snd hG a.base a.tracks hRE (Nat.succ_pos _) (by omega) (ends := E) hEl (by omega)
        have htb := Tab.cons c5 (Tab.cons c6 Tab.nil)
        have hlt4 : ¬ ((N.length + 1 : Nat) : Int) < ((N.length + 1 : Nat) : Int) := by omega
        have hSl : 0 < S.length := f2
        clear hrs
        subst hrs2
        have hREe : closeRE a = leastRE n Q' E := by
          unfold closeRE
          rw [hNe, hSe, hM, hQ']
          unfold closeEnds closeN
          rw [hs0, hE, hn]
        repeat' (first | (with_reducible first | refine SW_seq ?_ | refine SW_block ?_ | refine SThen_n ?_ | refine SThen_r ?_ | refine SThen_e ?_ | refine SIn_n ?_ | refine SIn_r ?_ | refine SIn_eq ?_ | refine SW_skip ?_ | refine SW_exit ?_ | refine SW_ret ?_ | refine SPost_r ?_) | ((with_reducible refine SIn_ne ?_ ?_); focus decide) | ((with_reducible refine SW_true ?_ ?_); focus exact rfl) | ((with_reducible refine SW_false ?_ ?_); focus exact rfl) | ((with_reducible apply SW_run tt_ok hG htb); focus ((repeat' (first | (with_reducible exact runX_nil) | ((with_reducible apply runX_cons); focus (simp (discharger := omega) only [go_sem, simprocAttr]; with_reducible rfl)))); done)))
        refine SW_norm (Norm.frzRow 1 rfl) ?_
        refine SW_region ?_
        refine SL_k tt_ok hG htb 6 (by simp only [List.take_succ_cons, List.take_zero]; rfl) (by simp only [List.drop_succ_cons, List.drop_zero, Nat.reduceAdd]; rfl) (by (repeat' (first | (with_reducible exact runX_nil) | ((with_reducible apply runX_cons); focus (simp (discharger := omega) only [go_sem, hs0, hall2, Function.comp_def, List.length_map, simprocAttr]; with_reducible rfl))))) ?_
        refine SL_norm (Norm.frzRow 2 rfl) ?_
        refine SL_done tt_ok hG htb (by (repeat' (first | (with_reducible exact runX_nil) | ((with_reducible apply runX_cons); focus (simp (discharger := omega) only [go_sem, autoP, simprocAttr]; with_reducible rfl))))) ?_
        by_cases h80 : (leastRE n Q' E).1.length ≤ 80
        · have hsh : shrinkT a.base a.tracks n Q' E = .tup [tAuto ⟨a.base, a.tracks, (leastRE n Q' E).1, (leastRE n Q' E).2⟩, .bool true] := if_pos h80
          have he : closeErr a = 0 := by unfold closeErr; rw [if_neg (fun q => q hf), if_neg (by rw [hoke]; decide), hREe, if_pos h80]
          have hz : closeA a = ⟨a.base, a.tracks, (leastRE n Q' E).1, (leastRE n Q' E).2⟩ := by unfold closeA; rw [he, if_pos rfl, hREe]
          rw [he, hz]
          rw [hsh] at htb c6
          generalize leastRE n Q' E = RE at *
          repeat' (first | (with_reducible first | apply w1 | apply w2 | apply w3 | apply w4 | apply w5 | apply w6 | apply w7 | apply w8 | apply w9 | apply wa | apply wb | apply wc) | ((with_reducible apply wd); focus decide) | ((with_reducible apply we); focus exact rfl) | ((with_reducible apply wf); focus exact rfl) | ((first | (with_reducible apply SW_run tt_ok hG htb) | ((with_reducible apply SW_draw rfl tt_ok hG htb); (focus kernel_rfl); focus simp only [List.range, List.range.loop, List.size_toArray, List.length_cons, List.length_nil, Nat.reduceAdd])); focus ((repeat' (first | (with_reducible first | exact wg | exact wh) | ((with_reducible first | apply wi | apply wj); focus (simp (discharger := omega) only [go_sem, autoP, tAuto, tErr0, simprocAttr]; with_reducible rfl)))); done)))
          exact (by simp (discharger := omega) only [go_sem, tAuto, tErr0, simprocAttr])
        · have hsh : shrinkT a.base a.tracks n Q' E = .tup [tAuto GAuto.zero, .bool false] := if_neg h80
          have he : closeErr a = 3 := by unfold closeErr; rw [if_neg (fun q => q hf), if_neg (by rw [hoke]; decide), hREe, if_neg h80]
          have hz : closeA a = GAuto.zero := by unfold closeA; rw [he, if_neg (by decide)]
          rw [he, hz]
          rw [hsh] at htb c6
          repeat' (first | (with_reducible first | apply w1 | apply w2 | apply w3 | apply w4 | apply w5 | apply w6 | apply w7 | apply w8 | apply w9 | apply wa | apply wb | apply wc) | ((with_reducible apply wd); focus decide) | ((with_reducible apply we); focus exact rfl) | ((with_reducible apply wf); focus exact rfl) | ((first | (with_reducible apply SW_run tt_ok hG htb) | ((with_reducible apply SW_draw rfl tt_ok hG htb); (focus kernel_rfl); focus simp only [List.range, List.range.loop, List.size_toArray, List.length_cons, List.length_nil, Nat.reduceAdd])); focus ((repeat' (first | (with_reducible first | exact wg | exact wh) | ((with_reducible first | apply wi | apply wj); focus (simp (discharger := omega) only [go_sem, autoP, tAuto, simprocAttr]; with_reducible rfl)))); done)))
          exact (by simp (discharger := omega) only [go_sem, tAuto, tErr, GAuto.zero, simprocAttr])
end
end Go.Proofs.Ythcclcbliedodaa
namespace Go.Proofs.Ythcclcbliedodaa
open Go.RowKit

/-- A word of all tracks that reads as one of what is left. -/
inductive Fill (W : List (List Int)) : List Nat → List Nat → Prop
  | nil : Fill W [] []
  | cons {k l : Nat} {v w : List Nat} (h : ((k : Nat) : Int) ∈ W[l]!) (t : Fill W v w) : Fill W (k :: v) (l :: w)
theorem bang_in {W : List (List Int)} {l : Nat} {k : Int} (h : k ∈ W[l]!) : ∃ r ∈ W, k ∈ r ∧ W[l]? = some r := by
  by_cases hl : l < W.length
  · exact ⟨_, bang_mem rfl hl, h, bang_get rfl hl⟩
  · rw [getElem!_neg W l hl] at h
    cases h
theorem Fill.ltr {W : List (List Int)} {N : Nat} (hW : ∀ r ∈ W, ∀ k ∈ r, 0 ≤ k ∧ k < (N : Int)) {v w : List Nat} (h : Fill W v w) : Ltr N v := by
  induction h with
  | nil => intro x hx; cases hx
  | cons h t ih =>
    intro x hx
    rcases List.mem_cons.1 hx with rfl | hx
    · obtain ⟨r, h1, h2, _⟩ := bang_in h
      have := hW r h1 _ h2
      omega
    · exact ih x hx
section
variable {next W : List (List Int)}
theorem stepW_mem (hW : ∀ r ∈ W, ∀ k ∈ r, 0 ≤ k) {s : List Int} {l : Nat} {x : Int} : x ∈ nextD (stepW next W) s l ↔ ∃ y ∈ s, ∃ k : Nat, ((k : Nat) : Int) ∈ W[l]! ∧ nx next y k = x := by
  unfold nextD
  rw [canonL_mem]
  unfold stepW
  rw [List.mem_flatMap]
  constructor
  · rintro ⟨y, hy, hx⟩
    obtain ⟨k, hk, rfl⟩ := List.mem_map.1 hx
    obtain ⟨r, h1, h2, _⟩ := bang_in hk
    have h0 := hW r h1 k h2
    exact ⟨y, hy, k.toNat, by rw [Int.toNat_of_nonneg h0]; exact hk, rfl⟩
  · rintro ⟨y, hy, k, hk, rfl⟩
    exact ⟨y, hy, List.mem_map.2 ⟨_, hk, by simp⟩⟩
theorem stepW_run (hW : ∀ r ∈ W, ∀ k ∈ r, 0 ≤ k) : ∀ (w : List Nat) (s : List Int) (x : Int), x ∈ w.foldl (nextD (stepW next W)) s ↔ ∃ y ∈ s, ∃ v, Fill W v w ∧ runS next y v = x
  | [], s, x => ⟨fun h => ⟨x, h, [], .nil, rfl⟩, fun ⟨y, hy, v, hv, e⟩ => by cases hv; cases e; exact hy⟩
  | l :: w, s, x => by
    rw [List.foldl_cons, stepW_run hW w]
    constructor
    · rintro ⟨y, hy, v, hv, e⟩
      obtain ⟨z, hz, k, hk, rfl⟩ := (stepW_mem hW).1 hy
      exact ⟨z, hz, k :: v, .cons hk hv, e⟩
    · rintro ⟨z, hz, v, hv, e⟩
      cases hv with
      | cons hk ht => exact ⟨_, (stepW_mem hW).2 ⟨z, hz, _, hk, rfl⟩, _, ht, e⟩
theorem stepF_mem {s : List Int} {l : Nat} {x : Int} : x ∈ nextD (stepF next) s l ↔ ∃ y ∈ s, nx next y l = x := by
  unfold nextD
  rw [canonL_mem]
  exact List.mem_map
theorem stepF_run : ∀ (w : List Nat) (s : List Int) (x : Int), x ∈ w.foldl (nextD (stepF next)) s ↔ ∃ y ∈ s, runS next y w = x
  | [], s, x => ⟨fun h => ⟨x, h, rfl⟩, fun ⟨y, hy, e⟩ => by cases e; exact hy⟩
  | l :: w, s, x => by
    rw [List.foldl_cons, stepF_run w]
    constructor
    · rintro ⟨y, hy, e⟩
      obtain ⟨z, hz, rfl⟩ := stepF_mem.1 hy
      exact ⟨z, hz, e⟩
    · rintro ⟨z, hz, e⟩
      exact ⟨_, stepF_mem.2 ⟨z, hz, rfl⟩, e⟩
theorem runS_append (w v : List Nat) (s : Int) : runS next s (w ++ v) = runS next (runS next s w) v := List.foldl_append
end
theorem rch_words {a : GAuto} {letters : List Int} (hl : ∀ l ∈ letters, 0 ≤ l) {x : Int} : Rch a letters x ↔ ∃ z : List Nat, (∀ k ∈ z, ((k : Nat) : Int) ∈ letters) ∧ runS a.next 0 z = x := by
  constructor
  · intro h
    induction h with
    | zero => exact ⟨[], fun k hk => (by cases hk), rfl⟩
    | step s j _ hj ih =>
      obtain ⟨z, h1, rfl⟩ := ih
      have hm : letters[j]! ∈ letters := bang_mem rfl hj
      refine ⟨z ++ [(letters[j]!).toNat], fun k hk => ?_, ?_⟩
      · rcases List.mem_append.1 hk with hk | hk
        · exact h1 k hk
        · rw [List.mem_singleton] at hk
          subst hk
          rw [Int.toNat_of_nonneg (hl _ hm)]; exact hm
      · rw [runS_append]; rfl
  · rintro ⟨z, h1, rfl⟩
    have : ∀ (z : List Nat) (s : Int), Rch a letters s → (∀ k ∈ z, ((k : Nat) : Int) ∈ letters) → Rch a letters (runS a.next s z) := by
      intro z
      induction z with
      | nil => intro s hs _; exact hs
      | cons k z ih =>
        intro s hs hz
        refine ih _ ?_ fun x hx => hz x (List.mem_cons_of_mem _ hx)
        obtain ⟨j, hj⟩ := List.mem_iff_getElem?.1 (hz k List.mem_cons_self)
        obtain ⟨q1, q2⟩ := List.getElem?_eq_some_iff.1 hj
        have e : nx a.next s k = closeD a letters s j := by
          unfold closeD
          rw [getElem!_pos letters j q1, q2, Int.toNat_natCast]
        rw [e]
        exact .step s j hs q1
    exact this z 0 .zero h1
theorem any_iff {ends : List Bool} {s : List Int} : s.any (endOf ends) = true ↔ ∃ x ∈ s, endOf ends x = true := List.any_eq_true
theorem bool_iff {a b : Bool} (h : a = true ↔ b = true) : a = b := by
  cases a <;> cases b <;> simp_all
open Classical in
/-- With what is left out: some word of all, perhaps with letters ahead that are 0 elsewhere. -/
noncomputable def someL (L : List Nat → Bool) (W : List (List Int)) (w : List Nat) : Bool := decide (∃ z v, (∀ k ∈ z, ((k : Nat) : Int) ∈ W[0]!) ∧ Fill W v w ∧ L (z ++ v) = true)
open Classical in
theorem someL_true {L : List Nat → Bool} {W : List (List Int)} {w : List Nat} : someL L W w = true ↔ ∃ z v, (∀ k ∈ z, ((k : Nat) : Int) ∈ W[0]!) ∧ Fill W v w ∧ L (z ++ v) = true := by
  unfold someL
  exact decide_eq_true_iff
theorem someL_congr {L L' : List Nat → Bool} {N : Nat} (h : ∀ w, Ltr N w → L w = L' w) {W : List (List Int)} (hW : ∀ r ∈ W, ∀ k ∈ r, 0 ≤ k ∧ k < (N : Int)) (w : List Nat) : someL L W w = someL L' W w := by
  have hz : ∀ z v, (∀ k ∈ z, ((k : Nat) : Int) ∈ W[0]!) → Fill W v w → L (z ++ v) = L' (z ++ v) := fun z v hz hv => h _ fun x hx => by
    rcases List.mem_append.1 hx with hx | hx
    · obtain ⟨r, h1, h2, _⟩ := bang_in (hz x hx)
      have := hW r h1 _ h2
      omega
    · exact hv.ltr hW x hx
  refine bool_iff ?_
  rw [someL_true, someL_true]
  exact ⟨fun ⟨z, v, h1, h2, h3⟩ => ⟨z, v, h1, h2, by rw [← hz z v h1 h2]; exact h3⟩, fun ⟨z, v, h1, h2, h3⟩ => ⟨z, v, h1, h2, by rw [hz z v h1 h2]; exact h3⟩⟩
theorem left_lang {a : GAuto} {k t N nW r m : Nat} (h : LeftIs a k t N nW r m) {w : List Nat} (hw : Ltr nW w) : lang (leftR a k) (someE a k) 0 w = someL (lng (leastA a)) (withW a.base t k) w := by
  have hW : ∀ r ∈ withW a.base t k, ∀ x ∈ r, 0 ≤ x ∧ x < (N : Int) := fun q hq => (h.Wrow q hq).2
  have hW0 : ∀ r ∈ withW a.base t k, ∀ x ∈ r, 0 ≤ x := fun q hq x hx => (hW q hq x hx).1
  have hw0 : (withW a.base t k)[0]! ∈ withW a.base t k := bang_mem rfl (by have := h.Wlen; have := h.ok.nW0; omega)
  rw [h.expl.lang (E := fun s => s.any (endOf (leastA a).ends)) h.len (bang_get h.start h.pos) (fun i s hs => by unfold someE; rw [List.getElem?_map, hs]; rfl) hw]
  refine bool_iff ?_
  rw [any_iff, someL_true]
  constructor
  · rintro ⟨x, hx, he⟩
    obtain ⟨y, hy, v, hv, rfl⟩ := (stepW_run hW0 w _ x).1 hx
    rw [canonL_mem, closeL_mem h.M.rows h.M.m0 (hW _ hw0), rch_words (hW0 _ hw0)] at hy
    obtain ⟨z, hz, rfl⟩ := hy
    exact ⟨z, v, hz, hv, by unfold lng lang; rw [runS_append]; exact he⟩
  · rintro ⟨z, v, hz, hv, he⟩
    unfold lng lang at he
    rw [runS_append] at he
    exact ⟨_, (stepW_run hW0 w _ _).2 ⟨_, by rw [canonL_mem, closeL_mem h.M.rows h.M.m0 (hW _ hw0), rch_words (hW0 _ hw0)]; exact ⟨z, hz, rfl⟩, v, hv, rfl⟩, he⟩
theorem someErr_zero {a : GAuto} {track : Int} (h : someErr a track = 0) : leftErr a track = 0 ∧ (someRE a track).1.length ≤ 80 := by
  unfold someErr at h
  split at h
  · rename_i h1; exact (h1 h).elim
  · rename_i h1
    split at h
    · exact ⟨Classical.not_not.1 h1, by assumption⟩
    · omega
/-- What Some gives, if nothing is wrong. -/
theorem some_isLeast {a : GAuto} {k : Nat} (h : someErr a (k : Int) = 0) : ∃ t N nW r m, LeftIs a k t N nW r m ∧ IsLeast (someA a k) nW a.base t (someL (lng a) (withW a.base t k)) ∧ (someA a k).next.length ≤ 80 := by
  obtain ⟨h0, h80⟩ := someErr_zero h
  obtain ⟨t, N, nW, r, m, L⟩ := left_is h0
  have hA : someA a (k : Int) = ⟨a.base, a.tracks - 1, (someRE a k).1, (someRE a k).2⟩ := if_pos h
  have hRE : someRE a (k : Int) = leastRE nW (leftR a (k : Int)) (someE a (k : Int)) := by unfold someRE; rw [L.n]
  have hW : ∀ r ∈ withW a.base t k, ∀ x ∈ r, 0 ≤ x ∧ x < (N : Int) := fun q hq => (L.Wrow q hq).2
  have hs := leastRE_spec (ends := someE a (k : Int)) L.rows L.pos
  have hl : IsLeast (leastA a) N a.base a.tracks (lng a) := (leastA_isLeast L.ok.good).1
  refine ⟨t, N, nW, r, m, L, ?_, ?_⟩
  · rw [hA]
    refine ⟨rfl, by show a.tracks - 1 = _; have := L.ok.tr; omega, ?_⟩
    show Least nW (someRE a k).1 (someRE a k).2 _
    rw [hRE]
    exact hs.1.lang_congr fun w hw => by rw [left_lang L hw]; exact someL_congr (fun u hu => hl.lng hu) hW w
  · rw [hA]; exact h80

/-- Without 0s ahead. -/
def strip (w : List Nat) : List Nat := w.dropWhile (· == 0)
theorem strip_eq : ∀ w : List Nat, ∃ j, w = List.replicate j 0 ++ strip w ∧ (strip w).head? ≠ some 0
  | [] => ⟨0, rfl, by simp [strip]⟩
  | 0 :: w => by
    obtain ⟨j, h1, h2⟩ := strip_eq w
    exact ⟨j + 1, by rw [List.replicate_succ, List.cons_append]; show 0 :: w = 0 :: (_ ++ strip w); rw [← h1], h2⟩
  | (l + 1) :: w => ⟨0, rfl, by simp [strip]⟩
theorem strip_zeros (j : Nat) (w : List Nat) : strip (List.replicate j 0 ++ w) = strip w := by
  induction j with
  | zero => rfl
  | succ j ih => exact ih
theorem strip_ltr {n : Nat} {w : List Nat} (h : Ltr n w) : Ltr n (strip w) := fun x hx => h x ((List.dropWhile_suffix _).subset hx)
open Classical in
/-- What is closed. -/
noncomputable def closeLg (L : List Nat → Bool) (w : List Nat) : Bool := decide (∃ i, L (List.replicate i 0 ++ strip w) = true)
open Classical in
theorem closeLg_true {L : List Nat → Bool} {w : List Nat} : closeLg L w = true ↔ ∃ i, L (List.replicate i 0 ++ strip w) = true := by
  unfold closeLg
  exact decide_eq_true_iff
theorem zeros_iff {z : List Nat} : (∀ k ∈ z, ((k : Nat) : Int) ∈ ([0] : List Int)) ↔ z = List.replicate z.length 0 := by
  rw [List.eq_replicate_iff]
  simp
theorem closeRows_late {n k : Nat} {rows : List (List Int)} (h : Rows0 n k rows) (hk : 0 < k) (hn : 0 < n) : closeRows rows = late rows := by
  have hl := h.len
  have h0 : rows[0]! ∈ rows := bang_mem rfl (by omega)
  have hr := h.row _ h0
  have e : rows.getD 0 [] = rows[0]! := bang_D rfl (by omega)
  unfold closeRows closeRows0 late
  rw [List.map_cons, e]
  congr 1
  obtain ⟨r, hrr⟩ : ∃ r, rows[0]! = r := ⟨_, rfl⟩
  rw [hrr] at hr ⊢
  unfold lateRow
  apply List.ext_getElem
  · simp; omega
  · intro i h1 h2
    simp only [List.getElem_map, List.getElem_range]
    cases i with
    | zero => simp
    | succ i =>
      simp at h1
      rw [if_neg (by omega), getD_lt (by omega)]
      simp [Nat.add_comm]
set_option maxRecDepth 100000 in
theorem close_lang {a : GAuto} {n : Nat} (hf : autoFault a = 0) (hn : (manyOf a.base a.tracks).toNat = n) (hok : closeOk a = true) {w : List Nat} (hw : Ltr n w) : lang (closeRows (closeR a)) (closeEnds (leastA a).ends (closeS a)) 0 w = closeLg (lng (leastA a)) w := by
  have g := good_of hf
  rw [hn] at g
  obtain ⟨_, _, gM⟩ := least_again g
  have hgk : growOk (stepF (leastA a).next) n (closeL (leastA a) [0]) = true := by
    unfold closeOk closeN at hok; rw [hn] at hok; exact hok
  obtain ⟨f1, f2, f3, f4, f5, f6⟩ := grow_facts hgk
  have hS : closeS a = growSets (stepF (leastA a).next) n (closeL (leastA a) [0]) := by unfold closeS closeN; rw [hn]
  have hR : closeR a = growRows (stepF (leastA a).next) n (closeL (leastA a) [0]) := by unfold closeR closeN; rw [hn]
  rw [← hS] at f1 f2 f3 f4 f5 f6
  rw [← hR] at f1 f4 f6
  clear hS hR hgk hok
  generalize leastA a = M at *
  generalize closeS a = S at *
  generalize closeR a = R at *
  have hn0 := gM.n0
  rw [closeRows_late f4 f2 hn0]
  obtain ⟨j, hj, hh⟩ := strip_eq w
  obtain ⟨v, hv⟩ : ∃ v, strip w = v := ⟨_, rfl⟩
  have hvl : Ltr n v := hv ▸ strip_ltr hw
  -- behind 0s it is as the sets say
  have hset : lang (late R) (closeEnds M.ends S) 0 w = lang R (S.map fun s => s.any (endOf M.ends)) 0 v := by
    rw [hv] at hj hh
    rw [hj]
    unfold lang
    rw [late_zeros f4 f2 hn0]
    unfold endOf
    cases v with
    | nil =>
      show (closeEnds M.ends S).getD 0 false = (S.map fun s => s.any (endOf M.ends)).getD 0 false
      unfold closeEnds
      rw [List.map_cons, List.getD_cons_zero, List.getD_eq_getElem?_getD, List.getElem?_map, bang_get rfl f2]; rfl
    | cons l u =>
      have hl0 : l ≠ 0 := fun e => hh (by simp [e])
      have hb := runS_ok f4 (l :: u) 0 ⟨by omega, by omega⟩ hvl
      have e1 : runS (late R) 0 (l :: u) = runS R 0 (l :: u) + 1 := by
        show runS (late R) (nx (late R) 0 l) u = runS R (nx R 0 l) u + 1
        rw [late_nx0 f4 f2 (hvl l List.mem_cons_self), if_neg hl0]
        exact late_run f4 u _ (nx_ok f4 ⟨by omega, by omega⟩ (hvl l List.mem_cons_self)) fun x hx => hvl x (List.mem_cons_of_mem _ hx)
      rw [e1, show (runS R 0 (l :: u) + 1).toNat = (runS R 0 (l :: u)).toNat + 1 by omega]
      rfl
  rw [hset, f6.lang (E := fun s => s.any (endOf M.ends)) f1 (bang_get f5 f2) (fun i s hs => by rw [List.getElem?_map, hs]; rfl) hvl]
  refine bool_iff ?_
  rw [any_iff, closeLg_true, hv]
  have hz0 : ∀ l ∈ ([0] : List Int), 0 ≤ l ∧ l < (n : Int) := fun l hl => by simp at hl; omega
  constructor
  · rintro ⟨x, hx, he⟩
    obtain ⟨y, hy, rfl⟩ := (stepF_run v _ x).1 hx
    rw [canonL_mem, closeL_mem gM.rows gM.m0 hz0, rch_words (fun l hl => (hz0 l hl).1)] at hy
    obtain ⟨z, hz, rfl⟩ := hy
    refine ⟨z.length, ?_⟩
    rw [← zeros_iff.1 hz]
    unfold lng lang
    rw [runS_append]; exact he
  · rintro ⟨i, he⟩
    unfold lng lang at he
    rw [runS_append] at he
    exact ⟨_, (stepF_run v _ _).2 ⟨_, by rw [canonL_mem, closeL_mem gM.rows gM.m0 hz0, rch_words (fun l hl => (hz0 l hl).1)]; exact ⟨List.replicate i 0, fun k hk => by simp [(List.mem_replicate.1 hk).2], rfl⟩, rfl⟩, he⟩
theorem closeLg_congr {L L' : List Nat → Bool} {n : Nat} (hn : 0 < n) (h : ∀ w, Ltr n w → L w = L' w) {w : List Nat} (hw : Ltr n w) : closeLg L w = closeLg L' w := by
  have hz : ∀ i, L (List.replicate i 0 ++ strip w) = L' (List.replicate i 0 ++ strip w) := fun i => h _ fun x hx => by
    rcases List.mem_append.1 hx with hx | hx
    · rw [(List.mem_replicate.1 hx).2]; exact hn
    · exact strip_ltr hw x hx
  refine bool_iff ?_
  rw [closeLg_true, closeLg_true]
  simp only [hz]
theorem closeErr_zero {a : GAuto} (h : closeErr a = 0) : autoFault a = 0 ∧ closeOk a = true ∧ (closeRE a).1.length ≤ 80 := by
  unfold closeErr at h
  split at h
  · rename_i h1; exact (h1 h).elim
  · rename_i h1
    split at h
    · omega
    · rename_i h2
      split at h
      · exact ⟨Classical.not_not.1 h1, by simpa using h2, by assumption⟩
      · omega
/-- What Close gives, if nothing is wrong. -/
theorem close_isLeast {a : GAuto} (h : closeErr a = 0) : ∃ n m, Good a n m ∧ IsLeast (closeA a) n a.base a.tracks (closeLg (lng a)) ∧ (closeA a).next.length ≤ 80 := by
  obtain ⟨hf, hok, h80⟩ := closeErr_zero h
  have g := good_of hf
  obtain ⟨n, hn⟩ : ∃ n, (manyOf a.base a.tracks).toNat = n := ⟨_, rfl⟩
  rw [hn] at g
  have hA : closeA a = ⟨a.base, a.tracks, (closeRE a).1, (closeRE a).2⟩ := if_pos h
  have hgk : growOk (stepF (leastA a).next) n (closeL (leastA a) [0]) = true := by
    have := hok
    unfold closeOk closeN at this; rw [hn] at this; exact this
  obtain ⟨f1, f2, f3, f4, f5, f6⟩ := grow_facts hgk
  have hS : closeS a = growSets (stepF (leastA a).next) n (closeL (leastA a) [0]) := by unfold closeS closeN; rw [hn]
  have hR : closeR a = growRows (stepF (leastA a).next) n (closeL (leastA a) [0]) := by unfold closeR closeN; rw [hn]
  rw [← hS] at f2 f4
  rw [← hR] at f4
  have hs := leastRE_spec (ends := closeEnds (leastA a).ends (closeS a)) (closeRows_ok f4 f2 g.n0) (Nat.succ_pos _)
  have hRE : closeRE a = leastRE n (closeRows (closeR a)) (closeEnds (leastA a).ends (closeS a)) := by unfold closeRE closeN; rw [hn]
  have hl : IsLeast (leastA a) n a.base a.tracks (lng a) := (leastA_isLeast g).1
  refine ⟨n, _, g, ?_, ?_⟩
  · rw [hA]
    refine ⟨rfl, rfl, ?_⟩
    show Least n (closeRE a).1 (closeRE a).2 _
    rw [hRE]
    exact hs.1.lang_congr fun w hw => by rw [close_lang hf hn hok hw]; exact closeLg_congr g.n0 (fun u hu => hl.lng hu) hw
  · rw [hA]; exact h80
end Go.Proofs.Ythcclcbliedodaa
namespace Go.Proofs.Ythcclcbliedodaa
open Go.RowKit

/-- A letter without a track. -/
def dropL (base : Int) (t j k : Nat) : Nat := (pack (radix base) ((unpack (radix base) (t + 1) (k : Int)).eraseIdx j)).toNat
section
variable {base : Int} {t j : Nat}
theorem erase_len (hj : j ≤ t) (k : Int) : ((unpack (radix base) (t + 1) k).eraseIdx j).length = t := by
  rw [List.length_eraseIdx_of_lt (by rw [unpack_length]; omega), unpack_length]; rfl
theorem erase_ok (hr : radix base ≠ 0) (k : Int) : ∀ x ∈ (unpack (radix base) (t + 1) k).eraseIdx j, 0 ≤ x ∧ x < radix base := fun x hx =>
  unpack_ok (radix_two hr).1 (t + 1) k x (List.mem_of_mem_eraseIdx hx)
theorem dropL_int (hr : radix base ≠ 0) (k : Nat) : ((dropL base t j k : Nat) : Int) = pack (radix base) ((unpack (radix base) (t + 1) (k : Int)).eraseIdx j) :=
  Int.toNat_of_nonneg (pack_bd (radix_two hr).1 _ (erase_ok hr _)).1
theorem unpack_drop (hr : radix base ≠ 0) (hj : j ≤ t) (k : Nat) : unpack (radix base) t ((dropL base t j k : Nat) : Int) = (unpack (radix base) (t + 1) (k : Int)).eraseIdx j := by
  have := unpack_pack (radix_two hr).1 _ (erase_ok (base := base) (t := t) (j := j) hr (k : Int))
  rw [erase_len hj] at this
  rw [dropL_int hr]; exact this
theorem unpack_zeros (k : Int) : ∀ t : Nat, unpack k t 0 = List.replicate t 0
  | 0 => rfl
  | t + 1 => by
    show unpack k t (0 / k) ++ [0 % k] = _
    rw [Int.zero_ediv, Int.zero_emod, unpack_zeros k t, List.replicate_succ']
theorem pack_zeros (k : Int) : ∀ t : Nat, pack k (List.replicate t 0) = 0
  | 0 => rfl
  | t + 1 => by rw [List.replicate_succ', pack_snoc, pack_zeros k t]; simp
theorem dropL_zero : dropL base t j 0 = 0 := by
  unfold dropL
  rw [show (((0 : Nat)) : Int) = 0 from rfl, unpack_zeros, List.eraseIdx_replicate]
  split <;> rw [pack_zeros] <;> rfl
theorem with_mem (hr : radix base ≠ 0) (hj : j ≤ t) {l k : Nat} (hl : (l : Int) < powW (radix base) t) : ((k : Nat) : Int) ∈ withR base t j l ↔ ((k : Nat) : Int) < powW (radix base) (t + 1) ∧ dropL base t j k = l := by
  have h2 := (radix_two hr).1
  have hdl := unpack_length (radix base) t (l : Int)
  have hdp := pack_unpack h2 t (l : Int) (by omega) hl
  unfold withR
  rw [List.mem_map]
  constructor
  · rintro ⟨x, hx, e⟩
    have hx := List.mem_range.1 hx
    have hxb : 0 ≤ ((x : Nat) : Int) ∧ ((x : Nat) : Int) < radix base := by omega
    have hb := fixL_bd (base := base) hr (t := t) (k := j) hxb hj l
    rw [e] at hb
    refine ⟨hb.2, ?_⟩
    have hD : unpack (radix base) (t + 1) (k : Int) = fixD base t j x l := by
      have := unpack_pack h2 _ (fixD_ok (base := base) hr (t := t) (k := j) hxb l)
      rw [fixD_len _ _ hj] at this
      rw [← e]; exact this
    have hE : (fixD base t j x l).eraseIdx j = unpack (radix base) t (l : Int) := by
      unfold fixD
      rw [List.append_assoc, List.eraseIdx_append_of_length_le (by rw [List.length_take]; omega), List.length_take, Nat.min_eq_left (by omega), Nat.sub_self]
      exact List.take_append_drop j _
    have := dropL_int (base := base) (t := t) (j := j) hr k
    rw [hD, hE, hdp] at this
    omega
  · rintro ⟨hk, e⟩
    have hu := unpack_drop (base := base) (t := t) hr hj k
    rw [e] at hu
    obtain ⟨D, hD⟩ : ∃ D, unpack (radix base) (t + 1) (k : Int) = D := ⟨_, rfl⟩
    have hDl : D.length = t + 1 := by rw [← hD]; exact unpack_length _ _ _
    have hDo : ∀ x ∈ D, 0 ≤ x ∧ x < radix base := by rw [← hD]; exact unpack_ok h2 (t + 1) _
    have hDp : pack (radix base) D = (k : Int) := by rw [← hD]; exact pack_unpack h2 (t + 1) _ (by omega) hk
    have hjl : j < D.length := by omega
    have hb := hDo _ (List.getElem_mem hjl)
    refine ⟨D[j].toNat, List.mem_range.2 (by omega), ?_⟩
    rw [Int.toNat_of_nonneg hb.1]
    unfold fixL
    have : fixD base t j D[j] l = D := by
      unfold fixD
      rw [hu, hD, List.eraseIdx_eq_take_drop_succ, List.take_append_of_le_length (by rw [List.length_take]; omega), List.take_take, Nat.min_self, List.drop_append_of_le_length (by rw [List.length_take]; omega)]
      rw [show List.drop j (List.take j D) = [] from List.drop_eq_nil_of_le (by rw [List.length_take]; omega), List.nil_append, List.append_assoc, List.singleton_append, List.getElem_cons_drop, List.take_append_drop]
    rw [this, hDp]
end
section
variable {a : GAuto} {k t N nW r : Nat}
theorem LeftOk.rad0 (h : LeftOk a k t N nW r) : radix a.base ≠ 0 := by have := h.rad; have := h.r2; omega
theorem LeftOk.nWp (h : LeftOk a k t N nW r) : ((nW : Nat) : Int) = powW (radix a.base) t := by
  obtain ⟨_, _, _, _, e⟩ := many_ok h.many
  rw [← h.nWe, e, Int.toNat_natCast]
theorem fill_iff (h : LeftOk a k t N nW r) : ∀ {w v : List Nat}, Ltr nW w → (Fill (withW a.base t k) v w ↔ Ltr N v ∧ v.map (dropL a.base t k) = w)
  | [], v, _ => by
    constructor
    · intro hv; cases hv; exact ⟨fun x hx => (by cases hx), rfl⟩
    · rintro ⟨_, e⟩
      rw [List.map_eq_nil_iff] at e
      subst e; exact .nil
  | l :: w, v, hw => by
    have hl := hw l List.mem_cons_self
    have hw' : Ltr nW w := fun x hx => hw x (List.mem_cons_of_mem _ hx)
    have hg : (withW a.base t k)[l]! = withR a.base t k l := bang0' (withW_get h hl)
    have hwm := fun x : Nat => with_mem (base := a.base) (t := t) (j := k) h.rad0 h.kt (l := l) (k := x) (by rw [← h.nWp]; omega)
    have hN := h.N_eq
    constructor
    · intro hv
      cases hv with
      | cons hk ht =>
        rw [hg, hwm] at hk
        obtain ⟨q1, q2⟩ := (fill_iff h hw').1 ht
        exact ⟨fun x hx => by
          rcases List.mem_cons.1 hx with rfl | hx
          · omega
          · exact q1 x hx, by rw [List.map_cons, hk.2, q2]⟩
    · rintro ⟨q1, q2⟩
      cases v with
      | nil => cases q2
      | cons x v =>
        rw [List.map_cons, List.cons.injEq] at q2
        have hx := q1 x List.mem_cons_self
        refine .cons ?_ ((fill_iff h hw').2 ⟨fun y hy => q1 y (List.mem_cons_of_mem _ hy), q2.2⟩)
        rw [hg, hwm]
        exact ⟨by omega, q2.1⟩
where
  bang0' {l : List (List Int)} {i : Nat} {x : List Int} (h : l[i]? = some x) : l[i]! = x := by
    obtain ⟨q1, q2⟩ := List.getElem?_eq_some_iff.1 h
    rw [getElem!_pos l i q1, q2]
theorem lead_iff (h : LeftOk a k t N nW r) {z : List Nat} : (∀ x ∈ z, ((x : Nat) : Int) ∈ (withW a.base t k)[0]!) ↔ Ltr N z ∧ z.map (dropL a.base t k) = List.replicate z.length 0 := by
  have hg : (withW a.base t k)[0]! = withR a.base t k 0 := by
    obtain ⟨q1, q2⟩ := List.getElem?_eq_some_iff.1 (withW_get h h.nW0)
    rw [getElem!_pos _ 0 q1, q2]
  have hwm := fun x : Nat => with_mem (base := a.base) (t := t) (j := k) h.rad0 h.kt (l := 0) (k := x) (by rw [← h.nWp]; have := h.nW0; omega)
  have hN := h.N_eq
  rw [hg, List.eq_replicate_iff]
  constructor
  · intro q
    refine ⟨fun x hx => ?_, by simp, fun y hy => ?_⟩
    · have := (hwm x).1 (q x hx); omega
    · obtain ⟨x, hx, rfl⟩ := List.mem_map.1 hy
      exact ((hwm x).1 (q x hx)).2
  · rintro ⟨q1, _, q2⟩ x hx
    have := q1 x hx
    exact (hwm x).2 ⟨by omega, q2 _ (List.mem_map.2 ⟨x, hx, rfl⟩)⟩
theorem someL_iff (h : LeftOk a k t N nW r) {L : List Nat → Bool} {w : List Nat} (hw : Ltr nW w) : someL L (withW a.base t k) w = true ↔ ∃ u i, Ltr N u ∧ u.map (dropL a.base t k) = List.replicate i 0 ++ w ∧ L u = true := by
  rw [someL_true]
  constructor
  · rintro ⟨z, v, hz, hv, hL⟩
    obtain ⟨z1, z2⟩ := (lead_iff h).1 hz
    obtain ⟨v1, v2⟩ := (fill_iff h hw).1 hv
    exact ⟨z ++ v, z.length, fun x hx => (List.mem_append.1 hx).elim (z1 x) (v1 x), by rw [List.map_append, z2, v2], hL⟩
  · rintro ⟨u, i, hu, e, hL⟩
    obtain ⟨z, v, rfl, e1, e2⟩ := List.map_eq_append_iff.1 e
    have hzl : z.length = i := by have := congrArg List.length e1; simpa using this
    exact ⟨z, v, (lead_iff h).2 ⟨fun x hx => hu x (List.mem_append_left _ hx), by rw [hzl]; exact e1⟩, (fill_iff h hw).2 ⟨fun x hx => hu x (List.mem_append_right _ hx), e2⟩, hL⟩
end
/-- Few sets come up. -/
theorem nodup_few {σ : Type} {l : List σ} {p : σ → Prop} (f : σ → Nat) {K : Nat} (hn : l.Nodup) (hp : ∀ s ∈ l, p s) (hf : ∀ s, p s → f s < K) (hi : ∀ s t, p s → p t → f s = f t → s = t) : l.length ≤ K := by
  have : (l.map f).Nodup := by
    unfold List.Nodup
    rw [List.pairwise_map]
    exact List.Pairwise.imp_of_mem (fun {s t} hs ht hne e => hne (hi s t (hp s hs) (hp t ht) e)) hn
  have := nodup_boundN K (l.map f) this fun x hx => by
    obtain ⟨s, hs, rfl⟩ := List.mem_map.1 hx
    exact hf s (hp s hs)
  simpa using this
theorem sets_few {σ : Type} [DecidableEq σ] {δ : σ → Nat → σ} {n : Nat} {s0 : σ} {p : σ → Prop} (f : σ → Nat) {K : Nat} (h0 : p s0) (hp : ∀ s l, l < n → p s → p (δ s l)) (hf : ∀ s, p s → f s < K) (hi : ∀ s t, p s → p t → f s = f t → s = t) (hK : K ≤ 2000) : setsOk δ n s0 = true := by
  unfold setsOk
  rw [decide_eq_true_iff]
  exact Nat.le_trans (nodup_few f sets_nodup (growS_in' h0 hp _) hf hi) hK
/-- 0s ahead do not matter. -/
def Closed (n : Nat) (L : List Nat → Bool) : Prop := ∀ w, Ltr n w → L (0 :: w) = L w
theorem Closed.congr {n : Nat} {L L' : List Nat → Bool} (hn : 0 < n) (h : Closed n L) (he : ∀ w, Ltr n w → L w = L' w) : Closed n L' := fun w hw => by
  rw [← he w hw, ← he (0 :: w) (fun x hx => by rcases List.mem_cons.1 hx with rfl | hx; exact hn; exact hw x hx)]
  exact h w hw
theorem Closed.zeros {n : Nat} {L : List Nat → Bool} (hn : 0 < n) (h : Closed n L) {w : List Nat} (hw : Ltr n w) : ∀ i, L (List.replicate i 0 ++ w) = L w
  | 0 => rfl
  | i + 1 => by
    rw [List.replicate_succ, List.cons_append, h _ fun x hx => ?_, h.zeros hn hw i]
    rcases List.mem_append.1 hx with hx | hx
    · rw [(List.mem_replicate.1 hx).2]; exact hn
    · exact hw x hx
theorem closeLg_closed (n : Nat) (L : List Nat → Bool) : Closed n (closeLg L) := fun _ _ => rfl
theorem closeLg_of {n : Nat} {L : List Nat → Bool} (hn : 0 < n) (h : Closed n L) {w : List Nat} (hw : Ltr n w) : closeLg L w = L w := by
  obtain ⟨j, e, _⟩ := strip_eq w
  have hs := strip_ltr hw
  have h1 := h.zeros hn hs j
  rw [← e] at h1
  refine bool_iff ?_
  rw [closeLg_true, h1]
  exact ⟨fun ⟨i, hi⟩ => by rw [h.zeros hn hs i] at hi; exact hi, fun hi => ⟨0, hi⟩⟩
/-- What is taken is taken then, too. -/
theorem closeLg_more {L : List Nat → Bool} {w : List Nat} (h : L w = true) : closeLg L w = true := by
  obtain ⟨j, e, _⟩ := strip_eq w
  rw [closeLg_true]
  exact ⟨j, by rw [← e]; exact h⟩
theorem closeLg_zeros (L : List Nat → Bool) (i : Nat) (w : List Nat) : closeLg L (List.replicate i 0 ++ w) = closeLg L w := by
  unfold closeLg; rw [strip_zeros]
theorem someL_closed {a : GAuto} {k t N nW r : Nat} (h : LeftOk a k t N nW r) {L : List Nat → Bool} (hL : Closed N L) : Closed nW (someL L (withW a.base t k)) := fun w hw => by
  have hw0 : Ltr nW (0 :: w) := fun x hx => by
    rcases List.mem_cons.1 hx with rfl | hx
    · exact h.nW0
    · exact hw x hx
  refine bool_iff ?_
  rw [someL_iff h hw0, someL_iff h hw]
  constructor
  · rintro ⟨u, i, h1, h2, h3⟩
    exact ⟨u, i + 1, h1, by rw [h2, List.replicate_succ']; simp, h3⟩
  · rintro ⟨u, i, h1, h2, h3⟩
    cases i with
    | zero =>
      refine ⟨0 :: u, 0, fun x hx => ?_, ?_, by rw [hL u h1]; exact h3⟩
      · rcases List.mem_cons.1 hx with rfl | hx
        · exact h.good.n0
        · exact h1 x hx
      · rw [List.map_cons, h2, dropL_zero]; rfl
    | succ i => exact ⟨u, i, h1, by rw [h2, List.replicate_succ']; simp, h3⟩
theorem closedB_iff {a : GAuto} {n m : Nat} (g : Good a n m) : ((leastA a).next[0]!)[0]! = 0 ↔ Closed n (lng a) := by
  have hl := (leastA_isLeast g).1
  obtain ⟨_, _, gM⟩ := least_again g
  have hm0 := gM.m0
  have hn0 := gM.n0
  generalize leastA a = M at *
  obtain ⟨r0, hr0⟩ : ∃ r0, M.next[0]! = r0 := ⟨_, rfl⟩
  have hrl := gM.rows.row r0 (bang_mem hr0 (by omega))
  obtain ⟨t, ht⟩ : ∃ t, r0[0]! = t := ⟨_, rfl⟩
  rw [hr0, ht]
  have h0 := gM.rows.ok r0 (bang_mem hr0 (by omega)) t (bang_mem ht (by omega))
  have hd : ((M.next.getD 0 []).getD 0 0).toNat = t.toNat := by rw [bang_D hr0 (by omega), bang_D ht (by omega)]
  have hnx : nx M.next 0 0 = t := by unfold nx rowOf; rw [show (0 : Int).toNat = 0 from rfl, bang_D hr0 (by omega), bang_D ht (by omega)]
  constructor
  · intro e w hw
    have hw0 : Ltr n (0 :: w) := fun x hx => by
      rcases List.mem_cons.1 hx with rfl | hx
      · exact hn0
      · exact hw x hx
    rw [← hl.lng hw, ← hl.lng hw0]
    show endOf M.ends (runS M.next (nx M.next 0 0) w) = _
    rw [hnx, e]; rfl
  · intro hc
    have hr := hl.least.canon.red t.toNat 0 (by omega) hm0 fun w hw => by
      have hw0 : Ltr n (0 :: w) := fun x hx => by
        rcases List.mem_cons.1 hx with rfl | hx
        · exact hn0
        · exact hw x hx
      rw [hl.least.canon.lang w hw, ← hc w hw, ← hl.least.canon.lang _ hw0]
      show _ = M.ends.getD (runN _ ((M.next.getD 0 []).getD 0 0).toNat w) false
      rw [hd]
    omega
/-- Closed again it is the same. -/
theorem close_again {a : GAuto} {n m : Nat} {L : List Nat → Bool} (g : Good a n m) (hl : IsLeast a n a.base a.tracks L) (hc : Closed n L) : closeErr a = 0 ∧ closeA a = a := by
  have hnn : (manyOf a.base a.tracks).toNat = n := by rw [g.n_eq]; rfl
  have hme : leastA a = a := (leastA_isLeast g).1.unique hl fun w hw => hl.lng hw
  have hm80 : a.next.length ≤ 80 := by rw [g.rows.len]; exact g.m80
  have hcl : Closed n (lng a) := hc.congr g.n0 fun w hw => (hl.lng hw).symm
  have h00 : (a.next[0]!)[0]! = 0 := by have := (closedB_iff g).2 hcl; rw [hme] at this; exact this
  have hnx : nx a.next 0 0 = 0 := by
    have h1 : (a.next[0]!) ∈ a.next := bang_mem rfl (by rw [g.rows.len]; exact g.m0)
    unfold nx rowOf
    rw [show (0 : Int).toNat = 0 from rfl, bang_D (l := a.next) (i := 0) rfl (by rw [g.rows.len]; exact g.m0), bang_D (l := a.next[0]!) (i := 0) rfl (by rw [g.rows.row _ h1]; exact g.n0), h00]
  have hz0 : ∀ l ∈ ([0] : List Int), 0 ≤ l ∧ l < (n : Int) := fun l hl => by have := g.n0; simp at hl; omega
  have hcL : ∀ x, x ∈ closeL a [0] ↔ x = 0 := fun x => by
    rw [closeL_mem g.rows g.m0 hz0, rch_words (fun l hl => (hz0 l hl).1)]
    constructor
    · rintro ⟨z, hz, rfl⟩
      rw [zeros_iff.1 hz]
      generalize z.length = i
      induction i with
      | zero => rfl
      | succ i ih =>
        show runS a.next (nx a.next 0 0) (List.replicate i 0) = 0
        rw [hnx]; exact ih
    · rintro rfl
      exact ⟨[], fun k hk => by (cases hk), rfl⟩
  have hF : canonL (closeL a [0]) = [0] := by
    rw [canonL_eq (l' := [0]) fun x => by rw [hcL]; simp]
    exact canonL_self (by simp)
  have hok : growOk (stepF a.next) n (closeL a [0]) = true := by
    unfold growOk
    rw [hF]
    refine sets_few (p := fun s => ∃ x : Nat, x < m ∧ s = [((x : Nat) : Int)]) (fun s => (s[0]!).toNat) (K := m) ⟨0, g.m0, rfl⟩ ?_ ?_ ?_ (by have := g.m80; omega)
    · rintro s l hl ⟨x, hx, rfl⟩
      have := nx_ok g.rows (s := ((x : Nat) : Int)) (by omega) hl
      refine ⟨(nx a.next x l).toNat, by omega, ?_⟩
      rw [Int.toNat_of_nonneg this.1]
      show canonL [nx a.next x l] = _
      exact canonL_self (by simp)
    · rintro s ⟨x, hx, rfl⟩
      simpa using hx
    · rintro s t ⟨x, hx, rfl⟩ ⟨y, hy, rfl⟩ e
      simp at e
      rw [e]
  have hf : autoFault a = 0 := by have := g.fault; omega
  have hcok : closeOk a = true := by unfold closeOk closeN; rw [hnn, hme]; exact hok
  obtain ⟨f1, f2, f3, f4, f5, f6⟩ := grow_facts hok
  have hS : closeS a = growSets (stepF a.next) n (closeL a [0]) := by unfold closeS closeN; rw [hnn, hme]
  have hR : closeR a = growRows (stepF a.next) n (closeL a [0]) := by unfold closeR closeN; rw [hnn, hme]
  rw [← hS] at f2 f4
  rw [← hR] at f4
  have hRE : closeRE a = (a.next, a.ends) := by
    have : closeRE a = leastRE n (closeRows (closeR a)) (closeEnds (leastA a).ends (closeS a)) := by unfold closeRE closeN; rw [hnn]
    rw [this]
    refine leastRE_eq (closeRows_ok f4 f2 g.n0) (Nat.succ_pos _) (hl.least.lang_congr fun w hw => ?_)
    rw [close_lang hf hnn hcok hw, hme, closeLg_of g.n0 hcl hw, hl.lng hw]
  have he : closeErr a = 0 := by
    unfold closeErr
    rw [if_neg (by rw [hf]; decide), if_neg (by rw [hcok]; decide), hRE, if_pos hm80]
  refine ⟨he, ?_⟩
  unfold closeA
  rw [if_pos he, hRE]
end Go.Proofs.Ythcclcbliedodaa
namespace Go.Proofs.Ythcclcbliedodaa
open Go.RowKit

/-- The states that lead to one at a letter. -/
def fromL (next : List (List Int)) (m : Nat) (t : Int) (l : Nat) : List Int := ((List.range m).filter fun x : Nat => decide (nx next ((x : Nat) : Int) l = t)).map fun x : Nat => ((x : Nat) : Int)
def stepT (next : List (List Int)) (m : Nat) (s : List Int) (l : Nat) : List Int := s.flatMap fun t => fromL next m t l
/-- The states with an end. -/
def endsF (ends : List Bool) (m : Nat) : List Int := ((List.range m).filter fun x : Nat => endOf ends ((x : Nat) : Int)).map fun x : Nat => ((x : Nat) : Int)
noncomputable def turnN (a : GAuto) : Nat := (manyOf a.base a.tracks).toNat
noncomputable def turnF (a : GAuto) : List Int := endsF (leastA a).ends (leastA a).next.length
noncomputable def turnD (a : GAuto) : List Int → Nat → List Int := stepT (leastA a).next (leastA a).next.length
noncomputable def turnS (a : GAuto) : List (List Int) := if autoFault a ≠ 0 then [] else growSets (turnD a) (turnN a) (turnF a)
noncomputable def turnR (a : GAuto) : List (List Int) := if autoFault a ≠ 0 then [] else growRows (turnD a) (turnN a) (turnF a)
/-- What is known where nothing is wrong. -/
structure TurnIs (a : GAuto) (n m : Nat) : Prop where
  ok : Good a n a.next.length
  M : Good (leastA a) n m
  nE : turnN a = n
  mE : (leastA a).next.length = m
  D : turnD a = stepT (leastA a).next m
  F : turnF a = endsF (leastA a).ends m
  len : (turnR a).length = (turnS a).length
  pos : 0 < (turnS a).length
  few : (turnS a).length ≤ 2000
  rows : Rows0 n (turnS a).length (turnR a)
  sets : ∀ s ∈ turnS a, Inm m s ∧ s.Pairwise (· < ·)
  gok : growOk (stepT (leastA a).next m) n (endsF (leastA a).ends m) = true
  Se : turnS a = growSets (stepT (leastA a).next m) n (endsF (leastA a).ends m)
  Re : turnR a = growRows (stepT (leastA a).next m) n (endsF (leastA a).ends m)
  expl : Expl (nextD (stepT (leastA a).next m)) n (turnS a) (turnR a)
  start : (turnS a)[0]! = canonL (endsF (leastA a).ends m)
/-- Each state of a least automaton is reached. -/
theorem Least.word {n : Nat} {N : List (List Int)} {E : List Bool} {L : List Nat → Bool} (h : Least n N E L) : ∀ k, k < N.length → ∃ u, Ltr n u ∧ Go.Proofs.Ythcclcbliedodaa.runS N 0 u = ((k : Nat) : Int) := by
  intro k
  induction k using Nat.strongRecOn with
  | ind k ih =>
    intro hk
    by_cases h0 : k = 0
    · subst h0; exact ⟨[], fun x hx => by (cases hx), rfl⟩
    · obtain ⟨s, l, hs, hl, e⟩ := h.canon.reach k (by omega) hk
      obtain ⟨u, hu, eu⟩ := ih s hs (by omega)
      refine ⟨u ++ [l], fun x hx => ?_, ?_⟩
      · rcases List.mem_append.1 hx with hx | hx
        · exact hu x hx
        · rw [List.mem_singleton] at hx; subst hx; exact hl
      · rw [runS_append, eu]
        have hr := h.rows
        have hb := nx_ok hr (s := ((s : Nat) : Int)) (by omega) hl
        show nx N ((s : Nat) : Int) l = _
        have e2 : (nx N ((s : Nat) : Int) l).toNat = k := by rw [← e]; rfl
        omega
end Go.Proofs.Ythcclcbliedodaa
namespace Go.Proofs.Ythcclcbliedodaa
open Go.RowKit

/-- The facts' automaton: two tracks with the same digits. -/
def sameA : GAuto := ⟨2, 2, [[0, 1, 1, 0], [1, 1, 1, 1]], [true, false]⟩
theorem same_good : Good sameA 4 2 := ⟨by decide, by decide, by decide, by decide, by decide, by decide, rfl, ⟨rfl, by decide, by decide⟩⟩
theorem same_least : leastA sameA = sameA := by
  have h : leastRE 4 sameA.next sameA.ends = (sameA.next, sameA.ends) := leastRE_chk (m := 2) [[]] (by decide +kernel) same_good.rows (by decide) fun w _ => rfl
  have hn : (manyOf sameA.base sameA.tracks).toNat = 4 := by rw [same_good.n_eq]; rfl
  unfold leastA
  rw [hn, h]
theorem same_fault : autoFault sameA = 0 := by decide
end Go.Proofs.Ythcclcbliedodaa
namespace Go.Proofs.Ythcclcbliedodaa
open Go.RowKit

end Go.Proofs.Ythcclcbliedodaa
namespace Go.Proofs.Ythcclcbliedodaa
open Go.RowKit

noncomputable def closedB (a : GAuto) : Bool := if autoFault a = 0 then decide (((leastA a).next[0]!)[0]! = 0) else false
section
variable {G : World → Prop} (hG : Lasting G)
include hG
theorem ClosedI_snd (a : GAuto) : Snd Try.prog G 24 [tAuto a] (.tup [.bool (closedB a), tErr (autoFault a)]) := by
  have c1 := Check_snd hG a
  have c2 := Least_snd hG a
  refine snd_of_body (n := 24) (tm := [(0, .t (tAuto a))]) (rs := [.tmp 2, .tmp 3]) tt_ok Try.func24 rfl rfl rfl rfl rfl ?_
  by_cases hf : autoFault a = 0
  rotate_left
  · rw [show closedB a = false from if_neg hf]
    generalize autoFault a = e at *
    have htb := Tab.cons c1 Tab.nil
    repeat' (first | (with_reducible first | apply w1 | apply w2 | apply w3 | apply w4 | apply w5 | apply w6 | apply w7 | apply w8 | apply w9 | apply wa | apply wb | apply wc) | ((with_reducible apply wd); focus decide) | ((with_reducible apply we); focus exact rfl) | ((with_reducible apply wf); focus exact rfl) | ((first | (with_reducible apply SW_run tt_ok hG htb) | ((with_reducible apply SW_draw rfl tt_ok hG htb); (focus kernel_rfl); focus simp only [List.range, List.range.loop, List.size_toArray, List.length_cons, List.length_nil, Nat.reduceAdd])); focus ((repeat' (first | (with_reducible first | exact wg | exact wh) | ((with_reducible first | apply wi | apply wj); focus (simp (discharger := omega) only [go_sem, tAuto, tErr, hf, simprocAttr]; with_reducible rfl)))); done)))
    exact (by simp (discharger := omega) only [go_sem, tErr, hf, simprocAttr])
  have g := good_of hf
  obtain ⟨n, hn⟩ : ∃ n, (manyOf a.base a.tracks).toNat = n := ⟨_, rfl⟩
  rw [hn] at g
  obtain ⟨_, _, gM⟩ := least_again g
  have hlA : leastOf a = leastA a := if_pos hf
  have hcb : closedB a = decide (((leastA a).next[0]!)[0]! = 0) := if_pos hf
  rw [hcb]
  rw [hf, hlA] at c2
  rw [hf] at c1 ⊢
  generalize leastA a = M at *
  have hm0 := gM.m0
  have hn0 := gM.n0
  obtain ⟨r0, hr0⟩ : ∃ r0, M.next[0]! = r0 := ⟨_, rfl⟩
  have hrl := gM.rows.row r0 (bang_mem hr0 (by omega))
  obtain ⟨t, ht⟩ : ∃ t, r0[0]! = t := ⟨_, rfl⟩
  rw [hr0, ht]
  have htb := Tab.cons c1 (Tab.cons c2 Tab.nil)
  by_cases h0 : t = 0
  · rw [decide_eq_true h0]
    have h02 := eq_true h0
    repeat' (first | (with_reducible first | apply w1 | apply w2 | apply w3 | apply w4 | apply w5 | apply w6 | apply w7 | apply w8 | apply w9 | apply wa | apply wb | apply wc) | ((with_reducible apply wd); focus decide) | ((with_reducible apply we); focus exact rfl) | ((with_reducible apply wf); focus exact rfl) | ((first | (with_reducible apply SW_run tt_ok hG htb) | ((with_reducible apply SW_draw rfl tt_ok hG htb); (focus kernel_rfl); focus simp only [List.range, List.range.loop, List.size_toArray, List.length_cons, List.length_nil, Nat.reduceAdd])); focus ((repeat' (first | (with_reducible first | exact wg | exact wh) | ((with_reducible first | apply wi | apply wj); focus (simp (discharger := omega) only [go_sem, tAuto, tErr0, hr0, ht, hrl, h02, simprocAttr]; with_reducible rfl)))); done)))
    exact (by simp (discharger := omega) only [go_sem, tErr0, simprocAttr])
  · rw [decide_eq_false h0]
    repeat' (first | (with_reducible first | apply w1 | apply w2 | apply w3 | apply w4 | apply w5 | apply w6 | apply w7 | apply w8 | apply w9 | apply wa | apply wb | apply wc) | ((with_reducible apply wd); focus decide) | ((with_reducible apply we); focus exact rfl) | ((with_reducible apply wf); focus exact rfl) | ((first | (with_reducible apply SW_run tt_ok hG htb) | ((with_reducible apply SW_draw rfl tt_ok hG htb); (focus kernel_rfl); focus simp only [List.range, List.range.loop, List.size_toArray, List.length_cons, List.length_nil, Nat.reduceAdd])); focus ((repeat' (first | (with_reducible first | exact wg | exact wh) | ((with_reducible first | apply wi | apply wj); focus (simp (discharger := omega) only [go_sem, tAuto, tErr0, hr0, ht, hrl, h0, simprocAttr]; with_reducible rfl)))); done)))
    exact (by simp (discharger := omega) only [go_sem, tErr0, simprocAttr])
end
end Go.Proofs.Ythcclcbliedodaa
namespace Go.Proofs.Ythcclcbliedodaa
open Go.RowKit

theorem same_closed : closedB sameA = true := by
  unfold closedB
  rw [if_pos same_fault, same_least]
  decide
section
variable {G : World → Prop} (hG : Lasting G)
include hG
theorem same_snd : Snd Try.prog G 21 [] (tAuto sameA) := by
  have htb : Tab.ok Try.prog G [] := Tab.nil
  refine snd_of_body (n := 6) (tm := []) (rs := [.cell 0 25]) tt_ok Try.func21 rfl rfl rfl rfl rfl ?_
  repeat' (first | (with_reducible first | apply w1 | apply w2 | apply w3 | apply w4 | apply w5 | apply w6 | apply w7 | apply w8 | apply w9 | apply wa | apply wb | apply wc) | ((with_reducible apply wd); focus decide) | ((with_reducible apply we); focus exact rfl) | ((with_reducible apply wf); focus exact rfl) | ((first | (with_reducible apply SW_run tt_ok hG htb) | ((with_reducible apply SW_draw rfl tt_ok hG htb); (focus kernel_rfl); focus simp only [List.range, List.range.loop, List.size_toArray, List.length_cons, List.length_nil, Nat.reduceAdd])); focus ((repeat' (first | (with_reducible first | exact wg | exact wh) | ((with_reducible first | apply wi | apply wj); focus (simp (discharger := omega) only [go_sem, simprocAttr]; with_reducible rfl)))); done)))
  exact (by simp (discharger := omega) only [go_sem, tAuto, sameA, simprocAttr])
end
end Go.Proofs.Ythcclcbliedodaa
namespace Go.Proofs.Ythcclcbliedodaa
open Go.RowKit

theorem list_same {α : Type} [Inhabited α] {l l' : List α} (hl : l.length = l'.length) (h : ∀ j, j < l.length → l[j]! = l'[j]!) : l = l' := by
  refine List.ext_getElem hl fun i h1 h2 => ?_
  have := h i h1
  rwa [getElem!_pos l i h1, getElem!_pos l' i h2] at this
section
variable {G : World → Prop} (hG : Lasting G)
include hG
set_option maxHeartbeats 4000000 in
theorem SInts_snd (d d' : List Int) : Snd Try.prog G 55 [tInts d, tInts d'] (.bool (decide (d = d'))) := by
  have htb : Tab.ok Try.prog G [] := Tab.nil
  refine snd_of_body (n := 26) (tm := [(0, .t (tInts d)), (1, .t (tInts d'))]) (rs := [.tmp 4]) tt_ok Try.func55 rfl rfl rfl rfl rfl ?_
  refine SW_len (t := 0) (l := _) rfl fun hlen => ?_
  simp only [List.length_map] at hlen
  by_cases hl : d.length = d'.length
  · repeat' (first | (with_reducible first | apply w1 | apply w2 | apply w3 | apply w4 | apply w5 | apply w6 | apply w7 | apply w8 | apply w9 | apply wa | apply wb | apply wc) | ((with_reducible apply wd); focus decide) | ((with_reducible apply we); focus exact rfl) | ((with_reducible apply wf); focus exact rfl) | ((first | (with_reducible apply SW_run tt_ok hG htb) | ((with_reducible apply SW_draw rfl tt_ok hG htb); (focus kernel_rfl); focus simp only [List.range, List.range.loop, List.size_toArray, List.length_cons, List.length_nil, Nat.reduceAdd])); focus ((repeat' (first | (with_reducible first | exact wg | exact wh) | ((with_reducible first | apply wi | apply wj); focus (simp (discharger := omega) only [go_sem, hl, simprocAttr]; with_reducible rfl)))); done)))
    refine SW_loop (fun n s => ∃ k : Nat, n = d.length - k ∧ s = ⟨26, [(0, .t (tInts d)), (1, .t (tInts d')), (5, .t (tInt k))], []⟩ ∧ k ≤ d.length ∧ ∀ j, j < k → d[j]! = d'[j]!) d.length ⟨_, Norm.headS (own := []) (keep := [0, 1, 5]) (by refine ⟨?_, ?_⟩; (simp (discharger := omega) only [go_sem, simprocAttr]; with_reducible rfl); refine ⟨?_, ?_, ?_, ?_⟩ <;> (simp only [go_sem, simprocAttr]; with_reducible rfl)), 0, rfl, rfl, Nat.zero_le _, fun j hj => by omega⟩ ?_
    rintro n s ⟨k, rfl, rfl, hk, hA⟩
    by_cases hlt : k < d.length
    · by_cases h : d[k]! = d'[k]!
      · repeat' (first | (with_reducible first | apply w1 | apply w2 | apply w3 | apply w4 | apply w5 | apply w6 | apply w7 | apply w8 | apply w9 | apply wa | apply wb | apply wc) | ((with_reducible apply wd); focus decide) | ((with_reducible apply we); focus exact rfl) | ((with_reducible apply wf); focus exact rfl) | ((first | (with_reducible apply SW_run tt_ok hG htb) | ((with_reducible apply SW_draw rfl tt_ok hG htb); (focus kernel_rfl); focus simp only [List.range, List.range.loop, List.size_toArray, List.length_cons, List.length_nil, Nat.reduceAdd])); focus ((repeat' (first | (with_reducible first | exact wg | exact wh) | ((with_reducible first | apply wi | apply wj); focus (simp (discharger := omega) only [go_sem, h, simprocAttr]; with_reducible rfl)))); done)))
        exact ⟨d.length - (k + 1), _, by omega, Norm.headS (own := []) (keep := [0, 1, 5]) (by refine ⟨?_, ?_⟩; (simp (discharger := omega) only [go_sem, simprocAttr]; with_reducible rfl); refine ⟨?_, ?_, ?_, ?_⟩ <;> (simp only [go_sem, simprocAttr]; with_reducible rfl)), k + 1, rfl, rfl, by omega, fun j hj => by
          by_cases e : j = k
          · subst e; exact h
          · exact hA j (by omega)⟩
      · rw [decide_eq_false (fun e => h (by rw [e]))]
        repeat' (first | (with_reducible first | apply w1 | apply w2 | apply w3 | apply w4 | apply w5 | apply w6 | apply w7 | apply w8 | apply w9 | apply wa | apply wb | apply wc) | ((with_reducible apply wd); focus decide) | ((with_reducible apply we); focus exact rfl) | ((with_reducible apply wf); focus exact rfl) | ((first | (with_reducible apply SW_run tt_ok hG htb) | ((with_reducible apply SW_draw rfl tt_ok hG htb); (focus kernel_rfl); focus simp only [List.range, List.range.loop, List.size_toArray, List.length_cons, List.length_nil, Nat.reduceAdd])); focus ((repeat' (first | (with_reducible first | exact wg | exact wh) | ((with_reducible first | apply wi | apply wj); focus (simp (discharger := omega) only [go_sem, h, simprocAttr]; with_reducible rfl)))); done)))
        exact (by simp (discharger := omega) only [go_sem, simprocAttr])
    · rw [decide_eq_true (list_same hl fun j hj => hA j (by omega))]
      repeat' (first | (with_reducible first | apply w1 | apply w2 | apply w3 | apply w4 | apply w5 | apply w6 | apply w7 | apply w8 | apply w9 | apply wa | apply wb | apply wc) | ((with_reducible apply wd); focus decide) | ((with_reducible apply we); focus exact rfl) | ((with_reducible apply wf); focus exact rfl) | ((first | (with_reducible apply SW_run tt_ok hG htb) | ((with_reducible apply SW_draw rfl tt_ok hG htb); (focus kernel_rfl); focus simp only [List.range, List.range.loop, List.size_toArray, List.length_cons, List.length_nil, Nat.reduceAdd])); focus ((repeat' (first | (with_reducible first | exact wg | exact wh) | ((with_reducible first | apply wi | apply wj); focus (simp (discharger := omega) only [go_sem, simprocAttr]; with_reducible rfl)))); done)))
      exact (by simp (discharger := omega) only [go_sem, simprocAttr])
  · rw [decide_eq_false (fun e => hl (by rw [e]))]
    repeat' (first | (with_reducible first | apply w1 | apply w2 | apply w3 | apply w4 | apply w5 | apply w6 | apply w7 | apply w8 | apply w9 | apply wa | apply wb | apply wc) | ((with_reducible apply wd); focus decide) | ((with_reducible apply we); focus exact rfl) | ((with_reducible apply wf); focus exact rfl) | ((first | (with_reducible apply SW_run tt_ok hG htb) | ((with_reducible apply SW_draw rfl tt_ok hG htb); (focus kernel_rfl); focus simp only [List.range, List.range.loop, List.size_toArray, List.length_cons, List.length_nil, Nat.reduceAdd])); focus ((repeat' (first | (with_reducible first | exact wg | exact wh) | ((with_reducible first | apply wi | apply wj); focus (simp (discharger := omega) only [go_sem, hl, simprocAttr]; with_reducible rfl)))); done)))
    exact (by simp (discharger := omega) only [go_sem, simprocAttr])
set_option maxHeartbeats 4000000 in
theorem Lists_snd (d d' : List (List Int)) : Snd Try.prog G 41 [tIntss d, tIntss d'] (.bool (decide (d = d'))) := by
  have htb : Tab.ok Try.prog G [] := Tab.nil
  refine snd_of_body (n := 29) (tm := [(0, .t (tIntss d)), (1, .t (tIntss d'))]) (rs := [.tmp 4]) tt_ok Try.func41 rfl rfl rfl rfl rfl ?_
  refine SW_len (t := 0) (l := _) rfl fun hlen => ?_
  simp only [List.length_map] at hlen
  by_cases hl : d.length = d'.length
  · repeat' (first | (with_reducible first | apply w1 | apply w2 | apply w3 | apply w4 | apply w5 | apply w6 | apply w7 | apply w8 | apply w9 | apply wa | apply wb | apply wc) | ((with_reducible apply wd); focus decide) | ((with_reducible apply we); focus exact rfl) | ((with_reducible apply wf); focus exact rfl) | ((first | (with_reducible apply SW_run tt_ok hG htb) | ((with_reducible apply SW_draw rfl tt_ok hG htb); (focus kernel_rfl); focus simp only [List.range, List.range.loop, List.size_toArray, List.length_cons, List.length_nil, Nat.reduceAdd])); focus ((repeat' (first | (with_reducible first | exact wg | exact wh) | ((with_reducible first | apply wi | apply wj); focus (simp (discharger := omega) only [go_sem, hl, simprocAttr]; with_reducible rfl)))); done)))
    refine SW_loop (fun n s => ∃ k : Nat, n = d.length - k ∧ s = ⟨29, [(0, .t (tIntss d)), (1, .t (tIntss d')), (5, .t (tInt k))], []⟩ ∧ k ≤ d.length ∧ ∀ j, j < k → d[j]! = d'[j]!) d.length ⟨_, Norm.headS (own := []) (keep := [0, 1, 5]) (by refine ⟨?_, ?_⟩; (simp (discharger := omega) only [go_sem, simprocAttr]; with_reducible rfl); refine ⟨?_, ?_, ?_, ?_⟩ <;> (simp only [go_sem, simprocAttr]; with_reducible rfl)), 0, rfl, rfl, Nat.zero_le _, fun j hj => by omega⟩ ?_
    rintro n s ⟨k, rfl, rfl, hk, hA⟩
    by_cases hlt : k < d.length
    · have htb := Tab.cons (SInts_snd hG d[k]! d'[k]!) Tab.nil
      by_cases h : d[k]! = d'[k]!
      · rw [decide_eq_true h] at htb
        repeat' (first | (with_reducible first | apply w1 | apply w2 | apply w3 | apply w4 | apply w5 | apply w6 | apply w7 | apply w8 | apply w9 | apply wa | apply wb | apply wc) | ((with_reducible apply wd); focus decide) | ((with_reducible apply we); focus exact rfl) | ((with_reducible apply wf); focus exact rfl) | ((first | (with_reducible apply SW_run tt_ok hG htb) | ((with_reducible apply SW_draw rfl tt_ok hG htb); (focus kernel_rfl); focus simp only [List.range, List.range.loop, List.size_toArray, List.length_cons, List.length_nil, Nat.reduceAdd])); focus ((repeat' (first | (with_reducible first | exact wg | exact wh) | ((with_reducible first | apply wi | apply wj); focus (simp (discharger := omega) only [go_sem, simprocAttr]; with_reducible rfl)))); done)))
        exact ⟨d.length - (k + 1), _, by omega, Norm.headS (own := []) (keep := [0, 1, 5]) (by refine ⟨?_, ?_⟩; (simp (discharger := omega) only [go_sem, simprocAttr]; with_reducible rfl); refine ⟨?_, ?_, ?_, ?_⟩ <;> (simp only [go_sem, simprocAttr]; with_reducible rfl)), k + 1, rfl, rfl, by omega, fun j hj => by
          by_cases e : j = k
          · subst e; exact h
          · exact hA j (by omega)⟩
      · rw [decide_eq_false (fun e => h (by rw [e]))]
        rw [decide_eq_false h] at htb
        repeat' (first | (with_reducible first | apply w1 | apply w2 | apply w3 | apply w4 | apply w5 | apply w6 | apply w7 | apply w8 | apply w9 | apply wa | apply wb | apply wc) | ((with_reducible apply wd); focus decide) | ((with_reducible apply we); focus exact rfl) | ((with_reducible apply wf); focus exact rfl) | ((first | (with_reducible apply SW_run tt_ok hG htb) | ((with_reducible apply SW_draw rfl tt_ok hG htb); (focus kernel_rfl); focus simp only [List.range, List.range.loop, List.size_toArray, List.length_cons, List.length_nil, Nat.reduceAdd])); focus ((repeat' (first | (with_reducible first | exact wg | exact wh) | ((with_reducible first | apply wi | apply wj); focus (simp (discharger := omega) only [go_sem, simprocAttr]; with_reducible rfl)))); done)))
        exact (by simp (discharger := omega) only [go_sem, simprocAttr])
    · rw [decide_eq_true (list_same hl fun j hj => hA j (by omega))]
      repeat' (first | (with_reducible first | apply w1 | apply w2 | apply w3 | apply w4 | apply w5 | apply w6 | apply w7 | apply w8 | apply w9 | apply wa | apply wb | apply wc) | ((with_reducible apply wd); focus decide) | ((with_reducible apply we); focus exact rfl) | ((with_reducible apply wf); focus exact rfl) | ((first | (with_reducible apply SW_run tt_ok hG htb) | ((with_reducible apply SW_draw rfl tt_ok hG htb); (focus kernel_rfl); focus simp only [List.range, List.range.loop, List.size_toArray, List.length_cons, List.length_nil, Nat.reduceAdd])); focus ((repeat' (first | (with_reducible first | exact wg | exact wh) | ((with_reducible first | apply wi | apply wj); focus (simp (discharger := omega) only [go_sem, simprocAttr]; with_reducible rfl)))); done)))
      exact (by simp (discharger := omega) only [go_sem, simprocAttr])
  · rw [decide_eq_false (fun e => hl (by rw [e]))]
    repeat' (first | (with_reducible first | apply w1 | apply w2 | apply w3 | apply w4 | apply w5 | apply w6 | apply w7 | apply w8 | apply w9 | apply wa | apply wb | apply wc) | ((with_reducible apply wd); focus decide) | ((with_reducible apply we); focus exact rfl) | ((with_reducible apply wf); focus exact rfl) | ((first | (with_reducible apply SW_run tt_ok hG htb) | ((with_reducible apply SW_draw rfl tt_ok hG htb); (focus kernel_rfl); focus simp only [List.range, List.range.loop, List.size_toArray, List.length_cons, List.length_nil, Nat.reduceAdd])); focus ((repeat' (first | (with_reducible first | exact wg | exact wh) | ((with_reducible first | apply wi | apply wj); focus (simp (discharger := omega) only [go_sem, hl, simprocAttr]; with_reducible rfl)))); done)))
    exact (by simp (discharger := omega) only [go_sem, simprocAttr])
def autoSame (a b : GAuto) : Bool := decide (a.base = b.base ∧ a.tracks = b.tracks ∧ a.next = b.next ∧ a.ends = b.ends)
omit hG in
theorem autoSame_self (a : GAuto) : autoSame a a = true := by simp [autoSame]
set_option maxHeartbeats 4000000 in
theorem Autos_snd (a b : GAuto) : Snd Try.prog G 19 [tAuto a, tAuto b] (.bool (autoSame a b)) := by
  have htb := Tab.cons (Lists_snd hG a.next b.next) Tab.nil
  refine snd_of_body (n := 55) (tm := [(0, .t (tAuto a)), (1, .t (tAuto b))]) (rs := [.tmp 4]) tt_ok Try.func19 rfl rfl rfl rfl rfl ?_
  unfold autoSame
  refine SW_lenA (t := 0) (i := 3) (l := a.ends.map T.bool) rfl rfl fun hlen => ?_
  simp only [List.length_map] at hlen
  by_cases h1 : a.base = b.base
  · by_cases h2 : a.tracks = b.tracks
    · by_cases h3 : a.next = b.next
      · rw [decide_eq_true h3] at htb
        by_cases h4 : a.ends.length = b.ends.length
        · repeat' (first | (with_reducible first | apply w1 | apply w2 | apply w3 | apply w4 | apply w5 | apply w6 | apply w7 | apply w8 | apply w9 | apply wa | apply wb | apply wc) | ((with_reducible apply wd); focus decide) | ((with_reducible apply we); focus exact rfl) | ((with_reducible apply wf); focus exact rfl) | ((first | (with_reducible apply SW_run tt_ok hG htb) | ((with_reducible apply SW_draw rfl tt_ok hG htb); (focus kernel_rfl); focus simp only [List.range, List.range.loop, List.size_toArray, List.length_cons, List.length_nil, Nat.reduceAdd])); focus ((repeat' (first | (with_reducible first | exact wg | exact wh) | ((with_reducible first | apply wi | apply wj); focus (simp (discharger := omega) only [go_sem, tAuto, h1, h2, h4, simprocAttr]; with_reducible rfl)))); done)))
          refine SW_loop (fun n s => ∃ k : Nat, n = a.ends.length - k ∧ s = ⟨55, [(2, .bptr 0 0), (3, .bptr 1 0), (6, .t (tInt k))], [.box [.t (tInt a.base), .t (tInt a.tracks), .t (tIntss a.next), .t (tBools a.ends)], .box [.t (tInt b.base), .t (tInt b.tracks), .t (tIntss b.next), .t (tBools b.ends)]]⟩ ∧ k ≤ a.ends.length ∧ ∀ j, j < k → a.ends[j]! = b.ends[j]!) a.ends.length
            ⟨_, Norm.headS (own := []) (keep := [2, 3, 6]) (by refine ⟨?_, ?_⟩; (simp (discharger := omega) only [go_sem, simprocAttr]; with_reducible rfl); refine ⟨?_, ?_, ?_, ?_⟩ <;> (simp only [go_sem, simprocAttr]; with_reducible rfl)), 0, rfl, by rw [← h1, ← h2]; rfl, Nat.zero_le _, fun j hj => by omega⟩ ?_
          rintro n s ⟨k, rfl, rfl, hk, hA⟩
          by_cases hlt : k < a.ends.length
          · by_cases h : a.ends[k]! = b.ends[k]!
            · have hb : (a.ends[k]! == b.ends[k]!) = true := by rw [h]; simp
              repeat' (first | (with_reducible first | apply w1 | apply w2 | apply w3 | apply w4 | apply w5 | apply w6 | apply w7 | apply w8 | apply w9 | apply wa | apply wb | apply wc) | ((with_reducible apply wd); focus decide) | ((with_reducible apply we); focus exact rfl) | ((with_reducible apply wf); focus exact rfl) | ((first | (with_reducible apply SW_run tt_ok hG htb) | ((with_reducible apply SW_draw rfl tt_ok hG htb); (focus kernel_rfl); focus simp only [List.range, List.range.loop, List.size_toArray, List.length_cons, List.length_nil, Nat.reduceAdd])); focus ((repeat' (first | (with_reducible first | exact wg | exact wh) | ((with_reducible first | apply wi | apply wj); focus (simp (discharger := omega) only [go_sem, hb, simprocAttr]; with_reducible rfl)))); done)))
              exact ⟨a.ends.length - (k + 1), _, by omega, Norm.headS (own := []) (keep := [2, 3, 6]) (by refine ⟨?_, ?_⟩; (simp (discharger := omega) only [go_sem, simprocAttr]; with_reducible rfl); refine ⟨?_, ?_, ?_, ?_⟩ <;> (simp only [go_sem, simprocAttr]; with_reducible rfl)), k + 1, rfl, rfl, by omega, fun j hj => by
                by_cases e : j = k
                · subst e; exact h
                · exact hA j (by omega)⟩
            · have hb : (a.ends[k]! == b.ends[k]!) = false := by simpa using h
              rw [decide_eq_false (fun e => h (by rw [e.2.2.2]))]
              repeat' (first | (with_reducible first | apply w1 | apply w2 | apply w3 | apply w4 | apply w5 | apply w6 | apply w7 | apply w8 | apply w9 | apply wa | apply wb | apply wc) | ((with_reducible apply wd); focus decide) | ((with_reducible apply we); focus exact rfl) | ((with_reducible apply wf); focus exact rfl) | ((first | (with_reducible apply SW_run tt_ok hG htb) | ((with_reducible apply SW_draw rfl tt_ok hG htb); (focus kernel_rfl); focus simp only [List.range, List.range.loop, List.size_toArray, List.length_cons, List.length_nil, Nat.reduceAdd])); focus ((repeat' (first | (with_reducible first | exact wg | exact wh) | ((with_reducible first | apply wi | apply wj); focus (simp (discharger := omega) only [go_sem, hb, simprocAttr]; with_reducible rfl)))); done)))
              exact (by simp (discharger := omega) only [go_sem, simprocAttr])
          · rw [decide_eq_true ⟨h1, h2, h3, list_same h4 fun j hj => hA j (by omega)⟩]
            repeat' (first | (with_reducible first | apply w1 | apply w2 | apply w3 | apply w4 | apply w5 | apply w6 | apply w7 | apply w8 | apply w9 | apply wa | apply wb | apply wc) | ((with_reducible apply wd); focus decide) | ((with_reducible apply we); focus exact rfl) | ((with_reducible apply wf); focus exact rfl) | ((first | (with_reducible apply SW_run tt_ok hG htb) | ((with_reducible apply SW_draw rfl tt_ok hG htb); (focus kernel_rfl); focus simp only [List.range, List.range.loop, List.size_toArray, List.length_cons, List.length_nil, Nat.reduceAdd])); focus ((repeat' (first | (with_reducible first | exact wg | exact wh) | ((with_reducible first | apply wi | apply wj); focus (simp (discharger := omega) only [go_sem, simprocAttr]; with_reducible rfl)))); done)))
            exact (by simp (discharger := omega) only [go_sem, simprocAttr])
        · rw [decide_eq_false (fun e => h4 (by rw [e.2.2.2]))]
          repeat' (first | (with_reducible first | apply w1 | apply w2 | apply w3 | apply w4 | apply w5 | apply w6 | apply w7 | apply w8 | apply w9 | apply wa | apply wb | apply wc) | ((with_reducible apply wd); focus decide) | ((with_reducible apply we); focus exact rfl) | ((with_reducible apply wf); focus exact rfl) | ((first | (with_reducible apply SW_run tt_ok hG htb) | ((with_reducible apply SW_draw rfl tt_ok hG htb); (focus kernel_rfl); focus simp only [List.range, List.range.loop, List.size_toArray, List.length_cons, List.length_nil, Nat.reduceAdd])); focus ((repeat' (first | (with_reducible first | exact wg | exact wh) | ((with_reducible first | apply wi | apply wj); focus (simp (discharger := omega) only [go_sem, tAuto, h1, h2, h4, simprocAttr]; with_reducible rfl)))); done)))
          exact (by simp (discharger := omega) only [go_sem, simprocAttr])
      · rw [decide_eq_false h3] at htb
        rw [decide_eq_false (fun e => h3 e.2.2.1)]
        repeat' (first | (with_reducible first | apply w1 | apply w2 | apply w3 | apply w4 | apply w5 | apply w6 | apply w7 | apply w8 | apply w9 | apply wa | apply wb | apply wc) | ((with_reducible apply wd); focus decide) | ((with_reducible apply we); focus exact rfl) | ((with_reducible apply wf); focus exact rfl) | ((first | (with_reducible apply SW_run tt_ok hG htb) | ((with_reducible apply SW_draw rfl tt_ok hG htb); (focus kernel_rfl); focus simp only [List.range, List.range.loop, List.size_toArray, List.length_cons, List.length_nil, Nat.reduceAdd])); focus ((repeat' (first | (with_reducible first | exact wg | exact wh) | ((with_reducible first | apply wi | apply wj); focus (simp (discharger := omega) only [go_sem, tAuto, h1, h2, simprocAttr]; with_reducible rfl)))); done)))
        exact (by simp (discharger := omega) only [go_sem, simprocAttr])
    · rw [decide_eq_false (fun e => h2 e.2.1)]
      repeat' (first | (with_reducible first | apply w1 | apply w2 | apply w3 | apply w4 | apply w5 | apply w6 | apply w7 | apply w8 | apply w9 | apply wa | apply wb | apply wc) | ((with_reducible apply wd); focus decide) | ((with_reducible apply we); focus exact rfl) | ((with_reducible apply wf); focus exact rfl) | ((first | (with_reducible apply SW_run tt_ok hG htb) | ((with_reducible apply SW_draw rfl tt_ok hG htb); (focus kernel_rfl); focus simp only [List.range, List.range.loop, List.size_toArray, List.length_cons, List.length_nil, Nat.reduceAdd])); focus ((repeat' (first | (with_reducible first | exact wg | exact wh) | ((with_reducible first | apply wi | apply wj); focus (simp (discharger := omega) only [go_sem, tAuto, h1, h2, simprocAttr]; with_reducible rfl)))); done)))
      exact (by simp (discharger := omega) only [go_sem, simprocAttr])
  · rw [decide_eq_false (fun e => h1 e.1)]
    repeat' (first | (with_reducible first | apply w1 | apply w2 | apply w3 | apply w4 | apply w5 | apply w6 | apply w7 | apply w8 | apply w9 | apply wa | apply wb | apply wc) | ((with_reducible apply wd); focus decide) | ((with_reducible apply we); focus exact rfl) | ((with_reducible apply wf); focus exact rfl) | ((first | (with_reducible apply SW_run tt_ok hG htb) | ((with_reducible apply SW_draw rfl tt_ok hG htb); (focus kernel_rfl); focus simp only [List.range, List.range.loop, List.size_toArray, List.length_cons, List.length_nil, Nat.reduceAdd])); focus ((repeat' (first | (with_reducible first | exact wg | exact wh) | ((with_reducible first | apply wi | apply wj); focus (simp (discharger := omega) only [go_sem, tAuto, h1, simprocAttr]; with_reducible rfl)))); done)))
    exact (by simp (discharger := omega) only [go_sem, simprocAttr])
end
end Go.Proofs.Ythcclcbliedodaa
namespace Go.Proofs.Ythcclcbliedodaa
open Go.RowKit

section
variable {G : World → Prop} (hG : Lasting G)
include hG
set_option maxHeartbeats 8000000 in
set_option maxRecDepth 100000 in
theorem SomeClosed_snd (a : GAuto) (t : Int) (w : List Int) (zeros : Int) (hz : w.length * 8 ≤ 140737488351232) : Snd Try.prog G 7 [tAuto a, tInt t, tInts w, tInt zeros] (.bool true) := by
  have c0 := same_snd hG
  have c1 := ClosedI_snd hG sameA
  rw [same_closed, same_fault] at c1
  have c2 := Close_snd hG a
  refine snd_of_body (n := 140) (tm := [(0, .t (tAuto a)), (1, .t (tInt t)), (2, .t (tInts w)), (3, .t (tInt zeros))]) (rs := [.tmp 8]) tt_ok Try.func7 rfl rfl rfl rfl rfl ?_
  have htb := Tab.cons c0 (Tab.cons c1 Tab.nil)
  repeat' (first | (with_reducible first | apply w1 | apply w2 | apply w3 | apply w4 | apply w5 | apply w6 | apply w7 | apply w8 | apply w9 | apply wa | apply wb | apply wc) | ((with_reducible apply wd); focus decide) | ((with_reducible apply we); focus exact rfl) | ((with_reducible apply wf); focus exact rfl) | ((first | (with_reducible apply SW_run tt_ok hG htb) | ((with_reducible apply SW_draw rfl tt_ok hG htb); (focus kernel_rfl); focus simp only [List.range, List.range.loop, List.size_toArray, List.length_cons, List.length_nil, Nat.reduceAdd])); focus ((repeat' (first | (with_reducible first | exact wg | exact wh) | ((with_reducible first | apply wi | apply wj); focus (simp (discharger := omega) only [go_sem, tAuto, tErr0, simprocAttr]; with_reducible rfl)))); done)))
  clear htb c0 c1
  by_cases he : closeErr a = 0
  rotate_left
  · have hz : closeA a = GAuto.zero := by unfold closeA; rw [if_neg he]
    rw [hz] at c2
    generalize closeErr a = e at *
    have htb := Tab.cons c2 Tab.nil
    repeat' (first | (with_reducible first | apply w1 | apply w2 | apply w3 | apply w4 | apply w5 | apply w6 | apply w7 | apply w8 | apply w9 | apply wa | apply wb | apply wc) | ((with_reducible apply wd); focus decide) | ((with_reducible apply we); focus exact rfl) | ((with_reducible apply wf); focus exact rfl) | ((first | (with_reducible apply SW_run tt_ok hG htb) | ((with_reducible apply SW_draw rfl tt_ok hG htb); (focus kernel_rfl); focus simp only [List.range, List.range.loop, List.size_toArray, List.length_cons, List.length_nil, Nat.reduceAdd])); focus ((repeat' (first | (with_reducible first | exact wg | exact wh) | ((with_reducible first | apply wi | apply wj); focus (simp (discharger := omega) only [go_sem, tAuto, tErr, he, GAuto.zero, simprocAttr]; with_reducible rfl)))); done)))
    exact (by simp (discharger := omega) only [go_sem, simprocAttr])
  rw [he] at c2
  by_cases hz0 : zeros < 0
  · have hz1 := eq_true hz0
    generalize closeA a = b at *
    have htb := Tab.cons c2 Tab.nil
    repeat' (first | (with_reducible first | apply w1 | apply w2 | apply w3 | apply w4 | apply w5 | apply w6 | apply w7 | apply w8 | apply w9 | apply wa | apply wb | apply wc) | ((with_reducible apply wd); focus decide) | ((with_reducible apply we); focus exact rfl) | ((with_reducible apply wf); focus exact rfl) | ((first | (with_reducible apply SW_run tt_ok hG htb) | ((with_reducible apply SW_draw rfl tt_ok hG htb); (focus kernel_rfl); focus simp only [List.range, List.range.loop, List.size_toArray, List.length_cons, List.length_nil, Nat.reduceAdd])); focus ((repeat' (first | (with_reducible first | exact wg | exact wh) | ((with_reducible first | apply wi | apply wj); focus (simp (discharger := omega) only [go_sem, tAuto, tErr0, hz1, simprocAttr]; with_reducible rfl)))); done)))
    exact (by simp (discharger := omega) only [go_sem, simprocAttr])
  by_cases hz4 : zeros > 40
  · have hz1 := eq_true hz4
    generalize closeA a = b at *
    have htb := Tab.cons c2 Tab.nil
    repeat' (first | (with_reducible first | apply w1 | apply w2 | apply w3 | apply w4 | apply w5 | apply w6 | apply w7 | apply w8 | apply w9 | apply wa | apply wb | apply wc) | ((with_reducible apply wd); focus decide) | ((with_reducible apply we); focus exact rfl) | ((with_reducible apply wf); focus exact rfl) | ((first | (with_reducible apply SW_run tt_ok hG htb) | ((with_reducible apply SW_draw rfl tt_ok hG htb); (focus kernel_rfl); focus simp only [List.range, List.range.loop, List.size_toArray, List.length_cons, List.length_nil, Nat.reduceAdd])); focus ((repeat' (first | (with_reducible first | exact wg | exact wh) | ((with_reducible first | apply wi | apply wj); focus (simp (discharger := omega) only [go_sem, tAuto, tErr0, hz0, hz1, simprocAttr]; with_reducible rfl)))); done)))
    exact (by simp (discharger := omega) only [go_sem, simprocAttr])
  obtain ⟨k, rfl⟩ : ∃ k : Nat, zeros = (k : Int) := ⟨zeros.toNat, by omega⟩
  obtain ⟨n, m, g, hl, h80⟩ := close_isLeast he
  have gB := hl.good g h80
  have hfa := g.fault
  have hbb := hl.base
  have hbt := hl.tracks
  have hcl : Closed n (closeLg (lng a)) := closeLg_closed n (lng a)
  obtain ⟨b, hb⟩ : ∃ b, closeA a = b := ⟨_, rfl⟩
  rw [hb] at c2 hl gB hbb hbt
  have hcb : Closed n (lng b) := hcl.congr g.n0 fun w hw => (hl.lng hw).symm
  have hclB : closedB b = true := by
    unfold closedB
    rw [if_pos gB.fault]
    exact decide_eq_true ((closedB_iff gB).2 hcb)
  obtain ⟨ag1, ag2⟩ := close_again gB (L := closeLg (lng a)) (by rw [hbb, hbt]; exact hl) hcl
  have c3 := ClosedI_snd hG b
  rw [hclB, gB.fault] at c3
  have c4 := Close_snd hG b
  rw [ag1, ag2] at c4
  have c5 := Autos_snd hG b b
  rw [autoSame_self] at c5
  have c6 := Takes_snd hG b w
  obtain ⟨long, hlong⟩ : ∃ long, List.replicate k 0 ++ w = long := ⟨_, rfl⟩
  have c7 := Takes_snd hG b long
  have c8 := Takes_snd hG a long
  have c9 := Some_snd hG b t
  have hx : runErr b w = 0 → runErr b long = 0 → takesOf b w = takesOf b long ∧ runErr a long = 0 ∧ (takesOf a long = true → takesOf b w = true) := fun h1 h2 => by
    have q1 := (runErr_good gB w).1 h1
    have q2 := (runErr_good gB long).1 h2
    have q3 := (runErr_good g long).2 q2
    rw [takes_lng' gB q1, takes_lng' gB q2, takes_lng' g q2, hl.lng (ltr_toNat' q1.2), hl.lng (ltr_toNat' q2.2)]
    have e : long.map Int.toNat = List.replicate k 0 ++ w.map Int.toNat := by rw [← hlong]; simp
    refine ⟨by rw [e, closeLg_zeros], q3, fun h => ?_⟩
    have := closeLg_more h
    rwa [e, closeLg_zeros] at this
  have hsc : someErr b t = 0 → autoFault (someA b t) = 0 ∧ closedB (someA b t) = true := fun hs => by
    obtain ⟨hle, _⟩ := someErr_zero hs
    obtain ⟨_, ht0, _, _⟩ := leftErr_zero hle
    obtain ⟨t, rfl⟩ := Int.eq_ofNat_of_zero_le ht0
    obtain ⟨t', N, nW, r, m', L, I, l8⟩ := some_isLeast hs
    have hN : N = n := by have q := L.ok.good.n_eq; rw [gB.n_eq] at q; omega
    subst hN
    have gS : Good (someA b (t : Int)) nW (someA b (t : Int)).next.length := ⟨by rw [I.base, I.tracks]; exact L.ok.many, by rw [I.base, I.tracks]; exact L.ok.nWe, L.ok.nW0, L.ok.nW36, I.least.length_pos, l8, I.least.len, I.least.rows⟩
    refine ⟨gS.fault, ?_⟩
    unfold closedB
    rw [if_pos gS.fault]
    refine decide_eq_true ((closedB_iff gS).2 ?_)
    exact (someL_closed L.ok hcb).congr L.ok.nW0 fun w hw => (I.lng hw).symm
  have c10 := ClosedI_snd hG (someA b t)
  obtain ⟨x, hxx⟩ : ∃ x, takesOf b w = x := ⟨_, rfl⟩
  obtain ⟨y, hyy⟩ : ∃ y, takesOf b long = y := ⟨_, rfl⟩
  obtain ⟨z, hzz⟩ : ∃ z, takesOf a long = z := ⟨_, rfl⟩
  obtain ⟨e, hee⟩ : ∃ e, runErr b w = e := ⟨_, rfl⟩
  obtain ⟨f, hff⟩ : ∃ f, runErr b long = f := ⟨_, rfl⟩
  obtain ⟨h, hhh⟩ : ∃ h, runErr a long = h := ⟨_, rfl⟩
  rw [hxx, hee] at c6
  rw [hyy, hff] at c7
  rw [hzz, hhh] at c8
  rw [hxx, hyy, hzz, hee, hff, hhh] at hx
  have hll : long.length = k + w.length := by rw [← hlong]; simp
  have hall : ∀ l : List Int, (l.all fun _ => true) = true := fun l => by simp
  have hlm : List.replicate k (T.int .i64 0) ++ w.map tInt = long.map tInt := by rw [← hlong]; simp [tInt]
  have htb := Tab.cons c2 Tab.nil
  repeat' (first | (with_reducible first | apply w1 | apply w2 | apply w3 | apply w4 | apply w5 | apply w6 | apply w7 | apply w8 | apply w9 | apply wa | apply wb | apply wc) | ((with_reducible apply wd); focus decide) | ((with_reducible apply we); focus exact rfl) | ((with_reducible apply wf); focus exact rfl) | ((first | (with_reducible apply SW_run tt_ok hG htb) | ((with_reducible apply SW_draw rfl tt_ok hG htb); (focus kernel_rfl); focus simp only [List.range, List.range.loop, List.size_toArray, List.length_cons, List.length_nil, Nat.reduceAdd])); focus ((repeat' (first | (with_reducible first | exact wg | exact wh) | ((with_reducible first | apply wi | apply wj); focus (simp (discharger := omega) only [go_sem, tAuto, tErr0, hz0, hz4, simprocAttr]; with_reducible rfl)))); done)))
  clear htb
  have htb := Tab.cons c3 (Tab.cons c4 (Tab.cons c5 Tab.nil))
  repeat' (first | (with_reducible first | apply w1 | apply w2 | apply w3 | apply w4 | apply w5 | apply w6 | apply w7 | apply w8 | apply w9 | apply wa | apply wb | apply wc) | ((with_reducible apply wd); focus decide) | ((with_reducible apply we); focus exact rfl) | ((with_reducible apply wf); focus exact rfl) | ((first | (with_reducible apply SW_run tt_ok hG htb) | ((with_reducible apply SW_draw rfl tt_ok hG htb); (focus kernel_rfl); focus simp only [List.range, List.range.loop, List.size_toArray, List.length_cons, List.length_nil, Nat.reduceAdd])); focus ((repeat' (first | (with_reducible first | exact wg | exact wh) | ((with_reducible first | apply wi | apply wj); focus (simp (discharger := omega) only [go_sem, tAuto, tErr0, Function.comp_def, hall, simprocAttr]; with_reducible rfl)))); done)))
  refine SW_norm (Norm.headS (own := []) (keep := [1, 2, 4, 11, 18]) (by refine ⟨?_, ?_⟩; (simp (discharger := omega) only [go_sem, simprocAttr]; with_reducible rfl); refine ⟨?_, ?_, ?_, ?_⟩ <;> (simp only [go_sem, simprocAttr]; with_reducible rfl))) ?_
  refine SW_norm (Norm.frz 18 rfl rfl) ?_
  clear htb
  show SW _ _ _ _ ⟨140, [(1, .t (tInt t)), (2, .t (tInts w)), (4, .bptr 0 0), (11, .bptr 1 0), (18, .sref 2)], [.box [.t (tInt a.base), .t (tInt a.tracks), .t (tIntss a.next), .t (tBools a.ends)], .box [.t (tInt b.base), .t (tInt b.tracks), .t (tIntss b.next), .t (tBools b.ends)], .froz (List.replicate k (T.int .i64 0) ++ w.map tInt)]⟩
  rw [hlm]
  have hcases : (e = 0 ∧ f = 0 ∧ h = 0 ∧ y = x ∧ (z = true → x = true)) ∨ (e = 0 ∧ ¬ f = 0) ∨ ¬ e = 0 := by
    by_cases h1 : e = 0
    · by_cases h2 : f = 0
      · obtain ⟨q1, q2, q3⟩ := hx h1 h2
        exact .inl ⟨h1, h2, q2, q1.symm, q3⟩
      · exact .inr (.inl ⟨h1, h2⟩)
    · exact .inr (.inr h1)
  clear hx hxx hyy hzz hee hff hhh
  rcases hcases with ⟨rfl, rfl, rfl, rfl, h4⟩ | ⟨rfl, h2⟩ | h1
  · cases y with
    | false =>
      cases z with
      | false =>
        have htb := Tab.cons c6 Tab.nil
        repeat' (first | (with_reducible first | apply w1 | apply w2 | apply w3 | apply w4 | apply w5 | apply w6 | apply w7 | apply w8 | apply w9 | apply wa | apply wb | apply wc) | ((with_reducible apply wd); focus decide) | ((with_reducible apply we); focus exact rfl) | ((with_reducible apply wf); focus exact rfl) | ((first | (with_reducible apply SW_run tt_ok hG htb) | ((with_reducible apply SW_draw rfl tt_ok hG htb); (focus kernel_rfl); focus simp only [List.range, List.range.loop, List.size_toArray, List.length_cons, List.length_nil, Nat.reduceAdd])); focus ((repeat' (first | (with_reducible first | exact wg | exact wh) | ((with_reducible first | apply wi | apply wj); focus (simp (discharger := omega) only [go_sem, tAuto, tErr0, simprocAttr]; with_reducible rfl)))); done)))
        clear htb
        have htb := Tab.cons c7 Tab.nil
        repeat' (first | (with_reducible first | apply w1 | apply w2 | apply w3 | apply w4 | apply w5 | apply w6 | apply w7 | apply w8 | apply w9 | apply wa | apply wb | apply wc) | ((with_reducible apply wd); focus decide) | ((with_reducible apply we); focus exact rfl) | ((with_reducible apply wf); focus exact rfl) | ((first | (with_reducible apply SW_run tt_ok hG htb) | ((with_reducible apply SW_draw rfl tt_ok hG htb); (focus kernel_rfl); focus simp only [List.range, List.range.loop, List.size_toArray, List.length_cons, List.length_nil, Nat.reduceAdd])); focus ((repeat' (first | (with_reducible first | exact wg | exact wh) | ((with_reducible first | apply wi | apply wj); focus (simp (discharger := omega) only [go_sem, tAuto, tErr0, simprocAttr]; with_reducible rfl)))); done)))
        clear htb
        have htb := Tab.cons c8 Tab.nil
        repeat' (first | (with_reducible first | apply w1 | apply w2 | apply w3 | apply w4 | apply w5 | apply w6 | apply w7 | apply w8 | apply w9 | apply wa | apply wb | apply wc) | ((with_reducible apply wd); focus decide) | ((with_reducible apply we); focus exact rfl) | ((with_reducible apply wf); focus exact rfl) | ((first | (with_reducible apply SW_run tt_ok hG htb) | ((with_reducible apply SW_draw rfl tt_ok hG htb); (focus kernel_rfl); focus simp only [List.range, List.range.loop, List.size_toArray, List.length_cons, List.length_nil, Nat.reduceAdd])); focus ((repeat' (first | (with_reducible first | exact wg | exact wh) | ((with_reducible first | apply wi | apply wj); focus (simp (discharger := omega) only [go_sem, tAuto, tErr0, simprocAttr]; with_reducible rfl)))); done)))
        clear htb
        by_cases hs : someErr b t = 0
        · obtain ⟨s1, s2⟩ := hsc hs
          rw [hs] at c9
          rw [s1, s2] at c10
          generalize someA b t = q at *
          have htb := Tab.cons c9 (Tab.cons c10 Tab.nil)
          repeat' (first | (with_reducible first | apply w1 | apply w2 | apply w3 | apply w4 | apply w5 | apply w6 | apply w7 | apply w8 | apply w9 | apply wa | apply wb | apply wc) | ((with_reducible apply wd); focus decide) | ((with_reducible apply we); focus exact rfl) | ((with_reducible apply wf); focus exact rfl) | ((first | (with_reducible apply SW_run tt_ok hG htb) | ((with_reducible apply SW_draw rfl tt_ok hG htb); (focus kernel_rfl); focus simp only [List.range, List.range.loop, List.size_toArray, List.length_cons, List.length_nil, Nat.reduceAdd])); focus ((repeat' (first | (with_reducible first | exact wg | exact wh) | ((with_reducible first | apply wi | apply wj); focus (simp (discharger := omega) only [go_sem, tAuto, tErr0, simprocAttr]; with_reducible rfl)))); done)))
          exact (by simp (discharger := omega) only [go_sem, simprocAttr])
        · have hq : someA b t = GAuto.zero := by unfold someA; rw [if_neg hs]
          rw [hq] at c9
          generalize someErr b t = q at *
          have htb := Tab.cons c9 Tab.nil
          repeat' (first | (with_reducible first | apply w1 | apply w2 | apply w3 | apply w4 | apply w5 | apply w6 | apply w7 | apply w8 | apply w9 | apply wa | apply wb | apply wc) | ((with_reducible apply wd); focus decide) | ((with_reducible apply we); focus exact rfl) | ((with_reducible apply wf); focus exact rfl) | ((first | (with_reducible apply SW_run tt_ok hG htb) | ((with_reducible apply SW_draw rfl tt_ok hG htb); (focus kernel_rfl); focus simp only [List.range, List.range.loop, List.size_toArray, List.length_cons, List.length_nil, Nat.reduceAdd])); focus ((repeat' (first | (with_reducible first | exact wg | exact wh) | ((with_reducible first | apply wi | apply wj); focus (simp (discharger := omega) only [go_sem, tAuto, tErr, hs, GAuto.zero, simprocAttr]; with_reducible rfl)))); done)))
          exact (by simp (discharger := omega) only [go_sem, simprocAttr])
      | true => exact absurd (h4 rfl) (by decide)
    | true =>
      cases z with
      | false =>
        have htb := Tab.cons c6 Tab.nil
        repeat' (first | (with_reducible first | apply w1 | apply w2 | apply w3 | apply w4 | apply w5 | apply w6 | apply w7 | apply w8 | apply w9 | apply wa | apply wb | apply wc) | ((with_reducible apply wd); focus decide) | ((with_reducible apply we); focus exact rfl) | ((with_reducible apply wf); focus exact rfl) | ((first | (with_reducible apply SW_run tt_ok hG htb) | ((with_reducible apply SW_draw rfl tt_ok hG htb); (focus kernel_rfl); focus simp only [List.range, List.range.loop, List.size_toArray, List.length_cons, List.length_nil, Nat.reduceAdd])); focus ((repeat' (first | (with_reducible first | exact wg | exact wh) | ((with_reducible first | apply wi | apply wj); focus (simp (discharger := omega) only [go_sem, tAuto, tErr0, simprocAttr]; with_reducible rfl)))); done)))
        clear htb
        have htb := Tab.cons c7 Tab.nil
        repeat' (first | (with_reducible first | apply w1 | apply w2 | apply w3 | apply w4 | apply w5 | apply w6 | apply w7 | apply w8 | apply w9 | apply wa | apply wb | apply wc) | ((with_reducible apply wd); focus decide) | ((with_reducible apply we); focus exact rfl) | ((with_reducible apply wf); focus exact rfl) | ((first | (with_reducible apply SW_run tt_ok hG htb) | ((with_reducible apply SW_draw rfl tt_ok hG htb); (focus kernel_rfl); focus simp only [List.range, List.range.loop, List.size_toArray, List.length_cons, List.length_nil, Nat.reduceAdd])); focus ((repeat' (first | (with_reducible first | exact wg | exact wh) | ((with_reducible first | apply wi | apply wj); focus (simp (discharger := omega) only [go_sem, tAuto, tErr0, simprocAttr]; with_reducible rfl)))); done)))
        clear htb
        have htb := Tab.cons c8 Tab.nil
        repeat' (first | (with_reducible first | apply w1 | apply w2 | apply w3 | apply w4 | apply w5 | apply w6 | apply w7 | apply w8 | apply w9 | apply wa | apply wb | apply wc) | ((with_reducible apply wd); focus decide) | ((with_reducible apply we); focus exact rfl) | ((with_reducible apply wf); focus exact rfl) | ((first | (with_reducible apply SW_run tt_ok hG htb) | ((with_reducible apply SW_draw rfl tt_ok hG htb); (focus kernel_rfl); focus simp only [List.range, List.range.loop, List.size_toArray, List.length_cons, List.length_nil, Nat.reduceAdd])); focus ((repeat' (first | (with_reducible first | exact wg | exact wh) | ((with_reducible first | apply wi | apply wj); focus (simp (discharger := omega) only [go_sem, tAuto, tErr0, simprocAttr]; with_reducible rfl)))); done)))
        clear htb
        by_cases hs : someErr b t = 0
        · obtain ⟨s1, s2⟩ := hsc hs
          rw [hs] at c9
          rw [s1, s2] at c10
          generalize someA b t = q at *
          have htb := Tab.cons c9 (Tab.cons c10 Tab.nil)
          repeat' (first | (with_reducible first | apply w1 | apply w2 | apply w3 | apply w4 | apply w5 | apply w6 | apply w7 | apply w8 | apply w9 | apply wa | apply wb | apply wc) | ((with_reducible apply wd); focus decide) | ((with_reducible apply we); focus exact rfl) | ((with_reducible apply wf); focus exact rfl) | ((first | (with_reducible apply SW_run tt_ok hG htb) | ((with_reducible apply SW_draw rfl tt_ok hG htb); (focus kernel_rfl); focus simp only [List.range, List.range.loop, List.size_toArray, List.length_cons, List.length_nil, Nat.reduceAdd])); focus ((repeat' (first | (with_reducible first | exact wg | exact wh) | ((with_reducible first | apply wi | apply wj); focus (simp (discharger := omega) only [go_sem, tAuto, tErr0, simprocAttr]; with_reducible rfl)))); done)))
          exact (by simp (discharger := omega) only [go_sem, simprocAttr])
        · have hq : someA b t = GAuto.zero := by unfold someA; rw [if_neg hs]
          rw [hq] at c9
          generalize someErr b t = q at *
          have htb := Tab.cons c9 Tab.nil
          repeat' (first | (with_reducible first | apply w1 | apply w2 | apply w3 | apply w4 | apply w5 | apply w6 | apply w7 | apply w8 | apply w9 | apply wa | apply wb | apply wc) | ((with_reducible apply wd); focus decide) | ((with_reducible apply we); focus exact rfl) | ((with_reducible apply wf); focus exact rfl) | ((first | (with_reducible apply SW_run tt_ok hG htb) | ((with_reducible apply SW_draw rfl tt_ok hG htb); (focus kernel_rfl); focus simp only [List.range, List.range.loop, List.size_toArray, List.length_cons, List.length_nil, Nat.reduceAdd])); focus ((repeat' (first | (with_reducible first | exact wg | exact wh) | ((with_reducible first | apply wi | apply wj); focus (simp (discharger := omega) only [go_sem, tAuto, tErr, hs, GAuto.zero, simprocAttr]; with_reducible rfl)))); done)))
          exact (by simp (discharger := omega) only [go_sem, simprocAttr])
      | true =>
        have htb := Tab.cons c6 Tab.nil
        repeat' (first | (with_reducible first | apply w1 | apply w2 | apply w3 | apply w4 | apply w5 | apply w6 | apply w7 | apply w8 | apply w9 | apply wa | apply wb | apply wc) | ((with_reducible apply wd); focus decide) | ((with_reducible apply we); focus exact rfl) | ((with_reducible apply wf); focus exact rfl) | ((first | (with_reducible apply SW_run tt_ok hG htb) | ((with_reducible apply SW_draw rfl tt_ok hG htb); (focus kernel_rfl); focus simp only [List.range, List.range.loop, List.size_toArray, List.length_cons, List.length_nil, Nat.reduceAdd])); focus ((repeat' (first | (with_reducible first | exact wg | exact wh) | ((with_reducible first | apply wi | apply wj); focus (simp (discharger := omega) only [go_sem, tAuto, tErr0, simprocAttr]; with_reducible rfl)))); done)))
        clear htb
        have htb := Tab.cons c7 Tab.nil
        repeat' (first | (with_reducible first | apply w1 | apply w2 | apply w3 | apply w4 | apply w5 | apply w6 | apply w7 | apply w8 | apply w9 | apply wa | apply wb | apply wc) | ((with_reducible apply wd); focus decide) | ((with_reducible apply we); focus exact rfl) | ((with_reducible apply wf); focus exact rfl) | ((first | (with_reducible apply SW_run tt_ok hG htb) | ((with_reducible apply SW_draw rfl tt_ok hG htb); (focus kernel_rfl); focus simp only [List.range, List.range.loop, List.size_toArray, List.length_cons, List.length_nil, Nat.reduceAdd])); focus ((repeat' (first | (with_reducible first | exact wg | exact wh) | ((with_reducible first | apply wi | apply wj); focus (simp (discharger := omega) only [go_sem, tAuto, tErr0, simprocAttr]; with_reducible rfl)))); done)))
        clear htb
        have htb := Tab.cons c8 Tab.nil
        repeat' (first | (with_reducible first | apply w1 | apply w2 | apply w3 | apply w4 | apply w5 | apply w6 | apply w7 | apply w8 | apply w9 | apply wa | apply wb | apply wc) | ((with_reducible apply wd); focus decide) | ((with_reducible apply we); focus exact rfl) | ((with_reducible apply wf); focus exact rfl) | ((first | (with_reducible apply SW_run tt_ok hG htb) | ((with_reducible apply SW_draw rfl tt_ok hG htb); (focus kernel_rfl); focus simp only [List.range, List.range.loop, List.size_toArray, List.length_cons, List.length_nil, Nat.reduceAdd])); focus ((repeat' (first | (with_reducible first | exact wg | exact wh) | ((with_reducible first | apply wi | apply wj); focus (simp (discharger := omega) only [go_sem, tAuto, tErr0, simprocAttr]; with_reducible rfl)))); done)))
        clear htb
        by_cases hs : someErr b t = 0
        · obtain ⟨s1, s2⟩ := hsc hs
          rw [hs] at c9
          rw [s1, s2] at c10
          generalize someA b t = q at *
          have htb := Tab.cons c9 (Tab.cons c10 Tab.nil)
          repeat' (first | (with_reducible first | apply w1 | apply w2 | apply w3 | apply w4 | apply w5 | apply w6 | apply w7 | apply w8 | apply w9 | apply wa | apply wb | apply wc) | ((with_reducible apply wd); focus decide) | ((with_reducible apply we); focus exact rfl) | ((with_reducible apply wf); focus exact rfl) | ((first | (with_reducible apply SW_run tt_ok hG htb) | ((with_reducible apply SW_draw rfl tt_ok hG htb); (focus kernel_rfl); focus simp only [List.range, List.range.loop, List.size_toArray, List.length_cons, List.length_nil, Nat.reduceAdd])); focus ((repeat' (first | (with_reducible first | exact wg | exact wh) | ((with_reducible first | apply wi | apply wj); focus (simp (discharger := omega) only [go_sem, tAuto, tErr0, simprocAttr]; with_reducible rfl)))); done)))
          exact (by simp (discharger := omega) only [go_sem, simprocAttr])
        · have hq : someA b t = GAuto.zero := by unfold someA; rw [if_neg hs]
          rw [hq] at c9
          generalize someErr b t = q at *
          have htb := Tab.cons c9 Tab.nil
          repeat' (first | (with_reducible first | apply w1 | apply w2 | apply w3 | apply w4 | apply w5 | apply w6 | apply w7 | apply w8 | apply w9 | apply wa | apply wb | apply wc) | ((with_reducible apply wd); focus decide) | ((with_reducible apply we); focus exact rfl) | ((with_reducible apply wf); focus exact rfl) | ((first | (with_reducible apply SW_run tt_ok hG htb) | ((with_reducible apply SW_draw rfl tt_ok hG htb); (focus kernel_rfl); focus simp only [List.range, List.range.loop, List.size_toArray, List.length_cons, List.length_nil, Nat.reduceAdd])); focus ((repeat' (first | (with_reducible first | exact wg | exact wh) | ((with_reducible first | apply wi | apply wj); focus (simp (discharger := omega) only [go_sem, tAuto, tErr, hs, GAuto.zero, simprocAttr]; with_reducible rfl)))); done)))
          exact (by simp (discharger := omega) only [go_sem, simprocAttr])
  · by_cases h3 : h = 0
    · subst h3
      have htb := Tab.cons c6 Tab.nil
      repeat' (first | (with_reducible first | apply w1 | apply w2 | apply w3 | apply w4 | apply w5 | apply w6 | apply w7 | apply w8 | apply w9 | apply wa | apply wb | apply wc) | ((with_reducible apply wd); focus decide) | ((with_reducible apply we); focus exact rfl) | ((with_reducible apply wf); focus exact rfl) | ((first | (with_reducible apply SW_run tt_ok hG htb) | ((with_reducible apply SW_draw rfl tt_ok hG htb); (focus kernel_rfl); focus simp only [List.range, List.range.loop, List.size_toArray, List.length_cons, List.length_nil, Nat.reduceAdd])); focus ((repeat' (first | (with_reducible first | exact wg | exact wh) | ((with_reducible first | apply wi | apply wj); focus (simp (discharger := omega) only [go_sem, tAuto, tErr0, tErr, h2, simprocAttr]; with_reducible rfl)))); done)))
      clear htb
      have htb := Tab.cons c7 Tab.nil
      repeat' (first | (with_reducible first | apply w1 | apply w2 | apply w3 | apply w4 | apply w5 | apply w6 | apply w7 | apply w8 | apply w9 | apply wa | apply wb | apply wc) | ((with_reducible apply wd); focus decide) | ((with_reducible apply we); focus exact rfl) | ((with_reducible apply wf); focus exact rfl) | ((first | (with_reducible apply SW_run tt_ok hG htb) | ((with_reducible apply SW_draw rfl tt_ok hG htb); (focus kernel_rfl); focus simp only [List.range, List.range.loop, List.size_toArray, List.length_cons, List.length_nil, Nat.reduceAdd])); focus ((repeat' (first | (with_reducible first | exact wg | exact wh) | ((with_reducible first | apply wi | apply wj); focus (simp (discharger := omega) only [go_sem, tAuto, tErr0, tErr, h2, simprocAttr]; with_reducible rfl)))); done)))
      clear htb
      have htb := Tab.cons c8 Tab.nil
      repeat' (first | (with_reducible first | apply w1 | apply w2 | apply w3 | apply w4 | apply w5 | apply w6 | apply w7 | apply w8 | apply w9 | apply wa | apply wb | apply wc) | ((with_reducible apply wd); focus decide) | ((with_reducible apply we); focus exact rfl) | ((with_reducible apply wf); focus exact rfl) | ((first | (with_reducible apply SW_run tt_ok hG htb) | ((with_reducible apply SW_draw rfl tt_ok hG htb); (focus kernel_rfl); focus simp only [List.range, List.range.loop, List.size_toArray, List.length_cons, List.length_nil, Nat.reduceAdd])); focus ((repeat' (first | (with_reducible first | exact wg | exact wh) | ((with_reducible first | apply wi | apply wj); focus (simp (discharger := omega) only [go_sem, tAuto, tErr0, tErr, h2, simprocAttr]; with_reducible rfl)))); done)))
      clear htb
      by_cases hs : someErr b t = 0
      · obtain ⟨s1, s2⟩ := hsc hs
        rw [hs] at c9
        rw [s1, s2] at c10
        generalize someA b t = q at *
        have htb := Tab.cons c9 (Tab.cons c10 Tab.nil)
        repeat' (first | (with_reducible first | apply w1 | apply w2 | apply w3 | apply w4 | apply w5 | apply w6 | apply w7 | apply w8 | apply w9 | apply wa | apply wb | apply wc) | ((with_reducible apply wd); focus decide) | ((with_reducible apply we); focus exact rfl) | ((with_reducible apply wf); focus exact rfl) | ((first | (with_reducible apply SW_run tt_ok hG htb) | ((with_reducible apply SW_draw rfl tt_ok hG htb); (focus kernel_rfl); focus simp only [List.range, List.range.loop, List.size_toArray, List.length_cons, List.length_nil, Nat.reduceAdd])); focus ((repeat' (first | (with_reducible first | exact wg | exact wh) | ((with_reducible first | apply wi | apply wj); focus (simp (discharger := omega) only [go_sem, tAuto, tErr0, simprocAttr]; with_reducible rfl)))); done)))
        exact (by simp (discharger := omega) only [go_sem, simprocAttr])
      · have hq : someA b t = GAuto.zero := by unfold someA; rw [if_neg hs]
        rw [hq] at c9
        generalize someErr b t = q at *
        have htb := Tab.cons c9 Tab.nil
        repeat' (first | (with_reducible first | apply w1 | apply w2 | apply w3 | apply w4 | apply w5 | apply w6 | apply w7 | apply w8 | apply w9 | apply wa | apply wb | apply wc) | ((with_reducible apply wd); focus decide) | ((with_reducible apply we); focus exact rfl) | ((with_reducible apply wf); focus exact rfl) | ((first | (with_reducible apply SW_run tt_ok hG htb) | ((with_reducible apply SW_draw rfl tt_ok hG htb); (focus kernel_rfl); focus simp only [List.range, List.range.loop, List.size_toArray, List.length_cons, List.length_nil, Nat.reduceAdd])); focus ((repeat' (first | (with_reducible first | exact wg | exact wh) | ((with_reducible first | apply wi | apply wj); focus (simp (discharger := omega) only [go_sem, tAuto, tErr, hs, GAuto.zero, simprocAttr]; with_reducible rfl)))); done)))
        exact (by simp (discharger := omega) only [go_sem, simprocAttr])
    · have htb := Tab.cons c6 Tab.nil
      repeat' (first | (with_reducible first | apply w1 | apply w2 | apply w3 | apply w4 | apply w5 | apply w6 | apply w7 | apply w8 | apply w9 | apply wa | apply wb | apply wc) | ((with_reducible apply wd); focus decide) | ((with_reducible apply we); focus exact rfl) | ((with_reducible apply wf); focus exact rfl) | ((first | (with_reducible apply SW_run tt_ok hG htb) | ((with_reducible apply SW_draw rfl tt_ok hG htb); (focus kernel_rfl); focus simp only [List.range, List.range.loop, List.size_toArray, List.length_cons, List.length_nil, Nat.reduceAdd])); focus ((repeat' (first | (with_reducible first | exact wg | exact wh) | ((with_reducible first | apply wi | apply wj); focus (simp (discharger := omega) only [go_sem, tAuto, tErr0, tErr, h2, h3, simprocAttr]; with_reducible rfl)))); done)))
      clear htb
      have htb := Tab.cons c7 Tab.nil
      repeat' (first | (with_reducible first | apply w1 | apply w2 | apply w3 | apply w4 | apply w5 | apply w6 | apply w7 | apply w8 | apply w9 | apply wa | apply wb | apply wc) | ((with_reducible apply wd); focus decide) | ((with_reducible apply we); focus exact rfl) | ((with_reducible apply wf); focus exact rfl) | ((first | (with_reducible apply SW_run tt_ok hG htb) | ((with_reducible apply SW_draw rfl tt_ok hG htb); (focus kernel_rfl); focus simp only [List.range, List.range.loop, List.size_toArray, List.length_cons, List.length_nil, Nat.reduceAdd])); focus ((repeat' (first | (with_reducible first | exact wg | exact wh) | ((with_reducible first | apply wi | apply wj); focus (simp (discharger := omega) only [go_sem, tAuto, tErr0, tErr, h2, h3, simprocAttr]; with_reducible rfl)))); done)))
      clear htb
      have htb := Tab.cons c8 Tab.nil
      repeat' (first | (with_reducible first | apply w1 | apply w2 | apply w3 | apply w4 | apply w5 | apply w6 | apply w7 | apply w8 | apply w9 | apply wa | apply wb | apply wc) | ((with_reducible apply wd); focus decide) | ((with_reducible apply we); focus exact rfl) | ((with_reducible apply wf); focus exact rfl) | ((first | (with_reducible apply SW_run tt_ok hG htb) | ((with_reducible apply SW_draw rfl tt_ok hG htb); (focus kernel_rfl); focus simp only [List.range, List.range.loop, List.size_toArray, List.length_cons, List.length_nil, Nat.reduceAdd])); focus ((repeat' (first | (with_reducible first | exact wg | exact wh) | ((with_reducible first | apply wi | apply wj); focus (simp (discharger := omega) only [go_sem, tAuto, tErr0, tErr, h2, h3, simprocAttr]; with_reducible rfl)))); done)))
      clear htb
      by_cases hs : someErr b t = 0
      · obtain ⟨s1, s2⟩ := hsc hs
        rw [hs] at c9
        rw [s1, s2] at c10
        generalize someA b t = q at *
        have htb := Tab.cons c9 (Tab.cons c10 Tab.nil)
        repeat' (first | (with_reducible first | apply w1 | apply w2 | apply w3 | apply w4 | apply w5 | apply w6 | apply w7 | apply w8 | apply w9 | apply wa | apply wb | apply wc) | ((with_reducible apply wd); focus decide) | ((with_reducible apply we); focus exact rfl) | ((with_reducible apply wf); focus exact rfl) | ((first | (with_reducible apply SW_run tt_ok hG htb) | ((with_reducible apply SW_draw rfl tt_ok hG htb); (focus kernel_rfl); focus simp only [List.range, List.range.loop, List.size_toArray, List.length_cons, List.length_nil, Nat.reduceAdd])); focus ((repeat' (first | (with_reducible first | exact wg | exact wh) | ((with_reducible first | apply wi | apply wj); focus (simp (discharger := omega) only [go_sem, tAuto, tErr0, simprocAttr]; with_reducible rfl)))); done)))
        exact (by simp (discharger := omega) only [go_sem, simprocAttr])
      · have hq : someA b t = GAuto.zero := by unfold someA; rw [if_neg hs]
        rw [hq] at c9
        generalize someErr b t = q at *
        have htb := Tab.cons c9 Tab.nil
        repeat' (first | (with_reducible first | apply w1 | apply w2 | apply w3 | apply w4 | apply w5 | apply w6 | apply w7 | apply w8 | apply w9 | apply wa | apply wb | apply wc) | ((with_reducible apply wd); focus decide) | ((with_reducible apply we); focus exact rfl) | ((with_reducible apply wf); focus exact rfl) | ((first | (with_reducible apply SW_run tt_ok hG htb) | ((with_reducible apply SW_draw rfl tt_ok hG htb); (focus kernel_rfl); focus simp only [List.range, List.range.loop, List.size_toArray, List.length_cons, List.length_nil, Nat.reduceAdd])); focus ((repeat' (first | (with_reducible first | exact wg | exact wh) | ((with_reducible first | apply wi | apply wj); focus (simp (discharger := omega) only [go_sem, tAuto, tErr, hs, GAuto.zero, simprocAttr]; with_reducible rfl)))); done)))
        exact (by simp (discharger := omega) only [go_sem, simprocAttr])
  · by_cases h2 : f = 0
    · subst h2
      by_cases h3 : h = 0
      · subst h3
        have htb := Tab.cons c6 Tab.nil
        repeat' (first | (with_reducible first | apply w1 | apply w2 | apply w3 | apply w4 | apply w5 | apply w6 | apply w7 | apply w8 | apply w9 | apply wa | apply wb | apply wc) | ((with_reducible apply wd); focus decide) | ((with_reducible apply we); focus exact rfl) | ((with_reducible apply wf); focus exact rfl) | ((first | (with_reducible apply SW_run tt_ok hG htb) | ((with_reducible apply SW_draw rfl tt_ok hG htb); (focus kernel_rfl); focus simp only [List.range, List.range.loop, List.size_toArray, List.length_cons, List.length_nil, Nat.reduceAdd])); focus ((repeat' (first | (with_reducible first | exact wg | exact wh) | ((with_reducible first | apply wi | apply wj); focus (simp (discharger := omega) only [go_sem, tAuto, tErr0, tErr, h1, simprocAttr]; with_reducible rfl)))); done)))
        clear htb
        have htb := Tab.cons c7 Tab.nil
        repeat' (first | (with_reducible first | apply w1 | apply w2 | apply w3 | apply w4 | apply w5 | apply w6 | apply w7 | apply w8 | apply w9 | apply wa | apply wb | apply wc) | ((with_reducible apply wd); focus decide) | ((with_reducible apply we); focus exact rfl) | ((with_reducible apply wf); focus exact rfl) | ((first | (with_reducible apply SW_run tt_ok hG htb) | ((with_reducible apply SW_draw rfl tt_ok hG htb); (focus kernel_rfl); focus simp only [List.range, List.range.loop, List.size_toArray, List.length_cons, List.length_nil, Nat.reduceAdd])); focus ((repeat' (first | (with_reducible first | exact wg | exact wh) | ((with_reducible first | apply wi | apply wj); focus (simp (discharger := omega) only [go_sem, tAuto, tErr0, tErr, h1, simprocAttr]; with_reducible rfl)))); done)))
        clear htb
        have htb := Tab.cons c8 Tab.nil
        repeat' (first | (with_reducible first | apply w1 | apply w2 | apply w3 | apply w4 | apply w5 | apply w6 | apply w7 | apply w8 | apply w9 | apply wa | apply wb | apply wc) | ((with_reducible apply wd); focus decide) | ((with_reducible apply we); focus exact rfl) | ((with_reducible apply wf); focus exact rfl) | ((first | (with_reducible apply SW_run tt_ok hG htb) | ((with_reducible apply SW_draw rfl tt_ok hG htb); (focus kernel_rfl); focus simp only [List.range, List.range.loop, List.size_toArray, List.length_cons, List.length_nil, Nat.reduceAdd])); focus ((repeat' (first | (with_reducible first | exact wg | exact wh) | ((with_reducible first | apply wi | apply wj); focus (simp (discharger := omega) only [go_sem, tAuto, tErr0, tErr, h1, simprocAttr]; with_reducible rfl)))); done)))
        clear htb
        by_cases hs : someErr b t = 0
        · obtain ⟨s1, s2⟩ := hsc hs
          rw [hs] at c9
          rw [s1, s2] at c10
          generalize someA b t = q at *
          have htb := Tab.cons c9 (Tab.cons c10 Tab.nil)
          repeat' (first | (with_reducible first | apply w1 | apply w2 | apply w3 | apply w4 | apply w5 | apply w6 | apply w7 | apply w8 | apply w9 | apply wa | apply wb | apply wc) | ((with_reducible apply wd); focus decide) | ((with_reducible apply we); focus exact rfl) | ((with_reducible apply wf); focus exact rfl) | ((first | (with_reducible apply SW_run tt_ok hG htb) | ((with_reducible apply SW_draw rfl tt_ok hG htb); (focus kernel_rfl); focus simp only [List.range, List.range.loop, List.size_toArray, List.length_cons, List.length_nil, Nat.reduceAdd])); focus ((repeat' (first | (with_reducible first | exact wg | exact wh) | ((with_reducible first | apply wi | apply wj); focus (simp (discharger := omega) only [go_sem, tAuto, tErr0, simprocAttr]; with_reducible rfl)))); done)))
          exact (by simp (discharger := omega) only [go_sem, simprocAttr])
        · have hq : someA b t = GAuto.zero := by unfold someA; rw [if_neg hs]
          rw [hq] at c9
          generalize someErr b t = q at *
          have htb := Tab.cons c9 Tab.nil
          repeat' (first | (with_reducible first | apply w1 | apply w2 | apply w3 | apply w4 | apply w5 | apply w6 | apply w7 | apply w8 | apply w9 | apply wa | apply wb | apply wc) | ((with_reducible apply wd); focus decide) | ((with_reducible apply we); focus exact rfl) | ((with_reducible apply wf); focus exact rfl) | ((first | (with_reducible apply SW_run tt_ok hG htb) | ((with_reducible apply SW_draw rfl tt_ok hG htb); (focus kernel_rfl); focus simp only [List.range, List.range.loop, List.size_toArray, List.length_cons, List.length_nil, Nat.reduceAdd])); focus ((repeat' (first | (with_reducible first | exact wg | exact wh) | ((with_reducible first | apply wi | apply wj); focus (simp (discharger := omega) only [go_sem, tAuto, tErr, hs, GAuto.zero, simprocAttr]; with_reducible rfl)))); done)))
          exact (by simp (discharger := omega) only [go_sem, simprocAttr])
      · have htb := Tab.cons c6 Tab.nil
        repeat' (first | (with_reducible first | apply w1 | apply w2 | apply w3 | apply w4 | apply w5 | apply w6 | apply w7 | apply w8 | apply w9 | apply wa | apply wb | apply wc) | ((with_reducible apply wd); focus decide) | ((with_reducible apply we); focus exact rfl) | ((with_reducible apply wf); focus exact rfl) | ((first | (with_reducible apply SW_run tt_ok hG htb) | ((with_reducible apply SW_draw rfl tt_ok hG htb); (focus kernel_rfl); focus simp only [List.range, List.range.loop, List.size_toArray, List.length_cons, List.length_nil, Nat.reduceAdd])); focus ((repeat' (first | (with_reducible first | exact wg | exact wh) | ((with_reducible first | apply wi | apply wj); focus (simp (discharger := omega) only [go_sem, tAuto, tErr0, tErr, h1, h3, simprocAttr]; with_reducible rfl)))); done)))
        clear htb
        have htb := Tab.cons c7 Tab.nil
        repeat' (first | (with_reducible first | apply w1 | apply w2 | apply w3 | apply w4 | apply w5 | apply w6 | apply w7 | apply w8 | apply w9 | apply wa | apply wb | apply wc) | ((with_reducible apply wd); focus decide) | ((with_reducible apply we); focus exact rfl) | ((with_reducible apply wf); focus exact rfl) | ((first | (with_reducible apply SW_run tt_ok hG htb) | ((with_reducible apply SW_draw rfl tt_ok hG htb); (focus kernel_rfl); focus simp only [List.range, List.range.loop, List.size_toArray, List.length_cons, List.length_nil, Nat.reduceAdd])); focus ((repeat' (first | (with_reducible first | exact wg | exact wh) | ((with_reducible first | apply wi | apply wj); focus (simp (discharger := omega) only [go_sem, tAuto, tErr0, tErr, h1, h3, simprocAttr]; with_reducible rfl)))); done)))
        clear htb
        have htb := Tab.cons c8 Tab.nil
        repeat' (first | (with_reducible first | apply w1 | apply w2 | apply w3 | apply w4 | apply w5 | apply w6 | apply w7 | apply w8 | apply w9 | apply wa | apply wb | apply wc) | ((with_reducible apply wd); focus decide) | ((with_reducible apply we); focus exact rfl) | ((with_reducible apply wf); focus exact rfl) | ((first | (with_reducible apply SW_run tt_ok hG htb) | ((with_reducible apply SW_draw rfl tt_ok hG htb); (focus kernel_rfl); focus simp only [List.range, List.range.loop, List.size_toArray, List.length_cons, List.length_nil, Nat.reduceAdd])); focus ((repeat' (first | (with_reducible first | exact wg | exact wh) | ((with_reducible first | apply wi | apply wj); focus (simp (discharger := omega) only [go_sem, tAuto, tErr0, tErr, h1, h3, simprocAttr]; with_reducible rfl)))); done)))
        clear htb
        by_cases hs : someErr b t = 0
        · obtain ⟨s1, s2⟩ := hsc hs
          rw [hs] at c9
          rw [s1, s2] at c10
          generalize someA b t = q at *
          have htb := Tab.cons c9 (Tab.cons c10 Tab.nil)
          repeat' (first | (with_reducible first | apply w1 | apply w2 | apply w3 | apply w4 | apply w5 | apply w6 | apply w7 | apply w8 | apply w9 | apply wa | apply wb | apply wc) | ((with_reducible apply wd); focus decide) | ((with_reducible apply we); focus exact rfl) | ((with_reducible apply wf); focus exact rfl) | ((first | (with_reducible apply SW_run tt_ok hG htb) | ((with_reducible apply SW_draw rfl tt_ok hG htb); (focus kernel_rfl); focus simp only [List.range, List.range.loop, List.size_toArray, List.length_cons, List.length_nil, Nat.reduceAdd])); focus ((repeat' (first | (with_reducible first | exact wg | exact wh) | ((with_reducible first | apply wi | apply wj); focus (simp (discharger := omega) only [go_sem, tAuto, tErr0, simprocAttr]; with_reducible rfl)))); done)))
          exact (by simp (discharger := omega) only [go_sem, simprocAttr])
        · have hq : someA b t = GAuto.zero := by unfold someA; rw [if_neg hs]
          rw [hq] at c9
          generalize someErr b t = q at *
          have htb := Tab.cons c9 Tab.nil
          repeat' (first | (with_reducible first | apply w1 | apply w2 | apply w3 | apply w4 | apply w5 | apply w6 | apply w7 | apply w8 | apply w9 | apply wa | apply wb | apply wc) | ((with_reducible apply wd); focus decide) | ((with_reducible apply we); focus exact rfl) | ((with_reducible apply wf); focus exact rfl) | ((first | (with_reducible apply SW_run tt_ok hG htb) | ((with_reducible apply SW_draw rfl tt_ok hG htb); (focus kernel_rfl); focus simp only [List.range, List.range.loop, List.size_toArray, List.length_cons, List.length_nil, Nat.reduceAdd])); focus ((repeat' (first | (with_reducible first | exact wg | exact wh) | ((with_reducible first | apply wi | apply wj); focus (simp (discharger := omega) only [go_sem, tAuto, tErr, hs, GAuto.zero, simprocAttr]; with_reducible rfl)))); done)))
          exact (by simp (discharger := omega) only [go_sem, simprocAttr])
    · by_cases h3 : h = 0
      · subst h3
        have htb := Tab.cons c6 Tab.nil
        repeat' (first | (with_reducible first | apply w1 | apply w2 | apply w3 | apply w4 | apply w5 | apply w6 | apply w7 | apply w8 | apply w9 | apply wa | apply wb | apply wc) | ((with_reducible apply wd); focus decide) | ((with_reducible apply we); focus exact rfl) | ((with_reducible apply wf); focus exact rfl) | ((first | (with_reducible apply SW_run tt_ok hG htb) | ((with_reducible apply SW_draw rfl tt_ok hG htb); (focus kernel_rfl); focus simp only [List.range, List.range.loop, List.size_toArray, List.length_cons, List.length_nil, Nat.reduceAdd])); focus ((repeat' (first | (with_reducible first | exact wg | exact wh) | ((with_reducible first | apply wi | apply wj); focus (simp (discharger := omega) only [go_sem, tAuto, tErr0, tErr, h1, h2, simprocAttr]; with_reducible rfl)))); done)))
        clear htb
        have htb := Tab.cons c7 Tab.nil
        repeat' (first | (with_reducible first | apply w1 | apply w2 | apply w3 | apply w4 | apply w5 | apply w6 | apply w7 | apply w8 | apply w9 | apply wa | apply wb | apply wc) | ((with_reducible apply wd); focus decide) | ((with_reducible apply we); focus exact rfl) | ((with_reducible apply wf); focus exact rfl) | ((first | (with_reducible apply SW_run tt_ok hG htb) | ((with_reducible apply SW_draw rfl tt_ok hG htb); (focus kernel_rfl); focus simp only [List.range, List.range.loop, List.size_toArray, List.length_cons, List.length_nil, Nat.reduceAdd])); focus ((repeat' (first | (with_reducible first | exact wg | exact wh) | ((with_reducible first | apply wi | apply wj); focus (simp (discharger := omega) only [go_sem, tAuto, tErr0, tErr, h1, h2, simprocAttr]; with_reducible rfl)))); done)))
        clear htb
        have htb := Tab.cons c8 Tab.nil
        repeat' (first | (with_reducible first | apply w1 | apply w2 | apply w3 | apply w4 | apply w5 | apply w6 | apply w7 | apply w8 | apply w9 | apply wa | apply wb | apply wc) | ((with_reducible apply wd); focus decide) | ((with_reducible apply we); focus exact rfl) | ((with_reducible apply wf); focus exact rfl) | ((first | (with_reducible apply SW_run tt_ok hG htb) | ((with_reducible apply SW_draw rfl tt_ok hG htb); (focus kernel_rfl); focus simp only [List.range, List.range.loop, List.size_toArray, List.length_cons, List.length_nil, Nat.reduceAdd])); focus ((repeat' (first | (with_reducible first | exact wg | exact wh) | ((with_reducible first | apply wi | apply wj); focus (simp (discharger := omega) only [go_sem, tAuto, tErr0, tErr, h1, h2, simprocAttr]; with_reducible rfl)))); done)))
        clear htb
        by_cases hs : someErr b t = 0
        · obtain ⟨s1, s2⟩ := hsc hs
          rw [hs] at c9
          rw [s1, s2] at c10
          generalize someA b t = q at *
          have htb := Tab.cons c9 (Tab.cons c10 Tab.nil)
          repeat' (first | (with_reducible first | apply w1 | apply w2 | apply w3 | apply w4 | apply w5 | apply w6 | apply w7 | apply w8 | apply w9 | apply wa | apply wb | apply wc) | ((with_reducible apply wd); focus decide) | ((with_reducible apply we); focus exact rfl) | ((with_reducible apply wf); focus exact rfl) | ((first | (with_reducible apply SW_run tt_ok hG htb) | ((with_reducible apply SW_draw rfl tt_ok hG htb); (focus kernel_rfl); focus simp only [List.range, List.range.loop, List.size_toArray, List.length_cons, List.length_nil, Nat.reduceAdd])); focus ((repeat' (first | (with_reducible first | exact wg | exact wh) | ((with_reducible first | apply wi | apply wj); focus (simp (discharger := omega) only [go_sem, tAuto, tErr0, simprocAttr]; with_reducible rfl)))); done)))
          exact (by simp (discharger := omega) only [go_sem, simprocAttr])
        · have hq : someA b t = GAuto.zero := by unfold someA; rw [if_neg hs]
          rw [hq] at c9
          generalize someErr b t = q at *
          have htb := Tab.cons c9 Tab.nil
          repeat' (first | (with_reducible first | apply w1 | apply w2 | apply w3 | apply w4 | apply w5 | apply w6 | apply w7 | apply w8 | apply w9 | apply wa | apply wb | apply wc) | ((with_reducible apply wd); focus decide) | ((with_reducible apply we); focus exact rfl) | ((with_reducible apply wf); focus exact rfl) | ((first | (with_reducible apply SW_run tt_ok hG htb) | ((with_reducible apply SW_draw rfl tt_ok hG htb); (focus kernel_rfl); focus simp only [List.range, List.range.loop, List.size_toArray, List.length_cons, List.length_nil, Nat.reduceAdd])); focus ((repeat' (first | (with_reducible first | exact wg | exact wh) | ((with_reducible first | apply wi | apply wj); focus (simp (discharger := omega) only [go_sem, tAuto, tErr, hs, GAuto.zero, simprocAttr]; with_reducible rfl)))); done)))
          exact (by simp (discharger := omega) only [go_sem, simprocAttr])
      · have htb := Tab.cons c6 Tab.nil
        repeat' (first | (with_reducible first | apply w1 | apply w2 | apply w3 | apply w4 | apply w5 | apply w6 | apply w7 | apply w8 | apply w9 | apply wa | apply wb | apply wc) | ((with_reducible apply wd); focus decide) | ((with_reducible apply we); focus exact rfl) | ((with_reducible apply wf); focus exact rfl) | ((first | (with_reducible apply SW_run tt_ok hG htb) | ((with_reducible apply SW_draw rfl tt_ok hG htb); (focus kernel_rfl); focus simp only [List.range, List.range.loop, List.size_toArray, List.length_cons, List.length_nil, Nat.reduceAdd])); focus ((repeat' (first | (with_reducible first | exact wg | exact wh) | ((with_reducible first | apply wi | apply wj); focus (simp (discharger := omega) only [go_sem, tAuto, tErr0, tErr, h1, h2, h3, simprocAttr]; with_reducible rfl)))); done)))
        clear htb
        have htb := Tab.cons c7 Tab.nil
        repeat' (first | (with_reducible first | apply w1 | apply w2 | apply w3 | apply w4 | apply w5 | apply w6 | apply w7 | apply w8 | apply w9 | apply wa | apply wb | apply wc) | ((with_reducible apply wd); focus decide) | ((with_reducible apply we); focus exact rfl) | ((with_reducible apply wf); focus exact rfl) | ((first | (with_reducible apply SW_run tt_ok hG htb) | ((with_reducible apply SW_draw rfl tt_ok hG htb); (focus kernel_rfl); focus simp only [List.range, List.range.loop, List.size_toArray, List.length_cons, List.length_nil, Nat.reduceAdd])); focus ((repeat' (first | (with_reducible first | exact wg | exact wh) | ((with_reducible first | apply wi | apply wj); focus (simp (discharger := omega) only [go_sem, tAuto, tErr0, tErr, h1, h2, h3, simprocAttr]; with_reducible rfl)))); done)))
        clear htb
        have htb := Tab.cons c8 Tab.nil
        repeat' (first | (with_reducible first | apply w1 | apply w2 | apply w3 | apply w4 | apply w5 | apply w6 | apply w7 | apply w8 | apply w9 | apply wa | apply wb | apply wc) | ((with_reducible apply wd); focus decide) | ((with_reducible apply we); focus exact rfl) | ((with_reducible apply wf); focus exact rfl) | ((first | (with_reducible apply SW_run tt_ok hG htb) | ((with_reducible apply SW_draw rfl tt_ok hG htb); (focus kernel_rfl); focus simp only [List.range, List.range.loop, List.size_toArray, List.length_cons, List.length_nil, Nat.reduceAdd])); focus ((repeat' (first | (with_reducible first | exact wg | exact wh) | ((with_reducible first | apply wi | apply wj); focus (simp (discharger := omega) only [go_sem, tAuto, tErr0, tErr, h1, h2, h3, simprocAttr]; with_reducible rfl)))); done)))
        clear htb
        by_cases hs : someErr b t = 0
        · obtain ⟨s1, s2⟩ := hsc hs
          rw [hs] at c9
          rw [s1, s2] at c10
          generalize someA b t = q at *
          have htb := Tab.cons c9 (Tab.cons c10 Tab.nil)
          repeat' (first | (with_reducible first | apply w1 | apply w2 | apply w3 | apply w4 | apply w5 | apply w6 | apply w7 | apply w8 | apply w9 | apply wa | apply wb | apply wc) | ((with_reducible apply wd); focus decide) | ((with_reducible apply we); focus exact rfl) | ((with_reducible apply wf); focus exact rfl) | ((first | (with_reducible apply SW_run tt_ok hG htb) | ((with_reducible apply SW_draw rfl tt_ok hG htb); (focus kernel_rfl); focus simp only [List.range, List.range.loop, List.size_toArray, List.length_cons, List.length_nil, Nat.reduceAdd])); focus ((repeat' (first | (with_reducible first | exact wg | exact wh) | ((with_reducible first | apply wi | apply wj); focus (simp (discharger := omega) only [go_sem, tAuto, tErr0, simprocAttr]; with_reducible rfl)))); done)))
          exact (by simp (discharger := omega) only [go_sem, simprocAttr])
        · have hq : someA b t = GAuto.zero := by unfold someA; rw [if_neg hs]
          rw [hq] at c9
          generalize someErr b t = q at *
          have htb := Tab.cons c9 Tab.nil
          repeat' (first | (with_reducible first | apply w1 | apply w2 | apply w3 | apply w4 | apply w5 | apply w6 | apply w7 | apply w8 | apply w9 | apply wa | apply wb | apply wc) | ((with_reducible apply wd); focus decide) | ((with_reducible apply we); focus exact rfl) | ((with_reducible apply wf); focus exact rfl) | ((first | (with_reducible apply SW_run tt_ok hG htb) | ((with_reducible apply SW_draw rfl tt_ok hG htb); (focus kernel_rfl); focus simp only [List.range, List.range.loop, List.size_toArray, List.length_cons, List.length_nil, Nat.reduceAdd])); focus ((repeat' (first | (with_reducible first | exact wg | exact wh) | ((with_reducible first | apply wi | apply wj); focus (simp (discharger := omega) only [go_sem, tAuto, tErr, hs, GAuto.zero, simprocAttr]; with_reducible rfl)))); done)))
          exact (by simp (discharger := omega) only [go_sem, simprocAttr])
end
theorem SomeClosed_walk (v : Value) (a : GAuto) (t : Int) (u : Value) (l : List Int) (zeros : Int) (w : World) (h : ReadsAuto w v a) (_ : I64 t) (h' : ReadsInts w u l) (_ : I64 zeros) (hz : l.length * 8 ≤ 140737488351232) : Calls Try.prog 7 #[v, .int .i64 t, u, .int .i64 zeros] w (Ret (.bool true) w) :=
  walkN (SomeClosed_snd (G := fun _ => True) (fun _ _ _ _ => trivial) a t l zeros hz) trivial rfl fun k y z p q => by
    match k, p, q with
    | 0, p, q => cases p; cases q; exact h.2
    | 1, p, q => cases p; cases q; exact .int _ _
    | 2, p, q => cases p; cases q; exact h'.2
    | 3, p, q => cases p; cases q; exact .int _ _
end Go.Proofs.Ythcclcbliedodaa
namespace Go.Proofs.Ythcclcbliedodaa.someClosed
open Go.ChangeShapes Go.WideShapes Go.ChangeAt Go.RowKit

set_option maxRecDepth 100000 in
theorem lifted (os : Os) (started : os.Started) (H : Type) (enc : TypeId × Value → H) :
    ReturnsInHanded {} Try.checked os 7 .any (Rows.someClosedSpec.pre6 enc Try.prog Try.f7 Rows.someClosedRow.domain false) (Rows.someClosedSpec.post enc Try.prog Try.f7 false true false false) := by
  refine returnsInHanded_of_change_sized (C := Try.checked) own started (by kernel_rfl) Try.func7
    (ChangeSpec.witness6 (enc := enc) (C := Try.checked) false ⟨#[], #[.agg #[.int .i64 0, .int .i64 0, .slice none 0 0, .slice none 0 0], .int .i64 0, .slice none 0 0, .int .i64 0], []⟩ 8 (by kernel_rfl) (by kernel_rfl) (by kernel_rfl) (by kernel_rfl)) ?_
  intro W base args ds gs before hval0 hW hcnd hsz _
  have hval : ∀ (j : Nat) t v, Try.f7.params[j]? = some t → args[j]? = some v → Value.okWide Try.prog W .any base t v := hval0
  have hW' := hW
  obtain ⟨p, q, hA0, hV, rfl, hfz, hnd⟩ := hW
  have hA : DataW.TrodAll enc Try.prog W 0 (fun _ => true) true Try.f7.params.toList args.toList ds p := hA0
  rw [Try.params7] at hA hval
  obtain ⟨v0, vs0, d0, ds0, p0, q0, hargs, rfl, rfl, h0, r0⟩ := trodAll_cons hA
  obtain ⟨v1, vs1, d1, ds1, p1, q1, rfl, rfl, rfl, h1, r1⟩ := trodAll_cons r0
  obtain ⟨v2, vs2, d2, ds2, p2, q2, rfl, rfl, rfl, h2, r2⟩ := trodAll_cons r1
  obtain ⟨v3, vs3, d3, ds3, p3, q3, rfl, rfl, rfl, h3, r3⟩ := trodAll_cons r2
  obtain ⟨rfl, rfl, rfl⟩ := trodAll_nil r3
  obtain rfl : args = #[v0, v1, v2, v3] := by cases args; simp_all
  obtain ⟨rfl, rfl⟩ := trodVars_none hV
  have k0 := h0
  have lt0 : ∀ x ∈ p0, x.block < W.heap.size := by obtain ⟨m, hm⟩ := k0; exact DataW.trod_lt m _ _ _ hm
  obtain ⟨a0, w0⟩ := openAutoT (hval 0 25 v0 rfl rfl) h0
  obtain ⟨a1, rfl, rfl, rfl, w1⟩ := open_int Try.underlying3 (hval 1 3 v1 rfl rfl) h1
  obtain ⟨b2, len2, cap2, rfl⟩ := okWide_slice Try.underlying26 (hval 2 26 v2 rfl rfl)
  have k2 := h2
  have lt2 : ∀ x ∈ p2, x.block < W.heap.size := by obtain ⟨m, hm⟩ := k2; exact DataW.trod_lt m _ _ _ hm
  obtain ⟨a2, w2⟩ := openIntsT rfl h2
  obtain ⟨a3, rfl, rfl, rfl, w3⟩ := open_int Try.underlying3 (hval 3 3 v3 rfl rfl) h3
  have sz2 := sized_ints k2 rfl (j := 2) hsz rfl rfl w2
  clear hA0 hval0
  refine (SomeClosed_walk _ a0 a1 _ a2 a3 W w0 (i64_of_wf w1) w2 (i64_of_wf w3) sz2).mono fun e W' ⟨he, bel⟩ => ?_
  subst he
  exact ⟨_, rfl, _, _, _, [], _, [], hW', trodAll_mk1 (shut_bool Try.underlying4 _), (trodAll_cons_mk (Below.trod laidOut (by kernel_rfl) (of_decide_eq_true (by kernel_rfl)) k0 bel lt0) (trodAll_cons_mk (shut_int Try.underlying3 w1) (trodAll_cons_mk (Below.trod laidOut (by kernel_rfl) (of_decide_eq_true (by kernel_rfl)) k2 bel lt2) (trodAll_cons_mk (shut_int Try.underlying3 w3) trodAll_mk0)))), rfl, bel.frame _, fun h => by cases h⟩

theorem over : Rows.someClosedRow.holds Try.pinned (OpenSpec.ofChange Rows.someClosedSpec) :=
  OpenClaim.holds_of_wide 7 Try.f7 rfl rfl rfl rfl rfl rfl rfl ⟨rfl, rfl, rfl, rfl, rfl⟩ rfl rfl rfl rfl rfl (by kernel_rfl) Try.func7 (by kernel_rfl)
    (of_decide_eq_true (by kernel_rfl)) (by unfold Func.isWrapper; first | (rw [if_pos (by decide +kernel)]; kernel_rfl) | (rw [if_neg (by decide +kernel)]; exact ⟨rfl, rfl⟩))
    (fun os started H enc _ => lifted os started H enc)

/-- THE STATEMENT. -/
theorem proved : Rows.SomeClosedSaid := over
#print axioms proved
end Go.Proofs.Ythcclcbliedodaa.someClosed
