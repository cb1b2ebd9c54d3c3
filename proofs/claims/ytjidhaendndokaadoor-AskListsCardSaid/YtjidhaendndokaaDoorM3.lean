/- Plain laws, data behind worlds, and contracts of functions, for the last text. No conditions. -/
import Derived.Test.YtjidhaendndokaaDoorM2
set_option linter.unusedSimpArgs false
set_option linter.unusedVariables false
set_option linter.unnecessarySimpa false
set_option linter.unusedSectionVars false
namespace Go.Proofs.YtjidhaendndokaaDoor
open Go.RowKit

/-- Called with these data it gives one of those, in memory that is new, and writes nothing that was there. -/
structure SndV (P : Program) (G : World → Prop) (f : Nat) (args : List T) {ι : Type} (rf : ι → T) : Prop where
  enter : ∀ (vs : Array Value) (w : World), (callFunc f vs).run P w = .ok (.enter f vs) w
  calls : ∀ (S : Nat → Prop) (w : World) (vs : Array Value), G w → vs.size = args.length → (∀ (k : Nat) (y : T) (v : Value), args[k]? = some y → vs[k]? = some v → RepT S w y v) →
    Calls P f vs w fun e w' => ∃ v i, e = .returned v ∧ RepT (fun b => w.heap.size ≤ b) w' (rf i) v ∧ Below w.heap.size w w'
/-- A slot's content as a datum; nil as its header. -/
def St.rdN (st : St) : SV → Option T
  | .nil => some (.raw none 0 0)
  | x => st.rd x
def St.rdNL (st : St) : List SV → Option (List T)
  | [] => some []
  | x :: r => match st.rdN x with
    | some y => match st.rdNL r with
      | some ys => some (y :: ys)
      | none => none
    | none => none
section
variable {P : Program} {G : World → Prop} {C : Ctx} {st : St} {hd : List Hd} {a : Act} {w : World} {tt : Nat → Option TI} {tb : Tab} {Q : Exit → St → Prop}
theorem rdN_ok (hr : StR C st hd a w) {x : SV} {v : Value} (hx : RepS (vis C hd) w hd x v) {y : T} (h : st.rdN x = some y) : RepT (Own C) w y v := by
  unfold St.rdN at h
  split at h
  · cases h; cases hx; exact .raw _ _ _
  · exact rd_ok hr hx h
theorem rdNL_get {st : St} : ∀ {l : List SV} {ys : List T}, st.rdNL l = some ys → ys.length = l.length ∧ ∀ (k : Nat) (x : SV) (y : T), l[k]? = some x → ys[k]? = some y → st.rdN x = some y
  | [], ys, h => by simp [St.rdNL] at h; subst h; exact ⟨rfl, fun k x y e => by simp at e⟩
  | x :: r, ys, h => by
    simp only [St.rdNL] at h
    split at h
    · rename_i y hy
      split at h
      · rename_i zs hz
        cases h
        obtain ⟨l1, l2⟩ := rdNL_get hz
        refine ⟨by simp [l1], fun k x' y' e1 e2 => ?_⟩
        cases k with
        | zero => simp at e1 e2; subst e1 e2; exact hy
        | succ k => exact l2 k x' y' (by simpa using e1) (by simpa using e2)
      · cases h
    · cases h
theorem SL_callV {ops : Array Oper} {o : Oper} {rest : List Oper} {c : Call} {f : Operand} {g : Nat} {cap asl : List T} {ι : Type} {rf : ι → T} (hGl : Lasting G) (ho : o.op = .call c) (hc : c.callee = .value f) (hgd : guardOk ops st o = true) (hd0 : dstOk st.nt o.dst = true)
    (hf : st.ev f = .t (.fn g cap)) (ha : st.rdNL (c.args.toList.map st.ev) = some asl) (hs : SndV P G g (asl ++ cap) rf) (h : ∀ i, SL P G ops rest Q (st.put o.dst (.t (rf i)))) : SL P G ops (o :: rest) Q st := fun C hd a w hG hr => by
  obtain ⟨hl, hl2⟩ := rdNL_get ha
  simp at hl
  unfold wpList
  rw [if_pos (guardOk_wanted hr hgd)]
  left
  have h3 := hr.ev f
  rw [hf] at h3
  generalize hv : a.eval f = v at h3
  have h4 := h3.toT
  cases h4
  rename_i capv hcl hcx
  unfold Oper.wp
  rw [run_call ho hc hv hs.enter]
  rw [Oper.upon_enter]
  have hGw : G w := hGl _ _ hr.below hG
  refine (hs.calls (Own C) w _ hGw (by simp; omega) fun k y v h1 h2 => ?_).mono fun e w' hq => ?_
  · by_cases hk : k < asl.length
    · rw [List.getElem?_append_left hk] at h1
      rw [Array.getElem?_append_left (by simp; omega), Array.getElem?_map, Option.map_eq_some_iff] at h2
      obtain ⟨x, hx, rfl⟩ := h2
      have : (c.args.toList.map st.ev)[k]? = some (st.ev x) := by rw [List.getElem?_map, Array.getElem?_toList, hx]; rfl
      exact rdN_ok hr (hr.ev x) (hl2 k _ y this h1)
    · rw [List.getElem?_append_right (by omega)] at h1
      rw [Array.getElem?_append_right (by simp; omega)] at h2
      simp only [Array.size_map, ← hl] at h2
      exact (hcx _ y v h1 h2).mono vis_own
  · obtain ⟨v, i, rfl, h1, h2⟩ := hq
    have hr' := hr.grow h2
    exact h i C hd _ w' hG (hr'.put' rfl hd0 (.t _ _ (h1.mono fun b hb' => ⟨hr.ext.fresh hb', fun g hg e => by have := (hr.own g b hg e).2; omega⟩)))
/-- A region of fixed order, whose k-th operation is such a call. -/
theorem SW_runV (hT : TTok P tt) (hGl : Lasting G) (htb : Tab.ok P G tb) {id : Nat} {ops : List Oper} {st s1 : St} (k : Nat) {o : Oper} {l1 l2 : List Oper} (hk : ops[k]? = some o) (hl1 : ops.take k = l1) (hl2 : ops.drop (k + 1) = l2)
    (h1 : runX tt tb ops.toArray l1 st = some s1)
    {c : Call} {f : Operand} {g : Nat} {cap asl : List T} {ι : Type} {rf : ι → T} (ho : o.op = .call c) (hc : c.callee = .value f) (hgd : guardOk ops.toArray s1 o = true) (hd0 : dstOk s1.nt o.dst = true)
    (hf : s1.ev f = .t (.fn g cap)) (ha : s1.rdNL (c.args.toList.map s1.ev) = some asl) (hs : SndV P G g (asl ++ cap) rf)
    (hq : ∀ i, ∃ s2, runX tt tb ops.toArray l2 (s1.put o.dst (.t (rf i))) = some s2 ∧ Q .normal s2) :
    SW P G (.region id ops.toArray false) Q st := by
  have hl : ops = l1 ++ o :: l2 := by
    rw [← hl1, ← hl2]
    obtain ⟨hl, rfl⟩ := List.getElem?_eq_some_iff.1 hk
    rw [← List.drop_eq_getElem_cons hl, List.take_append_drop]
  clear hl1 hl2 hk
  subst hl
  refine SW_region ?_
  have key : ∀ (l : List Oper) (s : St), runX tt tb (l1 ++ o :: l2).toArray l s = some s1 → SL P G (l1 ++ o :: l2).toArray (l ++ o :: l2) Q s := fun l => by
    induction l with
    | nil =>
      intro s hs0
      simp only [runX, Option.some.injEq] at hs0
      subst hs0
      refine SL_callV hGl ho hc hgd hd0 hf ha hs fun i => ?_
      obtain ⟨s2, h2, h3⟩ := hq i
      exact SL_runX hT hGl htb h2 h3
    | cons x l ih =>
      intro s hs0
      unfold runX at hs0
      split at hs0
      · rename_i s' hx
        intro C hd a w hG hr
        show wpList P _ _ (x :: (l ++ o :: l2)) a w
        unfold wpList
        have := stepX_wp (K := wpList P (l1 ++ o :: l2).toArray (Lift C Q) (l ++ o :: l2)) (Q := Lift C Q) hT hGl htb hG hr _ x hx fun hd' a' w' h' => ih s' hs0 C hd' a' w' hG h'
        split
        · rename_i hw; rw [if_pos hw] at this; exact .inl this
        · rename_i hw; rw [if_neg hw] at this; exact this
      · cases hs0
  exact key l1 st h1
/-- A result in memory that is new: an own slice of flat cells, or no memory at all. -/
def St.frV (st : St) : SV → Option T
  | .t x => if x.flatData = true then some x else none
  | .nil => some (.list [])
  | .lit [] => some (.list [])
  | .sref i => match st.obj i with
    | .row _ _ true l => if flatAll l = true then some (.list l) else none
    | _ => none
  | _ => none
def frVL (st : St) : List SV → Option (List T)
  | [] => some []
  | x :: r => match st.frV x with
    | some y => match frVL st r with
      | some ys => some (y :: ys)
      | none => none
    | none => none
def St.resV (tt : Nat → Option TI) (st : St) (l : List ResultVar) : Option T := match st.svL tt l with
  | some ys => match frVL st ys with
    | some [y] => some y
    | some zs => some (.tup zs)
    | none => none
  | none => none
theorem nil_list {S : Nat → Prop} {w : World} (a : Option Addr) (cap : Nat) : RepT S w (.list []) (.slice a 0 cap) := by
  refine .list [] a cap 1 (fun _ => undef) (Nat.zero_le _) Nat.one_pos (fun x hx => ?_) (fun h => (h rfl).elim) (fun k hk => ?_) (fun k y hy => ?_) (Nat.zero_le _)
  · cases hx
  · have : k < 0 * 1 := hk
    omega
  · cases hy
theorem flat_flat {l : List T} (h : flatAll l = true) : ∀ y ∈ flat l, y.flatData = true := fun y hy => by
  obtain ⟨x, hx, hy⟩ := List.mem_flatMap.1 hy
  have := flatAll_mem h x hx
  unfold T.cells at hy
  split at hy
  · exact flatAll_mem (by simpa [T.flatData] using this) y hy
  · rw [List.mem_singleton.1 hy]; exact this
theorem frV_ok (hr : StR C st hd a w) {x : SV} {v : Value} (hx : RepS (vis C hd) w hd x v) {y : T} (h : st.frV x = some y) : RepT (fun b => C.w0.heap.size ≤ b) w y v := by
  unfold St.frV at h
  split at h
  · split at h
    · rename_i hfl
      cases h
      exact hx.toT.flat hfl
    · cases h
  · cases h; cases hx; exact nil_list _ _
  · cases h; cases hx; exact nil_list _ _
  · rename_i i
    split at h
    · rename_i e sz l ho
      split at h
      · rename_i hfl
        cases h
        cases hx with
        | sref _ ad n cap o hh =>
          have hob := hr.ob i _ _ (obj_some ho (by simp)) hh
          obtain ⟨xs, h1, h2, h3⟩ := row_cells hob
          obtain ⟨rfl, e2, e3, e4, e5⟩ := hob
          rcases e5 with ⟨ys, f1, f2, f3⟩ | ⟨q, _⟩
          rotate_left
          · cases q
          have hcap : l.length ≤ cap := by
            rcases f1.2 with ⟨q, q2⟩ | ⟨g, cap', cur, q, _, _, q3, _⟩
            · omega
            · cases q; exact q3
          refine .list l ad cap sz xs e3 e2 e4 (fun hne => ?_) h2 (fun k y hy => (h3 k y hy).flat (flat_flat hfl y (List.mem_of_getElem? hy))) hcap
          obtain ⟨b, rfl, hc⟩ := h1 hne
          exact ⟨b, 0, rfl, (hr.own _ b (List.mem_of_getElem? hh) (by simp [Hd.own, f2, Value.ownBlock])).1, fun k hk => by rw [Nat.zero_add]; exact hc k hk⟩
      · cases h
    · cases h
  · cases h
theorem frVL_get {st : St} : ∀ {l : List SV} {ys : List T}, frVL st l = some ys → ys.length = l.length ∧ ∀ (k : Nat) (y : T), ys[k]? = some y → ∃ x, l[k]? = some x ∧ st.frV x = some y
  | [], ys, h => by simp [frVL] at h; subst h; exact ⟨rfl, fun k y e => by simp at e⟩
  | x :: r, ys, h => by
    simp only [frVL] at h
    split at h
    · rename_i y hy
      split at h
      · rename_i zs hz
        cases h
        obtain ⟨l1, l2⟩ := frVL_get hz
        refine ⟨by simp [l1], fun k y' e => ?_⟩
        cases k with
        | zero => simp at e; subst e; exact ⟨x, rfl, hy⟩
        | succ k => obtain ⟨x', h1, h2⟩ := l2 k y' (by simpa using e); exact ⟨x', by simpa using h1, h2⟩
      · cases h
    · cases h
theorem resV_ok (hT : TTok P tt) (hr : StR C st hd a w) {fn : Func} {r : T} (h : st.resV tt fn.results.toList = some r) : ∃ v, (results fn a.tmps).run P w = .ok v w ∧ RepT (fun b => C.w0.heap.size ≤ b) w r v := by
  unfold St.resV at h
  split at h
  rotate_left
  · cases h
  rename_i ys hys
  obtain ⟨vl, h1, h2, h3⟩ := svL_ok hT hr hys
  obtain ⟨vs, hvs⟩ : ∃ vs : Array Value, vs = vl.toArray := ⟨_, rfl⟩
  have g1 : (fn.results.mapM (fun | ResultVar.tmp t => pure (a.tmps.getD t undef) | ResultVar.cell p t => do loadVar t (← asAddr (a.tmps.getD p undef)) : ResultVar → Sem Value)).run P w = .ok vs w := by
    rw [Array.mapM_eq_mapM_toList, Sem.run_map]
    erw [h1]
    rw [hvs]; rfl
  have g2 : vs.size = ys.length := by rw [hvs]; simpa using h2
  have g3 : ∀ (k : Nat) (y : SV) (v : Value), ys[k]? = some y → vs[k]? = some v → RepS (vis C hd) w hd y v := fun k y v a b => h3 k y v a (by rw [hvs] at b; simpa using b)
  split at h
  · rename_i y hy
    cases h
    obtain ⟨l1, l2⟩ := frVL_get hy
    simp at l1
    obtain ⟨x, x1, x2⟩ := l2 0 _ rfl
    refine ⟨vs[0]'(by omega), ?_, frV_ok hr (g3 0 x _ x1 (Array.getElem?_eq_getElem (by omega))) x2⟩
    unfold results
    rw [Sem.run_bind]
    erw [g1]
    simp [g2, ← l1]
  · rename_i zs hne hz
    cases h
    obtain ⟨l1, l2⟩ := frVL_get hz
    have hn : vs.size ≠ 1 := fun e => by
      rw [g2, ← l1] at e
      match zs, e, hne with
      | [y], _, hne => exact hne y rfl
    refine ⟨.tuple vs, ?_, .tup zs vs (by omega) fun k y v a1 a2 => ?_⟩
    · unfold results
      rw [Sem.run_bind]
      erw [g1]
      simp [hn]
    · obtain ⟨x, x1, x2⟩ := l2 k y a1
      exact frV_ok hr (g3 k x v x1 a2) x2
  · cases h
/-- The end of such a call. -/
def SPostV (tt : Nat → Option TI) (rs : List ResultVar) {ι : Type} (rf : ι → T) : Exit → St → Prop
  | .normal, s | .ret, s => ∀ C hd a w, StR C s hd a w → ∃ i s' hd', StR C s' hd' a w ∧ s'.resV tt rs = some (rf i)
  | _, _ => False
theorem SPostV_r {rs : List ResultVar} {ι : Type} {rf : ι → T} (i : ι) {s : St} (h : s.resV tt rs = some (rf i)) : SPostV tt rs rf .ret s := fun C hd a w hr => ⟨i, s, hd, hr, h⟩
theorem lit_raw (hr : StR C st hd a w) {d : Nat} (h : look st.tmps d = some (.lit [])) : ∃ ad, StR C (st.put (some d) (.t (.raw (some ad) 0 0))) hd a w := by
  have hs := hr.sl d _ h
  generalize hv : a.tmps.getD d undef = v at hs
  cases hs with
  | lit l b h1 hz =>
    refine ⟨⟨b, 0, none⟩, hr.below, hr.df, hr.nt, hr.hl, hr.ob, hr.own, hr.dist, fun t x hx => ?_, hr.ext⟩
    simp only [St.put, look] at hx
    split at hx
    · rename_i e
      subst e
      cases hx
      rw [hv]
      exact .t _ _ (.raw _ _ _)
    · exact hr.sl t x hx
theorem SPostV_lit {rs : List ResultVar} {rf : Addr → T} {s : St} {d : Nat} (h : look s.tmps d = some (.lit [])) (h2 : ∀ ad, (s.put (some d) (.t (.raw (some ad) 0 0))).resV tt rs = some (rf ad)) : SPostV tt rs rf .ret s := fun C hd a w hr => by
  obtain ⟨ad, hr'⟩ := lit_raw hr h
  exact ⟨ad, _, hd, hr', h2 ad⟩
theorem sndV_of_body (hT : TTok P tt) {f : Nat} {fn : Func} {c : Code} {args : List T} {ι : Type} {rf : ι → T} (hf : P.funcs[f]? = some fn) (hb : fn.body = some c) (hn : (fn.name == "runtime.NumGoroutine") = false) {n : Nat} (hnt : n = args.length + (fn.ntmps - args.length)) {tm : List (Nat × SV)} (htm : tm = mkSlots 0 args) {rs : List ResultVar} (hrs : fn.results.toList = rs)
    (h : SW P G c (SPostV tt rs rf) ⟨n, tm, []⟩) : SndV P G f args rf := by
  subst hrs
  refine ⟨fun vs w => ?_, fun S w vs hG hvs hrep => ?_⟩
  · unfold callFunc
    rw [Sem.run_bind, run_program, Result.andThen_ok]
    simp only [hf, hn, hb, Option.isNone_some, Bool.false_eq_true, if_false]
    rfl
  · let C : Ctx := Ctx.of S w
    refine calls_of_wp hf hb ?_
    have hr : StR C ⟨n, tm, []⟩ [] { tmps := vs ++ Array.replicate (fn.ntmps - vs.size) undef, defers := [] } w := by
      refine ⟨Below.refl _ _, rfl, by simp [hnt, hvs], rfl, fun i o g h => by simp at h, fun g b h => by simp at h, fun i j gi gj b h => by simp at h, fun t x hx => ?_, ⟨Nat.le_refl _, fun _ _ _ => rfl, fun g b h => by simp at h⟩⟩
      subst htm
      obtain ⟨j, y, rfl, h2, rfl⟩ := mkSlots_look hx
      have hj := (List.getElem?_eq_some_iff.1 h2).1
      have e : vs[j]? = some vs[j] := Array.getElem?_eq_getElem (by omega)
      have e2 : (vs ++ Array.replicate (fn.ntmps - vs.size) undef).getD (0 + j) undef = vs[j] := by
        rw [Nat.zero_add, Array.getD_eq_getD_getElem?, Array.getElem?_append_left (by omega), e]; rfl
      rw [e2]
      exact .t _ _ ((hrep j y _ h2 e).keep ⟨Nat.le_refl _, fun b hb _ => ⟨rfl, ⟨.inl hb, id⟩, fun g hg => by simp at hg⟩⟩)
    refine wp_mono (h C [] _ w hG hr) fun e a' w' hq => ?_
    obtain ⟨st', hd', h1, h2⟩ := hq
    have fin : (∀ C hd a w, StR C st' hd a w → ∃ i s' hd', StR C s' hd' a w ∧ s'.resV tt fn.results.toList = some (rf i)) → ∃ v, (results fn a'.tmps).run P w' = .ok v w' ∧ ∃ v2 i, Ending.returned v = .returned v2 ∧ RepT (fun b => w.heap.size ≤ b) w' (rf i) v2 ∧ Below w.heap.size w w' := fun h1 => by
      obtain ⟨i, s', hd2, h3, h4⟩ := h1 C hd' a' w' h2
      obtain ⟨v, g1, g2⟩ := resV_ok hT h3 h4
      exact ⟨v, g1, v, i, rfl, g2, h2.below⟩
    cases e <;> simp only [SPostV] at h1
    · obtain ⟨v, g1, g2⟩ := fin h1
      exact ⟨h2.df, v, g1, g2⟩
    · obtain ⟨v, g1, g2⟩ := fin h1
      exact ⟨h2.df, v, g1, g2⟩
end
end Go.Proofs.YtjidhaendndokaaDoor
namespace Go.Proofs.YtjidhaendndokaaDoor
open Go.RowKit

theorem Norm.datum {st : St} (d j : Nat) {l : List T} (h : look st.tmps d = some (.sref j)) (hj : st.heap[j]? = some (.froz l)) : Norm st (st.put (some d) (.t (.list l))) := fun C hd a w hr => by
  refine ⟨hd, hr.below, hr.df, hr.nt, hr.hl, hr.ob, hr.own, hr.dist, fun t x hx => ?_, hr.ext⟩
  simp only [St.put, look] at hx
  split at hx
  · rename_i e
    subst e
    cases hx
    have hs := hr.sl d _ h
    generalize a.tmps.getD d _root_.Go.undef = v at hs
    cases hs with
    | sref _ ad n cap o hh =>
      have hob := hr.ob j _ _ hj hh
      exact .t _ _ hob.2.2
  · exact hr.sl t x hx
/-- A slot that holds what can be read as a datum. -/
theorem Norm.tr {st : St} (d : Nat) {x : SV} {y : T} (h : look st.tmps d = some x) (hy : st.tr x = some y) : Norm st (st.put (some d) (.t y)) := fun C hd a w hr => by
  refine ⟨hd, hr.below, hr.df, hr.nt, hr.hl, hr.ob, hr.own, hr.dist, fun t z hz => ?_, hr.ext⟩
  simp only [St.put, look] at hz
  split at hz
  · rename_i e
    subst e
    cases hz
    exact .t _ _ (tr_ok hr (hr.sl d _ h) hy)
  · exact hr.sl t z hz
end Go.Proofs.YtjidhaendndokaaDoor
namespace Go.Proofs.YtjidhaendndokaaDoor

/-- What stands between rounds while a number is written, the greatest places first. -/
structure GreedyB (b n : Int) (j : Nat) (r : Int) (l : List Int) : Prop where
  r0 : 0 ≤ r
  rlt : r < W b j
  val : wv b (l ++ List.replicate j 0) + r = n
  ok : okDigits b l
  right : rightOf b l = true
  lead : noLead l
  last : b = 1 → l.getLast? = some 1 → ∀ i, j = i + 1 → r < W b i
  len : l.length + j ≤ 64
theorem GreedyB.start {b n : Int} {m : Nat} (h0 : 0 ≤ n) (h : n < W b m) (hm : m ≤ 64) : GreedyB b n m n [] :=
  ⟨h0, h, by rw [List.nil_append, wv_zeros]; omega, by simp [okDigits], by simp [rightOf, noTwo], by simp [noLead], by simp, by simp; omega⟩
theorem W_succ_base {b : Int} (hb : b ≠ 1) (j : Nat) : W b (j + 1) = W b j * b := by simp [W, hb, powW]
theorem GreedyB.none {b n : Int} {j : Nat} {r : Int} (h : GreedyB b n (j + 1) r []) (hr : r < W b j) : GreedyB b n j r [] := by
  refine ⟨h.r0, hr, ?_, h.ok, h.right, h.lead, by simp, by have := h.len; simp at this ⊢; omega⟩
  have hv := h.val
  rw [List.nil_append, wv_zeros] at hv ⊢
  exact hv
theorem GreedyB.step {b n : Int} {j : Nat} {r : Int} {l : List Int} (hb : radix b ≠ 0) (h : GreedyB b n (j + 1) r l) (hl : l ≠ [] ∨ 0 < r / W b j) :
    GreedyB b n j (r - r / W b j * W b j) (l ++ [r / W b j]) := by
  have hp := W_pos hb j
  have e1 : r - r / W b j * W b j = r % W b j := by
    have := Int.mul_ediv_add_emod r (W b j)
    rw [Int.mul_comm] at this; omega
  have m0 := Int.emod_nonneg r (show W b j ≠ 0 by omega)
  have m1 := Int.emod_lt_of_pos r (show 0 < W b j by omega)
  have d0 : 0 ≤ r / W b j := Int.ediv_nonneg h.r0 (by omega)
  have hrl := h.rlt
  have d1 : r / W b j < radix b := by
    rcases radix_pos hb with ⟨h1, h2⟩ | ⟨h2, h6, h3⟩
    · rw [h2]
      subst h1
      refine Int.ediv_lt_of_lt_mul (by omega) ?_
      cases j with
      | zero => simp [W, fibW] at hrl ⊢; omega
      | succ i =>
        have e : W 1 (i + 1 + 1) = W 1 (i + 1) + W 1 i := by simp [W, fibW]
        have := W_mono (b := 1) (by simp [radix]) i
        rw [e] at hrl
        omega
    · rw [h3]
      rw [W_succ_base (by omega), Int.mul_comm] at hrl
      exact Int.ediv_lt_of_lt_mul (by omega) hrl
  refine ⟨by omega, by omega, ?_, ?_, ?_, ?_, ?_, by have := h.len; simp; omega⟩
  · have hv := h.val
    rw [List.replicate_succ] at hv
    have := wv_mid b (r / W b j) (List.replicate j 0) l
    rw [List.append_assoc, List.singleton_append, this]
    simp only [List.length_replicate]
    omega
  · intro x hx
    rcases List.mem_append.1 hx with hx | hx
    · exact h.ok x hx
    · obtain rfl : x = r / W b j := by simpa using hx
      exact ⟨d0, d1⟩
  · by_cases h1 : b = 1
    · subst h1
      have hr := h.right
      simp [rightOf] at hr ⊢
      refine noTwo_snoc l _ hr fun e hlast => ?_
      have hlt := h.last rfl hlast j rfl
      have : r / W 1 j = 0 := Int.ediv_eq_zero_of_lt h.r0 hlt
      omega
    · simp [rightOf, h1]
  · have hle := h.lead
    unfold noLead at *
    cases l with
    | nil => simp at hl ⊢; omega
    | cons x t => simpa using hle
  · intro h1 hlast i hi
    subst h1
    have hd : r / W 1 j = 1 := by simpa using hlast
    rw [e1]
    subst hi
    have e : W 1 (i + 1 + 1) = W 1 (i + 1) + W 1 i := by simp [W, fibW]
    have := Int.mul_ediv_add_emod r (W 1 (i + 1))
    rw [hd] at this
    omega
theorem GreedyB.done {b n r : Int} {l : List Int} (h : GreedyB b n 0 r l) : IsOf b n l := by
  have h1 := h.rlt
  have h2 := h.r0
  have h3 := h.val
  have e : W b 0 = 1 := by unfold W; split <;> rfl
  rw [e] at h1
  simp at h3
  exact ⟨h.ok, h.right, h.lead, by omega⟩

theorem W_six {b : Int} (h : radix b ≠ 0) (n : Nat) : W b (n + 1) ≤ 6 * W b n := by
  have hp := W_pos h n
  rcases radix_pos h with ⟨hb, _⟩ | ⟨h2, h6, _⟩
  · subst hb
    cases n with
    | zero => simp [W, fibW]
    | succ n =>
      have e : W 1 (n + 1 + 1) = W 1 (n + 1) + W 1 n := by simp [W, fibW]
      have := W_mono (b := 1) (by simp [radix]) n
      have := W_pos (b := 1) (by simp [radix]) n
      omega
  · rw [W_succ_base (by omega), Int.mul_comm]
    exact Int.mul_le_mul_of_nonneg_right h6 (by omega)
/-- The weights, as many as the reference makes: all but the last are at most MaxNum. -/
structure Weights (b : Int) (ws : List Int) : Prop where
  eq : ws = (List.range ws.length).map (W b)
  pos : 0 < ws.length
  le : ws.length ≤ 59
  small : ∀ i, i + 1 < ws.length → W b i ≤ 1099511627776
  big : 1099511627776 < W b (ws.length - 1)

/-- The value from behind: what the reference adds up. -/
theorem wv_drop (b : Int) : ∀ (i : Nat) (d : List Int), i < d.length → wv b (d.drop (d.length - 1 - i)) = d.getD (d.length - 1 - i) 0 * W b i + wv b (d.drop (d.length - i)) := by
  intro i d hi
  rw [List.drop_eq_getElem_cons (by omega), getD_lt (by omega)]
  show _ * W b (d.drop _).length + wv b (d.drop _) = _
  have e1 : (d.drop (d.length - 1 - i + 1)).length = i := by simp; omega
  have e2 : d.length - 1 - i + 1 = d.length - i := by omega
  rw [e1, e2]
theorem wv_drop_le {b : Int} (h : radix b ≠ 0) {d : List Int} (hd : okDigits b d) (i : Nat) : wv b (d.drop i) ≤ wv b d := by
  induction d generalizing i with
  | nil => simp
  | cons x t ih =>
    cases i with
    | zero => simp
    | succ i =>
      have h1 := ih (ok_tail hd) i
      have h2 := ok_head hd
      have h3 := W_pos h t.length
      show wv b (t.drop i) ≤ x * W b t.length + wv b t
      have : 0 ≤ x * W b t.length := Int.mul_nonneg h2.1 (by omega)
      omega
end Go.Proofs.YtjidhaendndokaaDoor
namespace Go.Proofs.YtjidhaendndokaaDoor

/-- What a round begins with. -/
structure RInv (next : List (List Int)) (ends : List Bool) (n : Nat) (out : List Int) (cl : Int → Nat) (many : Nat) : Prop where
  sep : Sep next ends n out cl
  many : many = 0 ∨ ∃ (K : Type) (κ : Int → K) (R : List Int), Numd out κ cl R ∧ R.length = many ∧ ∀ s t, s ∈ out → t ∈ out → cl s = cl t → endOf ends s = endOf ends t
/-- What states look like in a round. -/
structure Looks {K : Type} (next : List (List Int)) (ends : List Bool) (n : Nat) (out : List Int) (cl : Int → Nat) (κ : Int → K) : Prop where
  ofCl : ∀ s t, s ∈ out → t ∈ out → κ s = κ t → cl s = cl t
  ofNx : ∀ s t, s ∈ out → t ∈ out → κ s = κ t → ∀ l, l < n → cl (nx next s l) = cl (nx next t l)
  ofEnds : ∀ s t, s ∈ out → t ∈ out → κ s = κ t → endOf ends s = endOf ends t
  back : ∀ s t, s ∈ out → t ∈ out → endOf ends s = endOf ends t → cl s = cl t → (∀ l, l < n → cl (nx next s l) = cl (nx next t l)) → κ s = κ t
section
variable {K : Type} {next : List (List Int)} {ends : List Bool} {n m many : Nat} {out : List Int} {cl cl' : Int → Nat} {κ : Int → K} {R : List Int}
theorem Bfs.closed (hb : Bfs next n out out.length 0) : ∀ s, s ∈ out → ∀ l, l < n → nx next s l ∈ out := fun s hs l hl => by
  obtain ⟨j, hj⟩ := List.mem_iff_getElem?.1 hs
  obtain ⟨i', hi', _⟩ := hb.rg j l s (.inl (List.getElem?_eq_some_iff.1 hj).1) hl hj
  exact List.mem_of_getElem? hi'
theorem length_of_all {k : Nat} {l : List Nat} (h : ∀ c, c < k → c ∈ l) : k ≤ l.length := by
  by_cases hl : l.length ≤ k
  · have := (nodup_of_all k l hl h).2; omega
  · omega
/-- There are no fewer classes than before. -/
theorem RInv.more (h : RInv next ends n out cl many) (hN : Numd out κ cl' R) (hk : Looks next ends n out cl κ) : many ≤ R.length := by
  rcases h.many with h0 | ⟨K0, κ0, R0, h0, h1, _⟩
  · omega
  · have : R0.length ≤ (R.map cl).length := length_of_all fun c hc => by
      have g1 : R0[c]? = some R0[c] := List.getElem?_eq_getElem hc
      have g2 := h0.cl_of g1
      have g3 := h0.mem (List.getElem_mem hc)
      obtain ⟨r, h4, h5⟩ := hN.at_ _ g3
      have h6 := hN.mem (List.mem_of_getElem? h4)
      exact List.mem_map.2 ⟨r, List.mem_of_getElem? h4, by rw [hk.ofCl r _ h6 g3 h5, g2]⟩
    simpa [h1] using this
theorem RInv.step (h : RInv next ends n out cl many) (hb : Bfs next n out out.length 0) (hN : Numd out κ cl' R) (hk : Looks next ends n out cl κ) : RInv next ends n out cl' R.length :=
  ⟨h.sep.round hb.closed hN fun s t hs ht e1 e2 => hk.back s t hs ht e2 e1, .inr ⟨K, κ, R, hN, rfl, fun s t hs ht e => hk.ofEnds s t hs ht ((hN.eq_iff hs ht).1 e)⟩⟩
/-- As many classes as before, and there are some: what is left is the least automaton. -/
theorem RInv.done (h : RInv next ends n out cl many) (hR : Rows0 n m next) (hm : 0 < m) (ho : MetOk m out) (hb : Bfs next n out out.length 0) (hN : Numd out κ cl' R) (hk : Looks next ends n out cl κ) (he : R.length = many) : Least n (leftRows next cl' R) (leftEnds ends R) (lang next ends 0) := by
  have h0m : (0 : Int) ∈ out := List.mem_of_getElem? hb.zero
  have hpos := hN.lt h0m
  rcases h.many with h0 | ⟨K0, κ0, R0, h0, h1, _⟩
  · omega
  · have hst := stable_of h0 hN (by omega) hk.ofCl
    refine least_of hR hm ho hb hN (fun s t hs ht e => ?_) (h.step hb hN hk).sep
    have e2 := (hN.eq_iff hs ht).1 e
    exact ⟨hk.ofEnds s t hs ht e2, fun l hl => hst _ _ (hb.closed s hs l hl) (hb.closed t ht l hl) (hk.ofNx s t hs ht e2 l hl)⟩
end

/-- The first classes: by ends. -/
theorem RInv.start {next : List (List Int)} {ends : List Bool} {n : Nat} {out : List Int} {cl : Int → Nat} (h : ∀ s t, s ∈ out → t ∈ out → endOf ends s = endOf ends t → cl s = cl t) : RInv next ends n out cl 0 :=
  ⟨⟨fun s t hs ht he => h s t hs ht (he [] (by intro x hx; simp at hx))⟩, .inl rfl⟩
end Go.Proofs.YtjidhaendndokaaDoor
namespace Go.Proofs.YtjidhaendndokaaDoor

/-- Rows of what was met: each next by its number. -/
def Expl {σ : Type} (δ : σ → Nat → σ) (n : Nat) (met : List σ) (rows : List (List Int)) : Prop :=
  ∀ (i : Nat) (r : List Int), rows[i]? = some r → r.length = n ∧ ∃ s, met[i]? = some s ∧ ∀ l, l < n → ∃ k : Nat, r[l]? = some (k : Int) ∧ met[k]? = some (δ s l)
section
variable {σ : Type} {δ : σ → Nat → σ} {n : Nat} {met met' : List σ} {rows : List (List Int)} {ends : List Bool} {E : σ → Bool} {s0 : σ}
theorem Expl.nil : Expl δ n met [] := fun i r h => by simp at h
theorem pre_get {l l' : List σ} (h : l <+: l') {k : Nat} {s : σ} (hk : l[k]? = some s) : l'[k]? = some s := by
  obtain ⟨t, rfl⟩ := h
  rw [List.getElem?_append_left (List.getElem?_eq_some_iff.1 hk).1]; exact hk
theorem Expl.grow (h : Expl δ n met rows) (hp : met <+: met') : Expl δ n met' rows := fun i r hr => by
  obtain ⟨h1, s, h2, h3⟩ := h i r hr
  exact ⟨h1, s, pre_get hp h2, fun l hl => by
    obtain ⟨k, a, b⟩ := h3 l hl
    exact ⟨k, a, pre_get hp b⟩⟩
theorem Expl.snoc (h : Expl δ n met rows) {r : List Int} {s : σ} (hr : r.length = n) (hs : met[rows.length]? = some s) (hl : ∀ l, l < n → ∃ k : Nat, r[l]? = some (k : Int) ∧ met[k]? = some (δ s l)) : Expl δ n met (rows ++ [r]) := fun i q hq => by
  by_cases hi : i < rows.length
  · rw [List.getElem?_append_left hi] at hq; exact h i q hq
  · have hi2 := (List.getElem?_eq_some_iff.1 hq).1
    have : i = rows.length := by simp at hi2; omega
    subst this
    rw [List.getElem?_append_right (Nat.le_refl _), Nat.sub_self] at hq
    obtain rfl : r = q := by simpa using hq
    exact ⟨hr, s, hs, hl⟩
theorem Expl.run (h : Expl δ n met rows) (hl : rows.length = met.length) : ∀ (w : List Nat) (k : Nat) (s : σ), met[k]? = some s → Ltr n w → ∃ j : Nat, runS rows (k : Int) w = (j : Int) ∧ met[j]? = some (w.foldl δ s)
  | [], k, s, hk, _ => ⟨k, rfl, hk⟩
  | l :: w, k, s, hk, hw => by
    have hkl := (List.getElem?_eq_some_iff.1 hk).1
    obtain ⟨h1, s', h2, h3⟩ := h k rows[k] (List.getElem?_eq_getElem (by omega))
    rw [hk] at h2
    obtain rfl := Option.some.inj h2
    obtain ⟨j, h4, h5⟩ := h3 l (hw l List.mem_cons_self)
    have hnx : nx rows (k : Int) l = (j : Int) := by
      unfold nx rowOf
      have hrk : rows.getD k [] = rows[k] := getD_lt (by omega)
      rw [Int.toNat_natCast, hrk, List.getD_eq_getElem?_getD, h4]; rfl
    obtain ⟨q, e1, e2⟩ := h.run hl w j _ h5 fun x hx => hw x (List.mem_cons_of_mem _ hx)
    refine ⟨q, ?_, e2⟩
    show runS rows (nx rows (k : Int) l) w = _
    rw [hnx]; exact e1
/-- The words that are taken are those of what is explored. -/
theorem Expl.lang (h : Expl δ n met rows) (hl : rows.length = met.length) (h0 : met[0]? = some s0) (he : ∀ (i : Nat) (s : σ), met[i]? = some s → ends[i]? = some (E s)) {w : List Nat} (hw : Ltr n w) : Go.Proofs.YtjidhaendndokaaDoor.lang rows ends 0 w = E (w.foldl δ s0) := by
  obtain ⟨j, e1, e2⟩ := h.run hl w 0 s0 h0 hw
  unfold Go.Proofs.YtjidhaendndokaaDoor.lang endOf
  rw [show ((0 : Int)) = ((0 : Nat) : Int) from rfl, e1, Int.toNat_natCast, List.getD_eq_getElem?_getD, he j _ e2]; rfl
end

end Go.Proofs.YtjidhaendndokaaDoor
namespace Go.Proofs.YtjidhaendndokaaDoor

end Go.Proofs.YtjidhaendndokaaDoor
namespace Go.Proofs.YtjidhaendndokaaDoor
open Go.RowKit

end Go.Proofs.YtjidhaendndokaaDoor
namespace Go.Proofs.YtjidhaendndokaaDoor
open Go.RowKit

theorem Norm.cutB {st : St} (b off : Nat) {j e sz m : Nat} {l : List SV} {r : List T} (h : st.heap[b]? = some (.box l)) (hc : l[off]? = some (.cut j m)) (hj : st.heap[j]? = some (.row e sz true r)) :
    Norm st { nt := st.nt, tmps := st.tmps.map (fun p => (p.1, p.2.ren (scrub j))), heap := ((st.heap.map (Ob.ren (scrub j))).set j (.row e sz true (r.take m))).set b (.box ((renL (scrub j) l).set off (.sref j))) } := fun C hd a w hr => by
  have hjl := (List.getElem?_eq_some_iff.1 hj).1
  have hbl := (List.getElem?_eq_some_iff.1 h).1
  have hbj : b ≠ j := fun e => by subst e; rw [h] at hj; cases hj
  obtain ⟨g, hg⟩ : ∃ g, hd[b]? = some g := ⟨_, List.getElem?_eq_getElem (by rw [hr.hl]; exact hbl)⟩
  have hbx := hr.ob b _ _ h hg
  cases g <;> simp only [ObR] at hbx
  rename_i bb bo
  obtain ⟨rfl, vs, tt, q2, q3, q4, q5⟩ := hbx
  have hoff := (List.getElem?_eq_some_iff.1 hc).1
  have hv := q5 off _ _ hc (Array.getElem?_eq_getElem (by omega))
  generalize hvv : vs[off] = v at hv
  cases hv with
  | cut _ _ ad n cap o hh hm =>
  have hob := hr.ob j _ _ hj hh
  obtain ⟨rfl, e2, e3, e4, e5⟩ := hob
  have e4' : ∀ x ∈ r.take m, x.cells.length = sz := fun x hx => e4 x (List.mem_of_mem_take hx)
  rcases e5 with ⟨ys, f0, f2, f30⟩ | ⟨q, _⟩
  rotate_left
  · cases q
  have hyl : ys.length = r.length * sz := by rw [f30.len, flat_length e4]
  have hst : Stay (vis C hd) (vis C (hd.set j (.sl ad m cap o))) w w := ⟨Nat.le_refl _, fun b hb _ => ⟨rfl, hb.1, fun x hx => by
    rcases List.mem_or_eq_of_mem_set hx with hx | rfl
    · exact hb.2 x hx
    · exact hb.2 (.sl ad r.length cap o) (List.mem_of_getElem? hh)⟩⟩
  have hr1 := hr.set (scrub j) j (.row e sz true (r.take m)) _ (.sl ad m cap o) hh (Below.refl _ _) (fun _ _ _ => rfl) (fun b hbo => ?_) keeps_scrub ?_
  · refine ⟨hd.set j (.sl ad m cap o), hr1.below, hr1.df, hr1.nt, by simpa using hr1.hl, fun i o' g h1 h2 => ?_, hr1.own, hr1.dist, hr1.sl, hr1.ext⟩
    simp only at h1
    rw [List.getElem?_set] at h1
    split at h1
    · rename_i e0; subst e0
      split at h1
      · cases h1
        have hb1 : ((st.heap.map (Ob.ren (scrub j))).set j (.row e sz true (r.take m)))[b]? = some (.box (renL (scrub j) l)) := by
          rw [List.getElem?_set_ne (Ne.symm hbj), List.getElem?_map, h]; rfl
        have := hr1.ob b _ _ hb1 h2
        cases g <;> simp only [ObR] at this ⊢ <;> try exact this
        rename_i b2 o2
        have hg2 : hd[b]? = some (.bx b2 o2) := by rw [List.getElem?_set_ne (Ne.symm hbj)] at h2; exact h2
        rw [hg] at hg2
        cases hg2
        obtain ⟨p1, vs', t', p2, p3, p4, p5⟩ := this
        rw [q2] at p2
        cases p2
        refine ⟨p1, vs, tt, q2, by simpa using p3, p4, fun k z v a b => ?_⟩
        rw [List.getElem?_set] at a
        split at a
        · rename_i e1; subst e1
          split at a
          · cases a
            have e9 : v = .slice ad m cap := by
              rw [Array.getElem?_eq_getElem (by omega)] at b
              rw [← hvv]; exact (Option.some.inj b).symm
            subst e9
            exact .sref j ad m cap o (by rw [List.getElem?_set_self (List.getElem?_eq_some_iff.1 hh).1])
          · cases a
        · exact p5 k z v a b
      · cases h1
    · exact hr1.ob i o' g h1 h2
  · have := hr.own (.sl ad r.length cap o) b (List.mem_of_getElem? hh) hbo
    exact ⟨this.1, this.2, .inl hbo⟩
  · refine ⟨by rw [List.length_take]; omega, e2, by rw [List.length_take]; omega, e4', .inl ⟨_, ownsRow_take f0 hyl hm, f2.trans (by cases ad <;> rfl), ?_⟩⟩
    rw [flat_take e4 hm]
    refine ⟨by rw [List.length_take, List.length_take, f30.len], fun v hv => f30.one v (List.mem_of_mem_take hv), fun k y v a b => ?_⟩
    rw [List.getElem?_take] at a b
    split at a
    · rename_i hk; rw [if_pos hk] at b
      exact (f30.rep k y v a b).keep hst
    · cases a
/-- A variable that holds a literal: it is an own slice. -/
theorem Norm.litB {st : St} (j off : Nat) {e sz : Nat} {l : List SV} {r : List T} (h : st.heap[j]? = some (.box l)) (hn : l[off]? = some (.lit r)) (h0 : 0 < sz) (hf0 : r.all (fun x => x.cells.length == sz) = true) :
    Norm st { st with heap := (st.heap ++ [Ob.row e sz false r]).set j (Ob.box (l.set off (SV.sref st.heap.length))) } := fun C hd a w hr => by
  have hjl := (List.getElem?_eq_some_iff.1 h).1
  have hoff := (List.getElem?_eq_some_iff.1 hn).1
  have hf : ∀ x ∈ r, x.cells.length = sz := fun x hx => by have := List.all_eq_true.1 hf0 x hx; simpa using this
  obtain ⟨g, hg⟩ : ∃ g, hd[j]? = some g := ⟨_, List.getElem?_eq_getElem (by rw [hr.hl]; exact hjl)⟩
  have hbx := hr.ob j _ _ h hg
  cases g <;> simp only [ObR] at hbx
  rename_i bb bo
  obtain ⟨rfl, vs0, tt, q2, q3, q4, q5⟩ := hbx
  have hv := q5 off _ _ hn (Array.getElem?_eq_getElem (by omega))
  generalize hvv : vs0[off] = v0 at hv
  cases hv
  rename_i b hrep _
  obtain ⟨_, _, _, _, _, hm, _⟩ := hrep.listInv
  have hr1 := hr.new (Below.refl _ _) (.row e sz false r) (.sl (some ⟨b, 0, none⟩) r.length r.length none) (fun b hb => by simp [Hd.own] at hb) ⟨rfl, h0, hm, hf, .inr ⟨rfl, rfl, rfl, b, rfl, hrep.keep (stay_new (Below.refl _ _) fun b hb => by simp [Hd.own] at hb)⟩⟩
  have hnew : (hd ++ [Hd.sl (some ⟨b, 0, none⟩) r.length r.length none])[st.heap.length]? = some (.sl (some ⟨b, 0, none⟩) r.length r.length none) := by rw [← hr.hl, List.getElem?_append_right (Nat.le_refl _), Nat.sub_self]; rfl
  have hj1 : (st.heap ++ [Ob.row e sz false r])[j]? = some (.box l) := by rw [List.getElem?_append_left hjl]; exact h
  refine ⟨_, hr1.below, hr1.df, hr1.nt, by simpa using hr1.hl, fun i o g h1 h2 => ?_, hr1.own, hr1.dist, hr1.sl, hr1.ext⟩
  simp only at h1
  rw [List.getElem?_set] at h1
  split at h1
  · rename_i e0; subst e0
    split at h1
    · cases h1
      have := hr1.ob j _ _ hj1 h2
      cases g <;> simp only [ObR] at this ⊢ <;> try exact this
      rename_i b2 o2
      have hg2 : hd[j]? = some (.bx b2 o2) := by rw [List.getElem?_append_left (by rw [hr.hl]; exact hjl)] at h2; exact h2
      rw [hg] at hg2
      cases hg2
      obtain ⟨p1, vs', t', p2, p3, p4, p5⟩ := this
      rw [q2] at p2
      cases p2
      refine ⟨p1, vs0, tt, q2, by simpa using p3, p4, fun k y v a b => ?_⟩
      rw [List.getElem?_set] at a
      split at a
      · rename_i e1; subst e1
        cases a
        rw [Array.getElem?_eq_getElem (by omega)] at b
        rw [← Option.some.inj b, hvv]
        exact .sref _ _ _ _ none hnew
      · exact p5 k y v a b
    · cases h1
  · exact hr1.ob i o g h1 h2
end Go.Proofs.YtjidhaendndokaaDoor
namespace Go.Proofs.YtjidhaendndokaaDoor
open Go.RowKit

section
variable {P : Program} {G : World → Prop} {tt : Nat → Option TI} {tb : Tab} {ops : Array Oper}
noncomputable def copyOf (o : Oper) (n : Nat) (s2 : St) : Option St := if nilApp o.op = true ∧ o.guard = none then (match o.dst with
    | some d => match s2.heap[n]? with
      | some (.row _ _ _ xs) => some (({ s2 with heap := s2.heap.set n (.froz xs) } : St).put (some d) (.t (.list xs)))
      | _ => none
    | none => none) else none
open Classical in
noncomputable def stepC (cs : List Nat) (tt : Nat → Option TI) (tb : Tab) (ops : Array Oper) (k : Nat) (s : St) : Option St := if k ∈ cs then (match ops[k]?, stepI tt tb ops k s with
  | some o, some s2 => copyOf o s.heap.length s2
  | _, _ => none) else stepI tt tb ops k s
variable {cs : List Nat}
theorem stepC_out {k : Nat} {s : St} (hk : k ∉ cs) : stepC cs tt tb ops k s = stepI tt tb ops k s := by unfold stepC; rw [if_neg hk]
theorem stepC_in {k : Nat} {s t : St} (hk : k ∈ cs) : stepC cs tt tb ops k s = some t ↔ ∃ o s2, ops[k]? = some o ∧ stepI tt tb ops k s = some s2 ∧ copyOf o s.heap.length s2 = some t := by
  unfold stepC
  rw [if_pos hk]
  constructor
  · intro h
    split at h
    · exact ⟨_, _, ‹_›, ‹_›, h⟩
    · cases h
  · rintro ⟨o, s2, h1, h2, h3⟩
    rw [h1, h2]; exact h3
theorem nilStep {k : Nat} {c : Call} {dst : Option Nat} {ty pos after} (hcal : c.callee = .builtin .append) (hy : ops[k]? = some ⟨dst, .call c, ty, pos, after, none⟩) (q : St) : stepI tt tb ops k q = if dstOk q.nt dst = true then appStep tt q c dst else none := by
  unfold stepI
  rw [hy]
  have hqy : quietOp (.call c) = false := by simp only [quietOp, hcal]
  simp only [hqy, Bool.false_eq_true, if_false]
  unfold stepX
  simp only
  have hX : evalX tt tb q (.call c) = none := by simp only [evalX, evalOp, hcal]
  unfold stepX0
  simp only [hX, stepOp1, hcal]
  rfl
theorem copy_form {k : Nat} {s s2 t : St} {o : Oper} (ho : ops[k]? = some o) (h1 : stepI tt tb ops k s = some s2) (h2 : copyOf o s.heap.length s2 = some t) :
    ∃ d e sz wr xs, o.dst = some d ∧ o.guard = none ∧ dstOk s.nt (some d) = true ∧ s2 = ({ s with heap := s.heap ++ [.row e sz wr xs] } : St).put (some d) (.sref s.heap.length) ∧ t = (({ s with heap := s.heap ++ [.froz xs] } : St).put (some d) (.sref s.heap.length)).put (some d) (.t (.list xs)) ∧
      ∀ q : St, q.heap = s.heap → q.nt = s.nt → (∀ x ∈ o.op.operands, q.ev x = s.ev x) → ∃ q2, stepI tt tb ops k q = some q2 ∧ copyOf o q.heap.length q2 = some ((({ q with heap := q.heap ++ [.froz xs] } : St).put (some d) (.sref q.heap.length)).put (some d) (.t (.list xs))) := by
  have h20 := h2
  unfold copyOf at h2
  split at h2
  · rename_i hc
    obtain ⟨hna, hg⟩ := hc
    obtain ⟨c, z, hop, hcal, hargs⟩ := nilApp_spec hna
    obtain ⟨dst, op, ty, pos, after, guard⟩ := o
    simp only at hg hop h2
    subst hg hop
    have hI := nilStep (tt := tt) (tb := tb) hcal ho
    rw [hI] at h1
    split at h1
    · rename_i hd
      obtain ⟨ob, rfl, f1⟩ := appStep_nil hargs h1
      split at h2
      · rename_i d
        rw [put_heap] at h2
        simp only [List.getElem?_append_right (Nat.le_refl s.heap.length), Nat.sub_self, List.getElem?_cons_zero] at h2
        split at h2
        · rename_i e sz wr xs heq
          cases heq
          cases h2
          have hset : ∀ q : St, (q.heap ++ [Ob.row e sz wr xs]).set q.heap.length (.froz xs) = q.heap ++ [.froz xs] := fun q => by
            rw [List.set_append_right _ _ (Nat.le_refl _), Nat.sub_self]; rfl
          refine ⟨d, e, sz, wr, xs, rfl, rfl, hd, rfl, ?_, fun q hq hn hz => ?_⟩
          · rw [put_with]; simp only [hset]
          · have f2 := f1 q hq (hz z (by
              have hzm : z ∈ c.args := by rw [← Array.mem_toList_iff, hargs]; simp
              simp [Op.operands, Call.operands, hzm]))
            refine ⟨_, by rw [hI, hn, if_pos hd, f2], ?_⟩
            unfold copyOf
            rw [if_pos ⟨hna, rfl⟩]
            simp only [put_heap, List.getElem?_append_right (Nat.le_refl q.heap.length), Nat.sub_self, List.getElem?_cons_zero]
            rw [put_with]; simp only [hset]
        · cases h2
      · cases h2
    · cases h1
  · cases h2
theorem stepC_I {k : Nat} {s s1 : St} (h : stepC cs tt tb ops k s = some s1) : ∃ s2, stepI tt tb ops k s = some s2 ∧ Norm s2 s1 := by
  by_cases hk : k ∈ cs
  · obtain ⟨o, s2, h1, h2, h3⟩ := (stepC_in hk).1 h
    refine ⟨s2, h2, ?_⟩
    obtain ⟨d, e, sz, wr, xs, g1, g2, g3, rfl, rfl, _⟩ := copy_form h1 h2 h3
    have hset : (s.heap ++ [Ob.row e sz wr xs]).set s.heap.length (.froz xs) = s.heap ++ [.froz xs] := by
      rw [List.set_append_right _ _ (Nat.le_refl _), Nat.sub_self]; rfl
    have n1 := Norm.frzRow (st := ({ s with heap := s.heap ++ [.row e sz wr xs] } : St).put (some d) (.sref s.heap.length)) s.heap.length (e := e) (sz := sz) (wr := wr) (l := xs) (by rw [put_heap]; simp)
    rw [put_with, put_heap] at n1
    simp only [hset] at n1
    exact n1.trans (Norm.datum d s.heap.length (l := xs) (by simp [St.put, look]) (by rw [put_heap]; simp))
  · rw [stepC_out hk] at h
    exact ⟨s1, h, fun C hd a w hr => ⟨hd, hr⟩⟩
theorem stepC_congr (k : Nat) (s s' t : St) (h : Eqv s s') (hs : stepC cs tt tb ops k s = some t) : ∃ t', stepC cs tt tb ops k s' = some t' ∧ Eqv t t' := by
  by_cases hk : k ∈ cs
  · obtain ⟨o, s2, h1, h2, h3⟩ := (stepC_in hk).1 hs
    obtain ⟨d, e, sz, wr, xs, g1, g2, g3, rfl, rfl, hq⟩ := copy_form h1 h2 h3
    obtain ⟨q2, f1, f2⟩ := hq s' h.heap.symm h.nt.symm fun x _ => (h.ev x).symm
    refine ⟨_, (stepC_in hk).2 ⟨o, q2, h1, f1, f2⟩, ?_⟩
    rw [← h.heap]
    exact ((h.withHeap _).put _ _).put _ _
  · rw [stepC_out hk] at hs ⊢
    exact stepI_congr h hs
def passC (cs : List Nat) (ops : Array Oper) (j k : Nat) : Bool := match ops[j]?, ops[k]? with
  | some x, some y => x.apart ops y && !cs.contains j && (if cs.contains k then quietOp x.op && simpleOp x.op else (quietOp x.op && quietOp y.op || mayPass x y))
  | _, _ => false
theorem swapC (j k : Nat) (s s1 s2 : St) (hp : passC cs ops j k = true) (h1 : stepC cs tt tb ops j s = some s1) (h2 : stepC cs tt tb ops k s1 = some s2) : ∃ u u', stepC cs tt tb ops k s = some u ∧ stepC cs tt tb ops j u = some u' ∧ Eqv s2 u' := by
  unfold passC at hp
  split at hp
  · rename_i x y hx hy
    rw [Bool.and_eq_true, Bool.and_eq_true] at hp
    obtain ⟨⟨hap, hj⟩, hp⟩ := hp
    have hj : j ∉ cs := by simpa using hj
    obtain ⟨a1, a2, a3⟩ := Oper.apart_spec hap
    rw [stepC_out hj] at h1
    by_cases hk : k ∈ cs
    · rw [if_pos (by simpa using hk), Bool.and_eq_true] at hp
      obtain ⟨hq, hsi⟩ := hp
      obtain ⟨v, ⟨q1, q2⟩, rfl⟩ := (quietStep_iff hx hq).1 h1
      obtain ⟨o, s3, e1, e2, e3⟩ := (stepC_in hk).1 h2
      rw [hy] at e1
      cases e1
      obtain ⟨d, e, sz, wr, xs, g1, g2, g3, rfl, rfl, hqq⟩ := copy_form hy e2 e3
      obtain ⟨u2, f1, f2⟩ := hqq s (put_heap s x.dst v).symm (put_nt s x.dst v).symm fun z hz => (put_ev fun t ht e => a1 t ht (looks_op (by subst e; exact hz))).symm
      have hgr : ∀ w, evalX tt tb s x.op = some w → evalX tt tb ({ s with heap := s.heap ++ [.froz xs] } : St) x.op = some w := fun w hw =>
        (evalX_simple hsi).2 (evalOp_grow (s := s) (s' := ({ s with heap := s.heap ++ [.froz xs] } : St)) (o := .froz xs) rfl hsi (fun _ => rfl) ((evalX_simple hsi).1 hw))
      have a3' : ∀ t, some d = some t → t ∉ x.looksAt ops := fun t ht => a3 t (by rw [g1]; exact ht)
      refine ⟨_, _, (stepC_in hk).2 ⟨y, u2, hy, f1, f2⟩, by
        rw [stepC_out hj]
        refine (quietStep_iff hx hq).2 ⟨v, (quietStep_put a3').2 ((quietStep_put a3').2 ⟨q1, ?_⟩), rfl⟩
        rcases q2 with ⟨g1, g2⟩ | ⟨jj, want, dd, b, g1, g2, g3, g4⟩
        · exact .inl ⟨g1, hgr _ g2⟩
        · refine .inr ⟨jj, want, dd, b, g1, g2, g3, ?_⟩
          rcases g4 with ⟨g4, g5⟩ | g4
          · exact .inl ⟨g4, hgr _ g5⟩
          · exact .inr g4, ?_⟩
      rw [put_heap, put_with]
      have hne : ∀ t, x.dst = some t → (some d) ≠ some t := fun t e => by rw [← g1]; exact a2 t e
      exact ((put_comm _ v (.sref s.heap.length) hne).put _ _).trans (put_comm _ v _ hne)
    · rw [if_neg (by simpa using hk), Bool.or_eq_true] at hp
      rw [stepC_out hk] at h2
      obtain ⟨u, u', f1, f2, f3⟩ : ∃ u u', stepI tt tb ops k s = some u ∧ stepI tt tb ops j u = some u' ∧ Eqv s2 u' := by
        rcases hp with hp | hp
        · rw [Bool.and_eq_true] at hp
          exact swap_ok hx hy hap hp.1 hp.2 h1 h2
        · exact swap_any hx hy hap hp h1 h2
      exact ⟨u, u', by rw [stepC_out hk]; exact f1, by rw [stepC_out hj]; exact f2, f3⟩
  · cases hp
def topoC (cs : List Nat) (ops : Array Oper) : Bool := (List.range ops.size).all fun i => match ops[i]? with
  | some y => y.after.all (fun e => !Region.binds .any e || decide (e.on < i)) && (List.range i).all (fun j => ((ancs ops ops.size).getD i 0).testBit j || passC cs ops j i)
  | none => true
/-- A region that draws its order, with copies. -/
theorem SW_drawC (cs : List Nat) (hm : P.follows .mixedOrders = true) (hT : TTok P tt) (hGl : Lasting G) (htb : Tab.ok P G tb) {id : Nat} {ops : Array Oper} (htopo : topoC cs ops = true) {Q : Exit → St → Prop} {s t : St} (h : runG (stepC cs tt tb ops) (List.range ops.size) s = some t) (hq : Q .normal t) : SW P G (.region id ops true) Q s := fun C hd a w hG hr => by
  refine wp_region_any hm ?_
  have htp : ∀ i y, ops[i]? = some y → (∀ e ∈ y.after, Region.binds .any e = true → e.on < i) ∧ ∀ j, j < i → ((ancs ops ops.size).getD i 0).testBit j = true ∨ passC cs ops j i = true := fun i y hy => by
    have hi := (Array.getElem?_eq_some_iff.1 hy).1
    have := List.all_eq_true.1 htopo i (List.mem_range.2 hi)
    rw [hy] at this
    simp only [Bool.and_eq_true] at this
    obtain ⟨h1, h2⟩ := this
    refine ⟨fun e he hb => ?_, fun j hj => by simpa using List.all_eq_true.1 h2 j (List.mem_range.2 hj)⟩
    have := (Array.all_eq_true_iff_forall_mem.1 h1) e he
    simpa [hb] using this
  exact wpAny_runG (stp := stepC cs tt tb ops) (pass := fun j k => passC cs ops j k = true) hT hGl htb hG (fun k s s' => stepC_I) stepC_congr swapC htp ops.size (Array.replicate ops.size false) s t hd a _ (by simp) (fun i y hi => by by_cases h : i < ops.size <;> simp [h] at hi) (by rw [left_all]; simp) (by rw [left_all]; exact h) hr.drawn (fun t' hd' a' w' h1 h2 => ⟨t, hd', hq, h1.symm.str h2⟩)
end
end Go.Proofs.YtjidhaendndokaaDoor
