/- Plain laws, data behind worlds, and contracts of functions, for the last text. No conditions. -/
import Derived.Test.YtfhncnhkeodngaaM2
set_option linter.unusedSimpArgs false
set_option linter.unusedVariables false
set_option linter.unnecessarySimpa false
set_option linter.unusedSectionVars false
namespace Go.Proofs.Ytfhncnhkeodngaa
open Go.RowKit

def obj0 (heap : List Ob) (i : Nat) : Ob := (heap[i]?).getD .gone
theorem obj0_set {heap : List Ob} {j i : Nat} {o l : Ob} (hi : obj0 heap i = l) (hj : obj0 heap j ≠ l) : obj0 (heap.set j o) i = l := by
  unfold obj0 at *
  rw [List.getElem?_set]
  split
  · rename_i e; subst e; exact (hj hi).elim
  · exact hi
theorem frzC_fix {heap heap' : List Ob} {x : SV} {y : T} (h : frzC heap x = some (y, heap')) {i : Nat} {l : List T} (hi : obj0 heap i = .fbox l) : obj0 heap' i = .fbox l := by
  unfold frzC at h
  split at h
  · cases h; exact hi
  · cases h; exact hi
  · cases h; exact hi
  · split at h
    · rename_i hj; cases h; exact obj0_set hi (by unfold obj0; rw [hj]; simp)
    · cases h; exact hi
    · cases h
  · cases h
theorem frzL_fix : ∀ {xs : List SV} {heap heap' : List Ob} {ys : List T} (_ : frzL heap xs = some (ys, heap')) {i : Nat} {l : List T} (_ : obj0 heap i = .fbox l), obj0 heap' i = .fbox l
  | [], heap, heap', ys, h, i, l, hi => by simp only [frzL] at h; cases h; exact hi
  | x :: r, heap, heap', ys, h, i, l, hi => by
    simp only [frzL] at h
    split at h
    · rename_i e1
      split at h
      · rename_i e2
        cases h
        exact frzL_fix e2 (frzC_fix e1 hi)
      · cases h
    · cases h
theorem frz_fix {heap heap' : List Ob} {x : SV} {y : T} (h : frz heap x = some (y, heap')) {i : Nat} {l : List T} (hi : obj0 heap i = .fbox l) : obj0 heap' i = .fbox l := by
  unfold frz at h
  split at h
  · split at h
    · rename_i e1; cases h; exact frzL_fix e1 hi
    · cases h
  · exact frzC_fix h hi
theorem store_fix {s t : St} {i : TI} {p x : SV} (h : s.store i p x = some t) {k : Nat} {l : List T} (hk : s.obj k = .fbox l) : t.obj k = .fbox l := by
  have hk : obj0 s.heap k = .fbox l := hk
  show obj0 t.heap k = .fbox l
  unfold St.store at h
  split at h
  · split at h
    · rename_i ho
      split at h
      · cases h; exact obj0_set hk (by show s.obj _ ≠ _; rw [ho]; simp)
      · cases h
    · cases h
  · split at h
    · rename_i y heap' hf
      have hk2 := frz_fix hf hk
      split at h
      · rename_i ho
        split at h
        · split at h
          · cases h; exact obj0_set hk2 (by unfold obj0; rw [ho]; simp)
          · cases h
        · cases h
      · cases h
    · cases h
  · cases h
section
variable {P : Program} {G : World → Prop} {tt : Nat → Option TI} {tb : Tab} {ops : Array Oper} {ps : List (Nat × Nat)} {fx : List Nat}
/-- A load from a variable that nothing writes any more, or a part's place. -/
def fixedLoad (s : St) (op : Op) : Prop := (∃ t p j off l, op = .load t p ∧ s.ev p = .bptr j off ∧ s.obj j = .fbox l) ∨ ∃ t p f, op = .fieldAddr t p f
open Classical in
noncomputable def stepF (fx : List Nat) (ps : List (Nat × Nat)) (tt : Nat → Option TI) (tb : Tab) (ops : Array Oper) (k : Nat) (s : St) : Option St :=
  if fx.contains k = true then (match ops[k]? with
    | some o => if fixedLoad s o.op then stepA ps tt tb ops k s else none
    | none => none) else stepA ps tt tb ops k s
theorem stepF_A {k : Nat} {s t : St} (h : stepF fx ps tt tb ops k s = some t) : stepA ps tt tb ops k s = some t := by
  unfold stepF at h
  split at h
  · split at h
    · split at h
      · exact h
      · cases h
    · cases h
  · exact h
theorem stepF_fix {k : Nat} {s t : St} (h : stepF fx ps tt tb ops k s = some t) {o : Oper} (ho : ops[k]? = some o) (hk : fx.contains k = true) : fixedLoad s o.op := by
  unfold stepF at h
  rw [if_pos hk, ho] at h
  simp only at h
  split at h
  · assumption
  · cases h
theorem stepF_of {k : Nat} {s t : St} (h : stepA ps tt tb ops k s = some t) (hf : fx.contains k = true → ∃ o, ops[k]? = some o ∧ fixedLoad s o.op) : stepF fx ps tt tb ops k s = some t := by
  unfold stepF
  split
  · rename_i hk
    obtain ⟨o, ho, h2⟩ := hf hk
    rw [ho]
    simp only
    rw [if_pos h2]
    exact h
  · exact h
theorem fixedLoad_congr {s s' : St} (h : Eqv s s') {op : Op} (hf : fixedLoad s op) : fixedLoad s' op := by
  rcases hf with ⟨t, p, j, off, l, rfl, h1, h2⟩ | hf
  · exact .inl ⟨t, p, j, off, l, rfl, by rw [← h.ev]; exact h1, by unfold St.obj at *; rw [← h.heap]; exact h2⟩
  · exact .inr hf
theorem stepF_congr (k : Nat) (s s' t : St) (h : Eqv s s') (hs : stepF fx ps tt tb ops k s = some t) : ∃ t', stepF fx ps tt tb ops k s' = some t' ∧ Eqv t t' := by
  obtain ⟨t', h1, h2⟩ := stepA_congr k s s' t h (stepF_A hs)
  refine ⟨t', stepF_of h1 fun hk => ?_, h2⟩
  cases ho : ops[k]? with
  | none => unfold stepF at hs; rw [if_pos hk, ho] at hs; cases hs
  | some o => exact ⟨o, rfl, fixedLoad_congr h (stepF_fix hs ho hk)⟩
def loadOp : Op → Bool
  | .load .. => true
  | .fieldAddr .. => true
  | _ => false
/-- It leaves the variables as they are, or makes one at its place. -/
def calm (ps : List (Nat × Nat)) (ops : Array Oper) (k : Nat) : Bool := (ps.lookup k).isSome || (match ops[k]? with
  | some o => quietOp o.op
  | none => false)
def passF (fx : List Nat) (ps : List (Nat × Nat)) (ops : Array Oper) (j k : Nat) : Bool :=
  (passA ps ops j k && ((!fx.contains j && !fx.contains k) || (calm ps ops j && calm ps ops k))) ||
  (match ops[j]?, ops[k]? with
  | some x, some y => x.apart ops y && fx.contains j && !fx.contains k && (ps.lookup j).isNone && (ps.lookup k).isNone && loadOp x.op && storeOp y.op && y.guard.isNone
  | _, _ => false)
theorem calm_obj {k : Nat} (hc : calm ps ops k = true) {s s1 : St} (h : stepA ps tt tb ops k s = some s1) {i : Nat} {l : List T} : s.obj i = .fbox l ↔ s1.obj i = .fbox l := by
  unfold stepA at h
  unfold calm at hc
  split at h
  · rename_i hl
    rw [hl] at hc
    simp only [Option.isSome_none, Bool.false_or] at hc
    split at hc
    · rename_i o ho
      obtain ⟨p, _, rfl⟩ := (quietStep_iff ho hc).1 h
      unfold St.obj
      rw [put_heap]
    · cases hc
  · rename_i pk hl
    split at h
    · rename_i o ho
      obtain ⟨e, ti, g1, g2, g3, g4, g5, rfl⟩ := allocAt_some h
      unfold St.obj
      rw [put_heap]
      simp only
      have hkl := (List.getElem?_eq_some_iff.1 g3).1
      rcases Nat.lt_trichotomy i s.heap.length with hi | hi | hi
      · rw [List.getElem?_append_left (by simpa using hi), List.getElem?_set]
        by_cases e : pk = i
        · subst e
          rw [g3, if_pos rfl, if_pos hkl]
          simp
        · rw [if_neg e]
      · subst hi
        rw [List.getElem?_append_right (by simp)]
        simp
      · rw [List.getElem?_append_right (by simp; omega), List.getElem?_eq_none (by omega), List.getElem?_eq_none (by simp; omega)]
    · cases h
theorem calm_ev {k : Nat} {s s1 : St} (h : stepA ps tt tb ops k s = some s1) (hc : calm ps ops k = true) {x : Oper} (hx : ops[k]? = some x) {p : Operand} (hp : ∀ t, x.dst = some t → p ≠ .tmp t) : s1.ev p = s.ev p := by
  unfold stepA at h
  unfold calm at hc
  split at h
  · rename_i hl
    rw [hl] at hc
    simp only [Option.isSome_none, Bool.false_or, hx] at hc
    obtain ⟨q, _, rfl⟩ := (quietStep_iff hx hc).1 h
    exact put_ev hp
  · rw [hx] at h
    simp only at h
    obtain ⟨e, ti, g1, g2, g3, g4, g5, rfl⟩ := allocAt_some h
    rw [put_ev hp]
    cases p <;> rfl
theorem passA_apart {j k : Nat} (h : passA ps ops j k = true) : ∃ x y, ops[j]? = some x ∧ ops[k]? = some y ∧ x.apart ops y = true := by
  unfold passA at h
  split at h
  · rename_i x y hx hy
    rw [Bool.and_eq_true] at h
    exact ⟨x, y, hx, hy, h.1⟩
  · cases h
theorem swapF (j k : Nat) (s s1 s2 : St) (hp : passF fx ps ops j k = true) (h1 : stepF fx ps tt tb ops j s = some s1) (h2 : stepF fx ps tt tb ops k s1 = some s2) : ∃ u u', stepF fx ps tt tb ops k s = some u ∧ stepF fx ps tt tb ops j u = some u' ∧ Eqv s2 u' := by
  have g1 := stepF_A h1
  have g2 := stepF_A h2
  unfold passF at hp
  rw [Bool.or_eq_true] at hp
  rcases hp with hp | hp
  · rw [Bool.and_eq_true] at hp
    obtain ⟨hpa, hq⟩ := hp
    obtain ⟨x, y, hx, hy, hap⟩ := passA_apart hpa
    obtain ⟨a1, a2, a3⟩ := Oper.apart_spec hap
    obtain ⟨u, u', e1, e2, e3⟩ := swapA j k s s1 s2 hpa g1 g2
    refine ⟨u, u', stepF_of e1 fun hk => ⟨y, hy, ?_⟩, stepF_of e2 fun hj => ⟨x, hx, ?_⟩, e3⟩
    · rw [hk] at hq
      simp only [Bool.not_true, Bool.and_false, Bool.false_or, Bool.and_eq_true] at hq
      rcases stepF_fix h2 hy hk with ⟨t, p, i, off, l, ho, f1, f2⟩ | hfa
      · refine .inl ⟨t, p, i, off, l, ho, ?_, (calm_obj hq.1 g1).2 f2⟩
        rw [← f1]
        exact (calm_ev g1 hq.1 hx fun z hz e => a1 z hz (looks_op (by rw [ho]; subst e; simp [Op.operands]))).symm
      · exact .inr hfa
    · rw [hj] at hq
      simp only [Bool.not_true, Bool.false_and, Bool.false_or, Bool.and_eq_true] at hq
      rcases stepF_fix h1 hx hj with ⟨t, p, i, off, l, ho, f1, f2⟩ | hfa
      · refine .inl ⟨t, p, i, off, l, ho, ?_, (calm_obj hq.2 e1).1 f2⟩
        rw [← f1]
        exact calm_ev e1 hq.2 hy fun z hz e => a3 z hz (looks_op (by rw [ho]; subst e; simp [Op.operands]))
      · exact .inr hfa
  · split at hp
    · rename_i x y hx hy
      simp only [Bool.and_eq_true, Bool.not_eq_true', Option.isNone_iff_eq_none] at hp
      obtain ⟨⟨⟨⟨⟨⟨⟨hap, hj⟩, hk⟩, lj⟩, lk⟩, hlo⟩, hso⟩, hgd⟩ := hp
      obtain ⟨a1, a2, a3⟩ := Oper.apart_spec hap
      have hfix := stepF_fix h1 hx hj
      unfold stepA at g1 g2
      simp only [lj] at g1
      simp only [lk] at g2
      have hqx : quietOp x.op = true := by cases hop : x.op <;> simp [hop, loadOp] at hlo <;> rfl
      have hqy : quietOp y.op = false := by cases hop : y.op <;> simp [hop, storeOp] at hso; rfl
      have hsim : simpleOp x.op = true := by cases hop : x.op <;> simp [hop, loadOp] at hlo <;> rfl
      obtain ⟨p, hp, rfl⟩ := (quietStep_iff hx hqx).1 g1
      have hI : ∀ q : St, stepI tt tb ops k q = if dstOk q.nt y.dst = true then stepX0 tt tb q y else none := fun q => by
        unfold stepI
        rw [hy]
        simp only [hqy, Bool.false_eq_true, if_false]
        unfold stepX
        rw [hgd]
      rw [hI] at g2
      split at g2
      · rename_i hd
        rw [put_nt] at hd
        obtain ⟨dst, op, ty, pos, after, guard⟩ := y
        cases op <;> simp [storeOp] at hso
        rename_i t pp xx
        have hX : ∀ q : St, stepX0 tt tb q ⟨dst, .store t pp xx, ty, pos, after, guard⟩ = match tt t with | some i => (q.store i (q.ev pp) (q.ev xx)).map fun s => s.put dst (.t .undef) | none => none := fun q => by
          simp only [stepX0, evalX, evalOp, stepOp1]
          cases tt t <;> rfl
        have e1 : ∀ z ∈ [pp, xx], (s.put x.dst p).ev z = s.ev z := fun z hz => put_ev fun t ht e => a1 t ht (looks_op (by subst e; simpa [Op.operands] using hz))
        rw [hX, e1 pp (by simp), e1 xx (by simp)] at g2
        split at g2
        · rename_i ti hti
          rw [Option.map_eq_some_iff] at g2
          obtain ⟨s3, h3, rfl⟩ := g2
          obtain ⟨hpp, rfl, h4⟩ := store_form (put_heap s x.dst p) h3
          refine ⟨({ s with heap := hpp } : St).put dst (.t .undef), ({ s with heap := hpp } : St).put dst (.t .undef) |>.put x.dst p, stepF_of ?_ (fun e => by rw [hk] at e; cases e), stepF_of ?_ fun _ => ⟨x, hx, ?_⟩, ?_⟩
          · unfold stepA
            simp only [lk]
            rw [hI, if_pos hd, hX, hti]
            simp only [h4, Option.map_some]
          · unfold stepA
            simp only [lj]
            refine (quietStep_iff hx hqx).2 ⟨p, (quietStep_put a3).2 ?_, rfl⟩
            obtain ⟨q1, q2⟩ := hp
            refine ⟨q1, ?_⟩
            have hgr : ∀ z, evalX tt tb s x.op = some z → evalX tt tb ({ s with heap := hpp } : St) x.op = some z := fun z hz => by
              rw [evalX_simple hsim] at hz ⊢
              rcases hfix with ⟨t', p', i, off, l, ho, f1, f2⟩ | ⟨t', p', f', ho⟩
              · have f3 : ({ s with heap := hpp } : St).obj i = .fbox l := store_fix h4 f2
                rw [ho] at hz ⊢
                simp only [evalOp] at hz ⊢
                split at hz
                · have f4 : ({ s with heap := hpp } : St).ev p' = .bptr i off := by rw [← f1]; cases p' <;> rfl
                  rw [f4]
                  rw [f1] at hz
                  unfold St.load at hz ⊢
                  simp only [f2] at hz
                  simp only [f3]
                  exact hz
                · cases hz
              · rw [ho] at hz ⊢
                have f4 : ({ s with heap := hpp } : St).ev p' = s.ev p' := by cases p' <;> rfl
                simp only [evalOp] at hz ⊢
                rw [f4]
                exact hz
            rcases q2 with ⟨g1, g2⟩ | ⟨jj, want, dd, b, g1, g2, g3, g4⟩
            · exact .inl ⟨g1, hgr _ g2⟩
            · refine .inr ⟨jj, want, dd, b, g1, g2, g3, ?_⟩
              rcases g4 with ⟨g4, g5⟩ | g4
              · exact .inl ⟨g4, hgr _ g5⟩
              · exact .inr g4
          · rcases hfix with ⟨t', p', i, off, l, ho, f1, f2⟩ | hfa
            · refine .inl ⟨t', p', i, off, l, ho, ?_, ?_⟩
              · rw [put_ev fun z hz e => a3 z hz (looks_op (by rw [ho]; subst e; simp [Op.operands])), ← f1]
                cases p' <;> rfl
              · have f3 : ({ s with heap := hpp } : St).obj i = .fbox l := store_fix h4 f2
                unfold St.obj at f3 ⊢
                rw [put_heap]
                exact f3
            · exact .inr hfa
          · rw [put_with]
            exact put_comm _ p _ (fun t e => a2 t e)
        · cases g2
      · cases g2
    · cases hp
def topoF (fx : List Nat) (ps : List (Nat × Nat)) (ops : Array Oper) : Bool := (List.range ops.size).all fun i => match ops[i]? with
  | some y => y.after.all (fun e => !Region.binds .any e || decide (e.on < i)) && (List.range i).all (fun j => ((ancs ops ops.size).getD i 0).testBit j || passF fx ps ops j i)
  | none => true
theorem runF_of {k : Nat} {ks : List Nat} {s s1 t : St} (hk : fx.contains k = false) (h : stepA ps tt tb ops k s = some s1) (h2 : runG (stepF fx ps tt tb ops) ks s1 = some t) : runG (stepF fx ps tt tb ops) (k :: ks) s = some t := by
  simp only [runG, stepF_of (fx := fx) h fun e => by rw [hk] at e; cases e]
  exact h2
theorem runF_fix {k : Nat} {ks : List Nat} {s s1 t : St} {ty : Nat} {p : Operand} {o : Oper} {j off : Nat} {l : List T} (ho : ops[k]? = some o) (hop : o.op = .load ty p) (hp : s.ev p = .bptr j off) (hl : s.obj j = .fbox l) (h : stepA ps tt tb ops k s = some s1) (h2 : runG (stepF fx ps tt tb ops) ks s1 = some t) : runG (stepF fx ps tt tb ops) (k :: ks) s = some t := by
  simp only [runG, stepF_of (fx := fx) h fun _ => ⟨o, ho, .inl ⟨ty, p, j, off, l, hop, hp, hl⟩⟩]
  exact h2
/-- A region that draws its order, with places for the variables that it makes; the loads fx read variables that nothing writes. -/
theorem SW_drawF (fx : List Nat) (ps : List (Nat × Nat)) (hm : P.follows .mixedOrders = true) (hT : TTok P tt) (hGl : Lasting G) (htb : Tab.ok P G tb) {id : Nat} {ops : Array Oper} (htopo : topoF fx ps ops = true) {Q : Exit → St → Prop} {s t : St} (h : runG (stepF fx ps tt tb ops) (List.range ops.size) s = some t) (hq : Q .normal t) : SW P G (.region id ops true) Q s := fun C hd a w hG hr => by
  refine wp_region_any hm ?_
  have htp : ∀ i y, ops[i]? = some y → (∀ e ∈ y.after, Region.binds .any e = true → e.on < i) ∧ ∀ j, j < i → ((ancs ops ops.size).getD i 0).testBit j = true ∨ passF fx ps ops j i = true := fun i y hy => by
    have hi := (Array.getElem?_eq_some_iff.1 hy).1
    have := List.all_eq_true.1 htopo i (List.mem_range.2 hi)
    rw [hy] at this
    simp only [Bool.and_eq_true] at this
    obtain ⟨h1, h2⟩ := this
    refine ⟨fun e he hb => ?_, fun j hj => by simpa using List.all_eq_true.1 h2 j (List.mem_range.2 hj)⟩
    have := (Array.all_eq_true_iff_forall_mem.1 h1) e he
    simpa [hb] using this
  exact wpAny_runG (stp := stepF fx ps tt tb ops) (pass := fun j k => passF fx ps ops j k = true) hT hGl htb hG (fun k s s' h => stepA_I (stepF_A h)) stepF_congr swapF htp ops.size (Array.replicate ops.size false) s t hd a _ (by simp) (fun i y hi => by by_cases h : i < ops.size <;> simp [h] at hi) (by rw [left_all]; simp) (by rw [left_all]; exact h) hr.drawn (fun t' hd' a' w' h1 h2 => ⟨t, hd', hq, h1.symm.str h2⟩)
end
end Go.Proofs.Ytfhncnhkeodngaa
namespace Go.Proofs.Ytfhncnhkeodngaa
open Go.RowKit

section
variable {P : Program} {G : World → Prop} {Q Q' : Exit → St → Prop} {st X : St} {c : Code}
theorem SW_mono (h : SW P G c Q st) (hq : ∀ e s, Q e s → Q' e s) : SW P G c Q' st := fun C hd a w hG hr => by
  refine wp_mono (h C hd a w hG hr) fun e a' w' hq' => ?_
  obtain ⟨s, hd', h1, h2⟩ := hq'
  exact ⟨s, hd', hq e s h1, h2⟩
/-- A weaker state is as good. -/
def Weak (K : St → Prop) : Prop := ∀ s s', Norm s s' → K s' → K s
theorem Weak.sw {c : Code} : Weak (fun s => SW P G c Q s) := fun _ _ hn h => SW_norm hn h
theorem Weak.ex {n : Nat} {I : Nat → St → Prop} : Weak (fun s' => ∃ n' s'', n' < n ∧ Norm s' s'' ∧ I n' s'') := fun _ _ hn h => by
  obtain ⟨n', s'', h1, h2, h3⟩ := h
  exact ⟨n', s'', h1, hn.trans h2, h3⟩
/-- Behind all branches is that state, or a stronger one. -/
def Meet (X : St) : Exit → St → Prop
  | .normal, s => Norm s X
  | _, _ => False
theorem Meet.n (h : Norm st X) : Meet X .normal st := h
theorem Meet.h (h : ∃ st', Norm st st' ∧ st' = X) : Meet X .normal st := by
  obtain ⟨st', h1, rfl⟩ := h
  exact h1
theorem SW_meetG (X : St) (hw : Weak (fun s => Q .normal s)) (h : SW P G c (Meet X) st) (hX : Q .normal X) : SW P G c Q st :=
  SW_mono h fun e s hq => by
    cases e with
    | normal => exact hw s X hq hX
    | _ => exact hq.elim
/-- A part of code, and what stands behind it: one state behind both. -/
theorem SW_meet2 (X : St) {y : Code} (hw : Weak (fun s => Q .normal s)) (h : SW P G c (SThen (SW P G y (Meet X)) (fun _ _ => False)) st) (hX : Q .normal X) : SW P G c (SThen (SW P G y Q) Q') st :=
  SW_mono h fun e s hq => by
    cases e with
    | normal => exact SW_meetG X hw hq hX
    | _ => exact hq.elim
/-- As SW_meetG; some branches end elsewhere. -/
def MeetE (X : St) (Q : Exit → St → Prop) : Exit → St → Prop
  | .normal, s => Norm s X
  | e, s => Q e s
theorem MeetE.n {Q : Exit → St → Prop} (h : Norm st X) : MeetE X Q .normal st := h
theorem MeetE.r {Q : Exit → St → Prop} (h : Q .ret st) : MeetE X Q .ret st := h
theorem MeetE.e {Q : Exit → St → Prop} {i : Nat} (h : Q (.exit i) st) : MeetE X Q (.exit i) st := h
end
end Go.Proofs.Ytfhncnhkeodngaa
namespace Go.Proofs.Ytfhncnhkeodngaa

/-- What stands between rounds while a number is written, the greatest places first. -/
structure GreedyB (b n : Int) (j : Nat) (r : Int) (l : List Int) : Prop where
  r0 : 0 ≤ r
  rlt : r < W b j
  val : wv b (l ++ List.replicate j 0) + r = n
  ok : okDigits b l
  right : rightOf b l = true
  lead : noLead l
  last : b = 1 → l.getLast? = some 1 → ∀ i, j = i + 1 → r < W b i
  len : l.length + j ≤ 64
theorem GreedyB.start {b n : Int} {m : Nat} (h0 : 0 ≤ n) (h : n < W b m) (hm : m ≤ 64) : GreedyB b n m n [] :=
  ⟨h0, h, by rw [List.nil_append, wv_zeros]; omega, by simp [okDigits], by simp [rightOf, noTwo], by simp [noLead], by simp, by simp; omega⟩
theorem W_succ_base {b : Int} (hb : b ≠ 1) (j : Nat) : W b (j + 1) = W b j * b := by simp [W, hb, powW]
theorem GreedyB.none {b n : Int} {j : Nat} {r : Int} (h : GreedyB b n (j + 1) r []) (hr : r < W b j) : GreedyB b n j r [] := by
  refine ⟨h.r0, hr, ?_, h.ok, h.right, h.lead, by simp, by have := h.len; simp at this ⊢; omega⟩
  have hv := h.val
  rw [List.nil_append, wv_zeros] at hv ⊢
  exact hv
theorem GreedyB.step {b n : Int} {j : Nat} {r : Int} {l : List Int} (hb : radix b ≠ 0) (h : GreedyB b n (j + 1) r l) (hl : l ≠ [] ∨ 0 < r / W b j) :
    GreedyB b n j (r - r / W b j * W b j) (l ++ [r / W b j]) := by
  have hp := W_pos hb j
  have e1 : r - r / W b j * W b j = r % W b j := by
    have := Int.mul_ediv_add_emod r (W b j)
    rw [Int.mul_comm] at this; omega
  have m0 := Int.emod_nonneg r (show W b j ≠ 0 by omega)
  have m1 := Int.emod_lt_of_pos r (show 0 < W b j by omega)
  have d0 : 0 ≤ r / W b j := Int.ediv_nonneg h.r0 (by omega)
  have hrl := h.rlt
  have d1 : r / W b j < radix b := by
    rcases radix_pos hb with ⟨h1, h2⟩ | ⟨h2, h6, h3⟩
    · rw [h2]
      subst h1
      refine Int.ediv_lt_of_lt_mul (by omega) ?_
      cases j with
      | zero => simp [W, fibW] at hrl ⊢; omega
      | succ i =>
        have e : W 1 (i + 1 + 1) = W 1 (i + 1) + W 1 i := by simp [W, fibW]
        have := W_mono (b := 1) (by simp [radix]) i
        rw [e] at hrl
        omega
    · rw [h3]
      rw [W_succ_base (by omega), Int.mul_comm] at hrl
      exact Int.ediv_lt_of_lt_mul (by omega) hrl
  refine ⟨by omega, by omega, ?_, ?_, ?_, ?_, ?_, by have := h.len; simp; omega⟩
  · have hv := h.val
    rw [List.replicate_succ] at hv
    have := wv_mid b (r / W b j) (List.replicate j 0) l
    rw [List.append_assoc, List.singleton_append, this]
    simp only [List.length_replicate]
    omega
  · intro x hx
    rcases List.mem_append.1 hx with hx | hx
    · exact h.ok x hx
    · obtain rfl : x = r / W b j := by simpa using hx
      exact ⟨d0, d1⟩
  · by_cases h1 : b = 1
    · subst h1
      have hr := h.right
      simp [rightOf] at hr ⊢
      refine noTwo_snoc l _ hr fun e hlast => ?_
      have hlt := h.last rfl hlast j rfl
      have : r / W 1 j = 0 := Int.ediv_eq_zero_of_lt h.r0 hlt
      omega
    · simp [rightOf, h1]
  · have hle := h.lead
    unfold noLead at *
    cases l with
    | nil => simp at hl ⊢; omega
    | cons x t => simpa using hle
  · intro h1 hlast i hi
    subst h1
    have hd : r / W 1 j = 1 := by simpa using hlast
    rw [e1]
    subst hi
    have e : W 1 (i + 1 + 1) = W 1 (i + 1) + W 1 i := by simp [W, fibW]
    have := Int.mul_ediv_add_emod r (W 1 (i + 1))
    rw [hd] at this
    omega
theorem GreedyB.done {b n r : Int} {l : List Int} (h : GreedyB b n 0 r l) : IsOf b n l := by
  have h1 := h.rlt
  have h2 := h.r0
  have h3 := h.val
  have e : W b 0 = 1 := by unfold W; split <;> rfl
  rw [e] at h1
  simp at h3
  exact ⟨h.ok, h.right, h.lead, by omega⟩

/-- The weights, as many as the reference makes: all but the last are at most MaxNum. -/
structure Weights (b : Int) (ws : List Int) : Prop where
  eq : ws = (List.range ws.length).map (W b)
  pos : 0 < ws.length
  le : ws.length ≤ 59
  small : ∀ i, i + 1 < ws.length → W b i ≤ 1099511627776
  big : 1099511627776 < W b (ws.length - 1)

end Go.Proofs.Ytfhncnhkeodngaa
