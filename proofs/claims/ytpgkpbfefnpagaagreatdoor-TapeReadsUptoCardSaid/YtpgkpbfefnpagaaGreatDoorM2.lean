/- Plain laws, data behind worlds, and contracts of functions, for the last text. No conditions. -/
import Derived.Test.YtpgkpbfefnpagaaGreatDoorM1
import Derived.IntWalk
set_option linter.unusedSimpArgs false
set_option linter.unusedVariables false
set_option linter.unnecessarySimpa false
set_option linter.unusedSectionVars false
namespace Go.Proofs.YtpgkpbfefnpagaaGreatDoor
open Go.RowKit

theorem Norm.refl (st : St) : Norm st st := fun _ hd _ _ h => ⟨hd, h⟩
theorem Norm.trans {s1 s2 s3 : St} (h : Norm s1 s2) (h' : Norm s2 s3) : Norm s1 s3 := fun C hd a w hr => by
  obtain ⟨hd1, h1⟩ := h C hd a w hr
  exact h' C hd1 a w h1
/-- Only these slots. -/
def keepL (l : List (Nat × SV)) : List Nat → List (Nat × SV)
  | [] => []
  | t :: ts => match look l t with
    | some x => (t, x) :: keepL l ts
    | none => keepL l ts
theorem keepL_look (l : List (Nat × SV)) : ∀ (ts : List Nat) (t : Nat) (x : SV), look (keepL l ts) t = some x → look l t = some x
  | [], t, x, h => by simp [keepL, look] at h
  | u :: ts, t, x, h => by
    unfold keepL at h
    split at h
    · rename_i y hy
      simp only [look] at h
      split at h
      · rename_i e; subst e; rw [hy]; exact h
      · exact keepL_look l ts t x h
    · exact keepL_look l ts t x h
theorem Norm.keep (ts : List Nat) (st : St) : Norm st { st with tmps := keepL st.tmps ts } := fun _ hd _ _ h =>
  ⟨hd, h.below, h.df, h.nt, h.hl, h.ob, h.own, h.dist, fun t x hx => h.sl t x (keepL_look _ _ t x hx), h.ext⟩
def setSlot (l : List (Nat × SV)) (t : Nat) (x : SV) : List (Nat × SV) := (t, x) :: l
/-- A slice as an own one, written from then on or not. -/
def St.own (st : St) (t e sz : Nat) (wr : Bool) : Option St := match look st.tmps t with
  | some .nil => if 0 < sz then some { st with tmps := setSlot st.tmps t (.sref st.heap.length), heap := st.heap ++ [.row e sz wr []] } else none
  | some (.lit l) => if 0 < sz ∧ wr = false ∧ l.all (fun x => x.cells.length == sz) = true then some { st with tmps := setSlot st.tmps t (.sref st.heap.length), heap := st.heap ++ [.row e sz false l] } else none
  | some (.sref j) => match st.obj j with
    | .row e' sz' wr' l => if e' = e ∧ sz' = sz ∧ (wr = true → wr' = true) then some { st with heap := st.heap.set j (.row e sz wr l) } else none
    | _ => none
  | _ => none
theorem Norm.own {st st' : St} {t e sz : Nat} {wr : Bool} (h : st.own t e sz wr = some st') : Norm st st' := fun C hd a w hr => by
  unfold St.own at h
  split at h
  · rename_i hl
    split at h
    · rename_i h0
      cases h
      have hx := hr.sl t _ hl
      have hn := hr.new (Below.refl _ _) (.row e sz wr []) (.sl none 0 0 none) (fun b hb => by simp [Hd.own] at hb) ⟨rfl, h0, Nat.zero_le _, fun x hx => by simp at hx, .inl ⟨[], World.ownsRow_nil _ _ _ _, rfl, RepL.nil _ _⟩⟩
      refine ⟨_, hn.below, hn.df, hn.nt, hn.hl, hn.ob, hn.own, hn.dist, fun u y hy => ?_, hn.ext⟩
      simp only [setSlot, look] at hy
      split at hy
      · rename_i e0; subst e0; cases hy
        generalize a.tmps.getD t undef = v at hx
        cases hx
        exact .sref _ _ _ _ none (by rw [← hr.hl, List.getElem?_append_right (Nat.le_refl _), Nat.sub_self]; rfl)
      · exact hn.sl u y hy
    · cases h
  · rename_i l hl
    split at h
    · rename_i h0
      cases h
      have hx := hr.sl t _ hl
      generalize hv : a.tmps.getD t undef = v at hx
      cases hx
      rename_i b hrep _
      have hf : ∀ x ∈ l, x.cells.length = sz := fun x hx => by have := List.all_eq_true.1 h0.2.2 x hx; simpa using this
      obtain ⟨_, _, _, _, _, hm, _⟩ := hrep.listInv
      have hn := hr.new (Below.refl _ _) (.row e sz false l) (.sl (some ⟨b, 0, none⟩) l.length l.length none) (fun b hb => by simp [Hd.own] at hb) ⟨rfl, h0.1, hm, hf, .inr ⟨rfl, rfl, rfl, b, rfl, hrep.keep (stay_new (Below.refl _ _) fun b hb => by simp [Hd.own] at hb)⟩⟩
      refine ⟨_, hn.below, hn.df, hn.nt, hn.hl, hn.ob, hn.own, hn.dist, fun u y hy => ?_, hn.ext⟩
      simp only [setSlot, look] at hy
      split at hy
      · rename_i e0; subst e0; cases hy
        rw [hv]
        exact .sref _ _ _ _ none (by rw [← hr.hl, List.getElem?_append_right (Nat.le_refl _), Nat.sub_self]; rfl)
      · exact hn.sl u y hy
    · cases h
  · rename_i j hl
    split at h
    · rename_i e' sz' wr' l ho
      split at h
      · rename_i hc
        obtain ⟨rfl, rfl, hw⟩ := hc
        cases h
        have hj := obj_some ho (by simp)
        refine ⟨hd, hr.below, hr.df, hr.nt, by simp [hr.hl], fun i o g h1 h2 => ?_, hr.own, hr.dist, hr.sl, hr.ext⟩
        rw [List.getElem?_set] at h1
        split at h1
        · rename_i e0; subst e0
          split at h1
          · cases h1
            have := hr.ob j _ _ hj h2
            cases g <;> simp only [ObR] at this ⊢ <;> try exact this
            obtain ⟨q1, q2, q3, q4, q5⟩ := this
            refine ⟨q1, q2, q3, q4, ?_⟩
            rcases q5 with q | ⟨q, q'⟩
            · exact .inl q
            · cases wr
              · exact .inr ⟨rfl, q'⟩
              · rw [hw rfl] at q; cases q
          · cases h1
        · exact hr.ob i o g h1 h2
      · cases h
    · cases h
  · cases h
mutual
def SV.refs : SV → List Nat
  | .agg l => refsL l
  | .sref i => [i]
  | .cut i _ => [i]
  | .bptr i _ => [i]
  | .eptr i _ _ _ => [i]
  | .map i => [i]
  | .fn _ l => refsL l
  | .pin i _ => [i]
  | .pinS i _ _ _ => [i]
  | _ => []
def refsL : List SV → List Nat
  | [] => []
  | x :: t => x.refs ++ refsL t
end
def Ob.refs : Ob → List Nat
  | .box l => refsL l
  | _ => []
def addNew (acc : List Nat) : List Nat → List Nat
  | [] => acc
  | i :: r => if i ∈ acc then addNew acc r else addNew (acc ++ [i]) r
/-- All own objects that are reached. -/
def reach (heap : List Ob) : Nat → List Nat → Nat → List Nat
  | 0, acc, _ => acc
  | f + 1, acc, k => match acc[k]? with
    | some i => reach heap f (addNew acc (((heap[i]?).getD .gone).refs)) (k + 1)
    | none => acc
def posIn (l : List Nat) (i : Nat) : Option Nat := match l with
  | [] => none
  | j :: r => if j = i then some 0 else (posIn r i).map (· + 1)
theorem posIn_spec : ∀ {l : List Nat} {i k : Nat}, posIn l i = some k → l[k]? = some i
  | [], i, k, h => by simp [posIn] at h
  | j :: r, i, k, h => by
    simp only [posIn] at h
    split at h
    · rename_i e; cases h; subst e; rfl
    · rw [Option.map_eq_some_iff] at h
      obtain ⟨q, hq, rfl⟩ := h
      simpa using posIn_spec hq
/-- Own objects that nothing reaches are forgotten; the others are numbered anew. -/
def St.gc (st : St) (pre : List Nat) : St :=
  let ids := reach st.heap st.heap.length (addNew pre (refsL (st.tmps.map (·.2)))) 0
  { nt := st.nt, tmps := st.tmps.map fun p => (p.1, p.2.ren (posIn ids)), heap := ids.map fun i => ((st.heap[i]?).getD .gone).ren (posIn ids) }
def distinct : List Nat → Bool
  | [] => true
  | x :: r => decide (x ∉ r) && distinct r
theorem distinct_spec : ∀ {l : List Nat}, distinct l = true → ∀ (i j : Nat) (x : Nat), l[i]? = some x → l[j]? = some x → i = j
  | [], _, i, j, x, h, _ => by simp at h
  | y :: r, hd, i, j, x, h1, h2 => by
    simp only [distinct, Bool.and_eq_true, decide_eq_true_eq] at hd
    cases i with
    | zero =>
      simp at h1; subst h1
      cases j with
      | zero => rfl
      | succ j => exact (hd.1 (List.mem_of_getElem? (by simpa using h2))).elim
    | succ i =>
      cases j with
      | zero => simp at h2; subst h2; exact (hd.1 (List.mem_of_getElem? (by simpa using h1))).elim
      | succ j => rw [distinct_spec hd.2 i j x (by simpa using h1) (by simpa using h2)]
theorem distinct_add : ∀ (r acc : List Nat), distinct acc = true → distinct (addNew acc r) = true
  | [], acc, h => h
  | i :: r, acc, h => by
    unfold addNew
    split
    · exact distinct_add r acc h
    · rename_i hn
      refine distinct_add r _ ?_
      have : ∀ (l : List Nat), distinct l = true → i ∉ l → distinct (l ++ [i]) = true := by
        intro l
        induction l with
        | nil => intro _ _; rfl
        | cons y l ih =>
          intro hd hi
          simp only [distinct, Bool.and_eq_true, decide_eq_true_eq, List.cons_append] at hd ⊢
          refine ⟨fun hm => ?_, ih hd.2 (fun hm => hi (List.mem_cons_of_mem _ hm))⟩
          rcases List.mem_append.1 hm with hm | hm
          · exact hd.1 hm
          · simp at hm; subst hm; exact hi List.mem_cons_self
      exact this acc h hn
theorem distinct_reach (heap : List Ob) : ∀ (f : Nat) (acc : List Nat) (k : Nat), distinct acc = true → distinct (reach heap f acc k) = true
  | 0, acc, k, h => h
  | f + 1, acc, k, h => by
    unfold reach
    split
    · exact distinct_reach heap f _ _ (distinct_add _ _ h)
    · exact h
theorem Norm.gc (pre : List Nat) (hp : distinct pre = true) (st : St) : Norm st (st.gc pre) := fun C hd a w hr => by
  unfold St.gc
  generalize hids : reach st.heap st.heap.length (addNew pre (refsL (st.tmps.map (·.2)))) 0 = ids
  have hdis : distinct ids = true := by rw [← hids]; exact distinct_reach _ _ _ _ (distinct_add _ _ hp)
  have hd'e : ∀ (k : Nat) (g : Hd), (ids.map fun i => (hd[i]?).getD .no)[k]? = some g → ∃ i, ids[k]? = some i ∧ g = (hd[i]?).getD .no := fun k g hg => by
    rw [List.getElem?_map, Option.map_eq_some_iff] at hg
    obtain ⟨i, h1, rfl⟩ := hg
    exact ⟨i, h1, rfl⟩
  have hsub : ∀ g b, g ∈ (ids.map fun i => (hd[i]?).getD .no) → g.own = some b → g ∈ hd := fun g b hg hb => by
    obtain ⟨i, _, rfl⟩ := List.mem_map.1 hg
    cases e : hd[i]? with
    | none => rw [e] at hb; simp [Hd.own] at hb
    | some x => exact List.mem_of_getElem? e
  have hst : Stay (vis C hd) (vis C (ids.map fun i => (hd[i]?).getD .no)) w w := ⟨Nat.le_refl _, fun b hb _ => ⟨rfl, hb.1, fun g hg e => hb.2 g (hsub g b hg e) e⟩⟩
  have hk : Keeps (posIn ids) hd (ids.map fun i => (hd[i]?).getD .no) := fun i j g hj hi => by
    have := posIn_spec hj
    exact ⟨g, by rw [List.getElem?_map, this]; simp [hi], .inl rfl⟩
  refine ⟨ids.map fun i => (hd[i]?).getD .no, hr.change (posIn ids) (Below.refl _ _) hst hk (by simp) (fun k o g h1 h2 => ?_) (fun g b hg hb => hr.own g b (hsub g b hg hb) hb) (fun i j gi gj b h1 h2 h3 h4 => ?_) (fun _ _ _ => rfl) (fun g b hg hb => .inl ⟨g, hsub g b hg hb, hb⟩)⟩
  · obtain ⟨i, e1, rfl⟩ := hd'e k g h2
    rw [List.getElem?_map, e1] at h1
    simp at h1
    subst h1
    cases e : hd[i]? with
    | none =>
      have : st.heap[i]? = none := by
        rw [List.getElem?_eq_none_iff] at e ⊢; rw [← hr.hl]; exact e
      rw [this]; exact trivial
    | some g =>
      have hi : i < st.heap.length := by rw [← hr.hl]; exact (List.getElem?_eq_some_iff.1 e).1
      have e2 : st.heap[i]? = some st.heap[i] := List.getElem?_eq_getElem hi
      rw [e2]
      exact ObR.ren hst hk (fun _ _ => rfl) (hr.ob i _ g e2 e)
  · obtain ⟨x, e1, rfl⟩ := hd'e i gi h1
    obtain ⟨y, e2, rfl⟩ := hd'e j gj h2
    have : x = y := by
      cases ex : hd[x]? with
      | none => rw [ex] at h3; simp [Hd.own] at h3
      | some gx =>
        cases ey : hd[y]? with
        | none => rw [ey] at h4; simp [Hd.own] at h4
        | some gy =>
          rw [ex] at h3; rw [ey] at h4
          exact hr.dist x y gx gy b ex ey h3 h4
    subst this
    exact distinct_spec hdis i j x e1 e2
/-- At a loop's head: own slices, the slots that are still read, and what they reach. -/
def St.ownAll (st : St) : List (Nat × Nat × Nat × Bool) → Option St
  | [] => some st
  | (t, e, sz, wr) :: r => match st.own t e sz wr with
    | some st' => st'.ownAll r
    | none => none
def St.head (st : St) (own : List (Nat × Nat × Nat × Bool)) (keep : List Nat) : Option St := (st.ownAll own).map fun s => St.gc { s with tmps := keepL s.tmps keep } []
theorem Norm.ownAll : ∀ {own : List (Nat × Nat × Nat × Bool)} {st st' : St}, st.ownAll own = some st' → Norm st st'
  | [], st, st', h => by simp [St.ownAll] at h; subst h; exact Norm.refl _
  | (t, e, sz, wr) :: r, st, st', h => by
    unfold St.ownAll at h
    split at h
    · rename_i s hs; exact (Norm.own hs).trans (Norm.ownAll h)
    · cases h
theorem Norm.head {st st' : St} {own : List (Nat × Nat × Nat × Bool)} {keep : List Nat} (h : st.head own keep = some st') : Norm st st' := by
  unfold St.head at h
  rw [Option.map_eq_some_iff] at h
  obtain ⟨s, hs, rfl⟩ := h
  exact (Norm.ownAll hs).trans ((Norm.keep keep s).trans (Norm.gc [] rfl _))
end Go.Proofs.YtpgkpbfefnpagaaGreatDoor
namespace Go.Proofs.YtpgkpbfefnpagaaGreatDoor
open Go.RowKit

theorem RepT.mono {S S' : Nat → Prop} {w : World} (h : ∀ b, S b → S' b) {x : T} {v : Value} (hr : RepT S w x v) : RepT S' w x v := hr.keep ⟨Nat.le_refl _, fun b hb _ => ⟨rfl, h b hb⟩⟩
/-- Called with these data it gives that one, and writes nothing that was there. -/
structure Snd (P : Program) (G : World → Prop) (f : Nat) (args : List T) (r : T) : Prop where
  enter : ∀ (vs : Array Value) (w : World), (callFunc f vs).run P w = .ok (.enter f vs) w
  calls : ∀ (S : Nat → Prop) (w : World) (vs : Array Value), G w → vs.size = args.length → (∀ (k : Nat) (y : T) (v : Value), args[k]? = some y → vs[k]? = some v → RepT S w y v) →
    Calls P f vs w fun e w' => ∃ v, e = .returned v ∧ RepT (fun b => S b ∨ w.heap.size ≤ b) w' r v ∧ Below w.heap.size w w'
/-- What holds of the world as long as nothing that was there is written. -/
def Lasting (G : World → Prop) : Prop := ∀ w w', Below w.heap.size w w' → G w → G w'

mutual
/-- Is there no memory behind it? -/
def T.flatData : T → Bool
  | .int _ _ | .bool _ | .str _ | .nilI | .raw _ _ _ | .undef => true
  | .list _ | .ptr _ => false
  | .agg l => flatAll l
  | .tup l => flatAll l
  | .iface _ x => x.flatData
  | .fn _ l => flatAll l
def flatAll : List T → Bool
  | [] => true
  | x :: r => x.flatData && flatAll r
end
theorem flatAll_mem : ∀ {l : List T}, flatAll l = true → ∀ x ∈ l, x.flatData = true
  | [], _, x, hx => by simp at hx
  | y :: r, h, x, hx => by
    simp only [flatAll, Bool.and_eq_true] at h
    rcases List.mem_cons.1 hx with rfl | hx
    · exact h.1
    · exact flatAll_mem h.2 x hx
theorem RepT.flat {S S' : Nat → Prop} {w w' : World} {x : T} {v : Value} (h : RepT S w x v) : x.flatData = true → RepT S' w' x v := by
  induction h with
  | int k n => exact fun _ => .int k n
  | bool b => exact fun _ => .bool b
  | str s => exact fun _ => .str s
  | list => exact fun h => by simp [T.flatData] at h
  | agg l vs hl h1 hx ih => exact fun h => .agg l vs hl h1 fun k y v a b => ih k y v a b (flatAll_mem (by simpa [T.flatData] using h) y (List.mem_of_getElem? a))
  | tup l vs hl hx ih => exact fun h => .tup l vs hl fun k y v a b => ih k y v a b (flatAll_mem (by simpa [T.flatData] using h) y (List.mem_of_getElem? a))
  | nilI => exact fun _ => .nilI
  | iface t x v h ih => exact fun h => .iface t x v (ih (by simpa [T.flatData] using h))
  | fn f cap vs hl hx ih => exact fun h => .fn f cap vs hl fun k y v a b => ih k y v a b (flatAll_mem (by simpa [T.flatData] using h) y (List.mem_of_getElem? a))
  | ptr => exact fun h => by simp [T.flatData] at h
  | raw a n cap => exact fun _ => .raw a n cap
  | undef v => exact fun _ => .undef v

mutual
/-- A slot's content as a datum, own memory and all. -/
def St.rd (st : St) : SV → Option T
  | .t x => some x
  | .nil => some (.list [])
  | .lit l => some (.list l)
  | .agg l => (st.rdL l).map .agg
  | .sref i => match st.obj i with
    | .row _ _ _ l => some (.list l)
    | .froz l => some (.list l)
    | _ => none
  | .bptr i off => match st.obj i with
    | .box l => match allT l with
      | some ts => some (.ptr (ts.drop off))
      | none => none
    | .fbox l => some (.ptr (l.drop off))
    | _ => none
  | .eptr _ _ _ _ => none
  | .cut _ _ => none
  | .map _ => none
  | .fn f l => (st.rdL l).map (.fn f)
  | .pin _ _ => none
  | .pinS _ _ _ _ => none
def St.rdL (st : St) : List SV → Option (List T)
  | [] => some []
  | x :: r => match st.rd x with
    | some y => match st.rdL r with
      | some ys => some (y :: ys)
      | none => none
    | none => none
end
theorem rdL_get {st : St} : ∀ {l : List SV} {ys : List T}, st.rdL l = some ys → ys.length = l.length ∧ ∀ (k : Nat) (x : SV) (y : T), l[k]? = some x → ys[k]? = some y → st.rd x = some y
  | [], ys, h => by simp [St.rdL] at h; subst h; exact ⟨rfl, fun k x y h => by simp at h⟩
  | z :: r, ys, h => by
    simp only [St.rdL] at h
    split at h
    · rename_i q hq
      split at h
      · rename_i qs hqs
        cases h
        obtain ⟨h1, h2⟩ := rdL_get hqs
        refine ⟨by simp [h1], fun k x y a b => ?_⟩
        cases k with
        | zero => simp at a b; subst a b; exact hq
        | succ k => exact h2 k x y (by simpa using a) (by simpa using b)
      · cases h
    · cases h

section
variable {P : Program} {G : World → Prop} {C : Ctx} {st : St} {hd : List Hd} {a : Act} {w : World} {tt : Nat → Option TI} {Q : Exit → St → Prop}
/-- Blocks that the call may hand back. -/
def Own (C : Ctx) (b : Nat) : Prop := seen C b
theorem vis_own {hd : List Hd} (b : Nat) (h : vis C hd b) : Own C b := h.1
theorem rd_ok (hr : StR C st hd a w) {x : SV} {v : Value} (hx : RepS (vis C hd) w hd x v) : ∀ {y : T}, st.rd x = some y → RepT (Own C) w y v := by
  induction hx with
  | t x v h => intro y hy; simp [St.rd] at hy; subst hy; exact h.mono vis_own
  | nil => intro y hy; simp [St.rd] at hy; subst hy; exact .list [] none 0 1 (fun _ => undef) (Nat.zero_le _) Nat.one_pos (fun x hx => by simp at hx) (fun h => (h rfl).elim) (fun k hk => by simp at hk) (fun k y hy => by simp [flat] at hy) (Nat.le_refl _)
  | lit l b h => intro y hy; simp [St.rd] at hy; subst hy; exact h.mono vis_own
  | agg l vs hl h1 hx ih =>
    intro y hy
    simp only [St.rd, Option.map_eq_some_iff] at hy
    obtain ⟨ys, h2, rfl⟩ := hy
    obtain ⟨l1, l2⟩ := rdL_get h2
    refine .agg ys vs (by omega) h1 fun k y v a b => ?_
    have hk := (List.getElem?_eq_some_iff.1 a).1
    have e : l[k]? = some l[k] := List.getElem?_eq_getElem (by omega)
    exact ih k _ v e b (l2 k _ y e a)
  | sref i ad n cap o hh =>
    intro y hy
    simp only [St.rd] at hy
    split at hy
    · rename_i e sz wr l ho
      cases hy
      have hob := hr.ob i _ _ (obj_some ho (by simp)) hh
      obtain ⟨xs, h1, h2, h3⟩ := row_cells hob
      obtain ⟨rfl, e2, e3, e4, e5⟩ := hob
      have hcap : l.length ≤ cap := by
        rcases e5 with ⟨ys, f1, f2, f3⟩ | ⟨_, rfl, rfl, b', f0, f⟩
        · rcases f1.2 with ⟨q, q2⟩ | ⟨g, cap', cur, q, _, _, q3, _⟩
          · omega
          · cases q; exact q3
        · exact Nat.le_refl _
      refine .list l ad cap sz xs e3 e2 e4 (fun hne => ?_) h2 (fun k y hy => (h3 k y hy).mono vis_own) hcap
      obtain ⟨b, rfl, hc⟩ := h1 hne
      refine ⟨b, 0, rfl, ?_, fun k hk => by rw [Nat.zero_add]; exact hc k hk⟩
      rcases e5 with ⟨ys, f1, f2, f3⟩ | ⟨_, rfl, rfl, b', f0, f⟩
      · exact hr.ext.seen (List.mem_of_getElem? hh) (by simp [Hd.own, f2, Value.ownBlock]) (f1.lt b rfl).1
      · obtain ⟨_, _, _, _, e, _, _, _, ha, _⟩ := f.listInv
        cases e
        obtain ⟨b2, off, e, hS, _⟩ := ha hne
        cases e
        exact hS.1
    · rename_i l ho
      cases hy
      have hob := hr.ob i _ _ (obj_some ho (by simp)) hh
      exact hob.2.2.mono vis_own
    · cases hy
  | bptr i off b o hh =>
    intro y hy
    simp only [St.rd] at hy
    split at hy
    · rename_i l ho
      split at hy
      · rename_i ts hts
        cases hy
        have := allT_spec hts
        subst this
        obtain ⟨rfl, vs, ty, e1, e2, e3, e4⟩ := hr.ob i _ _ (obj_some ho (by simp)) hh
        have hob := hr.own _ b (List.mem_of_getElem? hh) rfl
        have hsz : ∀ k, k < (ts.drop off).length → off + k < vs.size := fun k hk => by simp at hk e2; omega
        refine .ptr _ b off (fun k => vs.getD (off + k) undef) (hr.ext.seen (List.mem_of_getElem? hh) rfl hob.1) hob.2 (fun k hk => ?_) (fun k hk => ?_) (fun k y hy => ?_)
        · rw [cell_of_row w b _ vs ty (0, 0) e1]; simp [hsz k hk]
        · exact e3 (off + k) _ (by simp [hsz k hk])
        · have hk := (List.getElem?_eq_some_iff.1 hy).1
          rw [List.getElem?_drop] at hy
          exact ((e4 (off + k) (.t y) _ (by rw [List.getElem?_map, hy]; rfl) (by simp [hsz k hk])).toT).mono vis_own
      · cases hy
    · rename_i l ho
      cases hy
      have hob := hr.ob i _ _ (obj_some ho (by simp)) hh
      obtain ⟨_, hob⟩ := hob
      obtain ⟨b', off', xs, e, hS, hlt, hc, h1, h2⟩ := hob.ptrInv
      cases e
      refine .ptr _ b off (fun k => xs (off + k)) hS.1 hlt (fun k hk => by have := hc (off + k) (by simp at hk; omega); simpa using this) (fun k hk => h1 _ (by simp at hk; omega)) (fun k y hy => (h2 _ y (by rw [List.getElem?_drop] at hy; exact hy)).mono vis_own)
    · cases hy
  | eptr i sz k off g n cap o hh => intro y hy; simp [St.rd] at hy
  | cut i m a n cap o hh hm => intro y hy; simp [St.rd] at hy
  | map i r hh => intro y hy; simp [St.rd] at hy
  | pin i b o hh => intro y hy; simp [St.rd] at hy
  | pinS i a n cap o hh => intro y hy; simp [St.rd] at hy
  | fn f cap vs hl hx ih =>
    intro y hy
    simp only [St.rd, Option.map_eq_some_iff] at hy
    obtain ⟨ys, h2, rfl⟩ := hy
    obtain ⟨l1, l2⟩ := rdL_get h2
    refine .fn f ys vs (by omega) fun k y v a b => ?_
    have hk := (List.getElem?_eq_some_iff.1 a).1
    have e : cap[k]? = some cap[k] := List.getElem?_eq_getElem (by omega)
    exact ih k _ v e b (l2 k _ y e a)

/-- What is handed back. -/
def St.res1 (tt : Nat → Option TI) (st : St) : ResultVar → Option T
  | .tmp t => st.rd (st.get t)
  | .cell p t => match tt t with
    | some i => match st.load i (st.get p) with
      | some x => st.rd x
      | none => none
    | none => none
def St.resL (tt : Nat → Option TI) (st : St) : List ResultVar → Option (List T)
  | [] => some []
  | x :: r => match st.res1 tt x with
    | some y => match st.resL tt r with
      | some ys => some (y :: ys)
      | none => none
    | none => none
def St.res (tt : Nat → Option TI) (st : St) (l : List ResultVar) : Option T := match st.resL tt l with
  | some [y] => some y
  | some ys => some (.tup ys)
  | none => none
def SPost (tt : Nat → Option TI) (l : List ResultVar) (r : T) : Exit → St → Prop
  | .normal, st | .ret, st => st.res tt l = some r
  | _, _ => False
theorem resL_ok (hT : TTok P tt) (hr : StR C st hd a w) : ∀ {l : List ResultVar} {ys : List T}, st.resL tt l = some ys →
    ∃ vs : List Value, (l.mapM (fun | ResultVar.tmp t => pure (a.tmps.getD t undef) | ResultVar.cell p t => do loadVar t (← asAddr (a.tmps.getD p undef)) : ResultVar → Sem Value)).run P w = .ok vs w ∧ vs.length = ys.length ∧ ∀ (k : Nat) (y : T) (v : Value), ys[k]? = some y → vs[k]? = some v → RepT (Own C) w y v
  | [], ys, h => by simp [St.resL] at h; subst h; exact ⟨[], rfl, rfl, fun k y v h => by simp at h⟩
  | x :: r, ys, h => by
    simp only [St.resL] at h
    split at h
    · rename_i y hy
      split at h
      · rename_i zs hzs
        cases h
        obtain ⟨vs, h1, h2, h3⟩ := resL_ok hT hr hzs
        have : ∃ v, (match x with | ResultVar.tmp t => pure (a.tmps.getD t undef) | ResultVar.cell p t => do loadVar t (← asAddr (a.tmps.getD p undef)) : Sem Value).run P w = .ok v w ∧ RepT (Own C) w y v := by
          cases x with
          | tmp t => exact ⟨_, rfl, rd_ok hr (hr.get t) hy⟩
          | cell p t =>
            simp only [St.res1] at hy
            split at hy
            · rename_i i hi
              split at hy
              · rename_i q hq
                obtain ⟨u, g1, g2⟩ := load_ok hr (hT t i hi) hq (hr.get p)
                refine ⟨u, ?_, rd_ok hr g2 hy⟩
                simp only []
                rw [← g1]
                unfold Instr.loadAt
                rw [Sem.run_bind, Sem.run_bind]
                generalize a.tmps.getD p undef = v at g1
                cases v <;> simp [Instr.loadAt, Instr.sureAddr] at g1
                rename_i ad
                cases ad with
                | none => simp [Instr.loadAt, Instr.sureAddr] at g1
                | some ad => rfl
              · cases hy
            · cases hy
        obtain ⟨v, g1, g2⟩ := this
        refine ⟨v :: vs, ?_, by simp [h2], fun k y' v' a1 a2 => ?_⟩
        · rw [List.mapM_cons, Sem.run_bind, g1, Result.andThen_ok, Sem.run_bind, h1]; rfl
        · cases k with
          | zero => simp at a1 a2; subst a1 a2; exact g2
          | succ k => exact h3 k y' v' (by simpa using a1) (by simpa using a2)
      · cases h
    · cases h
theorem res_ok (hT : TTok P tt) (hr : StR C st hd a w) {fn : Func} {r : T} (h : st.res tt fn.results.toList = some r) : ∃ v, (results fn a.tmps).run P w = .ok v w ∧ RepT (Own C) w r v := by
  unfold St.res at h
  have main : ∀ {ys : List T}, st.resL tt fn.results.toList = some ys → ∃ vs : Array Value, (fn.results.mapM (fun | ResultVar.tmp t => pure (a.tmps.getD t undef) | ResultVar.cell p t => do loadVar t (← asAddr (a.tmps.getD p undef)) : ResultVar → Sem Value)).run P w = .ok vs w ∧ vs.size = ys.length ∧ ∀ (k : Nat) (y : T) (v : Value), ys[k]? = some y → vs[k]? = some v → RepT (Own C) w y v := fun hys => by
    obtain ⟨vs, h1, h2, h3⟩ := resL_ok hT hr hys
    refine ⟨vs.toArray, ?_, by simpa using h2, fun k y v a b => h3 k y v a (by simpa using b)⟩
    rw [Array.mapM_eq_mapM_toList, Sem.run_map, h1]; rfl
  split at h
  · rename_i y hy
    cases h
    obtain ⟨vs, h1, h2, h3⟩ := main hy
    simp at h2
    refine ⟨vs[0], ?_, h3 0 _ _ rfl (Array.getElem?_eq_getElem (by omega))⟩
    unfold results
    rw [Sem.run_bind]
    erw [h1]
    simp [h2]
  · rename_i ys hne hy
    cases h
    obtain ⟨vs, h1, h2, h3⟩ := main hy
    have hn : vs.size ≠ 1 := fun e => by
      rw [h2] at e
      match ys, e, hne with
      | [y], _, hne => exact hne y rfl
    refine ⟨.tuple vs, ?_, .tup ys vs h2 h3⟩
    unfold results
    rw [Sem.run_bind]
    erw [h1]
    simp [hn]
  · cases h
def mkSlots : Nat → List T → List (Nat × SV)
  | _, [] => []
  | k, x :: r => (k, .t x) :: mkSlots (k + 1) r
theorem mkSlots_look : ∀ {l : List T} {k t : Nat} {x : SV}, look (mkSlots k l) t = some x → ∃ j y, t = k + j ∧ l[j]? = some y ∧ x = .t y
  | [], k, t, x, h => by simp [mkSlots, look] at h
  | z :: r, k, t, x, h => by
    simp only [mkSlots, look] at h
    split at h
    · rename_i e; cases h; exact ⟨0, z, by omega, rfl, rfl⟩
    · obtain ⟨j, y, h1, h2, h3⟩ := mkSlots_look h
      exact ⟨j + 1, y, by omega, by simpa using h2, h3⟩
/-- A function whose code over data gives that datum. -/
theorem snd_of_body (hT : TTok P tt) {f : Nat} {fn : Func} {c : Code} {args : List T} {r : T} (hf : P.funcs[f]? = some fn) (hb : fn.body = some c) (hn : (fn.name == "runtime.NumGoroutine") = false) {n : Nat} (hnt : n = args.length + (fn.ntmps - args.length)) {tm : List (Nat × SV)} (htm : tm = mkSlots 0 args) {rs : List ResultVar} (hrs : fn.results.toList = rs)
    (h : SW P G c (SPost tt rs r) ⟨n, tm, []⟩) : Snd P G f args r := by
  subst hrs
  refine ⟨fun vs w => ?_, fun S w vs hG hvs hrep => ?_⟩
  · unfold callFunc
    rw [Sem.run_bind, run_program, Result.andThen_ok]
    simp only [hf, hn, hb, Option.isNone_some, Bool.false_eq_true, if_false]
    rfl
  · let C : Ctx := Ctx.of S w
    refine calls_of_wp hf hb ?_
    have hr : StR C ⟨n, tm, []⟩ [] { tmps := vs ++ Array.replicate (fn.ntmps - vs.size) undef, defers := [] } w := by
      refine ⟨Below.refl _ _, rfl, by simp [hnt, hvs], rfl, fun i o g h => by simp at h, fun g b h => by simp at h, fun i j gi gj b h => by simp at h, fun t x hx => ?_, ⟨Nat.le_refl _, fun _ _ _ => rfl, fun g b h => by simp at h⟩⟩
      subst htm
      obtain ⟨j, y, rfl, h2, rfl⟩ := mkSlots_look hx
      have hj := (List.getElem?_eq_some_iff.1 h2).1
      have e : vs[j]? = some vs[j] := Array.getElem?_eq_getElem (by omega)
      have e2 : (vs ++ Array.replicate (fn.ntmps - vs.size) undef).getD (0 + j) undef = vs[j] := by
        rw [Nat.zero_add, Array.getD_eq_getD_getElem?, Array.getElem?_append_left (by omega), e]; rfl
      rw [e2]
      exact .t _ _ ((hrep j y _ h2 e).keep ⟨Nat.le_refl _, fun b hb _ => ⟨rfl, ⟨.inl hb, id⟩, fun g hg => by simp at hg⟩⟩)
    refine wp_mono (h C [] _ w hG hr) fun e a' w' hq => ?_
    obtain ⟨st', hd', h1, h2⟩ := hq
    cases e <;> simp only [SPost] at h1
    · obtain ⟨v, g1, g2⟩ := res_ok hT h2 h1
      exact ⟨h2.df, v, g1, v, rfl, g2.mono fun b hb => hb.1, h2.below⟩
    · obtain ⟨v, g1, g2⟩ := res_ok hT h2 h1
      exact ⟨h2.df, v, g1, v, rfl, g2.mono fun b hb => hb.1, h2.below⟩
end
end Go.Proofs.YtpgkpbfefnpagaaGreatDoor
namespace Go.Proofs.YtpgkpbfefnpagaaGreatDoor
open Go.RowKit

mutual
/-- A slot's content as a datum, if it is not written any more. -/
def St.tr (st : St) : SV → Option T
  | .t x => some x
  | .nil => some (.list [])
  | .lit l => some (.list l)
  | .agg l => (st.trL l).map .agg
  | .sref i => match st.obj i with
    | .froz l => some (.list l)
    | _ => none
  | .bptr i off => match st.obj i with
    | .fbox l => some (.ptr (l.drop off))
    | _ => none
  | .eptr _ _ _ _ => none
  | .cut _ _ => none
  | .map _ => none
  | .fn f l => (st.trL l).map (.fn f)
  | .pin _ _ => none
  | .pinS _ _ _ _ => none
def St.trL (st : St) : List SV → Option (List T)
  | [] => some []
  | x :: r => match st.tr x with
    | some y => match st.trL r with
      | some ys => some (y :: ys)
      | none => none
    | none => none
end
mutual
/-- What is not written any more reads the same. -/
theorem rd_of_tr {st : St} : ∀ (x : SV) {y : T}, st.tr x = some y → st.rd x = some y
  | .t _, _, h => by simpa only [St.tr, St.rd] using h
  | .nil, _, h => by simpa only [St.tr, St.rd] using h
  | .lit _, _, h => by simpa only [St.tr, St.rd] using h
  | .agg l, y, h => by
    simp only [St.tr, Option.map_eq_some_iff] at h
    obtain ⟨ys, h1, rfl⟩ := h
    simp only [St.rd, rdL_of_trL l h1, Option.map_some]
  | .sref i, y, h => by
    simp only [St.tr] at h
    split at h
    · rename_i l ho
      cases h
      simp only [St.rd, ho]
    · cases h
  | .bptr i off, y, h => by
    simp only [St.tr] at h
    split at h
    · rename_i l ho
      cases h
      simp only [St.rd, ho]
    · cases h
  | .eptr _ _ _ _, _, h => by simp [St.tr] at h
  | .cut _ _, _, h => by simp [St.tr] at h
  | .map _, _, h => by simp [St.tr] at h
  | .pin _ _, _, h => by simp [St.tr] at h
  | .pinS _ _ _ _, _, h => by simp [St.tr] at h
  | .fn f l, y, h => by
    simp only [St.tr, Option.map_eq_some_iff] at h
    obtain ⟨ys, h1, rfl⟩ := h
    simp only [St.rd, rdL_of_trL l h1, Option.map_some]
theorem rdL_of_trL {st : St} : ∀ (l : List SV) {ys : List T}, st.trL l = some ys → st.rdL l = some ys
  | [], _, h => by simpa only [St.trL, St.rdL] using h
  | x :: r, ys, h => by
    simp only [St.trL] at h
    split at h
    · rename_i q hq
      split at h
      · rename_i qs hqs
        cases h
        simp only [St.rdL, rd_of_tr x hq, rdL_of_trL r hqs]
      · cases h
    · cases h
end
theorem trL_get {st : St} : ∀ {l : List SV} {ys : List T}, st.trL l = some ys → ys.length = l.length ∧ ∀ (k : Nat) (x : SV) (y : T), l[k]? = some x → ys[k]? = some y → st.tr x = some y
  | [], ys, h => by simp [St.trL] at h; subst h; exact ⟨rfl, fun k x y h => by simp at h⟩
  | z :: r, ys, h => by
    simp only [St.trL] at h
    split at h
    · rename_i q hq
      split at h
      · rename_i qs hqs
        cases h
        obtain ⟨h1, h2⟩ := trL_get hqs
        refine ⟨by simp [h1], fun k x y a b => ?_⟩
        cases k with
        | zero => simp at a b; subst a b; exact hq
        | succ k => exact h2 k x y (by simpa using a) (by simpa using b)
      · cases h
    · cases h
def guardOk (ops : Array Oper) (st : St) (o : Oper) : Bool := match o.guard with
  | none => true
  | some (j, want) => match (ops[j]?).bind (·.dst) with
    | some d => match st.get d with
      | .t (.bool b) => b == want
      | _ => false
    | none => false
section
variable {P : Program} {G : World → Prop} {C : Ctx} {st : St} {hd : List Hd} {a : Act} {w : World} {tt : Nat → Option TI} {Q : Exit → St → Prop}
theorem tr_ok (hr : StR C st hd a w) {x : SV} {v : Value} (hx : RepS (vis C hd) w hd x v) : ∀ {y : T}, st.tr x = some y → RepT (vis C hd) w y v := by
  induction hx with
  | t x v h => intro y hy; simp only [St.tr] at hy; cases hy; exact h
  | nil => intro y hy; simp only [St.tr] at hy; cases hy; exact .list [] none 0 1 (fun _ => undef) (Nat.zero_le _) Nat.one_pos (fun x hx => by simp at hx) (fun h => (h rfl).elim) (fun k hk => by simp at hk) (fun k y hy => by simp [flat] at hy) (Nat.le_refl _)
  | lit l b h => intro y hy; simp only [St.tr] at hy; cases hy; exact h
  | agg l vs hl h1 hx ih =>
    intro y hy
    simp only [St.tr, Option.map_eq_some_iff] at hy
    obtain ⟨ys, h2, rfl⟩ := hy
    obtain ⟨l1, l2⟩ := trL_get h2
    refine .agg ys vs (by omega) h1 fun k y v a b => ?_
    have hk := (List.getElem?_eq_some_iff.1 a).1
    have e : l[k]? = some l[k] := List.getElem?_eq_getElem (by omega)
    exact ih k _ v e b (l2 k _ y e a)
  | sref i ad n cap o hh =>
    intro y hy
    simp only [St.tr] at hy
    split at hy
    · rename_i l ho
      cases hy
      exact (hr.ob _ _ _ (obj_some ho (by simp)) hh).2.2
    · cases hy
  | cut i m a n cap o hh hm => intro y hy; simp [St.tr] at hy
  | bptr i off b o hh =>
    intro y hy
    simp only [St.tr] at hy
    split at hy
    · rename_i l ho
      cases hy
      obtain ⟨_, hob⟩ := hr.ob i _ _ (obj_some ho (by simp)) hh
      obtain ⟨b', off', xs, e, hS, hlt, hc, h1, h2⟩ := hob.ptrInv
      cases e
      exact .ptr _ b off (fun k => xs (off + k)) hS hlt (fun k hk => by have := hc (off + k) (by simp at hk; omega); simpa using this) (fun k hk => h1 _ (by simp at hk; omega)) (fun k y hy => h2 _ y (by rw [List.getElem?_drop] at hy; exact hy))
    · cases hy
  | eptr i sz k off g n cap o hh => intro y hy; simp [St.tr] at hy
  | map i r hh => intro y hy; simp [St.tr] at hy
  | pin i b o hh => intro y hy; simp [St.tr] at hy
  | pinS i a n cap o hh => intro y hy; simp [St.tr] at hy
  | fn f l vs hl hx ih =>
    intro y hy
    simp only [St.tr, Option.map_eq_some_iff] at hy
    obtain ⟨ys, h2, rfl⟩ := hy
    obtain ⟨l1, l2⟩ := trL_get h2
    refine .fn f ys vs (by omega) fun k y v a b => ?_
    have hk := (List.getElem?_eq_some_iff.1 a).1
    have e : l[k]? = some l[k] := List.getElem?_eq_getElem (by omega)
    exact ih k _ v e b (l2 k _ y e a)
theorem guardOk_wanted (hr : StR C st hd a w) {ops : Array Oper} {o : Oper} (h : guardOk ops st o = true) : Region.wanted o (yielded ops a.tmps) = true := by
  unfold guardOk at h
  split at h
  · rename_i hg; simp [Region.wanted, hg]
  · rename_i j want hg
    split at h
    · rename_i d hd0
      split at h
      · rename_i b hb
        have h3 := hr.get d
        rw [hb] at h3
        generalize hv : a.tmps.getD d undef = v at h3
        have h4 := h3.toT
        cases h4
        have hlt : (ops[j]?).bind (·.dst) = some d := hd0
        have hy : yielded ops a.tmps j = some b := by
          unfold yielded
          rw [hlt]
          have : a.tmps[d]? = some (.bool b) := by
            cases e : a.tmps[d]? with
            | none => simp [e, undef] at hv
            | some x => simp [e] at hv; rw [hv]
          simp [this]
        simp [Region.wanted, hg, hy]; simpa using h
      · cases h
    · cases h
theorem run_call {o : Oper} {c : Call} {f : Operand} {g : Nat} {capv : Array Value} (ho : o.op = .call c) (hc : c.callee = .value f) (hf : a.eval f = .func (.func g) #[] capv) (he : ∀ (vs : Array Value) (w : World), (callFunc g vs).run P w = .ok (.enter g vs) w) :
    (execOp a.eval o).run P w = .ok (.enter g (c.args.map a.eval ++ capv)) w := by
  obtain ⟨dst, op, ty, pos, after, guard⟩ := o
  simp only at ho
  subst ho
  show (do let d ← resolve a.eval c ty; invoke d.target d.args : Sem Next).run P w = _
  unfold resolve
  simp only [hc, hf, Deferred.ofValue]
  rw [Sem.run_bind, Sem.run_pure, Result.andThen_ok]
  simp only [invoke, Array.empty_append]
  exact he _ _
/-- Own memory is given up. -/
theorem Norm.frz {x : SV} {y : T} {heap' : List Ob} (t : Nat) (hx : st.get t = x) (h : frz st.heap x = some (y, heap')) : Norm st { st with heap := heap' } := fun C hd a w hr => by
  have := hr.get t
  rw [hx] at this
  obtain ⟨hd', h1, _⟩ := frz_ok hr h this
  exact ⟨hd', h1⟩
end
section
variable {K : St → Prop} {Q : Exit → St → Prop} {st : St} {id i : Nat}
theorem SThen_n (h : K st) : SThen K Q .normal st := h
theorem SThen_r (h : Q .ret st) : SThen K Q .ret st := h
theorem SThen_e (h : Q (.exit i) st) : SThen K Q (.exit i) st := h
theorem SIn_n (h : Q .normal st) : SIn id Q .normal st := h
theorem SIn_r (h : Q .ret st) : SIn id Q .ret st := h
theorem SIn_eq (h : Q .normal st) : SIn id Q (.exit id) st := by simp [SIn, h]
theorem SIn_ne (hne : i ≠ id) (h : Q (.exit i) st) : SIn id Q (.exit i) st := by simp [SIn, hne, h]
theorem SPost_r {tt : Nat → Option TI} {l : List ResultVar} {r : T} (h : st.res tt l = some r) : SPost tt l r .ret st := h
end
section
variable {P : Program} {G : World → Prop} {Q : Exit → St → Prop} {st : St}
theorem SW_true {c : Operand} {x y : Code} (hc : st.ev c = .t (.bool true)) (h : SW P G x Q st) : SW P G (.cond c x y) Q st := SW_cond hc (fun _ => h) (fun e => by cases e)
theorem SW_false {c : Operand} {x y : Code} (hc : st.ev c = .t (.bool false)) (h : SW P G y Q st) : SW P G (.cond c x y) Q st := SW_cond hc (fun e => by cases e) (fun _ => h)
end
/-- Numbers, tests, rows of numbers, errors, as data. -/
def tInt (n : Int) : T := .int .i64 n
def tInts (l : List Int) : T := .list (l.map tInt)
def tBools (l : List Bool) : T := .list (l.map T.bool)
def tIntss (l : List (List Int)) : T := .list (l.map tInts)
theorem get_bang {α : Type} [Inhabited α] (l : List α) (k : Nat) (h : k < l.length) : l[k]? = some l[k]! := by simp [h]
theorem wrap_i64 (n : Int) (h : -9223372036854775808 ≤ n ∧ n ≤ 9223372036854775807) : IntKind.i64.wrap n = n := IntWalk.i64_in n h
end Go.Proofs.YtpgkpbfefnpagaaGreatDoor
namespace Go.Proofs.YtpgkpbfefnpagaaGreatDoor
open Go.RowKit

/-- Contracts at hand: function, arguments, what comes back. -/
abbrev Tab := List (Nat × List T × T)
def Tab.ok (P : Program) (G : World → Prop) (tb : Tab) : Prop := ∀ e ∈ tb, Snd P G e.1 e.2.1 e.2.2
theorem Tab.nil {P : Program} {G : World → Prop} : Tab.ok P G [] := fun _ h => by simp at h
theorem Tab.cons {P : Program} {G : World → Prop} {f : Nat} {asl : List T} {r : T} {tb : Tab} (h : Snd P G f asl r) (ht : Tab.ok P G tb) : Tab.ok P G ((f, asl, r) :: tb) := fun e he => by
  rcases List.mem_cons.1 he with rfl | he
  · exact h
  · exact ht e he
open Classical in
noncomputable def findCo : Tab → Nat → List T → Option T
  | [], _, _ => none
  | (f, xs, y) :: tb, g, bs => if f = g ∧ xs = bs then some y else findCo tb g bs
theorem findCo_ok {P : Program} {G : World → Prop} : ∀ {tb : Tab} {g : Nat} {asl : List T} {r : T}, Tab.ok P G tb → findCo tb g asl = some r → Snd P G g asl r
  | [], g, asl, r, _, h => by simp [findCo] at h
  | (f, bs, q) :: tb, g, asl, r, ht, h => by
    unfold findCo at h
    split at h
    · rename_i e
      obtain ⟨rfl, rfl⟩ := e
      cases h
      exact ht _ List.mem_cons_self
    · exact findCo_ok (fun e he => ht e (List.mem_cons_of_mem _ he)) h
/-- What a call hands back. -/
noncomputable def St.callR (tb : Tab) (st : St) (f : SV) (args : List SV) : Option T := match f with
  | .t (.fn g cap) => match st.rdL args with
    | some asl => match findCo tb g (asl ++ cap) with
      | some r => if r.flatData = true then some r else match st.trL args with
        | some _ => some r
        | none => none
      | none => none
    | none => none
  | _ => none
/-- Parts of a literal that need not be given up. -/
def St.litQ (st : St) (ie : TI) (len : Nat) (parts : List (Nat × Operand)) : Option SV :=
  if idxOk 0 parts = true ∧ parts.length = len ∧ len ≤ 1000 ∧ len * ie.sz ≤ 16777216 then match st.trL (parts.map fun p => st.ev p.2) with
    | some ys => if ys.all (fun y => y.storable && y.cells.length == ie.sz) then some (.lit ys) else none
    | none => none
  else none
/-- A part of a slice; of an own one, its first elements. -/
def St.sliceQ (st : St) (isz : Nat) (x : SV) (lo hi : Option Nat) : Option SV := match x with
  | .nil => if lo.getD 0 = 0 ∧ hi.getD 0 = 0 then some .nil else none
  | .sref j => match st.obj j with
    | .row _ sz true l => if sz = isz ∧ lo.getD 0 = 0 ∧ hi.getD l.length ≤ l.length then some (.cut j (hi.getD l.length)) else none
    | .froz l => if lo.getD 0 ≤ hi.getD l.length ∧ hi.getD l.length ≤ l.length ∧ l.all (fun x => x.cells.length == isz) = true then some (.t (.list ((l.take (hi.getD l.length)).drop (lo.getD 0)))) else none
    | _ => none
  | .t (.list l) => if lo.getD 0 ≤ hi.getD l.length ∧ hi.getD l.length ≤ l.length ∧ l.all (fun x => x.cells.length == isz) = true then some (.t (.list ((l.take (hi.getD l.length)).drop (lo.getD 0)))) else none
  | .lit l => if lo.getD 0 ≤ hi.getD l.length ∧ hi.getD l.length ≤ l.length ∧ l.all (fun x => x.cells.length == isz) = true then some (.t (.list ((l.take (hi.getD l.length)).drop (lo.getD 0)))) else none
  | _ => none
section
variable {P : Program} {C : Ctx} {st : St} {hd : List Hd} {a : Act} {w : World}
theorem sliceQ_ok (hr : StR C st hd a w) {t e : Nat} {i ie : TI} (hi : TIok P t i) (hk : i.k = .slice e) (he : TIok P e ie) {x y : SV} {v : Value} {lo hi' : Option Value} {bl bh : Option Nat} (hl : (lo = none ∧ bl = none) ∨ ∃ k n, lo = some (.int k (n : Nat)) ∧ bl = some n) (hh : (hi' = none ∧ bh = none) ∨ ∃ k n, hi' = some (.int k (n : Nat)) ∧ bh = some n)
    (h : st.sliceQ ie.sz x bl bh = some y) (hx : RepS (vis C hd) w hd x v) : ∃ u, (Instr.sliceAt t v lo hi' none).run P w = .ok u w ∧ RepS (vis C hd) w hd y u := by
  have hs := hi.says
  rw [hk] at hs; simp only [TK.says] at hs
  have run : ∀ (ad : Option Addr) (n cap : Nat), bl.getD 0 ≤ bh.getD n → bh.getD n ≤ cap → (Instr.sliceAt t (.slice ad n cap) lo hi' none).run P w = .ok (.slice (if cap = bl.getD 0 then ad else ad.map (·.add (bl.getD 0 * ie.sz))) (bh.getD n - bl.getD 0) (cap - bl.getD 0)) w := fun ad n cap h1 h2 => by
    unfold Instr.sliceAt
    rw [Sem.run_bind, run_underlying hs, Result.andThen_ok]
    simp only []
    unfold Instr.slice
    rw [Sem.run_bind, run_underlying hs, Result.andThen_ok]
    simp only []
    rw [Sem.run_bind, run_sliceBounds true n cap hl hh h1 h2, Result.andThen_ok]
    simp only []
    rw [Sem.run_bind, he.sizeOf]; rfl
  have tree : ∀ {l : List T} {v : Value}, RepT (vis C hd) w (.list l) v → (bl.getD 0 ≤ bh.getD l.length ∧ bh.getD l.length ≤ l.length ∧ l.all (fun x => x.cells.length == ie.sz) = true) → y = .t (.list ((l.take (bh.getD l.length)).drop (bl.getD 0))) →
      ∃ u, (Instr.sliceAt t v lo hi' none).run P w = .ok u w ∧ RepS (vis C hd) w hd y u := fun {l v} hrep hc e2 => by
    subst e2
    obtain ⟨a', cap', sz, xs, e, hm, hz, hf', ha, h1', hx'⟩ := hrep.listInv
    subst e
    have hcap := hrep.listCap
    exact ⟨_, run a' l.length cap' hc.1 (by omega), .t _ _ (slice_tree hr hrep hc.1 hc.2.1 (fun x hx => by have := List.all_eq_true.1 hc.2.2 x hx; simpa using this) he.pos)⟩
  unfold St.sliceQ at h
  split at h
  · split at h
    · rename_i hc
      cases h; cases hx
      have hb : bh.getD 0 = 0 := hc.2
      refine ⟨_, run none 0 0 (by omega) (by omega), ?_⟩
      rw [hc.1, hb]
      exact .nil
    · cases h
  · rename_i j
    split at h
    · rename_i e' sz' l ho
      split at h
      · rename_i hc
        obtain ⟨rfl, h1, h2⟩ := hc
        cases h; cases hx
        rename_i ad n cap o hh0
        have hoj := obj_some ho (by simp)
        have hob := hr.ob j _ _ hoj hh0
        obtain ⟨rfl, q2, q3, q4, q5⟩ := hob
        rcases q5 with ⟨xs, f1, f2, f3⟩ | ⟨q, _⟩
        · have hlc : l.length ≤ cap := by
            rcases f1.2 with ⟨q, q2⟩ | ⟨g, cap', cur, q, _, _, q3, _⟩
            · omega
            · cases q; exact q3
          have hrun := run ad l.length cap (by omega) (by omega)
          rw [h1] at hrun
          have hval : (Value.slice (if cap = 0 then ad else ad.map (·.add (0 * ie.sz))) (bh.getD l.length - 0) (cap - 0)) = .slice ad (bh.getD l.length) cap := by
            have : (ad.map fun x => x.add (0 * ie.sz)) = ad := by cases ad <;> simp [Addr.add]
            rw [this]; simp
          rw [hval] at hrun
          exact ⟨_, hrun, .cut _ _ _ _ _ _ hh0 h2⟩
        · cases q
      · cases h
    · rename_i l ho
      split at h
      · rename_i hc
        cases h; cases hx
        rename_i ad n cap o hh0
        have hob := hr.ob j _ _ (obj_some ho (by simp)) hh0
        exact tree hob.2.2 hc rfl
      · cases h
    · cases h
  · split at h
    · rename_i hc; cases h; exact tree hx.toT hc rfl
    · cases h
  · split at h
    · rename_i hc; cases h; cases hx; exact tree ‹_› hc rfl
    · cases h
  · cases h
end
/-- The first cells of an array that is no longer written. -/
def St.sliceA (st : St) (n sz : Nat) (x : SV) (lo hi : Option Nat) : Option SV := match x with
  | .bptr j 0 => match st.obj j with
    | .fbox l => if sz = 1 ∧ l.length = n ∧ n ≤ 1000 ∧ lo.getD 0 = 0 ∧ hi.getD n ≤ n ∧ l.all T.isCell = true then some (.t (.list (l.take (hi.getD n)))) else none
    | _ => none
  | _ => none
theorem flat_isCell : ∀ {l : List T}, (∀ x ∈ l, x.isCell = true) → flat l = l
  | [], _ => rfl
  | x :: l, h => by
    have h1 : x.cells = [x] := by
      have := h x List.mem_cons_self
      cases x <;> first | rfl | simp [T.isCell] at this
    show x.cells ++ flat l = _
    rw [h1, flat_isCell fun y hy => h y (List.mem_cons_of_mem _ hy)]; rfl
section
variable {P : Program} {C : Ctx} {st : St} {hd : List Hd} {a : Act} {w : World}
theorem sliceA_ok (hr : StR C st hd a w) {t n e : Nat} {i ie : TI} (hi : TIok P t i) (hk : i.k = .array n e) (he : TIok P e ie) {x y : SV} {v : Value} {lo hi' : Option Value} {bl bh : Option Nat} (hl : (lo = none ∧ bl = none) ∨ ∃ k n, lo = some (.int k (n : Nat)) ∧ bl = some n) (hh : (hi' = none ∧ bh = none) ∨ ∃ k n, hi' = some (.int k (n : Nat)) ∧ bh = some n)
    (h : st.sliceA n ie.sz x bl bh = some y) (hx : RepS (vis C hd) w hd x v) : ∃ u, (Instr.sliceAt t v lo hi' none).run P w = .ok u w ∧ RepS (vis C hd) w hd y u := by
  have hs := hi.says
  rw [hk] at hs; simp only [TK.says] at hs
  unfold St.sliceA at h
  split at h
  · rename_i j
    split at h
    · rename_i l ho
      split at h
      · rename_i hc
        obtain ⟨c1, c2, c3, c4, c5, c6⟩ := hc
        cases h; cases hx
        rename_i b o hh0
        have hob := hr.ob j _ _ (obj_some ho (by simp)) hh0
        obtain ⟨rfl, hp⟩ := hob
        obtain ⟨b', off, xs, e1, e2, e3, e4, e5, e6⟩ := hp.ptrInv
        cases e1
        have hcell : ∀ x ∈ l.take (bh.getD n), x.isCell = true := fun x hx => List.all_eq_true.1 c6 x (List.mem_of_mem_take hx)
        have hlen : (l.take (bh.getD n)).length = bh.getD n := by simp; omega
        refine ⟨.slice (some ⟨b, 0, none⟩) (l.take (bh.getD n)).length n, ?_, .t _ _ (.list _ _ n 1 xs (by rw [hlen]; simp only [maxLen]; omega) Nat.one_pos (fun x hx => ?_) (fun _ => ⟨b, 0, rfl, e2, fun k hk => e4 k (by omega)⟩) (fun k hk => e5 k (by omega)) (fun k y hy => ?_) (by omega))⟩
        · unfold Instr.sliceAt
          rw [Sem.run_bind, run_underlying hs, Result.andThen_ok]
          simp only []
          have hsure : (Instr.sureAddr (.pointer (some ⟨b, 0, none⟩))).run P w = .ok ⟨b, 0, none⟩ w := rfl
          rw [Sem.run_bind, hsure, Result.andThen_ok, Sem.run_bind, run_sliceBounds false n n hl hh (by omega) (by omega), Result.andThen_ok]
          simp only []
          rw [Sem.run_bind, he.sizeOf, Result.andThen_ok, hlen, c4]
          have : (Addr.add ⟨b, 0, none⟩ (0 * ie.sz)) = ⟨b, 0, none⟩ := by simp [Addr.add]
          rw [this]; simp
        · have := hcell x hx
          cases x <;> first | rfl | simp [T.isCell] at this
        · rw [flat_isCell hcell, List.getElem?_take] at hy
          split at hy
          · exact e6 k y hy
          · cases hy
      · cases h
    · cases h
  · cases h
end
/-- Operations that leave own memory as it is. -/
noncomputable def evalX (tt : Nat → Option TI) (tb : Tab) (st : St) (op : Op) : Option SV := match evalOp tt st op with
  | some x => some x
  | none => match op with
    | .call c => match c.callee with
      | .value f => (st.callR tb (st.ev f) (c.args.toList.map st.ev)).map .t
      | _ => none
    | .buildSlice t len parts => match tt t with
      | some i => match i.k with
        | .slice e => match tt e with
          | some ie => st.litQ ie len parts.toList
          | none => none
        | _ => none
      | none => none
    | .slice t x lo hi none => match tt t, st.bd lo, st.bd hi with
      | some i, some bl, some bh => match i.k with
        | .slice e => match tt e with
          | some ie => st.sliceQ ie.sz (st.ev x) bl bh
          | none => none
        | .str => strSlice (st.ev x) bl bh
        | .array n e => match tt e with
          | some ie => st.sliceA n ie.sz (st.ev x) bl bh
          | none => none
        | _ => none
      | _, _, _ => none
    | _ => none
noncomputable def stepX0 (tt : Nat → Option TI) (tb : Tab) (st : St) (o : Oper) : Option St := match evalX tt tb st o.op with
  | some x => some (st.put o.dst x)
  | none => stepOp1 tt st o
/-- What a guard sees: a truth value, or that nothing was done there. -/
def SV.gd : SV → Option (Option Bool)
  | .t (.bool b) => some (some b)
  | .t (.tup []) => some none
  | _ => none
def vBool : Value → Option Bool
  | .bool c => some c
  | _ => none
theorem gd_rep {S : Nat → Prop} {w : World} {hd : List Hd} {x : SV} {v : Value} {b : Option Bool} (h : RepS S w hd x v) (hb : x.gd = some b) : vBool v = b := by
  unfold SV.gd at hb
  split at hb
  · cases hb
    have h := h.toT
    cases h; rfl
  · cases hb
    have h := h.toT
    cases h; rfl
  · cases hb
theorem undef_rep (S : Nat → Prop) (w : World) (hd : List Hd) : RepS S w hd (.t (.tup [])) undef := .t _ _ (.tup [] #[] rfl fun k y v h => by simp at h)
noncomputable def stepX (tt : Nat → Option TI) (tb : Tab) (ops : Array Oper) (st : St) (o : Oper) : Option St :=
  if dstOk st.nt o.dst = true then match o.guard with
    | none => stepX0 tt tb st o
    | some (j, want) => match (ops[j]?).bind (·.dst) with
      | some d => match (st.get d).gd with
        | some b => if b = some want then stepX0 tt tb st o else some (st.put o.dst (.t (.tup [])))
        | none => none
      | none => none
  else none
noncomputable def runX (tt : Nat → Option TI) (tb : Tab) (ops : Array Oper) : List Oper → St → Option St
  | [], st => some st
  | o :: r, st => match stepX tt tb ops st o with
    | some st' => runX tt tb ops r st'
    | none => none

section
variable {P : Program} {G : World → Prop} {C : Ctx} {st : St} {hd : List Hd} {a : Act} {w : World} {tt : Nat → Option TI} {tb : Tab}
theorem litQ_ok (hr : StR C st hd a w) {t e : Nat} {i ie : TI} (hi : TIok P t i) (hk : i.k = .slice e) (he : TIok P e ie) {len : Nat} {parts : Array (Nat × Operand)} {y : SV} (h : st.litQ ie len parts.toList = some y) :
    ∃ v w', (Instr.buildSlice t len (parts.map fun (i, x) => (i, a.eval x))).run P w = .ok v w' ∧ StR C st hd a w' ∧ RepS (vis C hd) w' hd y v := by
  have hs := hi.says
  rw [hk] at hs; simp only [TK.says] at hs
  unfold St.litQ at h
  split at h
  · rename_i hc
    obtain ⟨h1, h2, h3, h4⟩ := hc
    split at h
    · rename_i ys hz
      split at h
      · rename_i hall
        cases h
        rw [List.all_eq_true] at hall
        have hlen : parts.size = len := by simpa using h2
        obtain ⟨l1, t1⟩ := trL_get hz
        simp at l1
        have hyl : ys.length = len := by omega
        have hf : ∀ x ∈ ys, x.cells.length = ie.sz := fun x hx => by have := hall x hx; simp at this; exact this.2
        have hparts : ∀ k, k < len → ∃ p y, parts[k]? = some p ∧ p.1 = k ∧ ys[k]? = some y ∧ RepL (vis C hd) w y.cells (a.eval p.2).cells.toList := fun k hk => by
          have e1 : parts.toList[k]? = some parts.toList[k] := List.getElem?_eq_getElem (by simpa [hlen] using hk)
          have e2 : ys[k]? = some ys[k] := List.getElem?_eq_getElem (by omega)
          refine ⟨_, _, by rw [← Array.getElem?_toList]; exact e1, by have := idxOk_spec h1 k _ e1; omega, e2, ?_⟩
          have := tr_ok hr (hr.ev _) (t1 k _ _ (by rw [List.getElem?_map, e1]; rfl) e2)
          have hst := hall _ (List.getElem_mem (by omega : k < ys.length))
          simp at hst
          exact this.toL hst.1
        obtain ⟨z, z1, z2, _⟩ := he.zL (S := fun _ => False) (w := w)
        have hfl : RepL (vis C hd) w (flat ys) ((parts.toList.map fun p => (p.1, a.eval p.2)).flatMap fun p => p.2.cells.toList) := by
          have key : ∀ (l : List T) (m : List (Nat × Value)), l.length = m.length → (∀ (k : Nat) (y : T) (p : Nat × Value), l[k]? = some y → m[k]? = some p → RepL (vis C hd) w y.cells p.2.cells.toList) → RepL (vis C hd) w (flat l) (m.flatMap fun p => p.2.cells.toList) := by
            intro l
            induction l with
            | nil => intro m hm _; obtain rfl : m = [] := List.eq_nil_of_length_eq_zero (by simpa using hm.symm); exact RepL.nil _ _
            | cons y l ih =>
              intro m hm hh
              cases m with
              | nil => simp at hm
              | cons p m =>
                simp only [flat, List.flatMap_cons]
                exact (hh 0 y p rfl rfl).append (ih m (by simpa using hm) fun k y p a b => hh (k + 1) y p (by simpa using a) (by simpa using b))
          refine key ys _ (by simp; omega) fun k y p a1 a2 => ?_
          have hk := (List.getElem?_eq_some_iff.1 a1).1
          obtain ⟨q, y', e1, e2, e3, e4⟩ := hparts k (by omega)
          rw [a1] at e3; cases e3
          rw [List.getElem?_map, Array.getElem?_toList, e1] at a2
          simp at a2; subst a2
          exact e4
        have hfill : ∀ cells : Array Value, cells.size = len * ie.sz → Instr.fill (fun i => some (i * ie.sz, ie.sz)) cells (parts.toList.map fun p => (p.1, a.eval p.2)) = some ((parts.toList.map fun p => (p.1, a.eval p.2)).flatMap fun p => p.2.cells.toList).toArray := fun cells hcs => by
          have := fill_lit he.pos 0 (parts.toList.map fun p => (p.1, a.eval p.2)) cells (fun j p hj => by
            rw [List.getElem?_map, Option.map_eq_some_iff] at hj
            obtain ⟨q, hq, rfl⟩ := hj
            have hk := (List.getElem?_eq_some_iff.1 hq).1
            simp at hk
            obtain ⟨p', y', e1, e2, e3, e4⟩ := hparts j (by omega)
            rw [Array.getElem?_toList, e1] at hq
            cases hq
            refine ⟨by simpa using e2, ?_⟩
            have := e4.len
            rw [hf y' (List.mem_of_getElem? e3)] at this
            simpa using this) (by simp [hcs, hlen])
          simpa using this
        have hlw := lit_new (e := e) (vs := ((parts.toList.map fun p => (p.1, a.eval p.2)).flatMap fun p => p.2.cells.toList).toArray) hr he.pos (l := ys) (by simp only [maxLen]; omega) hf (by simpa using hfl)
        refine ⟨_, _, ?_, hlw⟩
        unfold Instr.buildSlice
        rw [Sem.run_bind, run_underlying hs, Result.andThen_ok]
        simp only []
        rw [Sem.run_bind, he.sizeOf, Result.andThen_ok]
        rw [if_neg (by omega)]
        have hmap : (parts.map fun (i, x) => (i, a.eval x)).toList = parts.toList.map fun p => (p.1, a.eval p.2) := by simp
        by_cases h0 : len * ie.sz = 0
        · rw [if_pos h0, Sem.run_bind, Sem.run_pure, Result.andThen_ok, hmap, hfill _ (by simp)]
          simp only []
          rw [Sem.run_bind]
          simp [newRow, hyl]
        · rw [if_neg h0, Sem.run_bind, z1, Result.andThen_ok, Sem.run_bind, Sem.run_pure, Result.andThen_ok, hmap, hfill _ (by simp)]
          simp only []
          rw [Sem.run_bind]
          simp [newRow, hyl]
      · cases h
    · cases h
  · cases h
/-- An operation that leaves own memory as it is: whatever is done with its value. -/
theorem evalX_wp (hT : TTok P tt) (hGl : Lasting G) (htb : Tab.ok P G tb) (hG : G C.w0) (hr : StR C st hd a w) (o : Oper) {x : SV} (h : evalX tt tb st o.op = some x) {K : Act → World → Prop} {Q : Exit → Act → World → Prop}
    (hK : ∀ v w', StR C st hd a w' → RepS (vis C hd) w' hd x v → K (a.put o.dst v) w') : o.wp P a w K Q := by
  unfold evalX at h
  split at h
  · rename_i y hy
    cases h
    obtain ⟨v, h1, h2⟩ := evalOp_ok hT hr o hy
    unfold Oper.wp
    rw [h1]
    exact hK v w hr h2
  · split at h
    · rename_i c hc
      split at h
      · rename_i f hf
        rw [Option.map_eq_some_iff] at h
        obtain ⟨r, hr1, rfl⟩ := h
        unfold St.callR at hr1
        split at hr1
        · rename_i g cap hev
          split at hr1
          · rename_i asl has
            split at hr1
            · rename_i q hq
              have hs := findCo_ok htb hq
              have h3 := hr.ev f
              rw [hev] at h3
              generalize hv : a.eval f = v at h3
              have h4 := h3.toT
              cases h4
              rename_i capv hcl hcx
              unfold Oper.wp
              rw [run_call hc hf hv hs.enter]
              rw [Oper.upon_enter]
              have hGw : G w := hGl _ _ hr.below hG
              have run : ∀ (S : Nat → Prop) (bs : List T), bs.length = c.args.size → Snd P G g (bs ++ cap) q → (∀ b, vis C hd b → S b) → (∀ (k : Nat) (y : T) (x : Operand), bs[k]? = some y → c.args[k]? = some x → RepT S w y (a.eval x)) →
                  (∀ v w', Below w.heap.size w w' → RepT (fun b => S b ∨ w.heap.size ≤ b) w' q v → RepT (vis C hd) w' q v) → q = r → Calls P g (c.args.map a.eval ++ capv) w fun
                    | .returned v, w'' => K (a.put o.dst v) w''
                    | .panicked chain, w'' => Q (.panic chain) a w''
                    | .outgrown, _ => LetsOut Q := by
                intro S bs hl hs hcap hargs hres hqr
                subst hqr
                refine (hs.calls S w _ hGw (by simp; omega) fun k y v h1 h2 => ?_).mono fun e w' hq => ?_
                · by_cases hk : k < bs.length
                  · rw [List.getElem?_append_left hk] at h1
                    rw [Array.getElem?_append_left (by simp; omega), Array.getElem?_map, Option.map_eq_some_iff] at h2
                    obtain ⟨x, hx, rfl⟩ := h2
                    exact hargs k y x h1 hx
                  · rw [List.getElem?_append_right (by omega)] at h1
                    rw [Array.getElem?_append_right (by simp; omega)] at h2
                    simp only [Array.size_map, ← hl] at h2
                    exact (hcx _ y v h1 h2).mono hcap
                · obtain ⟨v, rfl, h1, h2⟩ := hq
                  exact hK v w' (hr.grow h2) (.t _ _ (hres v w' h2 h1))
              split at hr1
              · rename_i hfl
                cases hr1
                obtain ⟨l1, l2⟩ := rdL_get has
                simp at l1
                refine run (Own C) asl l1 hs (fun b hb => hb.1) (fun k y x h1 h2 => ?_) (fun v w' _ hrep => hrep.flat hfl) rfl
                have : (c.args.toList.map st.ev)[k]? = some (st.ev x) := by rw [List.getElem?_map, Array.getElem?_toList, h2]; rfl
                exact rd_ok hr (hr.ev x) (l2 k _ y this h1)
              · split at hr1
                · rename_i bs hbs
                  cases hr1
                  obtain ⟨l1, l2⟩ := trL_get hbs
                  simp at l1
                  have hab : asl = bs := Option.some.inj (has.symm.trans (rdL_of_trL _ hbs))
                  subst hab
                  refine run (vis C hd) asl l1 hs (fun b hb => hb) (fun k y x h1 h2 => ?_) (fun v w' hb hrep => hrep.mono fun b hb' => ?_) rfl
                  · have : (c.args.toList.map st.ev)[k]? = some (st.ev x) := by rw [List.getElem?_map, Array.getElem?_toList, h2]; rfl
                    exact tr_ok hr (hr.ev x) (l2 k _ y this h1)
                  · rcases hb' with hb' | hb'
                    · exact hb'
                    · refine ⟨hr.ext.fresh hb', fun g hg e => ?_⟩
                      have := (hr.own g b hg e).2; omega
                · cases hr1
            · cases hr1
          · cases hr1
        · cases hr1
      · cases h
    · rename_i t len parts hc
      split at h
      · rename_i i hi
        split at h
        · rename_i e hk
          split at h
          · rename_i ie he
            obtain ⟨v, w', h1, h2, h3⟩ := litQ_ok hr (hT t i hi) hk (hT e ie he) h
            obtain ⟨dst, op, ty, pos, after, guard⟩ := o
            simp only at hc
            subst hc
            unfold Oper.wp
            have : (execOp a.eval ⟨dst, .buildSlice t len parts, ty, pos, after, guard⟩).run P w = .ok (.value v) w' := run_val h1
            rw [this]
            exact hK v w' h2 h3
          · cases h
        · cases h
      · cases h
    · rename_i t x lo hi hc
      obtain ⟨dst, op, ty, pos, after, guard⟩ := o
      simp only at hc
      subst hc
      have hb : ∀ {o : Option Operand} {b : Option Nat}, st.bd o = some b → (o.map a.eval = none ∧ b = none) ∨ ∃ k n, o.map a.eval = some (.int k (n : Nat)) ∧ b = some n := fun h => by
        rcases bd_ok hr h with ⟨rfl, rfl⟩ | ⟨y, k, n, rfl, rfl, e⟩
        · exact .inl ⟨rfl, rfl⟩
        · exact .inr ⟨k, n, by rw [Option.map_some, e], rfl⟩
      split at h
      · rename_i i bl bh hi' hl hh
        split at h
        · rename_i e hk
          split at h
          · rename_i ie he
            obtain ⟨u, h1, h3⟩ := sliceQ_ok hr (hT t i hi') hk (hT e ie he) (hb hl) (hb hh) h (hr.ev x)
            unfold Oper.wp
            have : (execOp a.eval ⟨dst, .slice t x lo hi none, ty, pos, after, guard⟩).run P w = .ok (.value u) w := run_val h1
            rw [this]
            exact hK u w hr h3
          · cases h
        · rename_i hk
          obtain ⟨u, h1, h3⟩ := strSlice_ok (hT t i hi') hk (hb hl) (hb hh) h (hr.ev x)
          unfold Oper.wp
          have : (execOp a.eval ⟨dst, .slice t x lo hi none, ty, pos, after, guard⟩).run P w = .ok (.value u) w := run_val h1
          rw [this]
          exact hK u w hr h3
        · rename_i n e hk
          split at h
          · rename_i ie he
            obtain ⟨u, h1, h3⟩ := sliceA_ok hr (hT t i hi') hk (hT e ie he) (hb hl) (hb hh) h (hr.ev x)
            unfold Oper.wp
            have : (execOp a.eval ⟨dst, .slice t x lo hi none, ty, pos, after, guard⟩).run P w = .ok (.value u) w := run_val h1
            rw [this]
            exact hK u w hr h3
          · cases h
        · cases h
      · cases h
    · cases h
theorem stepX_wp (hT : TTok P tt) (hGl : Lasting G) (htb : Tab.ok P G tb) (hG : G C.w0) (hr : StR C st hd a w) (ops : Array Oper) (o : Oper) {st' : St} (h : stepX tt tb ops st o = some st') {K : Act → World → Prop} {Q : Exit → Act → World → Prop} (hK : ∀ hd' a' w', StR C st' hd' a' w' → K a' w') :
    if Region.wanted o (yielded ops a.tmps) then o.wp P a w K Q else K (a.put o.dst undef) w := by
  have go : ∀ {st'}, dstOk st.nt o.dst = true → stepX0 tt tb st o = some st' → (∀ hd' a' w', StR C st' hd' a' w' → K a' w') → o.wp P a w K Q := fun hd h hK => by
    unfold stepX0 at h
    split at h
    · rename_i x hx
      cases h
      exact evalX_wp hT hGl htb hG hr o hx fun v w' h1 h2 => hK _ _ _ (h1.put' rfl hd h2)
    · obtain ⟨n, w', h1, v, h2, hd', h3⟩ := stepOp1_ok hT hr o hd h
      unfold Oper.wp
      rw [h1]
      rcases h2 with rfl | ⟨rfl, rfl⟩
      · exact hK _ _ _ h3
      · exact hK _ _ _ h3
  unfold stepX at h
  split at h
  · rename_i hdst
    split at h
    · rename_i hg
      rw [if_pos (by simp [Region.wanted, hg])]
      exact go hdst h hK
    · rename_i j want hg
      split at h
      · rename_i d hd0
        split at h
        · rename_i b hb
          have h3 := gd_rep (hr.get d) hb
          have hlt : (ops[j]?).bind (·.dst) = some d := hd0
          have hy : yielded ops a.tmps j = b := by
            unfold yielded
            rw [hlt]
            simp only [Option.bind_some]
            rw [← h3]
            cases e : a.tmps[d]? with
            | none => rw [Array.getD_eq_getD_getElem?, e]; rfl
            | some x => rw [Array.getD_eq_getD_getElem?, e]; cases x <;> rfl
          have hw : Region.wanted o (yielded ops a.tmps) = (b == some want) := by
            simp [Region.wanted, hg, hy]
          split at h
          · rename_i e
            subst e
            rw [if_pos (by rw [hw]; simp)]
            exact go hdst h hK
          · rename_i e
            cases h
            rw [if_neg (by rw [hw]; simpa using e)]
            exact hK _ _ _ (hr.put' rfl hdst (undef_rep _ _ _))
        · cases h
      · cases h
  · cases h
variable {Q : Exit → St → Prop}
theorem SL_runX (hT : TTok P tt) (hGl : Lasting G) (htb : Tab.ok P G tb) {ops : Array Oper} : ∀ {l : List Oper} {st st' : St}, runX tt tb ops l st = some st' → Q .normal st' → SL P G ops l Q st
  | [], st, st', h, hq => by simp [runX] at h; subst h; exact SL_nil hq
  | o :: r, st, st', h, hq => by
    unfold runX at h
    split at h
    · rename_i s1 hs
      intro C hd a w hG hr
      unfold wpList
      have := stepX_wp (K := wpList P ops (Lift C Q) r) (Q := Lift C Q) hT hGl htb hG hr ops o hs fun hd' a' w' h' => SL_runX hT hGl htb h hq C hd' a' w' hG h'
      split
      · rename_i hw; rw [if_pos hw] at this; exact .inl this
      · rename_i hw; rw [if_neg hw] at this; exact this
    · cases h
/-- A region whose order is fixed. -/
theorem SW_run (hT : TTok P tt) (hGl : Lasting G) (htb : Tab.ok P G tb) {id : Nat} {l : List Oper} {st st' : St} (h : runX tt tb l.toArray l st = some st') (hq : Q .normal st') : SW P G (.region id l.toArray false) Q st :=
  SW_region (SL_runX hT hGl htb h hq)
end
end Go.Proofs.YtpgkpbfefnpagaaGreatDoor
namespace Go.Proofs.YtpgkpbfefnpagaaGreatDoor
open Go.RowKit

/-- The same state, but for the order of its slots. -/
structure Eqv (s s' : St) : Prop where
  nt : s.nt = s'.nt
  heap : s.heap = s'.heap
  look : ∀ t, look s.tmps t = look s'.tmps t
theorem Eqv.refl (s : St) : Eqv s s := ⟨rfl, rfl, fun _ => rfl⟩
theorem Eqv.symm {s s' : St} (h : Eqv s s') : Eqv s' s := ⟨h.nt.symm, h.heap.symm, fun t => (h.look t).symm⟩
theorem Eqv.trans {s s' s'' : St} (h : Eqv s s') (h' : Eqv s' s'') : Eqv s s'' := ⟨h.nt.trans h'.nt, h.heap.trans h'.heap, fun t => (h.look t).trans (h'.look t)⟩
theorem Eqv.get {s s' : St} (h : Eqv s s') (t : Nat) : s.get t = s'.get t := by unfold St.get; rw [h.look]
theorem Eqv.ev {s s' : St} (h : Eqv s s') (x : Operand) : s.ev x = s'.ev x := by cases x <;> simp only [St.ev]; exact h.get _
theorem Eqv.put {s s' : St} (h : Eqv s s') (d : Option Nat) (x : SV) : Eqv (s.put d x) (s'.put d x) := by
  cases d with
  | none => exact h
  | some d => exact ⟨h.nt, h.heap, fun t => by simp only [St.put, Go.Proofs.YtpgkpbfefnpagaaGreatDoor.look]; rw [h.look]⟩
theorem Eqv.str {C : Ctx} {s s' : St} {hd : List Hd} {a : Act} {w : World} (h : Eqv s s') (hr : StR C s hd a w) : StR C s' hd a w :=
  ⟨hr.below, hr.df, by rw [← h.nt]; exact hr.nt, by rw [← h.heap]; exact hr.hl, by rw [← h.heap]; exact hr.ob, hr.own, hr.dist, fun t x hx => hr.sl t x (by rw [h.look]; exact hx), hr.ext⟩

/-- What an operation gives depends on its operands and on own memory alone. -/
theorem obj_congr {s s' : St} (h : s.heap = s'.heap) (i : Nat) : s.obj i = s'.obj i := by unfold St.obj; rw [h]
theorem lst_congr {s s' : St} (h : s.heap = s'.heap) (x : SV) : s.lst x = s'.lst x := by cases x <;> simp only [St.lst, obj_congr h]
theorem load_congr {s s' : St} (h : s.heap = s'.heap) (i : TI) (x : SV) : s.load i x = s'.load i x := by cases x <;> simp only [St.load, obj_congr h]
theorem index_congr {s s' : St} (h : s.heap = s'.heap) (k : Nat) (n : Int) (x : SV) : s.index k n x = s'.index k n x := by cases x <;> simp only [St.index, obj_congr h]
theorem len_congr {s s' : St} (h : s.heap = s'.heap) (i : TI) (x : SV) : s.len i x = s'.len i x := by unfold St.len; simp only [lst_congr h, obj_congr h]
mutual
theorem rd_congr {s s' : St} (h : s.heap = s'.heap) : ∀ x : SV, s.rd x = s'.rd x
  | .t _ => rfl
  | .nil => rfl
  | .lit _ => rfl
  | .agg l => by simp only [St.rd, rdL_congr h l]
  | .sref i => by simp only [St.rd, obj_congr h]
  | .bptr i off => by simp only [St.rd, obj_congr h]
  | .eptr _ _ _ _ => rfl
  | .cut _ _ => rfl
  | .map _ => rfl
  | .fn _ l => by simp only [St.rd, rdL_congr h l]
  | .pin _ _ => rfl
  | .pinS _ _ _ _ => rfl
theorem rdL_congr {s s' : St} (h : s.heap = s'.heap) : ∀ l : List SV, s.rdL l = s'.rdL l
  | [] => rfl
  | x :: r => by simp only [St.rdL, rd_congr h x, rdL_congr h r]
end
mutual
theorem tr_congr {s s' : St} (h : s.heap = s'.heap) : ∀ x : SV, s.tr x = s'.tr x
  | .t _ => rfl
  | .nil => rfl
  | .lit _ => rfl
  | .agg l => by simp only [St.tr, trL_congr h l]
  | .sref i => by simp only [St.tr, obj_congr h]
  | .bptr i off => by simp only [St.tr, obj_congr h]
  | .eptr _ _ _ _ => rfl
  | .cut _ _ => rfl
  | .map _ => rfl
  | .fn _ l => by simp only [St.tr, trL_congr h l]
  | .pin _ _ => rfl
  | .pinS _ _ _ _ => rfl
theorem trL_congr {s s' : St} (h : s.heap = s'.heap) : ∀ l : List SV, s.trL l = s'.trL l
  | [] => rfl
  | x :: r => by simp only [St.trL, tr_congr h x, trL_congr h r]
end
theorem evalOp_congr {tt : Nat → Option TI} {s s' : St} (hh : s.heap = s'.heap) (op : Op) (h : ∀ x ∈ op.operands, s.ev x = s'.ev x) : evalOp tt s op = evalOp tt s' op := by
  cases op <;> simp only [Op.operands] at h <;> simp only [evalOp]
  case move x => rw [h x (by simp)]
  case assign x => rw [h x (by simp)]
  case nilCheck x => simp only [h x (by simp)]
  case pick c x y => rw [h c (by simp), h x (by simp), h y (by simp)]
  case load t p => simp only [h p (by simp), load_congr hh]
  case binOp op t x y u => simp only [h x (by simp), h y (by simp)]
  case unOp op t x => cases op <;> simp only [h x (by simp)]
  case fieldAddr t x f => simp only [h x (by simp)]
  case indexAddr t x i => simp only [h x (by simp), h i (by simp), index_congr hh]
  case extract x k => simp only [h x (by simp)]
  case makeInterface t x => simp only [h x (by simp)]
  case convert s t x => simp only [h x (by simp), lst_congr hh]
  case build t parts =>
    have : (parts.toList.map fun p => (p.1, s.ev p.2)) = parts.toList.map fun p => (p.1, s'.ev p.2) := List.map_congr_left fun p hp => by rw [h p.2 (by simp; exact ⟨p.1, by simpa using hp⟩)]
    rw [this]
  case lookup t m k ok => simp only [h m (by simp), h k (by simp), obj_congr hh]
  case index t x i => simp only [h x (by simp), h i (by simp)]
  case makeFunc fn first cap =>
    have : cap.toList.map s.ev = cap.toList.map s'.ev := List.map_congr_left fun p hp => h p (by simp at hp ⊢; exact .inr hp)
    rw [this]
  case call c =>
    have ha : ∀ x ∈ c.args.toList, s.ev x = s'.ev x := fun x hx => h x (by simp [Call.operands] at hx ⊢; exact .inr hx)
    cases hc : c.callee with
    | value f => rfl
    | invoke r m => rfl
    | builtin b =>
      cases b <;> simp only
      all_goals
        generalize hl : c.args.toList = l at ha ⊢
        match l, ha with
        | [], _ => rfl
        | [x], ha => have e := ha x List.mem_cons_self; first | rfl | (generalize c.argTypes.toList = ats; match ats with | [] => rfl | [t] => simp only [e, len_congr hh] | _ :: _ :: _ => rfl)
        | [x, y], ha => have e := ha x List.mem_cons_self; have e2 := ha y (List.mem_cons_of_mem _ List.mem_cons_self); simp only [e, e2]
        | _ :: _ :: _ :: _, _ => rfl
theorem evalX_congr {tt : Nat → Option TI} {tb : Tab} {s s' : St} (hh : s.heap = s'.heap) (op : Op) (h : ∀ x ∈ op.operands, s.ev x = s'.ev x) : evalX tt tb s op = evalX tt tb s' op := by
  unfold evalX
  rw [evalOp_congr hh op h]
  split
  · rfl
  · split
    · rename_i c _
      have ha : c.args.toList.map s.ev = c.args.toList.map s'.ev := List.map_congr_left fun x hx => h x (by simp [Op.operands, Call.operands] at hx ⊢; exact .inr hx)
      split
      · rename_i f hf
        rw [h f (by simp [Op.operands, Call.operands, hf]), ha]
        unfold St.callR
        simp only [rdL_congr hh, trL_congr hh]
      · rfl
    · rename_i t len parts _
      have : (parts.toList.map fun p => s.ev p.2) = parts.toList.map fun p => s'.ev p.2 := List.map_congr_left fun p hp => by rw [h p.2 (by simp [Op.operands]; exact ⟨p.1, by simpa using hp⟩)]
      simp only [St.litQ, this, trL_congr hh]
    · rename_i t x lo hi _
      have hb : ∀ o : Option Operand, (∀ y, o = some y → y ∈ (Op.slice t x lo hi none).operands) → s.bd o = s'.bd o := fun o ho => by
        cases o with
        | none => rfl
        | some y => simp only [St.bd]; rw [h y (ho y rfl)]
      rw [hb lo (fun y e => by subst e; simp [Op.operands]), hb hi (fun y e => by subst e; simp [Op.operands]), h x (by simp [Op.operands])]
      have hs : ∀ isz y bl bh, s.sliceQ isz y bl bh = s'.sliceQ isz y bl bh := fun isz y bl bh => by unfold St.sliceQ; simp only [obj_congr hh]
      have hs2 : ∀ n isz y bl bh, s.sliceA n isz y bl bh = s'.sliceA n isz y bl bh := fun n isz y bl bh => by unfold St.sliceA; simp only [obj_congr hh]
      simp only [hs, hs2]
    · rfl
/-- One own object more. -/
theorem obj_grow {s s' : St} {o : Ob} (h : s'.heap = s.heap ++ [o]) {i : Nat} {q : Ob} (hq : s.obj i = q) (hne : q ≠ .gone) : s'.obj i = q := by
  unfold St.obj at hq ⊢
  by_cases hi : i < s.heap.length
  · rw [h, List.getElem?_append_left hi]; exact hq
  · rw [List.getElem?_eq_none (by omega)] at hq
    exact (hne hq.symm).elim
theorem load_grow {s s' : St} {o : Ob} (h : s'.heap = s.heap ++ [o]) {i : TI} {x y : SV} (hl : s.load i x = some y) : s'.load i x = some y := by
  unfold St.load at hl ⊢
  split at hl
  · exact hl
  · split at hl
    · rename_i ho; rw [obj_grow h ho (by simp)]; exact hl
    · rename_i ho; rw [obj_grow h ho (by simp)]; exact hl
    · cases hl
  · split at hl
    · rename_i ho; rw [obj_grow h ho (by simp)]; exact hl
    · cases hl
  · cases hl
theorem index_grow {s s' : St} {o : Ob} (h : s'.heap = s.heap ++ [o]) {isz : Nat} {n : Int} {x y : SV} (hl : s.index isz n x = some y) : s'.index isz n x = some y := by
  unfold St.index at hl ⊢
  split at hl
  · exact hl
  · exact hl
  · split at hl
    · rename_i ho; rw [obj_grow h ho (by simp)]; exact hl
    · rename_i ho; rw [obj_grow h ho (by simp)]; exact hl
    · cases hl
  · cases hl
/-- An operation that leaves own memory as it is. -/
def quietOp : Op → Bool
  | .move _ | .assign _ | .nilCheck _ | .pick .. | .load .. | .binOp .. | .unOp .. | .fieldAddr .. | .indexAddr .. | .extract .. | .makeInterface .. | .convert .. | .build .. | .makeFunc .. | .buildSlice .. | .lookup .. | .index .. => true
  | .slice _ _ _ _ none => true
  | .call c => match c.callee with
    | .value _ => true
    | .builtin .len => true
    | .builtin .max => true
    | .builtin .min => true
    | _ => false
  | _ => false
/-- All that must come ahead of an operation, as bits. -/
def ancM (l : List Nat) (y : Oper) : Nat := y.after.toList.foldr (fun e acc => if Region.binds .any e then acc ||| 2 ^ e.on ||| l.getD e.on 0 else acc) 0
def ancs (ops : Array Oper) : Nat → List Nat
  | 0 => []
  | n + 1 => ancs ops n ++ [match ops[n]? with | some y => ancM (ancs ops n) y | none => 0]
theorem ancs_length (ops : Array Oper) : ∀ n, (ancs ops n).length = n
  | 0 => rfl
  | n + 1 => by simp [ancs, ancs_length ops n]
theorem ancs_get (ops : Array Oper) : ∀ n i y, i < n → ops[i]? = some y → (ancs ops n).getD i 0 = ancM (ancs ops i) y
  | 0, i, y, h, _ => by omega
  | n + 1, i, y, h, hy => by
    simp only [ancs, List.getD_eq_getElem?_getD]
    by_cases e : i = n
    · subst e
      rw [List.getElem?_append_right (by rw [ancs_length]; exact Nat.le_refl _), ancs_length, Nat.sub_self, hy]; rfl
    · rw [List.getElem?_append_left (by rw [ancs_length]; omega), ← List.getD_eq_getElem?_getD]
      exact ancs_get ops n i y (by omega) hy
theorem ancM_bit {l : List Nat} {j : Nat} {y : Oper} (h : (ancM l y).testBit j = true) : ∃ e ∈ y.after, Region.binds .any e = true ∧ (e.on = j ∨ (l.getD e.on 0).testBit j = true) := by
  have : ∀ q : List Edge, (q.foldr (fun e acc => if Region.binds .any e then acc ||| 2 ^ e.on ||| l.getD e.on 0 else acc) 0).testBit j = true → ∃ e ∈ q, Region.binds .any e = true ∧ (e.on = j ∨ (l.getD e.on 0).testBit j = true) := by
    intro q
    induction q with
    | nil => intro h; simp at h
    | cons e q ih =>
      intro h
      simp only [List.foldr_cons] at h
      split at h
      · rename_i hb
        rw [Nat.testBit_or, Nat.testBit_or, Bool.or_eq_true, Bool.or_eq_true] at h
        rcases h with (h | h) | h
        · obtain ⟨e', a, b⟩ := ih h
          exact ⟨e', List.mem_cons_of_mem _ a, b⟩
        · rw [Nat.testBit_two_pow] at h
          exact ⟨e, List.mem_cons_self, hb, .inl (by simpa using h)⟩
        · exact ⟨e, List.mem_cons_self, hb, .inr h⟩
      · obtain ⟨e', a, b⟩ := ih h
        exact ⟨e', List.mem_cons_of_mem _ a, b⟩
  obtain ⟨e, a, b⟩ := this _ h
  exact ⟨e, by simpa using a, b⟩
/-- What has come up has come up behind all that must come ahead of it. -/
theorem ancs_closed {ops : Array Oper} {L : Nat → Prop} (hL : ∀ i y, L i → ops[i]? = some y → ∀ e ∈ y.after, Region.binds .any e = true → L e.on) : ∀ (i n j : Nat) (y : Oper), i < n → ops[i]? = some y → (∀ e ∈ y.after, Region.binds .any e = true → L e.on) → ((ancs ops n).getD i 0).testBit j = true → L j := by
  intro i
  induction i using Nat.strongRecOn with
  | _ i ih =>
    intro n j y hn hy hd hb
    rw [ancs_get ops n i y hn hy] at hb
    obtain ⟨e, he, hbe, h | h⟩ := ancM_bit hb
    · rw [← h]; exact hd e he hbe
    · by_cases hlt : e.on < i
      · have hon : e.on < ops.size := by have := (Array.getElem?_eq_some_iff.1 hy).1; omega
        exact ih e.on hlt i j _ hlt (Array.getElem?_eq_getElem hon) (hL e.on _ (hd e he hbe) (Array.getElem?_eq_getElem hon)) h
      · rw [List.getD_eq_getElem?_getD, List.getElem?_eq_none (by rw [ancs_length]; omega)] at h
        simp at h
/-- Operations that only look at slots; and such that read besides. -/
def pureOp : Op → Bool
  | .move _ | .assign _ | .nilCheck _ | .pick .. | .binOp .. | .unOp .. | .extract .. | .makeInterface .. | .build .. => true
  | _ => false
def simpleOp : Op → Bool
  | .load .. | .fieldAddr .. | .indexAddr .. => true
  | op => pureOp op
def allocOp : Op → Bool
  | .alloc _ => true
  | _ => false
def storeOp : Op → Bool
  | .store .. => true
  | _ => false
/-- The second one may come ahead of the first one. -/
def mayPass (x y : Oper) : Bool := quietOp x.op && (quietOp y.op || (y.guard.isNone && ((allocOp y.op && simpleOp x.op) || (storeOp y.op && pureOp x.op))))
/-- The index does not wait for the other one, and neither looks at the other one's slot. -/
def commB (ops : Array Oper) (j i : Nat) : Bool := match ops[j]?, ops[i]? with
  | some x, some y => x.apart ops y && mayPass x y
  | _, _ => true
def topoB (ops : Array Oper) : Bool := (List.range ops.size).all fun i => match ops[i]? with
  | some y => y.after.all (fun e => !Region.binds .any e || decide (e.on < i)) && (List.range i).all (fun j => ((ancs ops ops.size).getD i 0).testBit j || commB ops j i)
  | none => true
noncomputable def stepI (tt : Nat → Option TI) (tb : Tab) (ops : Array Oper) (k : Nat) (s : St) : Option St := match ops[k]? with
  | some o => if quietOp o.op = true then (if dstOk s.nt o.dst = true then match o.guard with
      | none => (evalX tt tb s o.op).map (s.put o.dst)
      | some (j, want) => match (ops[j]?).bind (·.dst) with
        | some d => match (s.get d).gd with
          | some b => if b = some want then (evalX tt tb s o.op).map (s.put o.dst) else some (s.put o.dst (.t (.tup [])))
          | none => none
        | none => none
      else none) else stepX tt tb ops s o
  | none => some s
noncomputable def runI (tt : Nat → Option TI) (tb : Tab) (ops : Array Oper) : List Nat → St → Option St
  | [], s => some s
  | k :: r, s => match stepI tt tb ops k s with
    | some s' => runI tt tb ops r s'
    | none => none
section
variable {P : Program} {G : World → Prop} {tt : Nat → Option TI} {tb : Tab} {ops : Array Oper}
theorem stepI_stepX {k : Nat} {s s' : St} {o : Oper} (ho : ops[k]? = some o) (h : stepI tt tb ops k s = some s') : stepX tt tb ops s o = some s' := by
  unfold stepI at h
  rw [ho] at h
  simp only at h
  split at h
  · unfold stepX
    split at h
    · rename_i hd
      rw [if_pos hd]
      have key : ∀ {s'}, (evalX tt tb s o.op).map (s.put o.dst) = some s' → stepX0 tt tb s o = some s' := fun h => by
        rw [Option.map_eq_some_iff] at h
        obtain ⟨x, hx, rfl⟩ := h
        unfold stepX0
        rw [hx]
      split at h
      · rename_i hg; (try rw [hg]); exact key h
      · rename_i j want hg
        try rw [hg]
        try simp only
        split at h
        · rename_i d hd0
          try rw [hd0]
          try simp only
          split at h
          · rename_i b hb
            try rw [hb]
            try simp only
            split at h
            · rename_i e; (try rw [if_pos e]); exact key h
            · rename_i e; (try rw [if_neg e]); exact h
          · cases h
        · cases h
    · cases h
  · exact h
end
end Go.Proofs.YtpgkpbfefnpagaaGreatDoor
namespace Go.Proofs.YtpgkpbfefnpagaaGreatDoor
open Go.RowKit

theorem look_map (π : Nat → Option Nat) (t : Nat) : ∀ l : List (Nat × SV), look (l.map fun p => (p.1, p.2.ren π)) t = (look l t).map (SV.ren π)
  | [] => rfl
  | p :: l => by
    simp only [List.map_cons, look]
    split
    · rfl
    · exact look_map π t l
theorem Eqv.withHeap {s s' : St} (h : Eqv s s') (heap : List Ob) : Eqv { s with heap := heap } { s' with heap := heap } := ⟨h.nt, rfl, h.look⟩
theorem append_congr {s s' : St} (h : Eqv s s') {e sz : Nat} {x y : SV} {xs : List T} {t : St} (ha : s.append e sz x xs = some (t, y)) : ∃ t', s'.append e sz x xs = some (t', y) ∧ Eqv t t' := by
  unfold St.append at ha ⊢
  simp only [← obj_congr h.heap, ← h.heap]
  split at ha
  · cases ha; exact ⟨_, rfl, h.withHeap _⟩
  · split at ha
    · rename_i hc; cases ha; rw [if_pos hc]; exact ⟨_, rfl, h.withHeap _⟩
    · cases ha
  · split at ha
    · split at ha
      · rename_i ho _ hc
        cases ha
        try simp only
        rw [if_pos hc]
        exact ⟨_, rfl, h.nt, rfl, fun t => by simp only [look_map, h.look]⟩
      · cases ha
    · cases ha
  · split at ha
    · split at ha
      · rename_i ho _ hc
        cases ha
        try simp only
        rw [if_pos hc]
        exact ⟨_, rfl, h.nt, rfl, fun t => by simp only [look_map, h.look]⟩
      · cases ha
    · cases ha
  · cases ha
theorem store_congr {s s' : St} (h : Eqv s s') {i : TI} {p x : SV} {t : St} (ha : s.store i p x = some t) : ∃ t', s'.store i p x = some t' ∧ Eqv t t' := by
  unfold St.store at ha ⊢
  simp only [← obj_congr h.heap, ← h.heap]
  split at ha
  · split at ha
    · split at ha
      · rename_i hc; cases ha; (try simp only); rw [if_pos hc]; exact ⟨_, rfl, h.withHeap _⟩
      · cases ha
    · cases ha
  · split at ha
    · split at ha
      · split at ha
        · split at ha
          · rename_i hc _ _ hz
            cases ha
            try simp only
            rw [if_pos hc]
            exact ⟨_, rfl, h.withHeap _⟩
          · cases ha
        · cases ha
      · cases ha
    · cases ha
  · cases ha
theorem litS_congr {s s' : St} (h : Eqv s s') {ie : TI} {len : Nat} {parts : List (Nat × Operand)} {t : St} {y : SV} (ha : s.litS ie len parts = some (t, y)) : ∃ t', s'.litS ie len parts = some (t', y) ∧ Eqv t t' := by
  unfold St.litS at ha ⊢
  have e : (parts.map fun p => s.ev p.2) = parts.map fun p => s'.ev p.2 := List.map_congr_left fun p _ => h.ev _
  rw [e, h.heap] at ha
  split at ha
  · rename_i hc
    rw [if_pos hc]
    split at ha
    · split at ha
      · rename_i hall
        cases ha
        rw [if_pos hall]
        exact ⟨_, rfl, h.withHeap _⟩
      · cases ha
    · cases ha
  · cases ha
theorem bd_congr {s s' : St} (h : Eqv s s') (o : Option Operand) : s.bd o = s'.bd o := by cases o <;> simp only [St.bd]; rw [h.ev]
theorem mapUp_congr {s s' : St} (h : Eqv s s') {kk : KK} {m k x : SV} {t : St} (ha : s.mapUp kk m k x = some t) : ∃ t', s'.mapUp kk m k x = some t' ∧ Eqv t t' := by
  unfold St.mapUp at ha ⊢
  simp only [← obj_congr h.heap, ← h.heap]
  split at ha
  · split at ha
    · split at ha
      · rename_i hc; cases ha; (try simp only); rw [if_pos hc]; exact ⟨_, rfl, h.withHeap _⟩
      · cases ha
    · cases ha
  · cases ha
theorem slice_congr {s s' : St} (h : Eqv s s') {isz : Nat} {x y : SV} {lo hi : Option Nat} {t : St} (ha : s.slice isz x lo hi = some (t, y)) : ∃ t', s'.slice isz x lo hi = some (t', y) ∧ Eqv t t' := by
  unfold St.slice at ha ⊢
  simp only [← obj_congr h.heap, ← h.heap]
  split at ha
  · split at ha
    · rename_i hc; cases ha; (try simp only); rw [if_pos hc]; exact ⟨_, rfl, h⟩
    · cases ha
  · split at ha
    · split at ha
      · rename_i hc; cases ha; (try simp only); rw [if_pos hc]; exact ⟨_, rfl, h.nt, rfl, fun t => by simp only [look_map, h.look]⟩
      · cases ha
    · split at ha
      · rename_i hc; cases ha; (try simp only); rw [if_pos hc]; exact ⟨_, rfl, h⟩
      · cases ha
    · cases ha
  · split at ha
    · rename_i hc; cases ha; (try simp only); rw [if_pos hc]; exact ⟨_, rfl, h⟩
    · cases ha
  · split at ha
    · rename_i hc; cases ha; (try simp only); rw [if_pos hc]; exact ⟨_, rfl, h⟩
    · cases ha
  · cases ha
theorem map_congrE {α : Type} {x : Option (St × α)} {x' : Option (St × α)} {t : St} {d : Option Nat} {f : α → SV} (hx : ∀ u y, x = some (u, y) → ∃ u', x' = some (u', y) ∧ Eqv u u') (h : x.map (fun p => p.1.put d (f p.2)) = some t) : ∃ t', x'.map (fun p => p.1.put d (f p.2)) = some t' ∧ Eqv t t' := by
  rw [Option.map_eq_some_iff] at h
  obtain ⟨⟨u, y⟩, hu, rfl⟩ := h
  obtain ⟨u', h1, h2⟩ := hx u y hu
  exact ⟨_, by rw [h1]; rfl, h2.put _ _⟩
theorem stepOp1_congr {tt : Nat → Option TI} {s s' : St} (h : Eqv s s') {o : Oper} {t : St} (hs : stepOp1 tt s o = some t) : ∃ t', stepOp1 tt s' o = some t' ∧ Eqv t t' := by
  obtain ⟨dst, op, ty, pos, after, guard⟩ := o
  cases op <;> simp only [stepOp1] at hs ⊢
  case alloc e =>
    split at hs
    · cases hs; simp only [h.heap]; exact ⟨_, rfl, (h.withHeap _).put _ _⟩
    · cases hs
  case box e x =>
    rw [h.ev x, h.heap] at hs
    split at hs
    · rename_i hc; cases hs; rw [if_pos hc]; exact ⟨_, rfl, (h.withHeap _).put _ _⟩
    · cases hs
  case buildSlice t len parts =>
    split at hs
    · split at hs
      · split at hs
        · exact map_congrE (f := fun y => y) (fun u y hu => litS_congr h hu) hs
        · cases hs
      · cases hs
    · cases hs
  case makeSlice t l c =>
    rw [h.ev l, h.ev c, h.heap] at hs
    split at hs
    · split at hs
      · split at hs
        · split at hs
          · rename_i hc; cases hs; rw [if_pos hc]; exact ⟨_, rfl, (h.withHeap _).put _ _⟩
          · cases hs
        · cases hs
      · cases hs
    · cases hs
  case store t p x =>
    rw [h.ev p, h.ev x] at hs
    split at hs
    · rw [Option.map_eq_some_iff] at hs
      obtain ⟨u, hu, rfl⟩ := hs
      obtain ⟨u', h1, h2⟩ := store_congr h hu
      exact ⟨_, by rw [h1]; rfl, h2.put _ _⟩
    · cases hs
  case makeMap t r =>
    cases r
    · simp only at hs ⊢
      split at hs
      · split at hs
        · cases hs; simp only [h.heap]; exact ⟨_, rfl, (h.withHeap _).put _ _⟩
        · cases hs
      · cases hs
    · cases hs
  case mapUpdate t m k x =>
    rw [h.ev m, h.ev k, h.ev x] at hs
    split at hs
    · split at hs
      · rw [Option.map_eq_some_iff] at hs
        obtain ⟨u, hu, rfl⟩ := hs
        obtain ⟨u', h1, h2⟩ := mapUp_congr h hu
        exact ⟨_, by rw [h1]; rfl, h2.put _ _⟩
      · cases hs
    · cases hs
  case insert t m k x =>
    rw [h.ev m, h.ev k, h.ev x] at hs
    split at hs
    · split at hs
      · rw [Option.map_eq_some_iff] at hs
        obtain ⟨u, hu, rfl⟩ := hs
        obtain ⟨u', h1, h2⟩ := mapUp_congr h hu
        exact ⟨_, by rw [h1]; rfl, h2.put _ _⟩
      · cases hs
    · cases hs
  case slice t x lo hi mx =>
    cases mx
    · simp only at hs ⊢
      rw [h.ev x, bd_congr h, bd_congr h] at hs
      split at hs
      · split at hs
        · split at hs
          · exact map_congrE (f := fun y => y) (fun u y hu => slice_congr h hu) hs
          · cases hs
        · rw [Option.map_eq_some_iff] at hs
          obtain ⟨u, hu, rfl⟩ := hs
          exact ⟨_, by rw [hu]; rfl, h.put _ _⟩
        · cases hs
      · cases hs
    · cases hs
  case call c =>
    obtain ⟨callee, args, ats⟩ := c
    have hev : s.ev = s'.ev := funext h.ev
    have hal : ∀ x xs, s.appLen x xs = s'.appLen x xs := fun x xs => by unfold St.appLen; simp only [lst_congr h.heap]
    simp only [hev, lst_congr h.heap, hal] at hs
    simp only
    split at hs
    · split at hs
      · split at hs
        · rename_i htt
          split at hs
          · split at hs
            · split at hs
              · split at hs
                · split at hs
                  · rename_i hc
                    rw [if_pos htt]
                    rw [if_pos hc]
                    exact map_congrE (f := fun y => y) (fun u y hu => append_congr h hu) hs
                  · cases hs
                · cases hs
              · cases hs
            · cases hs
          · cases hs
        · cases hs
      · cases hs
    · cases hs
  all_goals cases hs
section
variable {P : Program} {G : World → Prop} {tt : Nat → Option TI} {tb : Tab} {ops : Array Oper}
theorem stepX_congr {s s' : St} (h : Eqv s s') {o : Oper} {t : St} (hs : stepX tt tb ops s o = some t) : ∃ t', stepX tt tb ops s' o = some t' ∧ Eqv t t' := by
  have h0 : ∀ {t}, stepX0 tt tb s o = some t → ∃ t', stepX0 tt tb s' o = some t' ∧ Eqv t t' := fun hs => by
    unfold stepX0 at hs ⊢
    rw [evalX_congr h.heap o.op (fun x _ => h.ev x)] at hs
    split at hs
    · cases hs; exact ⟨_, rfl, h.put _ _⟩
    · exact stepOp1_congr h hs
  unfold stepX at hs ⊢
  rw [h.nt] at hs
  split at hs
  · rename_i hd
    rw [if_pos hd]
    split at hs
    · exact h0 hs
    · split at hs
      · rw [h.get] at hs
        split at hs
        · split at hs
          · rename_i e; simp only [e, if_true]; exact h0 hs
          · rename_i e; cases hs; simp only [e, if_false]; exact ⟨_, rfl, h.put _ _⟩
        · cases hs
      · cases hs
  · cases hs
theorem stepI_congr {s s' : St} (h : Eqv s s') {k : Nat} {t : St} (hs : stepI tt tb ops k s = some t) : ∃ t', stepI tt tb ops k s' = some t' ∧ Eqv t t' := by
  unfold stepI at hs ⊢
  split at hs
  · split at hs
    · rename_i o ho hq
      simp only [hq, if_true]
      rw [h.nt] at hs
      have h0 : ∀ {t}, (evalX tt tb s o.op).map (s.put o.dst) = some t → ∃ t', (evalX tt tb s' o.op).map (s'.put o.dst) = some t' ∧ Eqv t t' := fun hs => by
        rw [evalX_congr h.heap o.op (fun x _ => h.ev x), Option.map_eq_some_iff] at hs
        obtain ⟨x, hx, rfl⟩ := hs
        exact ⟨_, by rw [hx]; rfl, h.put _ _⟩
      split at hs
      · rename_i hd
        rw [if_pos hd]
        split at hs
        · exact h0 hs
        · split at hs
          · rw [h.get] at hs
            split at hs
            · split at hs
              · rename_i e; simp only [e, if_true]; exact h0 hs
              · rename_i e; cases hs; simp only [e, if_false]; exact ⟨_, rfl, h.put _ _⟩
            · cases hs
          · cases hs
      · cases hs
    · rename_i hq
      simp only [hq, Bool.false_eq_true, if_false]
      exact stepX_congr h hs
  · cases hs; exact ⟨_, rfl, h⟩
theorem runI_congr : ∀ {l : List Nat} {s s' : St}, Eqv s s' → ∀ {t : St}, runI tt tb ops l s = some t → ∃ t', runI tt tb ops l s' = some t' ∧ Eqv t t'
  | [], s, s', h, t, hs => by simp [runI] at hs; subst hs; exact ⟨_, rfl, h⟩
  | k :: r, s, s', h, t, hs => by
    unfold runI at hs ⊢
    split at hs
    · rename_i u hu
      obtain ⟨u', h1, h2⟩ := stepI_congr h hu
      rw [h1]
      exact runI_congr h2 hs
    · cases hs
/-- What a quiet operation does. -/
def quietStep (tt : Nat → Option TI) (tb : Tab) (ops : Array Oper) (s : St) (o : Oper) (x : SV) : Prop := dstOk s.nt o.dst = true ∧
  ((o.guard = none ∧ evalX tt tb s o.op = some x) ∨ ∃ j want d b, o.guard = some (j, want) ∧ (ops[j]?).bind (·.dst) = some d ∧ (s.get d).gd = some b ∧ ((b = some want ∧ evalX tt tb s o.op = some x) ∨ (b ≠ some want ∧ x = .t (.tup []))))
theorem quietStep_iff {s : St} {k : Nat} {o : Oper} (ho : ops[k]? = some o) (hq : quietOp o.op = true) {t : St} : stepI tt tb ops k s = some t ↔ ∃ x, quietStep tt tb ops s o x ∧ t = s.put o.dst x := by
  unfold stepI quietStep
  rw [ho]
  simp only [hq, if_true]
  constructor
  · intro h
    split at h
    · rename_i hd
      split at h
      · rename_i hg
        rw [Option.map_eq_some_iff] at h
        obtain ⟨x, hx, rfl⟩ := h
        exact ⟨x, ⟨hd, .inl ⟨hg, hx⟩⟩, rfl⟩
      · rename_i j want hg
        split at h
        · rename_i d hd0
          split at h
          · rename_i b hb
            split at h
            · rename_i e
              rw [Option.map_eq_some_iff] at h
              obtain ⟨x, hx, rfl⟩ := h
              exact ⟨x, ⟨hd, .inr ⟨j, want, d, b, hg, hd0, hb, .inl ⟨e, hx⟩⟩⟩, rfl⟩
            · rename_i e
              cases h
              exact ⟨_, ⟨hd, .inr ⟨j, want, d, b, hg, hd0, hb, .inr ⟨e, rfl⟩⟩⟩, rfl⟩
          · cases h
        · cases h
    · cases h
  · rintro ⟨x, ⟨hd, h⟩, rfl⟩
    rw [if_pos hd]
    rcases h with ⟨hg, hx⟩ | ⟨j, want, d, b, hg, hd0, hb, h⟩
    · rw [hg]; simp only; rw [hx]; rfl
    · rw [hg]; simp only; rw [hd0]; simp only; rw [hb]; simp only
      rcases h with ⟨e, hx⟩ | ⟨e, rfl⟩
      · rw [if_pos e, hx]; rfl
      · rw [if_neg e]
theorem put_look {s : St} {d : Option Nat} {x : SV} {t : Nat} (h : d ≠ some t) : look (s.put d x).tmps t = look s.tmps t := by
  cases d with
  | none => rfl
  | some d =>
    simp only [St.put, look]
    rw [if_neg (fun e => h (by rw [e]))]
theorem put_ev {s : St} {d : Option Nat} {x : SV} {y : Operand} (h : ∀ t, d = some t → y ≠ .tmp t) : (s.put d x).ev y = s.ev y := by
  cases y with
  | tmp t => simp only [St.ev, St.get]; rw [put_look (fun e => h t e rfl)]
  | _ => rfl
theorem put_heap (s : St) (d : Option Nat) (x : SV) : (s.put d x).heap = s.heap := by cases d <;> rfl
theorem put_nt (s : St) (d : Option Nat) (x : SV) : (s.put d x).nt = s.nt := by cases d <;> rfl
theorem looks_op {o : Oper} {t : Nat} (h : .tmp t ∈ o.op.operands) : t ∈ o.looksAt ops := List.mem_append_left _ (List.mem_filterMap.2 ⟨.tmp t, by simpa using h, rfl⟩)
theorem looks_guard {o : Oper} {j : Nat} {want : Bool} {d : Nat} (hg : o.guard = some (j, want)) (hd : (ops[j]?).bind (·.dst) = some d) : d ∈ o.looksAt ops := by
  refine List.mem_append_right _ ?_
  simp only [hg, hd, Option.toList_some, List.mem_singleton]
theorem quietStep_put {s : St} {o : Oper} {d : Option Nat} {y x : SV} (h : ∀ t, d = some t → t ∉ o.looksAt ops) : quietStep tt tb ops (s.put d y) o x ↔ quietStep tt tb ops s o x := by
  have he : evalX tt tb (s.put d y) o.op = evalX tt tb s o.op := evalX_congr (put_heap _ _ _) _ fun z hz => put_ev fun t e hzt => h t e (looks_op (by rw [← hzt]; exact hz))
  have hgd : ∀ j want dd, o.guard = some (j, want) → (ops[j]?).bind (·.dst) = some dd → (s.put d y).get dd = s.get dd := fun j want dd h1 h2 => by
    unfold St.get
    rw [put_look (fun e => h dd e (looks_guard h1 h2))]
  unfold quietStep
  rw [he, put_nt]
  constructor
  · rintro ⟨h0, h1 | ⟨j, want, dd, b, h1, h2, h3, h4⟩⟩
    · exact ⟨h0, .inl h1⟩
    · exact ⟨h0, .inr ⟨j, want, dd, b, h1, h2, by rw [← hgd j want dd h1 h2]; exact h3, h4⟩⟩
  · rintro ⟨h0, h1 | ⟨j, want, dd, b, h1, h2, h3, h4⟩⟩
    · exact ⟨h0, .inl h1⟩
    · exact ⟨h0, .inr ⟨j, want, dd, b, h1, h2, by rw [hgd j want dd h1 h2]; exact h3, h4⟩⟩
theorem put_comm (s : St) {d e : Option Nat} (x y : SV) (h : ∀ t, d = some t → e ≠ some t) : Eqv ((s.put d x).put e y) ((s.put e y).put d x) := by
  refine ⟨by simp only [put_nt], by simp only [put_heap], fun t => ?_⟩
  by_cases h1 : d = some t
  · subst h1
    rw [put_look (h t rfl)]
    simp only [St.put, look, if_true]
  · by_cases h2 : e = some t
    · subst h2
      rw [put_look h1]
      simp only [St.put, look, if_true]
    · rw [put_look h2, put_look h1, put_look h1, put_look h2]
/-- Two neighbours, exchanged. -/
theorem swap_ok {j i : Nat} {x y : Oper} (hx : ops[j]? = some x) (hy : ops[i]? = some y) (hap : x.apart ops y = true) (hqx : quietOp x.op = true) (hqy : quietOp y.op = true) {s s1 s2 : St} (h1 : stepI tt tb ops j s = some s1) (h2 : stepI tt tb ops i s1 = some s2) :
    ∃ u u', stepI tt tb ops i s = some u ∧ stepI tt tb ops j u = some u' ∧ Eqv s2 u' := by
  obtain ⟨a1, a2, a3⟩ := Oper.apart_spec hap
  obtain ⟨p, hp, rfl⟩ := (quietStep_iff hx hqx).1 h1
  obtain ⟨q, hq, rfl⟩ := (quietStep_iff hy hqy).1 h2
  have hq' := (quietStep_put (ops := ops) a1).1 hq
  exact ⟨s.put y.dst q, (s.put y.dst q).put x.dst p, (quietStep_iff hy hqy).2 ⟨q, hq', rfl⟩, (quietStep_iff hx hqx).2 ⟨p, (quietStep_put a3).2 hp, rfl⟩, put_comm s p q (fun t e => a2 t e)⟩
theorem evalOp_pure {tt : Nat → Option TI} {s s' : St} {op : Op} (hp : pureOp op = true) (h : ∀ x ∈ op.operands, s.ev x = s'.ev x) : evalOp tt s op = evalOp tt s' op := by
  cases op <;> simp only [pureOp] at hp <;> simp only [Op.operands] at h <;> simp only [evalOp] <;> try cases hp
  case move x => rw [h x (by simp)]
  case assign x => rw [h x (by simp)]
  case nilCheck x => simp only [h x (by simp)]
  case pick c x y => rw [h c (by simp), h x (by simp), h y (by simp)]
  case binOp op t x y u => simp only [h x (by simp), h y (by simp)]
  case unOp op t x => cases op <;> simp only [h x (by simp)]
  case extract x k => simp only [h x (by simp)]
  case makeInterface t x => simp only [h x (by simp)]
  case build t parts =>
    have : (parts.toList.map fun p => (p.1, s.ev p.2)) = parts.toList.map fun p => (p.1, s'.ev p.2) := List.map_congr_left fun p hp => by rw [h p.2 (by simp; exact ⟨p.1, by simpa using hp⟩)]
    simp only [this]
theorem evalX_simple {tt : Nat → Option TI} {tb : Tab} {s : St} {op : Op} (hp : simpleOp op = true) {x : SV} : evalX tt tb s op = some x ↔ evalOp tt s op = some x := by
  unfold evalX
  cases he : evalOp tt s op with
  | some y => simp
  | none => cases op <;> simp [simpleOp, pureOp] at hp <;> simp
theorem evalOp_grow {tt : Nat → Option TI} {s s' : St} {o : Ob} (hh : s'.heap = s.heap ++ [o]) {op : Op} (hp : simpleOp op = true) (h : ∀ x, s.ev x = s'.ev x) {y : SV} (he : evalOp tt s op = some y) : evalOp tt s' op = some y := by
  by_cases hq : pureOp op = true
  · rw [← evalOp_pure hq fun x _ => h x]; exact he
  · cases op <;> simp [simpleOp, pureOp] at hp hq <;> simp only [evalOp] at he ⊢
    case load t p =>
      split at he
      · rw [← h]; exact load_grow hh he
      · cases he
    case fieldAddr t x f => rw [← h]; exact he
    case indexAddr t x i =>
      rw [← h, ← h]
      split at he
      · split at he
        · split at he
          · exact index_grow hh he
          · cases he
        · exact he
        · cases he
      · cases he
theorem store_form {s s1 t : St} {i : TI} {p x : SV} (hh : s1.heap = s.heap) (h : s1.store i p x = some t) : ∃ hp, t = { s1 with heap := hp } ∧ s.store i p x = some { s with heap := hp } := by
  unfold St.store at h ⊢
  simp only [obj_congr hh, hh] at h
  split at h
  · split at h
    · split at h
      · rename_i hc; cases h; exact ⟨_, rfl, by rw [if_pos hc]⟩
      · cases h
    · cases h
  · split at h
    · split at h
      · split at h
        · rename_i hc
          split at h
          · rename_i zz hz
            cases h; exact ⟨_, rfl, by rw [if_pos hc]⟩
          · cases h
        · cases h
      · cases h
    · cases h
  · cases h
theorem put_with (s : St) (d : Option Nat) (x : SV) (hp : List Ob) : { s.put d x with heap := hp } = ({ s with heap := hp } : St).put d x := by cases d <;> rfl
theorem swap_late {j i : Nat} {x y : Oper} (hx : ops[j]? = some x) (hy : ops[i]? = some y) (hap : x.apart ops y = true) (hqx : quietOp x.op = true) (hqy : quietOp y.op = false) (hg : y.guard = none) (hl : (allocOp y.op && simpleOp x.op) = true ∨ (storeOp y.op && pureOp x.op) = true) {s s1 s2 : St} (h1 : stepI tt tb ops j s = some s1) (h2 : stepI tt tb ops i s1 = some s2) :
    ∃ u u', stepI tt tb ops i s = some u ∧ stepI tt tb ops j u = some u' ∧ Eqv s2 u' := by
  obtain ⟨a1, a2, a3⟩ := Oper.apart_spec hap
  obtain ⟨p, hp, rfl⟩ := (quietStep_iff hx hqx).1 h1
  have hI : ∀ q : St, stepI tt tb ops i q = if dstOk q.nt y.dst = true then stepX0 tt tb q y else none := fun q => by
    unfold stepI
    rw [hy]
    simp only [hqy, Bool.false_eq_true, if_false]
    unfold stepX
    rw [hg]
  rw [hI] at h2
  split at h2
  · rename_i hd
    rw [put_nt] at hd
    rcases hl with hl | hl
    · rw [Bool.and_eq_true] at hl
      obtain ⟨ha, hs⟩ := hl
      obtain ⟨dst, op, ty, pos, after, guard⟩ := y
      cases op <;> simp [allocOp] at ha
      rename_i e
      have hX : ∀ q : St, stepX0 tt tb q ⟨dst, .alloc e, ty, pos, after, guard⟩ = match tt e with | some i => some (({ q with heap := q.heap ++ [Ob.box i.zero] } : St).put dst (.bptr q.heap.length 0)) | none => none := fun q => by
        simp only [stepX0, evalX, evalOp, stepOp1]
        all_goals (cases tt e <;> rfl)
      rw [hX, put_heap] at h2
      split at h2
      · rename_i ti hti
        cases h2
        refine ⟨({ s with heap := s.heap ++ [Ob.box ti.zero] } : St).put dst (.bptr s.heap.length 0), _, ?_, (quietStep_iff hx hqx).2 ⟨p, (quietStep_put a3).2 ?_, rfl⟩, ?_⟩
        · rw [hI, if_pos hd, hX, hti]
        · obtain ⟨q1, q2⟩ := hp
          refine ⟨q1, ?_⟩
          have hgr : ∀ z, evalX tt tb s x.op = some z → evalX tt tb ({ s with heap := s.heap ++ [Ob.box ti.zero] } : St) x.op = some z := fun z hz =>
            (evalX_simple hs).2 (evalOp_grow (s := s) (s' := ({ s with heap := s.heap ++ [Ob.box ti.zero] } : St)) (o := Ob.box ti.zero) rfl hs (fun _ => rfl) ((evalX_simple hs).1 hz))
          rcases q2 with ⟨g1, g2⟩ | ⟨jj, want, dd, b, g1, g2, g3, g4⟩
          · exact .inl ⟨g1, hgr _ g2⟩
          · refine .inr ⟨jj, want, dd, b, g1, g2, g3, ?_⟩
            rcases g4 with ⟨g4, g5⟩ | g4
            · exact .inl ⟨g4, hgr _ g5⟩
            · exact .inr g4
        · rw [put_with]
          exact put_comm _ p _ (fun t e => a2 t e)
      · cases h2
    · rw [Bool.and_eq_true] at hl
      obtain ⟨ha, hs⟩ := hl
      obtain ⟨dst, op, ty, pos, after, guard⟩ := y
      cases op <;> simp [storeOp] at ha
      rename_i t pp xx
      have hX : ∀ q : St, stepX0 tt tb q ⟨dst, .store t pp xx, ty, pos, after, guard⟩ = match tt t with | some i => (q.store i (q.ev pp) (q.ev xx)).map fun s => s.put dst (.t .undef) | none => none := fun q => by
        simp only [stepX0, evalX, evalOp, stepOp1]
        all_goals (cases tt t <;> rfl)
      have e1 : ∀ z ∈ [pp, xx], (s.put x.dst p).ev z = s.ev z := fun z hz => put_ev fun t ht e => a1 t ht (looks_op (by subst e; simpa [Op.operands] using hz))
      rw [hX, e1 pp (by simp), e1 xx (by simp)] at h2
      split at h2
      · rename_i ti hti
        rw [Option.map_eq_some_iff] at h2
        obtain ⟨s3, h3, rfl⟩ := h2
        obtain ⟨hpp, rfl, h4⟩ := store_form (put_heap s x.dst p) h3
        refine ⟨({ s with heap := hpp } : St).put dst (.t .undef), _, ?_, (quietStep_iff hx hqx).2 ⟨p, (quietStep_put a3).2 ?_, rfl⟩, ?_⟩
        · rw [hI, if_pos hd, hX, hti]
          simp only [h4, Option.map_some]
        · obtain ⟨q1, q2⟩ := hp
          refine ⟨q1, ?_⟩
          have hsim : simpleOp x.op = true := by cases hop : x.op <;> simp [hop, pureOp] at hs <;> simp [simpleOp, pureOp]
          have hgr : ∀ z, evalX tt tb s x.op = some z → evalX tt tb ({ s with heap := hpp } : St) x.op = some z := fun z hz =>
            (evalX_simple hsim).2 ((evalOp_pure (s := ({ s with heap := hpp } : St)) (s' := s) hs fun _ _ => rfl).trans ((evalX_simple hsim).1 hz))
          rcases q2 with ⟨g1, g2⟩ | ⟨jj, want, dd, b, g1, g2, g3, g4⟩
          · exact .inl ⟨g1, hgr _ g2⟩
          · refine .inr ⟨jj, want, dd, b, g1, g2, g3, ?_⟩
            rcases g4 with ⟨g4, g5⟩ | g4
            · exact .inl ⟨g4, hgr _ g5⟩
            · exact .inr g4
        · rw [put_with]
          exact put_comm _ p _ (fun t e => a2 t e)
      · cases h2
  · cases h2
theorem swap_any {j i : Nat} {x y : Oper} (hx : ops[j]? = some x) (hy : ops[i]? = some y) (hap : x.apart ops y = true) (hp : mayPass x y = true) {s s1 s2 : St} (h1 : stepI tt tb ops j s = some s1) (h2 : stepI tt tb ops i s1 = some s2) :
    ∃ u u', stepI tt tb ops i s = some u ∧ stepI tt tb ops j u = some u' ∧ Eqv s2 u' := by
  unfold mayPass at hp
  rw [Bool.and_eq_true] at hp
  cases hq : quietOp y.op with
  | true => exact swap_ok hx hy hap hp.1 hq h1 h2
  | false =>
    have hp2 := hp.2
    rw [hq, Bool.false_or, Bool.and_eq_true, Bool.or_eq_true] at hp2
    exact swap_late hx hy hap hp.1 hq (by simpa using hp2.1) hp2.2 h1 h2
theorem front : ∀ {p q : List Nat} {k : Nat} {s t : St}, (∀ j ∈ p, ∃ x y, ops[j]? = some x ∧ ops[k]? = some y ∧ x.apart ops y = true ∧ mayPass x y = true) → runI tt tb ops (p ++ k :: q) s = some t →
    ∃ s1 t', stepI tt tb ops k s = some s1 ∧ runI tt tb ops (p ++ q) s1 = some t' ∧ Eqv t t'
  | [], q, k, s, t, _, h => by
    simp only [List.nil_append, runI] at h
    split at h
    · rename_i s1 h1; exact ⟨s1, t, h1, h, Eqv.refl _⟩
    · cases h
  | j :: p, q, k, s, t, hp, h => by
    simp only [List.cons_append, runI] at h
    split at h
    · rename_i s1 h1
      obtain ⟨s2, t', e1, e2, e3⟩ := front (fun j' hj' => hp j' (List.mem_cons_of_mem _ hj')) h
      obtain ⟨x, y, hx, hy, ha, hqx⟩ := hp j List.mem_cons_self
      obtain ⟨u, u', f1, f2, f3⟩ := swap_any hx hy ha hqx h1 e1
      obtain ⟨t'', g1, g2⟩ := runI_congr f3 e2
      refine ⟨u, t'', f1, ?_, e3.trans g2⟩
      simp only [List.cons_append, runI, f2]
      exact g1
    · cases h
/-- What has not come up yet, in the order of the text. -/
def left (listed : Array Bool) (n : Nat) : List Nat := (List.range n).filter fun k => !listed.getD k true
theorem wpAny_run {C : Ctx} (hT : TTok P tt) (hGl : Lasting G) (htb : Tab.ok P G tb) (hG : G C.w0) (htopo : topoB ops = true) {Q : Exit → Act → World → Prop} : ∀ (fuel : Nat) (listed : Array Bool) (s t : St) (hd : List Hd) (a : Act) (w : World), listed.size = ops.size → (∀ i y, listed.getD i false = true → ops[i]? = some y → ∀ e ∈ y.after, Region.binds .any e = true → listed.getD e.on false = true) → (left listed ops.size).length = fuel → runI tt tb ops (left listed ops.size) s = some t →
    StR C s hd a w → (∀ t' hd' a' w', Eqv t t' → StR C t' hd' a' w' → Q .normal a' w') → wpAny P .any ops Q fuel listed a w := by
  have htp : ∀ i y, ops[i]? = some y → (∀ e ∈ y.after, Region.binds .any e = true → e.on < i) ∧ ∀ j, j < i → (((ancs ops ops.size).getD i 0).testBit j || commB ops j i) = true := fun i y hy => by
    have hi := (Array.getElem?_eq_some_iff.1 hy).1
    have := List.all_eq_true.1 htopo i (List.mem_range.2 hi)
    rw [hy] at this
    simp only [Bool.and_eq_true] at this
    obtain ⟨h1, h2⟩ := this
    refine ⟨fun e he hb => ?_, fun j hj => List.all_eq_true.1 h2 j (List.mem_range.2 hj)⟩
    have := (Array.all_eq_true_iff_forall_mem.1 h1) e he
    simpa [hb] using this
  have memLeft : ∀ {listed : Array Bool} {k : Nat}, listed.size = ops.size → (k ∈ left listed ops.size ↔ k < ops.size ∧ listed.getD k true = false) := fun {listed k} _ => by
    simp [left]
  intro fuel
  induction fuel with
  | zero =>
    intro listed s t hd a w hsz hcl hl hrun hr hQ
    have hnil : left listed ops.size = [] := List.eq_nil_of_length_eq_zero hl
    rw [hnil] at hrun
    simp [runI] at hrun
    subst hrun
    refine ⟨?_, hQ s hd a w (Eqv.refl _) hr⟩
    apply List.eq_nil_iff_forall_not_mem.2
    intro k hk
    obtain ⟨h1, o, h2, _⟩ := mem_ready.1 hk
    have : k ∈ left listed ops.size := (memLeft hsz).2 ⟨(Array.getElem?_eq_some_iff.1 h2).1, h1⟩
    rw [hnil] at this
    simp at this
  | succ fuel ih =>
    intro listed s t hd a w hsz hcl hl hrun hr hQ
    refine ⟨fun h0 => ?_, fun k hk => ?_⟩
    · -- the first that is left is ready
      exfalso
      obtain ⟨k, r, hkr⟩ : ∃ k r, left listed ops.size = k :: r := by
        cases hL : left listed ops.size with
        | nil => rw [hL] at hl; simp at hl
        | cons k r => exact ⟨k, r, rfl⟩
      have hkm : k ∈ left listed ops.size := by rw [hkr]; exact List.mem_cons_self
      obtain ⟨hlt, hun⟩ := (memLeft hsz).1 hkm
      have hy := Array.getElem?_eq_getElem hlt
      have : k ∈ Region.ready .any ops listed := by
        refine mem_ready.2 ⟨hun, _, hy, fun e he hb => ?_⟩
        have hon := (htp k _ hy).1 e he hb
        cases hle : listed.getD e.on false with
        | true => rfl
        | false =>
          exfalso
          have hm : e.on ∈ left listed ops.size := by
            refine (memLeft hsz).2 ⟨by omega, ?_⟩
            have : e.on < listed.size := by omega
            simp [this] at hle ⊢
            exact hle
          -- a smaller one would stand ahead of k
          have hsorted : (left listed ops.size).Pairwise (· < ·) := List.Pairwise.filter _ List.pairwise_lt_range
          rw [hkr] at hm hsorted
          rcases List.mem_cons.1 hm with e1 | e1
          · omega
          · have := (List.pairwise_cons.1 hsorted).1 _ e1
            omega
      rw [h0] at this
      simp at this
    · obtain ⟨hun, o, ho, hall⟩ := mem_ready.1 hk
      have hlt := (Array.getElem?_eq_some_iff.1 ho).1
      have hkm : k ∈ left listed ops.size := (memLeft hsz).2 ⟨hlt, hun⟩
      obtain ⟨p, q, hpq⟩ := List.append_of_mem hkm
      have hsorted : (left listed ops.size).Pairwise (· < ·) := List.Pairwise.filter _ List.pairwise_lt_range
      rw [hpq] at hsorted hrun
      have hpk : ∀ j ∈ p, j < k := fun j hj => (List.pairwise_append.1 hsorted).2.2 j hj k List.mem_cons_self
      have hcomm : ∀ j ∈ p, ∃ x y, ops[j]? = some x ∧ ops[k]? = some y ∧ x.apart ops y = true ∧ mayPass x y = true := fun j hj => by
        have hjm : j ∈ left listed ops.size := by rw [hpq]; exact List.mem_append_left _ hj
        obtain ⟨hjl, hju⟩ := (memLeft hsz).1 hjm
        have hx := Array.getElem?_eq_getElem hjl
        have hc := (htp k o ho).2 j (hpk j hj)
        rw [Bool.or_eq_true] at hc
        rcases hc with hc | hc
        · exfalso
          have := ancs_closed (L := fun i => listed.getD i false = true) hcl k ops.size j o hlt ho hall hc
          have hj2 : j < listed.size := by omega
          simp [hj2] at this hju
          rw [this] at hju; cases hju
        · unfold commB at hc
          rw [hx, ho] at hc
          simp only [Bool.and_eq_true] at hc
          obtain ⟨c1, c2⟩ := hc
          exact ⟨_, _, hx, ho, c1, c2⟩
      obtain ⟨s1, t', e1, e2, e3⟩ := front hcomm hrun
      have hleft : left (listed.setIfInBounds k true) ops.size = p ++ q := by
        have : left (listed.setIfInBounds k true) ops.size = (left listed ops.size).filter (· ≠ k) := by
          unfold left
          rw [List.filter_filter]
          apply List.filter_congr
          intro x hx
          by_cases hxk : x = k
          · subst hxk
            have : x < listed.size := by omega
            simp [this]
          · have : ¬ k = x := fun e => hxk e.symm
            simp [Array.getElem?_setIfInBounds, this, hxk]
        rw [this, hpq, List.filter_append]
        have f1 : p.filter (· ≠ k) = p := List.filter_eq_self.2 fun x hx => by have := hpk x hx; simp; omega
        have f2 : (k :: q).filter (· ≠ k) = q := by
          rw [List.filter_cons_of_neg (by simp)]
          exact List.filter_eq_self.2 fun x hx => by
            have := (List.pairwise_cons.1 (List.pairwise_append.1 hsorted).2.1).1 x hx
            simp; omega
        rw [f1, f2]
      have hcl' : ∀ i y, (listed.setIfInBounds k true).getD i false = true → ops[i]? = some y → ∀ e ∈ y.after, Region.binds .any e = true → (listed.setIfInBounds k true).getD e.on false = true := fun i y hi hy e he hb => by
        have up : ∀ q, listed.getD q false = true → (listed.setIfInBounds k true).getD q false = true := fun q hq => by
          by_cases hqk : k = q
          · subst hqk
            have : k < listed.size := by omega
            simp [this]
          · simp [Array.getElem?_setIfInBounds, hqk] at hq ⊢; exact hq
        by_cases hik : k = i
        · subst hik
          rw [ho] at hy; cases hy
          exact up _ (hall e he hb)
        · refine up _ (hcl i y ?_ hy e he hb)
          simp [Array.getElem?_setIfInBounds, hik] at hi ⊢; exact hi
      have hlen : (p ++ q).length = fuel := by rw [hpq] at hl; simp at hl ⊢; omega
      have hstep := stepX_wp (P := P) (K := wpAny P .any ops Q fuel (listed.setIfInBounds k true)) (Q := Q) hT hGl htb hG hr ops o (stepI_stepX ho e1) fun hd' a' w' h' =>
        ih (listed.setIfInBounds k true) s1 t' hd' a' w' (by simp [hsz]) hcl' (by rw [hleft]; exact hlen) (by rw [hleft]; exact e2) h' (fun t'' hd'' a'' w'' h1 h2 => hQ t'' hd'' a'' w'' (e3.trans h1) h2)
      unfold wpOp
      rw [ho]
      simp only
      split
      · rename_i hw; rw [if_pos hw] at hstep; exact .inl hstep
      · rename_i hw; rw [if_neg hw] at hstep; exact hstep
theorem left_all (n : Nat) : left (Array.replicate n false) n = List.range n := by
  unfold left
  apply List.filter_eq_self.2
  intro k hk
  have := List.mem_range.1 hk
  simp [this]
theorem StR.drawn {C : Ctx} {s : St} {hd : List Hd} {a : Act} {w : World} (hr : StR C s hd a w) : StR C s hd a { w with drawn := w.drawn + 1 } := hr.grow ⟨rfl, rfl, rfl, Nat.le_refl _, fun _ _ => rfl⟩
/-- A region that draws its order. -/
theorem SW_draw (hm : P.follows .mixedOrders = true) (hT : TTok P tt) (hGl : Lasting G) (htb : Tab.ok P G tb) {id : Nat} {ops : Array Oper} (htopo : topoB ops = true) {Q : Exit → St → Prop} {s t : St} (h : runI tt tb ops (List.range ops.size) s = some t) (hq : Q .normal t) : SW P G (.region id ops true) Q s := fun C hd a w hG hr => by
  refine wp_region_any hm ?_
  exact wpAny_run hT hGl htb hG htopo ops.size (Array.replicate ops.size false) s t hd a _ (by simp) (fun i y hi => by by_cases h : i < ops.size <;> simp [h] at hi) (by rw [left_all]; simp) (by rw [left_all]; exact h) hr.drawn (fun t' hd' a' w' h1 h2 => ⟨t, hd', hq, h1.symm.str h2⟩)
end
end Go.Proofs.YtpgkpbfefnpagaaGreatDoor
namespace Go.Proofs.YtpgkpbfefnpagaaGreatDoor
open Go.RowKit

/-- A count as a number. -/
def tNat (k : Nat) : T := .int .i64 (k : Int)
theorem nLe {a b : Nat} (h : a ≤ b) : (a ≤ b) = True := eq_true h
theorem nNle {a b : Nat} (h : ¬ a ≤ b) : (a ≤ b) = False := eq_false h
theorem nLt {a b : Nat} (h : a < b) : (a < b) = True := eq_true h
theorem nNlt {a b : Nat} (h : ¬ a < b) : (a < b) = False := eq_false h
theorem nEq {a b : Nat} (h : a = b) : (a = b) = True := eq_true h
theorem nNe {a b : Nat} (h : ¬ a = b) : (a = b) = False := eq_false h
theorem iLe {a b : Int} (h : a ≤ b) : (a ≤ b) = True := eq_true h
theorem iNle {a b : Int} (h : ¬ a ≤ b) : (a ≤ b) = False := eq_false h
theorem iLt {a b : Int} (h : a < b) : (a < b) = True := eq_true h
theorem iNlt {a b : Int} (h : ¬ a < b) : (a < b) = False := eq_false h
theorem iEq {a b : Int} (h : a = b) : (a = b) = True := eq_true h
theorem iNe {a b : Int} (h : ¬ a = b) : (a = b) = False := eq_false h
/-- At a loop's head, step by step. -/
theorem Norm.headS {st s1 : St} {own : List (Nat × Nat × Nat × Bool)} {keep ids : List Nat} {l l' : List (Nat × SV)} {heap' : List Ob} (h : st.ownAll own = some s1 ∧ keepL s1.tmps keep = l ∧
    reach s1.heap s1.heap.length (addNew [] (refsL (l.map (·.2)))) 0 = ids ∧ l.map (fun p => (p.1, p.2.ren (posIn ids))) = l' ∧ ids.map (fun i => ((s1.heap[i]?).getD .gone).ren (posIn ids)) = heap') : Norm st ⟨s1.nt, l', heap'⟩ := by
  obtain ⟨h1, h2, h3, h4, h5⟩ := h
  subst h2 h3 h4 h5
  exact (Norm.ownAll h1).trans ((Norm.keep keep s1).trans (Norm.gc [] rfl _))
/-- A variable's cell that is nil, as an own slice. -/
theorem Norm.ownB {st : St} {j off e sz : Nat} {l : List SV} (h : st.heap[j]? = some (.box l)) (hn : l[off]? = some .nil) (h0 : 0 < sz) :
    Norm st { st with heap := (st.heap ++ [Ob.row e sz true []]).set j (Ob.box (l.set off (SV.sref st.heap.length))) } := fun C hd a w hr => by
  have hr1 := hr.new (Below.refl _ _) (.row e sz true []) (.sl none 0 0 none) (fun b hb => by simp [Hd.own] at hb) ⟨rfl, h0, Nat.zero_le _, fun x hx => by simp at hx, .inl ⟨[], World.ownsRow_nil _ _ _ _, rfl, RepL.nil _ _⟩⟩
  have hjl := (List.getElem?_eq_some_iff.1 h).1
  have hnew : (hd ++ [Hd.sl none 0 0 none])[st.heap.length]? = some (.sl none 0 0 none) := by rw [← hr.hl, List.getElem?_append_right (Nat.le_refl _), Nat.sub_self]; rfl
  have hj1 : (st.heap ++ [Ob.row e sz true []])[j]? = some (.box l) := by rw [List.getElem?_append_left hjl]; exact h
  refine ⟨_, hr1.below, hr1.df, hr1.nt, by simpa using hr1.hl, fun i o g h1 h2 => ?_, hr1.own, hr1.dist, hr1.sl, hr1.ext⟩
  simp only at h1
  rw [List.getElem?_set] at h1
  split at h1
  · rename_i e0; subst e0
    split at h1
    · cases h1
      have := hr1.ob j _ _ hj1 h2
      cases g <;> simp only [ObR] at this ⊢ <;> try exact this
      obtain ⟨q1, vs, ty, q2, q3, q4, q5⟩ := this
      refine ⟨q1, vs, ty, q2, by simpa using q3, q4, fun k y v a b => ?_⟩
      rw [List.getElem?_set] at a
      split at a
      · rename_i e1; subst e1
        split at a
        · cases a
          have := q5 off _ v hn b
          cases this
          exact .sref _ _ _ _ none hnew
        · cases a
      · exact q5 k y v a b
    · cases h1
  · exact hr1.ob i o g h1 h2
section
variable {P : Program} {G : World → Prop} {Q : Exit → St → Prop} {st : St} {c : Code}
/-- A slice is no longer than any slice. -/
theorem SW_len {t : Nat} {l : List T} (h : st.get t = .t (.list l)) (hk : l.length ≤ 9223372036854775807 → SW P G c Q st) : SW P G c Q st := fun C hd a w hG hr => by
  have h1 := hr.get t
  rw [h] at h1
  obtain ⟨_, _, _, _, _, hm, _⟩ := h1.toT.listInv
  exact hk hm C hd a w hG hr
theorem SW_lenA {t i : Nat} {l q : List T} (h : st.get t = .t (.agg q)) (hq : q[i]? = some (.list l)) (hk : l.length ≤ 9223372036854775807 → SW P G c Q st) : SW P G c Q st := fun C hd a w hG hr => by
  have h1 := hr.get t
  rw [h] at h1
  have h2 := h1.toT
  generalize a.tmps.getD t undef = v at h2
  cases h2 with
  | agg _ vs hl h1 hx =>
    have hi := (List.getElem?_eq_some_iff.1 hq).1
    obtain ⟨_, _, _, _, _, hm, _⟩ := (hx i _ _ hq (Array.getElem?_eq_getElem (by omega))).listInv
    exact hk hm C hd a w hG hr
end
section
variable {tt : Nat → Option TI} {tb : Tab} {ops : Array Oper} {st s1 s2 : St}
theorem runX_nil : runX tt tb ops [] st = some st := rfl
theorem runX_cons {o : Oper} {r : List Oper} (h1 : stepX tt tb ops st o = some s1) (h2 : runX tt tb ops r s1 = some s2) : runX tt tb ops (o :: r) st = some s2 := by
  unfold runX; rw [h1]; exact h2
theorem runI_nil : runI tt tb ops [] st = some st := rfl
theorem runI_cons {k : Nat} {r : List Nat} (h1 : stepI tt tb ops k st = some s1) (h2 : runI tt tb ops r s1 = some s2) : runI tt tb ops (k :: r) st = some s2 := by
  unfold runI; rw [h1]; exact h2
end
end Go.Proofs.YtpgkpbfefnpagaaGreatDoor
namespace Go.Proofs.YtpgkpbfefnpagaaGreatDoor
open Go.RowKit

/-- A variable that is no longer written. -/
theorem Norm.fixBox {st : St} (j : Nat) {l : List SV} {ts : List T} (h : st.heap[j]? = some (.box l)) (ht : allT l = some ts) : Norm st { st with heap := st.heap.set j (.fbox ts) } := fun C hd a w hr => by
  have hj := (List.getElem?_eq_some_iff.1 h).1
  obtain ⟨g, hh⟩ : ∃ g, hd[j]? = some g := ⟨hd[j]'(by rw [hr.hl]; exact hj), List.getElem?_eq_getElem _⟩
  have hob := hr.ob j _ _ h hh
  cases g <;> simp only [ObR] at hob
  rename_i b o
  obtain ⟨rfl, vs, ty, q1, q2, q3, q4⟩ := hob
  have hts := allT_spec ht
  subst hts
  have hown := hr.own _ b (List.mem_of_getElem? hh) rfl
  have hst : Stay (vis C hd) (vis C (hd.set j (Hd.bx b true).off)) w w := ⟨Nat.le_refl _, fun b hb _ => ⟨rfl, vis_off rfl b hb⟩⟩
  refine ⟨_, hr.set0 j (.fbox ts) _ (Hd.bx b true).off hh (Below.refl _ _) (fun _ _ _ => rfl) (fun b hb => by simp [Hd.own, Hd.off] at hb) (Keeps.set_off hh) ?_⟩
  simp only [List.length_map] at q2
  have hv : ∀ k, k < ts.length → vs[k]? = some (vs.getD k undef) := fun k hk => by
    have : k < vs.size := by omega
    simp [this]
  refine ⟨rfl, .ptr ts b 0 (fun k => vs.getD k undef) (vis_given hr hh rfl rfl) hown.2 (fun k hk => ?_) (fun k hk => q3 k _ (hv k hk)) fun k y hy => ?_⟩
  · rw [Nat.zero_add, World.cell?, q1]
    simpa using hv k hk
  · have hk := (List.getElem?_eq_some_iff.1 hy).1
    have := q4 k (.t y) _ (by rw [List.getElem?_map, hy]; rfl) (hv k hk)
    exact this.toT.keep hst
end Go.Proofs.YtpgkpbfefnpagaaGreatDoor
namespace Go.Proofs.YtpgkpbfefnpagaaGreatDoor
open Go.RowKit

noncomputable def runG (stp : Nat → St → Option St) : List Nat → St → Option St
  | [], s => some s
  | k :: r, s => match stp k s with
    | some s' => runG stp r s'
    | none => none
theorem runG_nil {stp : Nat → St → Option St} {s : St} : runG stp [] s = some s := rfl
section
variable {P : Program} {G : World → Prop} {tt : Nat → Option TI} {tb : Tab} {ops : Array Oper} {stp : Nat → St → Option St}
theorem runG_congr (hC : ∀ k s s' t, Eqv s s' → stp k s = some t → ∃ t', stp k s' = some t' ∧ Eqv t t') : ∀ {l : List Nat} {s s' : St}, Eqv s s' → ∀ {t : St}, runG stp l s = some t → ∃ t', runG stp l s' = some t' ∧ Eqv t t'
  | [], s, s', h, t, hs => by simp [runG] at hs; subst hs; exact ⟨_, rfl, h⟩
  | k :: r, s, s', h, t, hs => by
    unfold runG at hs ⊢
    split at hs
    · rename_i u hu
      obtain ⟨u', h1, h2⟩ := hC k _ _ _ h hu
      rw [h1]
      exact runG_congr hC h2 hs
    · cases hs
theorem frontG (hC : ∀ k s s' t, Eqv s s' → stp k s = some t → ∃ t', stp k s' = some t' ∧ Eqv t t') {pass : Nat → Nat → Prop} (hP : ∀ j k s s1 s2, pass j k → stp j s = some s1 → stp k s1 = some s2 → ∃ u u', stp k s = some u ∧ stp j u = some u' ∧ Eqv s2 u') :
    ∀ {p q : List Nat} {k : Nat} {s t : St}, (∀ j ∈ p, pass j k) → runG stp (p ++ k :: q) s = some t → ∃ s1 t', stp k s = some s1 ∧ runG stp (p ++ q) s1 = some t' ∧ Eqv t t'
  | [], q, k, s, t, _, h => by
    simp only [List.nil_append, runG] at h
    split at h
    · rename_i s1 h1; exact ⟨s1, t, h1, h, Eqv.refl _⟩
    · cases h
  | j :: p, q, k, s, t, hp, h => by
    simp only [List.cons_append, runG] at h
    split at h
    · rename_i s1 h1
      obtain ⟨s2, t', e1, e2, e3⟩ := frontG hC hP (fun j' hj' => hp j' (List.mem_cons_of_mem _ hj')) h
      obtain ⟨u, u', f1, f2, f3⟩ := hP j k _ _ _ (hp j List.mem_cons_self) h1 e1
      obtain ⟨t'', g1, g2⟩ := runG_congr hC f3 e2
      refine ⟨u, t'', f1, ?_, e3.trans g2⟩
      simp only [List.cons_append, runG, f2]
      exact g1
    · cases h
theorem wpAny_runG {C : Ctx} (hT : TTok P tt) (hGl : Lasting G) (htb : Tab.ok P G tb) (hG : G C.w0) (hS : ∀ k s s1, stp k s = some s1 → ∃ s2, stepI tt tb ops k s = some s2 ∧ Norm s2 s1) (hC : ∀ k s s' t, Eqv s s' → stp k s = some t → ∃ t', stp k s' = some t' ∧ Eqv t t') {pass : Nat → Nat → Prop}
    (hP : ∀ j k s s1 s2, pass j k → stp j s = some s1 → stp k s1 = some s2 → ∃ u u', stp k s = some u ∧ stp j u = some u' ∧ Eqv s2 u') (htp : ∀ i y, ops[i]? = some y → (∀ e ∈ y.after, Region.binds .any e = true → e.on < i) ∧ ∀ j, j < i → ((ancs ops ops.size).getD i 0).testBit j = true ∨ pass j i) {Q : Exit → Act → World → Prop} : ∀ (fuel : Nat) (listed : Array Bool) (s t : St) (hd : List Hd) (a : Act) (w : World), listed.size = ops.size → (∀ i y, listed.getD i false = true → ops[i]? = some y → ∀ e ∈ y.after, Region.binds .any e = true → listed.getD e.on false = true) → (left listed ops.size).length = fuel → runG stp (left listed ops.size) s = some t →
    StR C s hd a w → (∀ t' hd' a' w', Eqv t t' → StR C t' hd' a' w' → Q .normal a' w') → wpAny P .any ops Q fuel listed a w := by
  have memLeft : ∀ {listed : Array Bool} {k : Nat}, listed.size = ops.size → (k ∈ left listed ops.size ↔ k < ops.size ∧ listed.getD k true = false) := fun {listed k} _ => by
    simp [left]
  intro fuel
  induction fuel with
  | zero =>
    intro listed s t hd a w hsz hcl hl hrun hr hQ
    have hnil : left listed ops.size = [] := List.eq_nil_of_length_eq_zero hl
    rw [hnil] at hrun
    simp [runG] at hrun
    subst hrun
    refine ⟨?_, hQ s hd a w (Eqv.refl _) hr⟩
    apply List.eq_nil_iff_forall_not_mem.2
    intro k hk
    obtain ⟨h1, o, h2, _⟩ := mem_ready.1 hk
    have : k ∈ left listed ops.size := (memLeft hsz).2 ⟨(Array.getElem?_eq_some_iff.1 h2).1, h1⟩
    rw [hnil] at this
    simp at this
  | succ fuel ih =>
    intro listed s t hd a w hsz hcl hl hrun hr hQ
    refine ⟨fun h0 => ?_, fun k hk => ?_⟩
    · exfalso
      obtain ⟨k, r, hkr⟩ : ∃ k r, left listed ops.size = k :: r := by
        cases hL : left listed ops.size with
        | nil => rw [hL] at hl; simp at hl
        | cons k r => exact ⟨k, r, rfl⟩
      have hkm : k ∈ left listed ops.size := by rw [hkr]; exact List.mem_cons_self
      obtain ⟨hlt, hun⟩ := (memLeft hsz).1 hkm
      have hy := Array.getElem?_eq_getElem hlt
      have : k ∈ Region.ready .any ops listed := by
        refine mem_ready.2 ⟨hun, _, hy, fun e he hb => ?_⟩
        have hon := (htp k _ hy).1 e he hb
        cases hle : listed.getD e.on false with
        | true => rfl
        | false =>
          exfalso
          have hm : e.on ∈ left listed ops.size := by
            refine (memLeft hsz).2 ⟨by omega, ?_⟩
            have : e.on < listed.size := by omega
            simp [this] at hle ⊢
            exact hle
          have hsorted : (left listed ops.size).Pairwise (· < ·) := List.Pairwise.filter _ List.pairwise_lt_range
          rw [hkr] at hm hsorted
          rcases List.mem_cons.1 hm with e1 | e1
          · omega
          · have := (List.pairwise_cons.1 hsorted).1 _ e1
            omega
      rw [h0] at this
      simp at this
    · obtain ⟨hun, o, ho, hall⟩ := mem_ready.1 hk
      have hlt := (Array.getElem?_eq_some_iff.1 ho).1
      have hkm : k ∈ left listed ops.size := (memLeft hsz).2 ⟨hlt, hun⟩
      obtain ⟨p, q, hpq⟩ := List.append_of_mem hkm
      have hsorted : (left listed ops.size).Pairwise (· < ·) := List.Pairwise.filter _ List.pairwise_lt_range
      rw [hpq] at hsorted hrun
      have hpk : ∀ j ∈ p, j < k := fun j hj => (List.pairwise_append.1 hsorted).2.2 j hj k List.mem_cons_self
      have hcomm : ∀ j ∈ p, pass j k := fun j hj => by
        have hjm : j ∈ left listed ops.size := by rw [hpq]; exact List.mem_append_left _ hj
        obtain ⟨hjl, hju⟩ := (memLeft hsz).1 hjm
        rcases (htp k o ho).2 j (hpk j hj) with hc | hc
        · exfalso
          have := ancs_closed (L := fun i => listed.getD i false = true) hcl k ops.size j o hlt ho hall hc
          have hj2 : j < listed.size := by omega
          simp [hj2] at this hju
          rw [this] at hju; cases hju
        · exact hc
      obtain ⟨s1, t', e1, e2, e3⟩ := frontG hC hP hcomm hrun
      have hleft : left (listed.setIfInBounds k true) ops.size = p ++ q := by
        have : left (listed.setIfInBounds k true) ops.size = (left listed ops.size).filter (· ≠ k) := by
          unfold left
          rw [List.filter_filter]
          apply List.filter_congr
          intro x hx
          by_cases hxk : x = k
          · subst hxk
            have : x < listed.size := by omega
            simp [this]
          · have : ¬ k = x := fun e => hxk e.symm
            simp [Array.getElem?_setIfInBounds, this, hxk]
        rw [this, hpq, List.filter_append]
        have f1 : p.filter (· ≠ k) = p := List.filter_eq_self.2 fun x hx => by have := hpk x hx; simp; omega
        have f2 : (k :: q).filter (· ≠ k) = q := by
          rw [List.filter_cons_of_neg (by simp)]
          exact List.filter_eq_self.2 fun x hx => by
            have := (List.pairwise_cons.1 (List.pairwise_append.1 hsorted).2.1).1 x hx
            simp; omega
        rw [f1, f2]
      have hcl' : ∀ i y, (listed.setIfInBounds k true).getD i false = true → ops[i]? = some y → ∀ e ∈ y.after, Region.binds .any e = true → (listed.setIfInBounds k true).getD e.on false = true := fun i y hi hy e he hb => by
        have up : ∀ q, listed.getD q false = true → (listed.setIfInBounds k true).getD q false = true := fun q hq => by
          by_cases hqk : k = q
          · subst hqk
            have : k < listed.size := by omega
            simp [this]
          · simp [Array.getElem?_setIfInBounds, hqk] at hq ⊢; exact hq
        by_cases hik : k = i
        · subst hik
          rw [ho] at hy; cases hy
          exact up _ (hall e he hb)
        · refine up _ (hcl i y ?_ hy e he hb)
          simp [Array.getElem?_setIfInBounds, hik] at hi ⊢; exact hi
      have hlen : (p ++ q).length = fuel := by rw [hpq] at hl; simp at hl ⊢; omega
      obtain ⟨s2, hs2, hn2⟩ := hS _ _ _ e1
      have hstep := stepX_wp (P := P) (K := wpAny P .any ops Q fuel (listed.setIfInBounds k true)) (Q := Q) hT hGl htb hG hr ops o (stepI_stepX ho hs2) fun hd0 a' w' h0 => by
       obtain ⟨hd', h'⟩ := hn2 C hd0 a' w' h0
       exact ih (listed.setIfInBounds k true) s1 t' hd' a' w' (by simp [hsz]) hcl' (by rw [hleft]; exact hlen) (by rw [hleft]; exact e2) h' (fun t'' hd'' a'' w'' h1 h2 => hQ t'' hd'' a'' w'' (e3.trans h1) h2)
      unfold wpOp
      rw [ho]
      simp only
      split
      · rename_i hw; rw [if_pos hw] at hstep; exact .inl hstep
      · rename_i hw; rw [if_neg hw] at hstep; exact hstep

variable {ds : List Nat}
end
end Go.Proofs.YtpgkpbfefnpagaaGreatDoor
namespace Go.Proofs.YtpgkpbfefnpagaaGreatDoor
open Go.RowKit

section
variable {P : Program} {G : World → Prop} {tt : Nat → Option TI} {tb : Tab} {ops : Array Oper}
variable {es : List Nat}
end
end Go.Proofs.YtpgkpbfefnpagaaGreatDoor
namespace Go.Proofs.YtpgkpbfefnpagaaGreatDoor
open Go.RowKit

def act0 : Act := { tmps := #[], defers := [] }
/-- What is lent alone. -/
def upto (n : Nat) (i : Nat) : Option Nat := if i < n then some i else none
/-- Called with these data, and lent these objects, it gives that value, and hands back those objects. -/
structure SndC (P : Program) (G : World → Prop) (f : Nat) (xs : List SV) (obs : List Ob) (r : T) (obs' : List Ob) : Prop where
  enter : ∀ (vs : Array Value) (w : World), (callFunc f vs).run P w = .ok (.enter f vs) w
  len : obs'.length = obs.length
  box : ∀ (i : Nat) (l : List SV), obs[i]? = some (.box l) → ∃ l', obs'[i]? = some (.box l')
  calls : ∀ (C : Ctx) (hd : List Hd) (w : World) (vs : Array Value), G C.w0 → StR C ⟨0, [], obs⟩ hd act0 w → vs.size = xs.length → (∀ (k : Nat) (x : SV) (v : Value), xs[k]? = some x → vs[k]? = some v → RepS (vis C hd) w hd x v) →
    Calls P f vs w (fun e w' => ∃ v hd', e = .returned v ∧ StR C ⟨0, [], obs'⟩ hd' act0 w' ∧ (∀ (i : Nat) (l : List SV) (b : Nat), obs[i]? = some (.box l) → hd[i]? = some (.bx b true) → hd'[i]? = some (.bx b true)) ∧ RepT (fun _ => False) w' r v)

section
variable {P : Program} {G : World → Prop} {C : Ctx} {st : St} {hd : List Hd} {a : Act} {w : World} {tt : Nat → Option TI} {tb : Tab} {Q : Exit → St → Prop}
/-- The closure that is called, and what it has captured. -/
def fnOf : SV → Option (Nat × List SV)
  | .fn g cap => some (g, cap)
  | .t (.fn g cap) => some (g, cap.map .t)
  | _ => none
theorem fnOf_rep {S : Nat → Prop} {x : SV} {v : Value} {g : Nat} {cap : List SV} (h : RepS S w hd x v) (hf : fnOf x = some (g, cap)) : ∃ vs : Array Value, v = .func (.func g) #[] vs ∧ vs.size = cap.length ∧ ∀ (k : Nat) (y : SV) (u : Value), cap[k]? = some y → vs[k]? = some u → RepS S w hd y u := by
  unfold fnOf at hf
  split at hf
  · cases hf
    cases h with
    | fn f cap vs hl hx => exact ⟨vs, rfl, hl, hx⟩
  · cases hf
    have h := h.toT
    cases h with
    | fn f cap vs hl hx => exact ⟨vs, rfl, by simpa using hl, fun k y u e1 e2 => by
        rw [List.getElem?_map, Option.map_eq_some_iff] at e1
        obtain ⟨z, hz, rfl⟩ := e1
        exact .t _ _ (hx k z u hz e2)⟩
  · cases hf
end
end Go.Proofs.YtpgkpbfefnpagaaGreatDoor
namespace Go.Proofs.YtpgkpbfefnpagaaGreatDoor
open Go.RowKit

theorem RepS.same {S S' : Nat → Prop} {w w' : World} {hd hd' : List Hd} (hb : Stay S S' w w') (hp : ∀ (i : Nat) (h : Hd), hd[i]? = some h → h ≠ .no → ∃ h', hd'[i]? = some h' ∧ (h' = h ∨ h' = h.off)) {x : SV} {v : Value} (h : RepS S w hd x v) : RepS S' w' hd' x v := by
  induction h with
  | t x v h => exact .t x v (h.keep hb)
  | nil => exact .nil
  | lit l a h hz => exact .lit l a (h.keep hb) (hz.keep hb h)
  | agg l vs hl h1 hx ih => exact .agg _ vs hl h1 fun k y v a b => ih k y v a b
  | sref i a n cap o h =>
    obtain ⟨h', e1, e2⟩ := hp i _ h (by simp)
    rcases e2 with rfl | rfl
    · exact .sref i a n cap o e1
    · exact .sref i a n cap none e1
  | cut i m a n cap o h hm =>
    obtain ⟨h', e1, e2⟩ := hp i _ h (by simp)
    rcases e2 with rfl | rfl
    · exact .cut i m a n cap o e1 hm
    · exact .cut i m a n cap none e1 hm
  | bptr i off b o h =>
    obtain ⟨h', e1, e2⟩ := hp i _ h (by simp)
    rcases e2 with rfl | rfl
    · exact .bptr i off b o e1
    · exact .bptr i off b false e1
  | eptr i sz k off g n cap o h =>
    obtain ⟨h', e1, e2⟩ := hp i _ h (by simp)
    rcases e2 with rfl | rfl
    · exact .eptr i sz k off g n cap o e1
    · exact .eptr i sz k off g n cap none e1
  | map i r h =>
    obtain ⟨h', e1, e2⟩ := hp i _ h (by simp)
    rcases e2 with rfl | rfl
    · exact .map i r e1
    · exact .map i r e1
  | fn f cap vs hl hx ih => exact .fn f _ vs hl fun k y v a b => ih k y v a b
  | pin i b o h =>
    obtain ⟨h', e1, e2⟩ := hp i _ h (by simp)
    rcases e2 with rfl | rfl
    · exact .pin i b o e1
    · exact .pin i b false e1
  | pinS i a n cap o h =>
    obtain ⟨h', e1, e2⟩ := hp i _ h (by simp)
    rcases e2 with rfl | rfl
    · exact .pinS i a n cap o e1
    · exact .pinS i a n cap none e1
theorem ObR.same {S S' : Nat → Prop} {B : Nat} {w : World} {hd hd' : List Hd} (hb : Stay S S' w w) (hp : ∀ (i : Nat) (h : Hd), hd[i]? = some h → h ≠ .no → ∃ h', hd'[i]? = some h' ∧ (h' = h ∨ h' = h.off)) {o : Ob} {h : Hd} (hr : ObR S B w hd o h) : ObR S' B w hd' o h := by
  by_cases ho : ∃ l, o = .box l
  · obtain ⟨l, rfl⟩ := ho
    cases h <;> simp only [ObR] at hr ⊢
    obtain ⟨rfl, vs, t, h1, h2, h3, h4⟩ := hr
    exact ⟨rfl, vs, t, h1, h2, h3, fun k y v a b => (h4 k y v a b).same hb hp⟩
  · have := ObR.ren (hd' := hd) hb (Keeps.refl hd) (fun _ _ => rfl) hr
    rw [Ob.ren_some] at this
    cases o <;> cases h <;> first | exact this | (exact (ho ⟨_, rfl⟩).elim)
/-- A place for a variable that is to come. -/
theorem Norm.hole (s : St) : Norm s { s with heap := s.heap ++ [.hole] } := fun C hd a w hr =>
  ⟨_, hr.new (Below.refl _ _) .hole .no (fun b hb => by simp [Hd.own] at hb) trivial⟩
section
variable {P : Program} {G : World → Prop} {tt : Nat → Option TI} {tb : Tab} {ops : Array Oper}
theorem Norm.place {s : St} {d : Option Nat} {l : List SV} {j : Nat} (hj : s.heap[j]? = some .hole) : Norm (({ s with heap := s.heap ++ [.box l] } : St).put d (.bptr s.heap.length 0)) (({ s with heap := s.heap.set j (.box l) ++ [.gone] } : St).put d (.bptr j 0)) := fun C hd a w hr => by
  have hjl := (List.getElem?_eq_some_iff.1 hj).1
  have hh : ∀ (hp : List Ob) (x : SV), (({ s with heap := hp } : St).put d x).heap = hp := fun hp x => put_heap _ _ _
  have hlen : hd.length = s.heap.length + 1 := by rw [hr.hl, hh]; simp
  obtain ⟨g, hg⟩ : ∃ g, hd[s.heap.length]? = some g := ⟨hd[s.heap.length]'(by omega), List.getElem?_eq_getElem _⟩
  have hog := hr.ob s.heap.length (.box l) g (by rw [hh]; simp) hg
  have hjg : hd[j]? = some .no := by
    have e : hd[j]? = some (hd[j]'(by omega)) := List.getElem?_eq_getElem _
    have := hr.ob j .hole _ (by rw [hh, List.getElem?_append_left hjl]; exact hj) e
    generalize hd[j]'(by omega) = q at e this
    cases q <;> simp only [ObR] at this
    exact e
  have hgb : ∃ b, g = .bx b true := by
    cases g <;> simp only [ObR] at hog
    exact ⟨_, by rw [hog.1]⟩
  obtain ⟨b, rfl⟩ := hgb
  have hne : j ≠ s.heap.length := by omega
  have look1 : ∀ i x, ((hd.set j (.bx b true)).set s.heap.length (.bx b false))[i]? = some x → (i = s.heap.length ∧ x = .bx b false) ∨ (i = j ∧ x = .bx b true) ∨ (i ≠ j ∧ i ≠ s.heap.length ∧ hd[i]? = some x) := fun i x e => by
    rw [List.getElem?_set] at e
    split at e
    · rename_i e0; subst e0
      rw [if_pos (by simp; omega)] at e
      exact .inl ⟨rfl, by cases e; rfl⟩
    · rw [List.getElem?_set] at e
      split at e
      · rename_i e0; subst e0
        rw [if_pos (by omega)] at e
        exact .inr (.inl ⟨rfl, by cases e; rfl⟩)
      · exact .inr (.inr ⟨by omega, by omega, e⟩)
  have mem1 : ∀ x, x ∈ ((hd.set j (.bx b true)).set s.heap.length (.bx b false)) → x = .bx b false ∨ x ∈ hd := fun x hx => by
    obtain ⟨i, hi⟩ := List.mem_iff_getElem?.1 hx
    rcases look1 i x hi with ⟨_, e⟩ | ⟨_, e⟩ | ⟨_, _, e⟩
    · exact .inl e
    · subst e; exact .inr (List.mem_of_getElem? hg)
    · exact .inr (List.mem_of_getElem? e)
  have hst : Stay (vis C hd) (vis C ((hd.set j (.bx b true)).set s.heap.length (.bx b false))) w w := ⟨Nat.le_refl _, fun c hc _ => ⟨rfl, hc.1, fun x hx => by
    rcases mem1 x hx with rfl | h
    · simp [Hd.own]
    · exact hc.2 x h⟩⟩
  have hkp : ∀ (i : Nat) (h : Hd), hd[i]? = some h → h ≠ .no → ∃ h', ((hd.set j (.bx b true)).set s.heap.length (.bx b false))[i]? = some h' ∧ (h' = h ∨ h' = h.off) := fun i h e hn => by
    by_cases e1 : i = s.heap.length
    · subst e1
      rw [hg] at e
      cases e
      exact ⟨.bx b false, List.getElem?_set_self (by simp; omega), .inr rfl⟩
    · by_cases e2 : i = j
      · subst e2; rw [hjg] at e; cases e; exact (hn rfl).elim
      · exact ⟨h, by rw [List.getElem?_set_ne (by omega), List.getElem?_set_ne (by omega)]; exact e, .inl rfl⟩
  refine ⟨(hd.set j (.bx b true)).set s.heap.length (.bx b false), hr.below, hr.df, by have := hr.nt; rw [put_nt] at this ⊢; exact this, by rw [hh]; simp [hlen], fun i o x h1 h2 => ?_, fun x c hx hc => ?_, fun i k hi hk c e1 e2 e3 e4 => ?_, fun t x hx => ?_, ?_⟩
  · rw [hh] at h1
    rcases look1 i x h2 with ⟨rfl, rfl⟩ | ⟨rfl, rfl⟩ | ⟨n1, n2, e⟩
    · rw [List.getElem?_append_right (by simp)] at h1
      simp at h1; subst h1
      simp only [ObR]
    · rw [List.getElem?_append_left (by simpa using hjl), List.getElem?_set_self hjl] at h1
      cases h1
      exact hog.same hst hkp
    · have hi := (List.getElem?_eq_some_iff.1 e).1
      have hi2 : i < s.heap.length := by omega
      rw [List.getElem?_append_left (by simpa using hi2), List.getElem?_set_ne (by omega)] at h1
      exact (hr.ob i o x (by rw [hh, List.getElem?_append_left hi2]; exact h1) e).same hst hkp
  · rcases mem1 x hx with rfl | h
    · simp [Hd.own] at hc
    · exact hr.own x c h hc
  · rcases look1 i hi e1 with ⟨a1, b1⟩ | ⟨a1, b1⟩ | ⟨a1, a2, b1⟩ <;> rcases look1 k hk e2 with ⟨c1, d1⟩ | ⟨c1, d1⟩ | ⟨c1, c2, d1⟩
    · omega
    · subst b1; simp [Hd.own] at e3
    · subst b1; simp [Hd.own] at e3
    · subst d1; simp [Hd.own] at e4
    · omega
    · subst b1
      exact (c2 (hr.dist k s.heap.length hk _ c d1 hg e4 e3)).elim
    · subst d1; simp [Hd.own] at e4
    · subst d1
      exact (a2 (hr.dist i s.heap.length hi _ c b1 hg e3 e4)).elim
    · exact hr.dist i k hi hk c b1 d1 e3 e4
  · cases d with
    | none => exact (hr.sl t x hx).same hst hkp
    | some d =>
      simp only [St.put, look] at hx
      by_cases e : d = t
      · subst e
        rw [if_pos rfl] at hx
        cases hx
        have := hr.sl d (.bptr s.heap.length 0) (by simp [St.put, look])
        generalize a.tmps.getD d undef = v at this
        cases this with
        | bptr _ _ b' o h =>
          rw [hg] at h
          cases h
          exact .bptr j 0 b true (by rw [List.getElem?_set_ne (by omega), List.getElem?_set_self (by omega)])
      · rw [if_neg e] at hx
        exact (hr.sl t x (by simp only [St.put, look]; rw [if_neg e]; exact hx)).same hst hkp
  · refine ⟨hr.ext.gro, hr.ext.stay, fun h c h1 h2 => ?_⟩
    rcases mem1 h h1 with rfl | h3
    · simp [Hd.own] at h2
    · exact hr.ext.lent h c h3 h2
/-- The state in which more is there. -/
def Mono (s s' : St) : Prop := ∀ i q, s.obj i = q → q ≠ .gone → q ≠ .hole → s'.obj i = q
section
variable {s s' : St} (hm : Mono s s')
include hm
theorem load_mono {i : TI} {x y : SV} (hl : s.load i x = some y) : s'.load i x = some y := by
  unfold St.load at hl ⊢
  split at hl
  · exact hl
  · split at hl
    · rename_i ho; rw [hm _ _ ho (by simp) (by simp)]; exact hl
    · rename_i ho; rw [hm _ _ ho (by simp) (by simp)]; exact hl
    · cases hl
  · split at hl
    · rename_i ho; rw [hm _ _ ho (by simp) (by simp)]; exact hl
    · cases hl
  · cases hl
theorem index_mono {isz : Nat} {n : Int} {x y : SV} (hl : s.index isz n x = some y) : s'.index isz n x = some y := by
  unfold St.index at hl ⊢
  split at hl
  · exact hl
  · exact hl
  · split at hl
    · rename_i ho; rw [hm _ _ ho (by simp) (by simp)]; exact hl
    · rename_i ho; rw [hm _ _ ho (by simp) (by simp)]; exact hl
    · cases hl
  · cases hl
mutual
theorem rd_mono : ∀ (x : SV) (y : T), s.rd x = some y → s'.rd x = some y
  | .t _, _, h => h
  | .nil, _, h => h
  | .lit _, _, h => h
  | .agg l, y, h => by
    simp only [St.rd, Option.map_eq_some_iff] at h ⊢
    obtain ⟨ys, h1, h2⟩ := h
    exact ⟨ys, rdL_mono l ys h1, h2⟩
  | .sref i, y, h => by
    simp only [St.rd] at h ⊢
    split at h
    · rename_i ho; rw [hm _ _ ho (by simp) (by simp)]; exact h
    · rename_i ho; rw [hm _ _ ho (by simp) (by simp)]; exact h
    · cases h
  | .bptr i off, y, h => by
    simp only [St.rd] at h ⊢
    split at h
    · rename_i ho; rw [hm _ _ ho (by simp) (by simp)]; exact h
    · rename_i ho; rw [hm _ _ ho (by simp) (by simp)]; exact h
    · cases h
  | .eptr _ _ _ _, _, h => by simp [St.rd] at h
  | .cut _ _, _, h => by simp [St.rd] at h
  | .map _, _, h => by simp [St.rd] at h
  | .fn f l, y, h => by
    simp only [St.rd, Option.map_eq_some_iff] at h ⊢
    obtain ⟨ys, h1, h2⟩ := h
    exact ⟨ys, rdL_mono l ys h1, h2⟩
  | .pin _ _, _, h => by simp [St.rd] at h
  | .pinS _ _ _ _, _, h => by simp [St.rd] at h
theorem rdL_mono : ∀ (l : List SV) (ys : List T), s.rdL l = some ys → s'.rdL l = some ys
  | [], _, h => h
  | x :: r, ys, h => by
    simp only [St.rdL] at h ⊢
    split at h
    · rename_i y hy
      rw [rd_mono x y hy]
      split at h
      · rename_i zs hz
        rw [rdL_mono r zs hz]; exact h
      · cases h
    · cases h
end
mutual
theorem tr_mono : ∀ (x : SV) (y : T), s.tr x = some y → s'.tr x = some y
  | .t _, _, h => h
  | .nil, _, h => h
  | .lit _, _, h => h
  | .agg l, y, h => by
    simp only [St.tr, Option.map_eq_some_iff] at h ⊢
    obtain ⟨ys, h1, h2⟩ := h
    exact ⟨ys, trL_mono l ys h1, h2⟩
  | .sref i, y, h => by
    simp only [St.tr] at h ⊢
    split at h
    · rename_i ho; rw [hm _ _ ho (by simp) (by simp)]; exact h
    · cases h
  | .bptr i off, y, h => by
    simp only [St.tr] at h ⊢
    split at h
    · rename_i ho; rw [hm _ _ ho (by simp) (by simp)]; exact h
    · cases h
  | .eptr _ _ _ _, _, h => by simp [St.tr] at h
  | .cut _ _, _, h => by simp [St.tr] at h
  | .map _, _, h => by simp [St.tr] at h
  | .fn f l, y, h => by
    simp only [St.tr, Option.map_eq_some_iff] at h ⊢
    obtain ⟨ys, h1, h2⟩ := h
    exact ⟨ys, trL_mono l ys h1, h2⟩
  | .pin _ _, _, h => by simp [St.tr] at h
  | .pinS _ _ _ _, _, h => by simp [St.tr] at h
theorem trL_mono : ∀ (l : List SV) (ys : List T), s.trL l = some ys → s'.trL l = some ys
  | [], _, h => h
  | x :: r, ys, h => by
    simp only [St.trL] at h ⊢
    split at h
    · rename_i y hy
      rw [tr_mono x y hy]
      split at h
      · rename_i zs hz
        rw [trL_mono r zs hz]; exact h
      · cases h
    · cases h
end
theorem callR_mono {f : SV} {args : List SV} {r : T} (h : s.callR tb f args = some r) : s'.callR tb f args = some r := by
  unfold St.callR at h ⊢
  split at h
  · split at h
    · rename_i asl ha
      rw [rdL_mono hm _ _ ha]
      split at h
      · rename_i r' hr'
        simp only [hr']
        split at h
        · rename_i hf; rw [if_pos hf]; exact h
        · rename_i hf
          rw [if_neg hf]
          split at h
          · rename_i ys hy
            rw [trL_mono hm _ _ hy]; exact h
          · cases h
      · cases h
    · cases h
  · cases h
end
/-- What may be passed by a variable that comes. -/
def placeOp : Op → Bool
  | .call c => match c.callee with
    | .value _ => true
    | _ => false
  | .makeFunc .. => true
  | op => simpleOp op
theorem evalX_mono {s s' : St} (hm : Mono s s') (he : ∀ x, s.ev x = s'.ev x) {op : Op} (hp : placeOp op = true) {y : SV} (h : evalX tt tb s op = some y) : evalX tt tb s' op = some y := by
  by_cases hs : simpleOp op = true
  · rw [evalX_simple hs] at h ⊢
    by_cases hq : pureOp op = true
    · rw [← evalOp_pure hq fun x _ => he x]; exact h
    · cases op <;> simp [simpleOp, pureOp] at hs hq <;> simp only [evalOp] at h ⊢
      case load t p =>
        split at h
        · rw [← he]; exact load_mono hm h
        · cases h
      case fieldAddr t x f => rw [← he]; exact h
      case indexAddr t x i =>
        rw [← he, ← he]
        split at h
        · split at h
          · split at h
            · exact index_mono hm h
            · cases h
          · exact h
          · cases h
        · cases h
  · cases op <;> first | (simp [placeOp, simpleOp, pureOp] at hp; done) | (simp [simpleOp, pureOp] at hs; done) | skip
    case makeFunc fn first cap =>
      have e : (cap.toList.map s'.ev) = cap.toList.map s.ev := List.map_congr_left fun x _ => (he x).symm
      simp only [evalX, evalOp, e] at h ⊢
      exact h
    rename_i c
    simp only [placeOp] at hp
    split at hp
    · rename_i f hf
      simp only [evalX, evalOp, hf, Option.map_eq_some_iff] at h ⊢
      obtain ⟨r, h1, h2⟩ := h
      refine ⟨r, ?_, h2⟩
      have e : (c.args.toList.map s'.ev) = c.args.toList.map s.ev := List.map_congr_left fun x _ => (he x).symm
      rw [e, ← he]
      exact callR_mono hm h1
    · cases hp
/-- A variable that comes into its place. -/
def allocAt (tt : Nat → Option TI) (s : St) (o : Oper) (j : Nat) : Option St := match o.op with
  | .alloc t => match tt t with
    | some i => match s.heap[j]? with
      | some .hole => if dstOk s.nt o.dst = true ∧ o.guard = none then some (({ s with heap := s.heap.set j (.box i.zero) ++ [.gone] } : St).put o.dst (.bptr j 0)) else none
      | _ => none
    | none => none
  | _ => none
theorem allocAt_some {s t : St} {o : Oper} {j : Nat} (h : allocAt tt s o j = some t) : ∃ e i, o.op = .alloc e ∧ tt e = some i ∧ s.heap[j]? = some .hole ∧ dstOk s.nt o.dst = true ∧ o.guard = none ∧ t = ({ s with heap := s.heap.set j (.box i.zero) ++ [.gone] } : St).put o.dst (.bptr j 0) := by
  unfold allocAt at h
  split at h
  · rename_i e he
    split at h
    · rename_i i hi
      split at h
      · rename_i hj
        split at h
        · rename_i hc
          cases h
          exact ⟨e, i, he, hi, hj, hc.1, hc.2, rfl⟩
        · cases h
      · cases h
    · cases h
  · cases h
theorem allocAt_of {s : St} {o : Oper} {j e : Nat} {i : TI} (h1 : o.op = .alloc e) (h2 : tt e = some i) (h3 : s.heap[j]? = some .hole) (h4 : dstOk s.nt o.dst = true) (h5 : o.guard = none) : allocAt tt s o j = some (({ s with heap := s.heap.set j (.box i.zero) ++ [.gone] } : St).put o.dst (.bptr j 0)) := by
  unfold allocAt
  rw [h1]
  simp only [h2, h3]
  rw [if_pos ⟨h4, h5⟩]
noncomputable def stepA (ps : List (Nat × Nat)) (tt : Nat → Option TI) (tb : Tab) (ops : Array Oper) (k : Nat) (s : St) : Option St := match ps.lookup k with
  | none => stepI tt tb ops k s
  | some j => match ops[k]? with
    | some o => allocAt tt s o j
    | none => none
variable {ps : List (Nat × Nat)}
theorem stepA_I {k : Nat} {s s1 : St} (h : stepA ps tt tb ops k s = some s1) : ∃ s2, stepI tt tb ops k s = some s2 ∧ Norm s2 s1 := by
  unfold stepA at h
  split at h
  · exact ⟨s1, h, fun C hd a w hr => ⟨hd, hr⟩⟩
  · split at h
    · rename_i o ho
      obtain ⟨e, i, h1, h2, h3, h4, h5, rfl⟩ := allocAt_some h
      refine ⟨({ s with heap := s.heap ++ [.box i.zero] } : St).put o.dst (.bptr s.heap.length 0), ?_, Norm.place h3⟩
      unfold stepI
      rw [ho]
      obtain ⟨dst, op, ty, pos, after, guard⟩ := o
      simp only at h1 h4 h5
      subst h1 h5
      have hq : quietOp (.alloc e) = false := rfl
      simp only [hq, Bool.false_eq_true, if_false]
      unfold stepX
      rw [if_pos h4]
      simp only [stepX0, evalX, evalOp, stepOp1, h2]
    · cases h
theorem allocAt_congr {s s' t : St} (h : Eqv s s') {o : Oper} {j : Nat} (hs : allocAt tt s o j = some t) : ∃ t', allocAt tt s' o j = some t' ∧ Eqv t t' := by
  obtain ⟨e, i, h1, h2, h3, h4, h5, rfl⟩ := allocAt_some hs
  refine ⟨_, allocAt_of h1 h2 (by rw [← h.heap]; exact h3) (by rw [← h.nt]; exact h4) h5, ?_⟩
  rw [← h.heap]
  exact (h.withHeap _).put _ _
theorem stepA_congr (k : Nat) (s s' t : St) (h : Eqv s s') (hs : stepA ps tt tb ops k s = some t) : ∃ t', stepA ps tt tb ops k s' = some t' ∧ Eqv t t' := by
  unfold stepA at hs ⊢
  split at hs
  · exact stepI_congr h hs
  · split at hs
    · exact allocAt_congr h hs
    · cases hs
def passA (ps : List (Nat × Nat)) (ops : Array Oper) (j k : Nat) : Bool := match ops[j]?, ops[k]? with
  | some x, some y => x.apart ops y && (match ps.lookup j, ps.lookup k with
    | none, none => quietOp x.op && quietOp y.op || mayPass x y
    | none, some _ => quietOp x.op && placeOp x.op
    | some _, some _ => true
    | some _, none => false)
  | _, _ => false
theorem mono_place {s : St} {j : Nat} {o : Ob} (h : s.heap[j]? = some .hole) : Mono s { s with heap := s.heap.set j o ++ [.gone] } := fun i q hq h1 h2 => by
  have hjl := (List.getElem?_eq_some_iff.1 h).1
  have hi : i < s.heap.length := by
    rcases Nat.lt_or_ge i s.heap.length with h | h
    · exact h
    · unfold St.obj at hq
      rw [List.getElem?_eq_none h] at hq
      exact (h1 hq.symm).elim
  have hne : j ≠ i := fun e => by
    subst e
    unfold St.obj at hq
    rw [h] at hq
    exact h2 hq.symm
  unfold St.obj at hq ⊢
  simp only
  rw [List.getElem?_append_left (by simpa using hi), List.getElem?_set_ne hne]
  exact hq
theorem swapA (j k : Nat) (s s1 s2 : St) (hp : passA ps ops j k = true) (h1 : stepA ps tt tb ops j s = some s1) (h2 : stepA ps tt tb ops k s1 = some s2) : ∃ u u', stepA ps tt tb ops k s = some u ∧ stepA ps tt tb ops j u = some u' ∧ Eqv s2 u' := by
  unfold passA at hp
  split at hp
  · rename_i x y hx hy
    rw [Bool.and_eq_true] at hp
    obtain ⟨hap, hp⟩ := hp
    obtain ⟨a1, a2, a3⟩ := Oper.apart_spec hap
    unfold stepA at h1 h2 ⊢
    cases lj : ps.lookup j <;> cases lk : ps.lookup k <;> simp only [lj, lk] at hp h1 h2 ⊢
    · rw [Bool.or_eq_true] at hp
      rcases hp with hp | hp
      · rw [Bool.and_eq_true] at hp
        exact swap_ok hx hy hap hp.1 hp.2 h1 h2
      · exact swap_any hx hy hap hp h1 h2
    · rename_i pk
      rw [Bool.and_eq_true] at hp
      obtain ⟨hqx, hpx⟩ := hp
      obtain ⟨p, hq, rfl⟩ := (quietStep_iff hx hqx).1 h1
      simp only [hy] at h2 ⊢
      obtain ⟨e, i, g1, g2, g3, g4, g5, rfl⟩ := allocAt_some h2
      rw [put_heap] at g3
      rw [put_nt] at g4
      refine ⟨_, _, allocAt_of g1 g2 g3 g4 g5, (quietStep_iff hx hqx).2 ⟨p, (quietStep_put a3).2 ?_, rfl⟩, ?_⟩
      · obtain ⟨q1, q2⟩ := hq
        refine ⟨q1, ?_⟩
        have hgr : ∀ z, evalX tt tb s x.op = some z → evalX tt tb ({ s with heap := s.heap.set pk (.box i.zero) ++ [.gone] } : St) x.op = some z := fun z hz => evalX_mono (mono_place g3) (fun _ => rfl) hpx hz
        rcases q2 with ⟨f1, f2⟩ | ⟨jj, want, dd, b, f1, f2, f3, f4⟩
        · exact .inl ⟨f1, hgr _ f2⟩
        · refine .inr ⟨jj, want, dd, b, f1, f2, f3, ?_⟩
          rcases f4 with ⟨f4, f5⟩ | f4
          · exact .inl ⟨f4, hgr _ f5⟩
          · exact .inr f4
      · rw [put_heap, put_with]
        exact put_comm _ p _ (fun t e => a2 t e)
    · cases hp
    · rename_i pj pk
      simp only [hx, hy] at h1 h2 ⊢
      obtain ⟨e, i, g1, g2, g3, g4, g5, rfl⟩ := allocAt_some h1
      obtain ⟨e', i', f1, f2, f3, f4, f5, rfl⟩ := allocAt_some h2
      have hjl := (List.getElem?_eq_some_iff.1 g3).1
      rw [put_heap] at f3
      rw [put_nt] at f4
      have hne : pj ≠ pk := fun e => by
        subst e
        simp only at f3
        rw [List.getElem?_append_left (by simpa using hjl), List.getElem?_set_self hjl] at f3
        cases f3
      have hkl : pk < s.heap.length := by
        rcases Nat.lt_or_ge pk s.heap.length with h | h
        · exact h
        · simp only at f3
          rw [List.getElem?_append_right (by simpa using h)] at f3
          have := (List.getElem?_eq_some_iff.1 f3).2
          simp at this
      have f3' : s.heap[pk]? = some .hole := by
        simp only at f3
        rw [List.getElem?_append_left (by simpa using hkl), List.getElem?_set_ne hne] at f3
        exact f3
      refine ⟨_, _, allocAt_of f1 f2 f3' f4 f5, allocAt_of g1 g2 (by rw [put_heap]; simp only; rw [List.getElem?_append_left (by simpa using hjl), List.getElem?_set_ne (Ne.symm hne)]; exact g3) (by rw [put_nt]; exact g4) g5, ?_⟩
      rw [put_heap, put_heap, put_with, put_with]
      have eh : ((s.heap.set pj (.box i.zero) ++ [Ob.gone]).set pk (.box i'.zero) ++ [Ob.gone]) = ((s.heap.set pk (.box i'.zero) ++ [Ob.gone]).set pj (.box i.zero) ++ [Ob.gone]) := by
        rw [List.set_append_left _ _ (by simpa using hkl), List.set_append_left _ _ (by simpa using hjl), List.set_comm _ _ hne]
      simp only [eh]
      exact put_comm _ _ _ (fun t e => a2 t e)
  · cases hp
end
end Go.Proofs.YtpgkpbfefnpagaaGreatDoor
namespace Go.Proofs.YtpgkpbfefnpagaaGreatDoor
open Go.RowKit

section
variable {P : Program} {G : World → Prop} {Q Q' : Exit → St → Prop} {st X : St} {c : Code}
theorem SW_mono (h : SW P G c Q st) (hq : ∀ e s, Q e s → Q' e s) : SW P G c Q' st := fun C hd a w hG hr => by
  refine wp_mono (h C hd a w hG hr) fun e a' w' hq' => ?_
  obtain ⟨s, hd', h1, h2⟩ := hq'
  exact ⟨s, hd', hq e s h1, h2⟩
/-- A weaker state is as good. -/
def Weak (K : St → Prop) : Prop := ∀ s s', Norm s s' → K s' → K s
theorem Weak.sw {c : Code} : Weak (fun s => SW P G c Q s) := fun _ _ hn h => SW_norm hn h
theorem Weak.ex {n : Nat} {I : Nat → St → Prop} : Weak (fun s' => ∃ n' s'', n' < n ∧ Norm s' s'' ∧ I n' s'') := fun _ _ hn h => by
  obtain ⟨n', s'', h1, h2, h3⟩ := h
  exact ⟨n', s'', h1, hn.trans h2, h3⟩
/-- Behind all branches is that state, or a stronger one. -/
def Meet (X : St) : Exit → St → Prop
  | .normal, s => Norm s X
  | _, _ => False
theorem Meet.n (h : Norm st X) : Meet X .normal st := h
theorem Meet.h (h : ∃ st', Norm st st' ∧ st' = X) : Meet X .normal st := by
  obtain ⟨st', h1, rfl⟩ := h
  exact h1
theorem SW_meetG (X : St) (hw : Weak (fun s => Q .normal s)) (h : SW P G c (Meet X) st) (hX : Q .normal X) : SW P G c Q st :=
  SW_mono h fun e s hq => by
    cases e with
    | normal => exact hw s X hq hX
    | _ => exact hq.elim
/-- A part of code, and what stands behind it: one state behind both. -/
theorem SW_meet2 (X : St) {y : Code} (hw : Weak (fun s => Q .normal s)) (h : SW P G c (SThen (SW P G y (Meet X)) (fun _ _ => False)) st) (hX : Q .normal X) : SW P G c (SThen (SW P G y Q) Q') st :=
  SW_mono h fun e s hq => by
    cases e with
    | normal => exact SW_meetG X hw hq hX
    | _ => exact hq.elim
/-- As SW_meetG; some branches end elsewhere. -/
def MeetE (X : St) (Q : Exit → St → Prop) : Exit → St → Prop
  | .normal, s => Norm s X
  | e, s => Q e s
theorem MeetE.n {Q : Exit → St → Prop} (h : Norm st X) : MeetE X Q .normal st := h
theorem MeetE.r {Q : Exit → St → Prop} (h : Q .ret st) : MeetE X Q .ret st := h
theorem MeetE.e {Q : Exit → St → Prop} {i : Nat} (h : Q (.exit i) st) : MeetE X Q (.exit i) st := h
end
end Go.Proofs.YtpgkpbfefnpagaaGreatDoor
namespace Go.Proofs.YtpgkpbfefnpagaaGreatDoor

/-- A row's new states, behind those met before. -/
def metRow (out : List Int) : List Int → List Int
  | [] => out
  | s :: t => metRow (if s ∈ out then out else out ++ [s]) t
def rowOf (next : List (List Int)) (s : Int) : List Int := next.getD s.toNat []
def metLoop (next : List (List Int)) : Nat → Nat → List Int → List Int
  | 0, _, out => out
  | f + 1, i, out => if i < out.length then metLoop next f (i + 1) (metRow out (rowOf next (out.getD i 0))) else out
/-- All of them: from state 0. -/
def met (next : List (List Int)) : List Int := metLoop next next.length 0 [0]

/-- What was met: different states of m. -/
structure MetOk (m : Nat) (out : List Int) : Prop where
  nd : out.Nodup
  ok : ∀ s ∈ out, 0 ≤ s ∧ s < (m : Int)
theorem MetOk.snoc {m : Nat} {out : List Int} (h : MetOk m out) {s : Int} (hs : 0 ≤ s ∧ s < (m : Int)) (hn : s ∉ out) : MetOk m (out ++ [s]) :=
  ⟨List.nodup_append.2 ⟨h.nd, by simp, fun a ha b hb => by simp at hb; subst hb; rintro rfl; exact hn ha⟩, fun x hx => by
    rcases List.mem_append.1 hx with hx | hx
    · exact h.ok x hx
    · simp at hx; subst hx; exact hs⟩
theorem MetOk.row {m : Nat} : ∀ (r out : List Int), MetOk m out → (∀ s ∈ r, 0 ≤ s ∧ s < (m : Int)) → MetOk m (metRow out r)
  | [], _, h, _ => h
  | s :: t, out, h, hr => by
    unfold metRow
    refine MetOk.row t _ ?_ (fun x hx => hr x (List.mem_cons_of_mem _ hx))
    split
    · exact h
    · exact h.snoc (hr s List.mem_cons_self) ‹_›
theorem length_parts (p : Int → Bool) : ∀ (l : List Int), l.length = (l.filter p).length + (l.filter (fun x => !p x)).length
  | [] => rfl
  | a :: t => by
    have ih := length_parts p t
    cases h : p a <;> simp [h] <;> omega
theorem nodup_bound : ∀ (m : Nat) (l : List Int), l.Nodup → (∀ s ∈ l, 0 ≤ s ∧ s < (m : Int)) → l.length ≤ m
  | 0, l, _, h => by
    cases l with
    | nil => simp
    | cons a t => have := h a List.mem_cons_self; omega
  | m + 1, l, hn, h => by
    have h1 : (l.filter (fun x => !(x == (m : Int)))).length ≤ m :=
      nodup_bound m _ (hn.filter _) (fun s hs => by
        have := List.mem_filter.1 hs
        have h2 := h s this.1
        have h3 : s ≠ (m : Int) := by simpa using this.2
        omega)
    have h2 : (l.filter (fun x => x == (m : Int))).length ≤ 1 := by
      have : l.count (m : Int) ≤ 1 := List.nodup_iff_count.1 hn _
      rwa [List.count_eq_length_filter] at this
    have h3 := length_parts (fun x => x == (m : Int)) l
    omega
theorem MetOk.len {m : Nat} {out : List Int} (h : MetOk m out) : out.length ≤ m := nodup_bound m out h.nd h.ok
end Go.Proofs.YtpgkpbfefnpagaaGreatDoor
namespace Go.Proofs.YtpgkpbfefnpagaaGreatDoor

def runN (d : Nat → Nat → Nat) (s : Nat) (w : List Nat) : Nat := w.foldl d s
/-- Letters of n. -/
def Ltr (n : Nat) (w : List Nat) : Prop := ∀ l ∈ w, l < n
/-- One place stands ahead of another one. -/
def Before (s l s' l' : Nat) : Prop := s < s' ∨ (s = s' ∧ l < l')
theorem Before.trans {a b c d e f : Nat} (h : Before a b c d) (h' : Before c d e f) : Before a b e f := by
  rcases h with h | ⟨rfl, h⟩ <;> rcases h' with h' | ⟨rfl, h'⟩
  · exact .inl (by omega)
  · exact .inl (by omega)
  · exact .inl (by omega)
  · exact .inr ⟨rfl, by omega⟩

/-- The automaton as it is told: its states are met in order, each of them, and any two part at some word. -/
structure Canon (n m : Nat) (d : Nat → Nat → Nat) (e : Nat → Bool) (L : List Nat → Bool) : Prop where
  m0 : 0 < m
  lt : ∀ s l, s < m → l < n → d s l < m
  lang : ∀ w, Ltr n w → e (runN d 0 w) = L w
  rg : ∀ s l, s < m → l < n → ∀ t, 0 < t → t < d s l → ∃ s' l', l' < n ∧ Before s' l' s l ∧ d s' l' = t
  reach : ∀ t, 0 < t → t < m → ∃ s l, s < t ∧ l < n ∧ d s l = t
  red : ∀ s t, s < m → t < m → (∀ w, Ltr n w → e (runN d s w) = e (runN d t w)) → s = t

section
variable {n m m' : Nat} {d d' : Nat → Nat → Nat} {e e' : Nat → Bool} {L : List Nat → Bool}
end

/-- Where a letter leads. -/
def nx (next : List (List Int)) (s : Int) (l : Nat) : Int := (rowOf next s).getD l 0
def runS (next : List (List Int)) (s : Int) (w : List Nat) : Int := w.foldl (nx next) s
def lang (next : List (List Int)) (ends : List Bool) (s : Int) (w : List Nat) : Bool := endOf ends (runS next s w)
theorem nx_ok {n m : Nat} {next : List (List Int)} (h : Rows0 n m next) {s : Int} (hs : 0 ≤ s ∧ s < m) {l : Nat} (hl : l < n) : 0 ≤ nx next s l ∧ nx next s l < m := by
  have h1 : s.toNat < next.length := by have := h.len; omega
  have h2 : next[s.toNat] ∈ next := List.getElem_mem h1
  have h3 : l < next[s.toNat].length := by have := h.row _ h2; omega
  unfold nx rowOf
  rw [getD_lt h1, getD_lt h3]
  exact h.ok _ h2 _ (List.getElem_mem h3)
/-- What was met so far, ahead of a place: each new state where it came up. -/
structure Bfs (next : List (List Int)) (n : Nat) (out : List Int) (J L : Nat) : Prop where
  zero : out[0]? = some 0
  src : ∀ i s, 0 < i → out[i]? = some s → ∃ j l r, Before j l J L ∧ j < i ∧ l < n ∧ out[j]? = some r ∧ nx next r l = s
  rg : ∀ j l r, Before j l J L → l < n → out[j]? = some r → ∃ i', out[i']? = some (nx next r l) ∧ ∀ i s, 0 < i → i < i' → out[i]? = some s → ∃ j0 l0 r0, Before j0 l0 j l ∧ j0 < i ∧ l0 < n ∧ out[j0]? = some r0 ∧ nx next r0 l0 = s
theorem before_succ {j l J L : Nat} (h : Before j l J (L + 1)) : Before j l J L ∨ (j = J ∧ l = L) := by
  rcases h with h | ⟨rfl, h⟩
  · exact .inl (.inl h)
  · by_cases e : l = L
    · exact .inr ⟨rfl, e⟩
    · exact .inl (.inr ⟨rfl, by omega⟩)
theorem before_weak {j l J L : Nat} (h : Before j l J L) : Before j l J (L + 1) := by
  rcases h with h | ⟨rfl, h⟩
  · exact .inl h
  · exact .inr ⟨rfl, by omega⟩
section
variable {next : List (List Int)} {n : Nat} {out : List Int} {J L : Nat} {r u : Int}
theorem Bfs.skip (h : Bfs next n out J L) (hr : out[J]? = some r) (hu : nx next r L = u) (hm : u ∈ out) : Bfs next n out J (L + 1) := by
  refine ⟨h.zero, fun i s h0 hi => ?_, fun j l q hb hl hq => ?_⟩
  · obtain ⟨j, l, q, b, c⟩ := h.src i s h0 hi
    exact ⟨j, l, q, before_weak b, c⟩
  · rcases before_succ hb with hb | ⟨rfl, rfl⟩
    · exact h.rg j l q hb hl hq
    · rw [hr] at hq; cases hq
      obtain ⟨i', hi'⟩ := List.mem_iff_getElem?.1 hm
      exact ⟨i', by rw [hi', hu], fun i s h0 _ hi => h.src i s h0 hi⟩
theorem Bfs.snoc (h : Bfs next n out J L) (hL : L < n) (hr : out[J]? = some r) (hu : nx next r L = u) (_hm : u ∉ out) : Bfs next n (out ++ [u]) J (L + 1) := by
  have hJ : J < out.length := (List.getElem?_eq_some_iff.1 hr).1
  have up : ∀ {k : Nat} {x : Int}, out[k]? = some x → (out ++ [u])[k]? = some x := fun {k x} hk => by
    rw [List.getElem?_append_left (List.getElem?_eq_some_iff.1 hk).1]; exact hk
  have down : ∀ {k : Nat} {x : Int}, k < out.length → (out ++ [u])[k]? = some x → out[k]? = some x := fun {k x} hk hx => by
    rwa [List.getElem?_append_left hk] at hx
  refine ⟨up h.zero, fun i s h0 hi => ?_, fun j l q hb hl hq => ?_⟩
  · by_cases hlt : i < out.length
    · obtain ⟨j, l, q, b, c1, c2, c3, c4⟩ := h.src i s h0 (down hlt hi)
      exact ⟨j, l, q, before_weak b, c1, c2, up c3, c4⟩
    · have hi2 := (List.getElem?_eq_some_iff.1 hi).1
      have : i = out.length := by simp at hi2; omega
      subst this
      rw [List.getElem?_append_right (Nat.le_refl _), Nat.sub_self] at hi
      obtain rfl : u = s := by simpa using hi
      exact ⟨J, L, r, .inr ⟨rfl, by omega⟩, hJ, hL, up hr, hu⟩
  · rcases before_succ hb with hb | ⟨rfl, rfl⟩
    · have hj : j < out.length := by rcases hb with hb | ⟨rfl, _⟩ <;> omega
      obtain ⟨i', h1, h2⟩ := h.rg j l q hb hl (down hj hq)
      refine ⟨i', up h1, fun i s h0 hi hs => ?_⟩
      have hi'' := (List.getElem?_eq_some_iff.1 h1).1
      obtain ⟨j0, l0, r0, a, b, c, d, e⟩ := h2 i s h0 hi (down (by omega) hs)
      exact ⟨j0, l0, r0, a, b, c, up d, e⟩
    · have hq := down hJ hq
      rw [hr] at hq; cases hq
      refine ⟨out.length, by rw [List.getElem?_append_right (Nat.le_refl _), Nat.sub_self, hu]; rfl, fun i s h0 hi hs => ?_⟩
      obtain ⟨j0, l0, r0, a, b, c, d, e⟩ := h.src i s h0 (down hi hs)
      exact ⟨j0, l0, r0, a, b, c, up d, e⟩
theorem Bfs.line (h : Bfs next n out J n) : Bfs next n out (J + 1) 0 := by
  have key : ∀ {j l : Nat}, l < n → Before j l (J + 1) 0 → Before j l J n := fun {j l} hl hb => by
    rcases hb with hb | ⟨_, hb⟩
    · by_cases e : j = J
      · exact .inr ⟨e, hl⟩
      · exact .inl (by omega)
    · omega
  refine ⟨h.zero, fun i s h0 hi => ?_, fun j l q hb hl hq => h.rg j l q (key hl hb) hl hq⟩
  obtain ⟨j, l, q, b, c⟩ := h.src i s h0 hi
  refine ⟨j, l, q, ?_, c⟩
  rcases b with b | ⟨b, _⟩
  · exact .inl (by omega)
  · exact .inl (by omega)
end
end Go.Proofs.YtpgkpbfefnpagaaGreatDoor
namespace Go.Proofs.YtpgkpbfefnpagaaGreatDoor

/-- States numbered by what they look like, in the order of a list; R has of each class the first one. -/
structure Numd {K : Type} (order : List Int) (κ : Int → K) (cl : Int → Nat) (R : List Int) : Prop where
  at_ : ∀ s ∈ order, ∃ r, R[cl s]? = some r ∧ κ r = κ s
  inj : ∀ s t, s ∈ order → t ∈ order → κ s = κ t → cl s = cl t
  first : ∀ (k : Nat) (r : Int), R[k]? = some r → ∃ i : Nat, order[i]? = some r ∧ cl r = k ∧ ∀ (i' : Nat) (s' : Int), i' < i → order[i']? = some s' → cl s' < k
section
variable {K : Type} {order : List Int} {κ : Int → K} {cl cl' : Int → Nat} {R : List Int}
theorem Numd.lt (h : Numd order κ cl R) {s : Int} (hs : s ∈ order) : cl s < R.length := by
  obtain ⟨r, hr, _⟩ := h.at_ s hs
  exact (List.getElem?_eq_some_iff.1 hr).1
theorem Numd.mem (h : Numd order κ cl R) {r : Int} (hr : r ∈ R) : r ∈ order := by
  obtain ⟨k, hk⟩ := List.mem_iff_getElem?.1 hr
  obtain ⟨i, hi, _⟩ := h.first k r hk
  exact List.mem_of_getElem? hi
theorem Numd.cl_of (h : Numd order κ cl R) {k : Nat} {r : Int} (hr : R[k]? = some r) : cl r = k := by
  obtain ⟨_, _, h, _⟩ := h.first k r hr; exact h
/-- One more state, of a class that is known. -/
theorem Numd.old (h : Numd order κ cl R) {s : Int} (hn : s ∉ order) {k : Nat} {r : Int} (hr : R[k]? = some r) (hk : κ r = κ s) (hc : ∀ t, t ≠ s → cl' t = cl t) (hs : cl' s = k) : Numd (order ++ [s]) κ cl' R := by
  have hne : ∀ t, t ∈ order → t ≠ s := fun t ht e => hn (e ▸ ht)
  have hrm : r ∈ order := h.mem (List.mem_of_getElem? hr)
  have hclr : cl r = k := h.cl_of hr
  refine ⟨fun t ht => ?_, fun t u ht hu e => ?_, fun j q hq => ?_⟩
  · rcases List.mem_append.1 ht with ht | ht
    · rw [hc t (hne t ht)]; exact h.at_ t ht
    · simp at ht; subst ht; exact ⟨r, by rw [hs]; exact hr, hk⟩
  · rcases List.mem_append.1 ht with p | p <;> rcases List.mem_append.1 hu with q | q
    · rw [hc t (hne t p), hc u (hne u q)]; exact h.inj t u p q e
    · simp at q; subst q
      rw [hc t (hne t p), hs, ← hclr]
      exact h.inj t r p hrm (e.trans hk.symm)
    · simp at p; subst p
      rw [hc u (hne u q), hs, ← hclr]
      exact h.inj r u hrm q (hk.trans e)
    · simp at p q; rw [p, q]
  · obtain ⟨i, h1, h2, h3⟩ := h.first j q hq
    have hi := (List.getElem?_eq_some_iff.1 h1).1
    refine ⟨i, by rw [List.getElem?_append_left hi]; exact h1, by rw [hc q (hne q (List.mem_of_getElem? h1))]; exact h2, fun i' s' hi' hs' => ?_⟩
    rw [List.getElem?_append_left (by omega)] at hs'
    rw [hc s' (hne s' (List.mem_of_getElem? hs'))]
    exact h3 i' s' hi' hs'
/-- One more state, of a new class. -/
theorem Numd.new (h : Numd order κ cl R) {s : Int} (hn : s ∉ order) (hk : ∀ r ∈ R, κ r ≠ κ s) (hc : ∀ t, t ≠ s → cl' t = cl t) (hs : cl' s = R.length) : Numd (order ++ [s]) κ cl' (R ++ [s]) := by
  have hne : ∀ t, t ∈ order → t ≠ s := fun t ht e => hn (e ▸ ht)
  have hno : ∀ t, t ∈ order → κ t ≠ κ s := fun t ht e => by
    obtain ⟨r, h1, h2⟩ := h.at_ t ht
    exact hk r (List.mem_of_getElem? h1) (h2.trans e)
  refine ⟨fun t ht => ?_, fun t u ht hu e => ?_, fun j q hq => ?_⟩
  · rcases List.mem_append.1 ht with ht | ht
    · rw [hc t (hne t ht)]
      obtain ⟨r, h1, h2⟩ := h.at_ t ht
      exact ⟨r, by rw [List.getElem?_append_left (h.lt ht)]; exact h1, h2⟩
    · simp at ht; subst ht; exact ⟨t, by rw [hs]; simp, rfl⟩
  · rcases List.mem_append.1 ht with p | p <;> rcases List.mem_append.1 hu with q | q
    · rw [hc t (hne t p), hc u (hne u q)]; exact h.inj t u p q e
    · simp at q; subst q; exact absurd e (hno t p)
    · simp at p; subst p; exact absurd e.symm (hno u q)
    · simp at p q; rw [p, q]
  · by_cases hj : j < R.length
    · rw [List.getElem?_append_left hj] at hq
      obtain ⟨i, h1, h2, h3⟩ := h.first j q hq
      have hi := (List.getElem?_eq_some_iff.1 h1).1
      refine ⟨i, by rw [List.getElem?_append_left hi]; exact h1, by rw [hc q (hne q (List.mem_of_getElem? h1))]; exact h2, fun i' s' hi' hs' => ?_⟩
      rw [List.getElem?_append_left (by omega)] at hs'
      rw [hc s' (hne s' (List.mem_of_getElem? hs'))]
      exact h3 i' s' hi' hs'
    · have hj2 := (List.getElem?_eq_some_iff.1 hq).1
      have : j = R.length := by simp at hj2; omega
      subst this
      rw [List.getElem?_append_right (Nat.le_refl _), Nat.sub_self] at hq
      obtain rfl : s = q := by simpa using hq
      refine ⟨order.length, by simp, hs, fun i' s' hi' hs' => ?_⟩
      rw [List.getElem?_append_left hi'] at hs'
      have hm := List.mem_of_getElem? hs'
      rw [hc s' (hne s' hm)]
      exact h.lt hm
end

/-- Classes of states: what the rounds keep. -/
structure Sep (next : List (List Int)) (ends : List Bool) (n : Nat) (order : List Int) (cl : Int → Nat) : Prop where
  sep : ∀ s t, s ∈ order → t ∈ order → (∀ w, Ltr n w → lang next ends s w = lang next ends t w) → cl s = cl t
section
variable {K : Type} {next : List (List Int)} {ends : List Bool} {n m : Nat} {order : List Int} {κ : Int → K} {cl cl' : Int → Nat} {R : List Int}
end

/-- Rows and ends that are the one automaton of a language. -/
structure Least (n : Nat) (next : List (List Int)) (ends : List Bool) (L : List Nat → Bool) : Prop where
  len : ends.length = next.length
  row : ∀ r ∈ next, r.length = n
  pos : ∀ r ∈ next, ∀ x ∈ r, 0 ≤ x
  canon : Canon n next.length (fun k l => ((next.getD k []).getD l 0).toNat) (fun k => ends.getD k false) L
theorem Canon.congr {n m : Nat} {d d' : Nat → Nat → Nat} {e e' : Nat → Bool} {L : List Nat → Bool} (h : Canon n m d e L) (hd : ∀ s l, s < m → l < n → d' s l = d s l) (he : ∀ s, s < m → e' s = e s) : Canon n m d' e' L := by
  have hrun : ∀ (w : List Nat) (s : Nat), s < m → Ltr n w → runN d' s w = runN d s w ∧ runN d s w < m := by
    intro w
    induction w with
    | nil => intro s hs _; exact ⟨rfl, hs⟩
    | cons l w ih =>
      intro s hs hw
      have hl := hw l List.mem_cons_self
      have := ih (d s l) (h.lt s l hs hl) fun x hx => hw x (List.mem_cons_of_mem _ hx)
      refine ⟨?_, this.2⟩
      show runN d' (d' s l) w = _
      rw [hd s l hs hl]; exact this.1
  refine ⟨h.m0, fun s l hs hl => by rw [hd s l hs hl]; exact h.lt s l hs hl, fun w hw => ?_, fun s l hs hl t h0 ht => ?_, fun t h0 ht => ?_, fun s t hs ht hh => ?_⟩
  · have := hrun w 0 h.m0 hw
    rw [this.1, he _ this.2]; exact h.lang w hw
  · rw [hd s l hs hl] at ht
    obtain ⟨s', l', a, b, c⟩ := h.rg s l hs hl t h0 ht
    exact ⟨s', l', a, b, by rw [hd s' l' (by rcases b with b | ⟨rfl, _⟩ <;> omega) a]; exact c⟩
  · obtain ⟨s, l, a, b, c⟩ := h.reach t h0 ht
    exact ⟨s, l, a, b, by rw [hd s l (by omega) b]; exact c⟩
  · refine h.red s t hs ht fun w hw => ?_
    have a := hrun w s hs hw
    have b := hrun w t ht hw
    rw [← he _ a.2, ← he _ b.2, ← a.1, ← b.1]; exact hh w hw
end Go.Proofs.YtpgkpbfefnpagaaGreatDoor
namespace Go.Proofs.YtpgkpbfefnpagaaGreatDoor

/-- Its rows are rows. -/
theorem Least.rows {n : Nat} {N : List (List Int)} {E : List Bool} {L : List Nat → Bool} (h : Least n N E L) : Rows0 n N.length N := by
  refine ⟨rfl, h.row, fun r hr s hs => ⟨h.pos r hr s hs, ?_⟩⟩
  obtain ⟨k, hk, rfl⟩ := List.mem_iff_getElem.1 hr
  obtain ⟨l, hl, rfl⟩ := List.mem_iff_getElem.1 hs
  have h1 := h.row _ hr
  have := h.canon.lt k l hk (by omega)
  simp only [getD_lt hk, getD_lt hl] at this
  omega
theorem Least.runS {n : Nat} {N : List (List Int)} {E : List Bool} {L : List Nat → Bool} (h : Least n N E L) : ∀ (w : List Nat) (s : Nat), s < N.length → Ltr n w → Go.Proofs.YtpgkpbfefnpagaaGreatDoor.runS N (s : Int) w = (runN (fun k l => ((N.getD k []).getD l 0).toNat) s w : Nat)
  | [], s, _, _ => rfl
  | l :: w, s, hs, hw => by
    have hl := hw l List.mem_cons_self
    have := h.canon.lt s l hs hl
    have h2 : nx N (s : Int) l = (((N.getD s []).getD l 0).toNat : Nat) := by
      have := nx_ok h.rows (s := s) (by omega) hl
      simp only [nx, rowOf, Int.toNat_natCast] at this ⊢
      omega
    show Go.Proofs.YtpgkpbfefnpagaaGreatDoor.runS N (nx N (s : Int) l) w = _
    rw [h2, h.runS w _ this fun x hx => hw x (List.mem_cons_of_mem _ hx)]
    rfl
/-- A state of it, by a state that words lead to: the same words are taken from both. -/
theorem Least.state {n : Nat} {N : List (List Int)} {E : List Bool} {next : List (List Int)} {ends : List Bool} (h : Least n N E (lang next ends 0)) {order : List Int} (hb : Bfs next n order order.length 0) : ∀ i, i < order.length → ∃ k, k < N.length ∧ ∀ w, Ltr n w → lang next ends (order.getD i 0) w = E.getD (runN (fun k l => ((N.getD k []).getD l 0).toNat) k w) false := by
  intro i
  induction i using Nat.strongRecOn with
  | _ i ih =>
    intro hi
    by_cases h0 : i = 0
    · subst h0
      refine ⟨0, h.canon.m0, fun w hw => ?_⟩
      have : order.getD 0 0 = 0 := by rw [List.getD_eq_getElem?_getD, hb.zero]; rfl
      rw [this]; exact (h.canon.lang w hw).symm
    · obtain ⟨j, l, r, _, h2, h3, h4, h5⟩ := hb.src i order[i] (by omega) (List.getElem?_eq_getElem hi)
      obtain ⟨k, hk, hkw⟩ := ih j h2 (by omega)
      refine ⟨((N.getD k []).getD l 0).toNat, h.canon.lt k l hk h3, fun w hw => ?_⟩
      have e1 : order.getD j 0 = r := by rw [List.getD_eq_getElem?_getD, h4]; rfl
      have := hkw (l :: w) fun x hx => by
        rcases List.mem_cons.1 hx with rfl | hx
        · exact h3
        · exact hw x hx
      rw [e1] at this
      rw [getD_lt hi, ← h5]
      exact this
theorem nodup_boundN : ∀ (m : Nat) (l : List Nat), l.Nodup → (∀ s ∈ l, s < m) → l.length ≤ m := fun m l hn h => by
  have := nodup_bound m (l.map fun (k : Nat) => (k : Int)) (by
    refine List.Pairwise.map _ (fun a b hab => ?_) hn
    omega) fun s hs => by
    obtain ⟨k, hk, rfl⟩ := List.mem_map.1 hs
    have := h k hk; omega
  simpa using this
/-- States that all part at some word are no more than those of the least automaton. -/
theorem Least.many {n : Nat} {N : List (List Int)} {E : List Bool} {next : List (List Int)} {ends : List Bool} (h : Least n N E (lang next ends 0)) {order : List Int} (hb : Bfs next n order order.length 0) (R : List Int) (hR : ∀ r ∈ R, r ∈ order)
    (hd : R.Pairwise fun r q => ∃ w, Ltr n w ∧ lang next ends r w ≠ lang next ends q w) : R.length ≤ N.length := by
  have key : ∀ r, r ∈ R → ∃ k, k < N.length ∧ ∀ w, Ltr n w → lang next ends r w = E.getD (runN (fun k l => ((N.getD k []).getD l 0).toNat) k w) false := fun r hr => by
    obtain ⟨i, hi, e⟩ := List.mem_iff_getElem.1 (hR r hr)
    obtain ⟨k, hk⟩ := h.state hb i hi
    rw [getD_lt hi, e] at hk
    exact ⟨k, hk⟩
  have : ∀ R : List Int, (∀ r ∈ R, ∃ k, k < N.length ∧ ∀ w, Ltr n w → lang next ends r w = E.getD (runN (fun k l => ((N.getD k []).getD l 0).toNat) k w) false) → (R.Pairwise fun r q => ∃ w, Ltr n w ∧ lang next ends r w ≠ lang next ends q w) →
      ∃ l : List Nat, l.length = R.length ∧ l.Nodup ∧ (∀ k ∈ l, k < N.length) ∧ ∀ k ∈ l, ∃ r ∈ R, ∀ w, Ltr n w → lang next ends r w = E.getD (runN (fun k l => ((N.getD k []).getD l 0).toNat) k w) false := by
    intro R
    induction R with
    | nil => intro _ _; exact ⟨[], rfl, List.nodup_nil, by simp, by simp⟩
    | cons r R ih =>
      intro h1 h2
      rw [List.pairwise_cons] at h2
      obtain ⟨l, a, b, c, d⟩ := ih (fun q hq => h1 q (List.mem_cons_of_mem _ hq)) h2.2
      obtain ⟨k, hk, hw⟩ := h1 r List.mem_cons_self
      refine ⟨k :: l, by simp [a], List.nodup_cons.2 ⟨fun hm => ?_, b⟩, fun x hx => ?_, fun x hx => ?_⟩
      · obtain ⟨q, hq, hq2⟩ := d k hm
        obtain ⟨w, hw1, hw2⟩ := h2.1 q hq
        exact hw2 ((hw w hw1).trans (hq2 w hw1).symm)
      · rcases List.mem_cons.1 hx with rfl | hx
        · exact hk
        · exact c x hx
      · rcases List.mem_cons.1 hx with rfl | hx
        · exact ⟨r, List.mem_cons_self, hw⟩
        · obtain ⟨q, hq, hq2⟩ := d x hx
          exact ⟨q, List.mem_cons_of_mem _ hq, hq2⟩
  obtain ⟨l, a, b, c, _⟩ := this R key hd
  rw [← a]; exact nodup_boundN _ _ b c
/-- Classes are no more than the states of the least automaton. -/
theorem Sep.many {K : Type} {next : List (List Int)} {ends : List Bool} {n : Nat} {order : List Int} {κ : Int → K} {cl : Int → Nat} {R N : List (List Int)} {E : List Bool} {Q : List Int} (h : Least n N E (lang next ends 0)) (hb : Bfs next n order order.length 0)
    (hQ : ∀ r ∈ Q, r ∈ order) (hκ : ∀ s t, s ∈ order → t ∈ order → (∀ w, Ltr n w → lang next ends s w = lang next ends t w) → κ s = κ t) (hd : Q.Pairwise fun r q => κ r ≠ κ q) : Q.length ≤ N.length := by
  refine h.many hb Q hQ ?_
  refine (List.Pairwise.and_mem.1 hd).imp fun {r q} hrq => ?_
  obtain ⟨h1, h2, h3⟩ := hrq
  refine Classical.byContradiction fun hc => h3 (hκ r q (hQ r h1) (hQ q h2) fun w hw => ?_)
  exact Classical.byContradiction fun hne => hc ⟨w, hw, hne⟩
theorem Numd.distinct {K : Type} {order : List Int} {κ : Int → K} {cl : Int → Nat} {R : List Int} (h : Numd order κ cl R) : R.Pairwise fun r q => κ r ≠ κ q := by
  rw [List.pairwise_iff_getElem]
  intro i j hi hj hij e
  have a := h.cl_of (List.getElem?_eq_getElem hi)
  have b := h.cl_of (List.getElem?_eq_getElem hj)
  have := h.inj _ _ (h.mem (List.getElem_mem hi)) (h.mem (List.getElem_mem hj)) e
  omega
end Go.Proofs.YtpgkpbfefnpagaaGreatDoor
namespace Go.Proofs.YtpgkpbfefnpagaaGreatDoor

theorem powW_bd {k : Int} (h2 : 2 ≤ k) (h6 : k ≤ 6) {j : Nat} (hj : j ≤ 5) : 1 ≤ powW k j ∧ powW k j ≤ 7776 := by
  have key : ∀ j, j ≤ 5 → powW k j ≤ powW 6 j := by
    intro j
    induction j with
    | zero => intro _; exact Int.le_refl _
    | succ j ih =>
      intro hj
      have h := ih (by omega)
      have p := powW_pos h2 j
      show powW k j * k ≤ powW 6 j * 6
      exact Int.le_trans (Int.mul_le_mul_of_nonneg_right h (by omega)) (Int.mul_le_mul_of_nonneg_left h6 (by omega))
  refine ⟨powW_pos h2 j, Int.le_trans (key j hj) ?_⟩
  have : j = 0 ∨ j = 1 ∨ j = 2 ∨ j = 3 ∨ j = 4 ∨ j = 5 := by omega
  rcases this with rfl | rfl | rfl | rfl | rfl | rfl <;> decide

theorem rowsFault_at {n m : Int} {l : List (List Int)} {k : Nat} (hk : k < l.length) (h : ∀ i (hi : i < l.length), i < k → (l[i].length : Int) = n ∧ ∀ s ∈ l[i], 0 ≤ s ∧ s < m) :
    ((l[k].length : Int) ≠ n → rowsFault n m l = 2) ∧ ((l[k].length : Int) = n → (∃ s ∈ l[k], ¬ (0 ≤ s ∧ s < m)) → rowsFault n m l = 1) := by
  induction l generalizing k with
  | nil => simp at hk
  | cons r t ih =>
    cases k with
    | zero =>
      refine ⟨fun h1 => ?_, fun h1 h2 => ?_⟩
      · simp only [List.getElem_cons_zero] at h1
        unfold rowsFault; rw [if_pos h1]
      · simp only [List.getElem_cons_zero] at h1 h2
        obtain ⟨s, hs, hn⟩ := h2
        unfold rowsFault
        rw [if_neg (by omega), if_neg]
        intro hall
        exact hn (by simpa using List.all_eq_true.1 hall s hs)
    | succ k =>
      have h0 := h 0 (by simp) (by omega)
      simp only [List.getElem_cons_zero] at h0
      have e : rowsFault n m (r :: t) = rowsFault n m t := by
        conv => lhs; unfold rowsFault
        rw [if_neg (by omega), if_pos]
        rw [List.all_eq_true]; intro s hs; simpa using h0.2 s hs
      rw [e]
      exact ih (by simpa using hk) (fun i hi hik => h (i + 1) (by simp; omega) (by omega))

end Go.Proofs.YtpgkpbfefnpagaaGreatDoor
namespace Go.Proofs.YtpgkpbfefnpagaaGreatDoor
open Go.RowKit

theorem Norm.datum {st : St} (d j : Nat) {l : List T} (h : look st.tmps d = some (.sref j)) (hj : st.heap[j]? = some (.froz l)) : Norm st (st.put (some d) (.t (.list l))) := fun C hd a w hr => by
  refine ⟨hd, hr.below, hr.df, hr.nt, hr.hl, hr.ob, hr.own, hr.dist, fun t x hx => ?_, hr.ext⟩
  simp only [St.put, look] at hx
  split at hx
  · rename_i e
    subst e
    cases hx
    have hs := hr.sl d _ h
    generalize a.tmps.getD d _root_.Go.undef = v at hs
    cases hs with
    | sref _ ad n cap o hh =>
      have hob := hr.ob j _ _ hj hh
      exact .t _ _ hob.2.2
  · exact hr.sl t x hx
/-- A slot that holds what can be read as a datum. -/
theorem Norm.tr {st : St} (d : Nat) {x : SV} {y : T} (h : look st.tmps d = some x) (hy : st.tr x = some y) : Norm st (st.put (some d) (.t y)) := fun C hd a w hr => by
  refine ⟨hd, hr.below, hr.df, hr.nt, hr.hl, hr.ob, hr.own, hr.dist, fun t z hz => ?_, hr.ext⟩
  simp only [St.put, look] at hz
  split at hz
  · rename_i e
    subst e
    cases hz
    exact .t _ _ (tr_ok hr (hr.sl d _ h) hy)
  · exact hr.sl t z hz
end Go.Proofs.YtpgkpbfefnpagaaGreatDoor
namespace Go.Proofs.YtpgkpbfefnpagaaGreatDoor
open Go.RowKit

end Go.Proofs.YtpgkpbfefnpagaaGreatDoor
namespace Go.Proofs.YtpgkpbfefnpagaaGreatDoor
open Go.RowKit

def obj0 (heap : List Ob) (i : Nat) : Ob := (heap[i]?).getD .gone
theorem obj0_set {heap : List Ob} {j i : Nat} {o l : Ob} (hi : obj0 heap i = l) (hj : obj0 heap j ≠ l) : obj0 (heap.set j o) i = l := by
  unfold obj0 at *
  rw [List.getElem?_set]
  split
  · rename_i e; subst e; exact (hj hi).elim
  · exact hi
theorem frzC_fix {heap heap' : List Ob} {x : SV} {y : T} (h : frzC heap x = some (y, heap')) {i : Nat} {l : List T} (hi : obj0 heap i = .fbox l) : obj0 heap' i = .fbox l := by
  unfold frzC at h
  split at h
  · cases h; exact hi
  · cases h; exact hi
  · cases h; exact hi
  · split at h
    · rename_i hj; cases h; exact obj0_set hi (by unfold obj0; rw [hj]; simp)
    · cases h; exact hi
    · cases h
  · cases h
theorem frzL_fix : ∀ {xs : List SV} {heap heap' : List Ob} {ys : List T} (_ : frzL heap xs = some (ys, heap')) {i : Nat} {l : List T} (_ : obj0 heap i = .fbox l), obj0 heap' i = .fbox l
  | [], heap, heap', ys, h, i, l, hi => by simp only [frzL] at h; cases h; exact hi
  | x :: r, heap, heap', ys, h, i, l, hi => by
    simp only [frzL] at h
    split at h
    · rename_i e1
      split at h
      · rename_i e2
        cases h
        exact frzL_fix e2 (frzC_fix e1 hi)
      · cases h
    · cases h
theorem frz_fix {heap heap' : List Ob} {x : SV} {y : T} (h : frz heap x = some (y, heap')) {i : Nat} {l : List T} (hi : obj0 heap i = .fbox l) : obj0 heap' i = .fbox l := by
  unfold frz at h
  split at h
  · split at h
    · rename_i e1; cases h; exact frzL_fix e1 hi
    · cases h
  · exact frzC_fix h hi
theorem store_fix {s t : St} {i : TI} {p x : SV} (h : s.store i p x = some t) {k : Nat} {l : List T} (hk : s.obj k = .fbox l) : t.obj k = .fbox l := by
  have hk : obj0 s.heap k = .fbox l := hk
  show obj0 t.heap k = .fbox l
  unfold St.store at h
  split at h
  · split at h
    · rename_i ho
      split at h
      · cases h; exact obj0_set hk (by show s.obj _ ≠ _; rw [ho]; simp)
      · cases h
    · cases h
  · split at h
    · rename_i y heap' hf
      have hk2 := frz_fix hf hk
      split at h
      · rename_i ho
        split at h
        · split at h
          · cases h; exact obj0_set hk2 (by unfold obj0; rw [ho]; simp)
          · cases h
        · cases h
      · cases h
    · cases h
  · cases h
section
variable {P : Program} {G : World → Prop} {tt : Nat → Option TI} {tb : Tab} {ops : Array Oper} {ps : List (Nat × Nat)} {fx : List Nat}
/-- A load from a variable that nothing writes any more, or a part's place. -/
def fixedLoad (s : St) (op : Op) : Prop := (∃ t p j off l, op = .load t p ∧ s.ev p = .bptr j off ∧ s.obj j = .fbox l) ∨ (∃ t p f, op = .fieldAddr t p f) ∨ (∃ t p y, op = .load t p ∧ s.ev p = .t y) ∨ ∃ t p i y, op = .indexAddr t p i ∧ s.ev p = .t y
open Classical in
noncomputable def stepF (fx : List Nat) (ps : List (Nat × Nat)) (tt : Nat → Option TI) (tb : Tab) (ops : Array Oper) (k : Nat) (s : St) : Option St :=
  if fx.contains k = true then (match ops[k]? with
    | some o => if fixedLoad s o.op then stepA ps tt tb ops k s else none
    | none => none) else stepA ps tt tb ops k s
theorem stepF_A {k : Nat} {s t : St} (h : stepF fx ps tt tb ops k s = some t) : stepA ps tt tb ops k s = some t := by
  unfold stepF at h
  split at h
  · split at h
    · split at h
      · exact h
      · cases h
    · cases h
  · exact h
theorem stepF_fix {k : Nat} {s t : St} (h : stepF fx ps tt tb ops k s = some t) {o : Oper} (ho : ops[k]? = some o) (hk : fx.contains k = true) : fixedLoad s o.op := by
  unfold stepF at h
  rw [if_pos hk, ho] at h
  simp only at h
  split at h
  · assumption
  · cases h
theorem stepF_of {k : Nat} {s t : St} (h : stepA ps tt tb ops k s = some t) (hf : fx.contains k = true → ∃ o, ops[k]? = some o ∧ fixedLoad s o.op) : stepF fx ps tt tb ops k s = some t := by
  unfold stepF
  split
  · rename_i hk
    obtain ⟨o, ho, h2⟩ := hf hk
    rw [ho]
    simp only
    rw [if_pos h2]
    exact h
  · exact h
theorem fixedLoad_congr {s s' : St} (h : Eqv s s') {op : Op} (hf : fixedLoad s op) : fixedLoad s' op := by
  rcases hf with ⟨t, p, j, off, l, rfl, h1, h2⟩ | hf | ⟨t, p, y, rfl, h1⟩ | ⟨t, p, i, y, rfl, h1⟩
  · exact .inl ⟨t, p, j, off, l, rfl, by rw [← h.ev]; exact h1, by unfold St.obj at *; rw [← h.heap]; exact h2⟩
  · exact .inr (.inl hf)
  · exact .inr (.inr (.inl ⟨t, p, y, rfl, by rw [← h.ev]; exact h1⟩))
  · exact .inr (.inr (.inr ⟨t, p, i, y, rfl, by rw [← h.ev]; exact h1⟩))
theorem stepF_congr (k : Nat) (s s' t : St) (h : Eqv s s') (hs : stepF fx ps tt tb ops k s = some t) : ∃ t', stepF fx ps tt tb ops k s' = some t' ∧ Eqv t t' := by
  obtain ⟨t', h1, h2⟩ := stepA_congr k s s' t h (stepF_A hs)
  refine ⟨t', stepF_of h1 fun hk => ?_, h2⟩
  cases ho : ops[k]? with
  | none => unfold stepF at hs; rw [if_pos hk, ho] at hs; cases hs
  | some o => exact ⟨o, rfl, fixedLoad_congr h (stepF_fix hs ho hk)⟩
def loadOp : Op → Bool
  | .load .. => true
  | .fieldAddr .. => true
  | .indexAddr .. => true
  | _ => false
/-- It leaves the variables as they are, or makes one at its place. -/
def calm (ps : List (Nat × Nat)) (ops : Array Oper) (k : Nat) : Bool := (ps.lookup k).isSome || (match ops[k]? with
  | some o => quietOp o.op
  | none => false)
def passF (fx : List Nat) (ps : List (Nat × Nat)) (ops : Array Oper) (j k : Nat) : Bool :=
  (passA ps ops j k && ((!fx.contains j && !fx.contains k) || (calm ps ops j && calm ps ops k))) ||
  (match ops[j]?, ops[k]? with
  | some x, some y => x.apart ops y && fx.contains j && !fx.contains k && (ps.lookup j).isNone && (ps.lookup k).isNone && loadOp x.op && storeOp y.op && y.guard.isNone
  | _, _ => false)
theorem calm_obj {k : Nat} (hc : calm ps ops k = true) {s s1 : St} (h : stepA ps tt tb ops k s = some s1) {i : Nat} {l : List T} : s.obj i = .fbox l ↔ s1.obj i = .fbox l := by
  unfold stepA at h
  unfold calm at hc
  split at h
  · rename_i hl
    rw [hl] at hc
    simp only [Option.isSome_none, Bool.false_or] at hc
    split at hc
    · rename_i o ho
      obtain ⟨p, _, rfl⟩ := (quietStep_iff ho hc).1 h
      unfold St.obj
      rw [put_heap]
    · cases hc
  · rename_i pk hl
    split at h
    · rename_i o ho
      obtain ⟨e, ti, g1, g2, g3, g4, g5, rfl⟩ := allocAt_some h
      unfold St.obj
      rw [put_heap]
      simp only
      have hkl := (List.getElem?_eq_some_iff.1 g3).1
      rcases Nat.lt_trichotomy i s.heap.length with hi | hi | hi
      · rw [List.getElem?_append_left (by simpa using hi), List.getElem?_set]
        by_cases e : pk = i
        · subst e
          rw [g3, if_pos rfl, if_pos hkl]
          simp
        · rw [if_neg e]
      · subst hi
        rw [List.getElem?_append_right (by simp)]
        simp
      · rw [List.getElem?_append_right (by simp; omega), List.getElem?_eq_none (by omega), List.getElem?_eq_none (by simp; omega)]
    · cases h
theorem calm_ev {k : Nat} {s s1 : St} (h : stepA ps tt tb ops k s = some s1) (hc : calm ps ops k = true) {x : Oper} (hx : ops[k]? = some x) {p : Operand} (hp : ∀ t, x.dst = some t → p ≠ .tmp t) : s1.ev p = s.ev p := by
  unfold stepA at h
  unfold calm at hc
  split at h
  · rename_i hl
    rw [hl] at hc
    simp only [Option.isSome_none, Bool.false_or, hx] at hc
    obtain ⟨q, _, rfl⟩ := (quietStep_iff hx hc).1 h
    exact put_ev hp
  · rw [hx] at h
    simp only at h
    obtain ⟨e, ti, g1, g2, g3, g4, g5, rfl⟩ := allocAt_some h
    rw [put_ev hp]
    cases p <;> rfl
theorem passA_apart {j k : Nat} (h : passA ps ops j k = true) : ∃ x y, ops[j]? = some x ∧ ops[k]? = some y ∧ x.apart ops y = true := by
  unfold passA at h
  split at h
  · rename_i x y hx hy
    rw [Bool.and_eq_true] at h
    exact ⟨x, y, hx, hy, h.1⟩
  · cases h
theorem swapF (j k : Nat) (s s1 s2 : St) (hp : passF fx ps ops j k = true) (h1 : stepF fx ps tt tb ops j s = some s1) (h2 : stepF fx ps tt tb ops k s1 = some s2) : ∃ u u', stepF fx ps tt tb ops k s = some u ∧ stepF fx ps tt tb ops j u = some u' ∧ Eqv s2 u' := by
  have g1 := stepF_A h1
  have g2 := stepF_A h2
  unfold passF at hp
  rw [Bool.or_eq_true] at hp
  rcases hp with hp | hp
  · rw [Bool.and_eq_true] at hp
    obtain ⟨hpa, hq⟩ := hp
    obtain ⟨x, y, hx, hy, hap⟩ := passA_apart hpa
    obtain ⟨a1, a2, a3⟩ := Oper.apart_spec hap
    obtain ⟨u, u', e1, e2, e3⟩ := swapA j k s s1 s2 hpa g1 g2
    refine ⟨u, u', stepF_of e1 fun hk => ⟨y, hy, ?_⟩, stepF_of e2 fun hj => ⟨x, hx, ?_⟩, e3⟩
    · rw [hk] at hq
      simp only [Bool.not_true, Bool.and_false, Bool.false_or, Bool.and_eq_true] at hq
      rcases stepF_fix h2 hy hk with ⟨t, p, i, off, l, ho, f1, f2⟩ | hfa | ⟨t, p, yy, ho, f1⟩ | ⟨t, p, i, yy, ho, f1⟩
      · refine .inl ⟨t, p, i, off, l, ho, ?_, (calm_obj hq.1 g1).2 f2⟩
        rw [← f1]
        exact (calm_ev g1 hq.1 hx fun z hz e => a1 z hz (looks_op (by rw [ho]; subst e; simp [Op.operands]))).symm
      · exact .inr (.inl hfa)
      · refine .inr (.inr (.inl ⟨t, p, yy, ho, ?_⟩))
        rw [← f1]
        exact (calm_ev g1 hq.1 hx fun z hz e => a1 z hz (looks_op (by rw [ho]; subst e; simp [Op.operands]))).symm
      · refine .inr (.inr (.inr ⟨t, p, i, yy, ho, ?_⟩))
        rw [← f1]
        exact (calm_ev g1 hq.1 hx fun z hz e => a1 z hz (looks_op (by rw [ho]; subst e; simp [Op.operands]))).symm
    · rw [hj] at hq
      simp only [Bool.not_true, Bool.false_and, Bool.false_or, Bool.and_eq_true] at hq
      rcases stepF_fix h1 hx hj with ⟨t, p, i, off, l, ho, f1, f2⟩ | hfa | ⟨t, p, yy, ho, f1⟩ | ⟨t, p, i, yy, ho, f1⟩
      · refine .inl ⟨t, p, i, off, l, ho, ?_, (calm_obj hq.2 e1).1 f2⟩
        rw [← f1]
        exact calm_ev e1 hq.2 hy fun z hz e => a3 z hz (looks_op (by rw [ho]; subst e; simp [Op.operands]))
      · exact .inr (.inl hfa)
      · refine .inr (.inr (.inl ⟨t, p, yy, ho, ?_⟩))
        rw [← f1]
        exact calm_ev e1 hq.2 hy fun z hz e => a3 z hz (looks_op (by rw [ho]; subst e; simp [Op.operands]))
      · refine .inr (.inr (.inr ⟨t, p, i, yy, ho, ?_⟩))
        rw [← f1]
        exact calm_ev e1 hq.2 hy fun z hz e => a3 z hz (looks_op (by rw [ho]; subst e; simp [Op.operands]))
  · split at hp
    · rename_i x y hx hy
      simp only [Bool.and_eq_true, Bool.not_eq_true', Option.isNone_iff_eq_none] at hp
      obtain ⟨⟨⟨⟨⟨⟨⟨hap, hj⟩, hk⟩, lj⟩, lk⟩, hlo⟩, hso⟩, hgd⟩ := hp
      obtain ⟨a1, a2, a3⟩ := Oper.apart_spec hap
      have hfix := stepF_fix h1 hx hj
      unfold stepA at g1 g2
      simp only [lj] at g1
      simp only [lk] at g2
      have hqx : quietOp x.op = true := by cases hop : x.op <;> simp [hop, loadOp] at hlo <;> rfl
      have hqy : quietOp y.op = false := by cases hop : y.op <;> simp [hop, storeOp] at hso; rfl
      have hsim : simpleOp x.op = true := by cases hop : x.op <;> simp [hop, loadOp] at hlo <;> rfl
      obtain ⟨p, hp, rfl⟩ := (quietStep_iff hx hqx).1 g1
      have hI : ∀ q : St, stepI tt tb ops k q = if dstOk q.nt y.dst = true then stepX0 tt tb q y else none := fun q => by
        unfold stepI
        rw [hy]
        simp only [hqy, Bool.false_eq_true, if_false]
        unfold stepX
        rw [hgd]
      rw [hI] at g2
      split at g2
      · rename_i hd
        rw [put_nt] at hd
        obtain ⟨dst, op, ty, pos, after, guard⟩ := y
        cases op <;> simp [storeOp] at hso
        rename_i t pp xx
        have hX : ∀ q : St, stepX0 tt tb q ⟨dst, .store t pp xx, ty, pos, after, guard⟩ = match tt t with | some i => (q.store i (q.ev pp) (q.ev xx)).map fun s => s.put dst (.t .undef) | none => none := fun q => by
          simp only [stepX0, evalX, evalOp, stepOp1]
          cases tt t <;> rfl
        have e1 : ∀ z ∈ [pp, xx], (s.put x.dst p).ev z = s.ev z := fun z hz => put_ev fun t ht e => a1 t ht (looks_op (by subst e; simpa [Op.operands] using hz))
        rw [hX, e1 pp (by simp), e1 xx (by simp)] at g2
        split at g2
        · rename_i ti hti
          rw [Option.map_eq_some_iff] at g2
          obtain ⟨s3, h3, rfl⟩ := g2
          obtain ⟨hpp, rfl, h4⟩ := store_form (put_heap s x.dst p) h3
          refine ⟨({ s with heap := hpp } : St).put dst (.t .undef), ({ s with heap := hpp } : St).put dst (.t .undef) |>.put x.dst p, stepF_of ?_ (fun e => by rw [hk] at e; cases e), stepF_of ?_ fun _ => ⟨x, hx, ?_⟩, ?_⟩
          · unfold stepA
            simp only [lk]
            rw [hI, if_pos hd, hX, hti]
            simp only [h4, Option.map_some]
          · unfold stepA
            simp only [lj]
            refine (quietStep_iff hx hqx).2 ⟨p, (quietStep_put a3).2 ?_, rfl⟩
            obtain ⟨q1, q2⟩ := hp
            refine ⟨q1, ?_⟩
            have hgr : ∀ z, evalX tt tb s x.op = some z → evalX tt tb ({ s with heap := hpp } : St) x.op = some z := fun z hz => by
              rw [evalX_simple hsim] at hz ⊢
              rcases hfix with ⟨t', p', i, off, l, ho, f1, f2⟩ | ⟨t', p', f', ho⟩ | ⟨t', p', yy, ho, f1⟩ | ⟨t', p', i', yy, ho, f1⟩
              · have f3 : ({ s with heap := hpp } : St).obj i = .fbox l := store_fix h4 f2
                rw [ho] at hz ⊢
                simp only [evalOp] at hz ⊢
                split at hz
                · have f4 : ({ s with heap := hpp } : St).ev p' = .bptr i off := by rw [← f1]; cases p' <;> rfl
                  rw [f4]
                  rw [f1] at hz
                  unfold St.load at hz ⊢
                  simp only [f2] at hz
                  simp only [f3]
                  exact hz
                · cases hz
              · rw [ho] at hz ⊢
                have f4 : ({ s with heap := hpp } : St).ev p' = s.ev p' := by cases p' <;> rfl
                simp only [evalOp] at hz ⊢
                rw [f4]
                exact hz
              · rw [ho] at hz ⊢
                have f4 : ({ s with heap := hpp } : St).ev p' = .t yy := by rw [← f1]; cases p' <;> rfl
                simp only [evalOp] at hz ⊢
                rw [f4]
                rw [f1] at hz
                split at hz
                · have e0 : ∀ ti, ({ s with heap := hpp } : St).load ti (.t yy) = s.load ti (.t yy) := fun ti => by cases yy <;> rfl
                  rw [e0]
                  exact hz
                · cases hz
              · rw [ho] at hz ⊢
                have f4 : ({ s with heap := hpp } : St).ev p' = .t yy := by rw [← f1]; cases p' <;> rfl
                have f5 : ({ s with heap := hpp } : St).ev i' = s.ev i' := by cases i' <;> rfl
                simp only [evalOp] at hz ⊢
                rw [f4, f5]
                rw [f1] at hz
                have e0 : ∀ a n, ({ s with heap := hpp } : St).index a n (.t yy) = s.index a n (.t yy) := fun a n => by cases yy <;> rfl
                simp only [e0]
                exact hz
            rcases q2 with ⟨g1, g2⟩ | ⟨jj, want, dd, b, g1, g2, g3, g4⟩
            · exact .inl ⟨g1, hgr _ g2⟩
            · refine .inr ⟨jj, want, dd, b, g1, g2, g3, ?_⟩
              rcases g4 with ⟨g4, g5⟩ | g4
              · exact .inl ⟨g4, hgr _ g5⟩
              · exact .inr g4
          · rcases hfix with ⟨t', p', i, off, l, ho, f1, f2⟩ | hfa | ⟨t', p', yy, ho, f1⟩ | ⟨t', p', i', yy, ho, f1⟩
            · refine .inl ⟨t', p', i, off, l, ho, ?_, ?_⟩
              · rw [put_ev fun z hz e => a3 z hz (looks_op (by rw [ho]; subst e; simp [Op.operands])), ← f1]
                cases p' <;> rfl
              · have f3 : ({ s with heap := hpp } : St).obj i = .fbox l := store_fix h4 f2
                unfold St.obj at f3 ⊢
                rw [put_heap]
                exact f3
            · exact .inr (.inl hfa)
            · refine .inr (.inr (.inl ⟨t', p', yy, ho, ?_⟩))
              rw [put_ev fun z hz e => a3 z hz (looks_op (by rw [ho]; subst e; simp [Op.operands])), ← f1]
              cases p' <;> rfl
            · refine .inr (.inr (.inr ⟨t', p', i', yy, ho, ?_⟩))
              rw [put_ev fun z hz e => a3 z hz (looks_op (by rw [ho]; subst e; simp [Op.operands])), ← f1]
              cases p' <;> rfl
          · rw [put_with]
            exact put_comm _ p _ (fun t e => a2 t e)
        · cases g2
      · cases g2
    · cases hp
def topoF (fx : List Nat) (ps : List (Nat × Nat)) (ops : Array Oper) : Bool := (List.range ops.size).all fun i => match ops[i]? with
  | some y => y.after.all (fun e => !Region.binds .any e || decide (e.on < i)) && (List.range i).all (fun j => ((ancs ops ops.size).getD i 0).testBit j || passF fx ps ops j i)
  | none => true
theorem runF_of {k : Nat} {ks : List Nat} {s s1 t : St} (hk : fx.contains k = false) (h : stepA ps tt tb ops k s = some s1) (h2 : runG (stepF fx ps tt tb ops) ks s1 = some t) : runG (stepF fx ps tt tb ops) (k :: ks) s = some t := by
  simp only [runG, stepF_of (fx := fx) h fun e => by rw [hk] at e; cases e]
  exact h2
theorem runF_data {k : Nat} {ks : List Nat} {s s1 t : St} {ty : Nat} {p : Operand} {o : Oper} {y : T} (ho : ops[k]? = some o) (hop : o.op = .load ty p) (hp : s.ev p = .t y) (h : stepA ps tt tb ops k s = some s1) (h2 : runG (stepF fx ps tt tb ops) ks s1 = some t) : runG (stepF fx ps tt tb ops) (k :: ks) s = some t := by
  simp only [runG, stepF_of (fx := fx) h fun _ => ⟨o, ho, .inr (.inr (.inl ⟨ty, p, y, hop, hp⟩))⟩]
  exact h2
theorem runF_idx {k : Nat} {ks : List Nat} {s s1 t : St} {ty : Nat} {p i : Operand} {o : Oper} {y : T} (ho : ops[k]? = some o) (hop : o.op = .indexAddr ty p i) (hp : s.ev p = .t y) (h : stepA ps tt tb ops k s = some s1) (h2 : runG (stepF fx ps tt tb ops) ks s1 = some t) : runG (stepF fx ps tt tb ops) (k :: ks) s = some t := by
  simp only [runG, stepF_of (fx := fx) h fun _ => ⟨o, ho, .inr (.inr (.inr ⟨ty, p, i, y, hop, hp⟩))⟩]
  exact h2
/-- A region that draws its order, with places for the variables that it makes; the loads fx read variables that nothing writes. -/
theorem SW_drawF (fx : List Nat) (ps : List (Nat × Nat)) (hm : P.follows .mixedOrders = true) (hT : TTok P tt) (hGl : Lasting G) (htb : Tab.ok P G tb) {id : Nat} {ops : Array Oper} (htopo : topoF fx ps ops = true) {Q : Exit → St → Prop} {s t : St} (h : runG (stepF fx ps tt tb ops) (List.range ops.size) s = some t) (hq : Q .normal t) : SW P G (.region id ops true) Q s := fun C hd a w hG hr => by
  refine wp_region_any hm ?_
  have htp : ∀ i y, ops[i]? = some y → (∀ e ∈ y.after, Region.binds .any e = true → e.on < i) ∧ ∀ j, j < i → ((ancs ops ops.size).getD i 0).testBit j = true ∨ passF fx ps ops j i = true := fun i y hy => by
    have hi := (Array.getElem?_eq_some_iff.1 hy).1
    have := List.all_eq_true.1 htopo i (List.mem_range.2 hi)
    rw [hy] at this
    simp only [Bool.and_eq_true] at this
    obtain ⟨h1, h2⟩ := this
    refine ⟨fun e he hb => ?_, fun j hj => by simpa using List.all_eq_true.1 h2 j (List.mem_range.2 hj)⟩
    have := (Array.all_eq_true_iff_forall_mem.1 h1) e he
    simpa [hb] using this
  exact wpAny_runG (stp := stepF fx ps tt tb ops) (pass := fun j k => passF fx ps ops j k = true) hT hGl htb hG (fun k s s' h => stepA_I (stepF_A h)) stepF_congr swapF htp ops.size (Array.replicate ops.size false) s t hd a _ (by simp) (fun i y hi => by by_cases h : i < ops.size <;> simp [h] at hi) (by rw [left_all]; simp) (by rw [left_all]; exact h) hr.drawn (fun t' hd' a' w' h1 h2 => ⟨t, hd', hq, h1.symm.str h2⟩)
end
end Go.Proofs.YtpgkpbfefnpagaaGreatDoor
namespace Go.Proofs.YtpgkpbfefnpagaaGreatDoor
open Go.RowKit

section
variable {P : Program} {G : World → Prop} {tt : Nat → Option TI} {tb : Tab} {Q : Exit → St → Prop}
end
end Go.Proofs.YtpgkpbfefnpagaaGreatDoor
namespace Go.Proofs.YtpgkpbfefnpagaaGreatDoor
open Go.RowKit

section
variable {P : Program} {G : World → Prop} {tt : Nat → Option TI} {tb : Tab} {Q : Exit → St → Prop}
end
end Go.Proofs.YtpgkpbfefnpagaaGreatDoor
namespace Go.Proofs.YtpgkpbfefnpagaaGreatDoor
open Go.RowKit

/-- The numbers behind a call: what was lent stays, what is new stands behind all. -/
def lateG (n m i : Nat) : Option Nat := some (if i < n then i else i + m)
/-- What is kept of references behind a call: not those to lent slices and maps, but for some that stay where they are. -/
def pastG (obs : List Ob) (ks : List Nat) (i : Nat) : Option Nat := match obs[i]? with
  | none => some i
  | some (.box _) => some i
  | _ => if i ∈ ks then some i else none
/-- Called with these, and lent these objects, it gives that, and hands back those objects, and new ones. -/
structure SndG (P : Program) (G : World → Prop) (f : Nat) (xs : List SV) (obs : List Ob) (ks : List Nat) (r : SV) (obs' : List Ob) : Prop where
  enter : ∀ (vs : Array Value) (w : World), (callFunc f vs).run P w = .ok (.enter f vs) w
  len : obs.length ≤ obs'.length
  box : ∀ (i : Nat) (l : List SV), obs[i]? = some (.box l) → ∃ l', obs'[i]? = some (.box l')
  calls : ∀ (C : Ctx) (hd : List Hd) (w : World) (vs : Array Value), G C.w0 → StR C ⟨0, [], obs⟩ hd act0 w → vs.size = xs.length → (∀ (k : Nat) (x : SV) (v : Value), xs[k]? = some x → vs[k]? = some v → RepS (vis C hd) w hd x v) →
    Calls P f vs w (fun e w' => ∃ v hd', e = .returned v ∧ StR C ⟨0, [], obs'⟩ hd' act0 w' ∧ (∀ (i : Nat) (l : List SV) (b : Nat), obs[i]? = some (.box l) → hd[i]? = some (.bx b true) → hd'[i]? = some (.bx b true)) ∧ (∀ i ∈ ks, ∀ h, hd[i]? = some h → hd'[i]? = some h) ∧ RepS (vis C hd') w' hd' r v)

section
variable {P : Program} {G : World → Prop} {C : Ctx} {st : St} {hd : List Hd} {a : Act} {w : World} {tt : Nat → Option TI} {tb : Tab} {Q : Exit → St → Prop}
/-- The state behind such a call. -/
def St.back (st : St) (obs rst : List Ob) (ks : List Nat) (obs' : List Ob) (dst : Option Nat) (r : SV) : St :=
  ({ nt := st.nt, tmps := st.tmps.map fun p => (p.1, p.2.ren (pastG obs ks)), heap := (obs'.take obs.length).map (Ob.ren (lateG obs.length rst.length)) ++ rst.map (Ob.ren (pastG obs ks)) ++ (obs'.drop obs.length).map (Ob.ren (lateG obs.length rst.length)) } : St).put dst (r.ren (lateG obs.length rst.length))
end
end Go.Proofs.YtpgkpbfefnpagaaGreatDoor
namespace Go.Proofs.YtpgkpbfefnpagaaGreatDoor
open Go.RowKit

/-- A hidden row. -/
structure HR where
  a : Option Addr
  n : Nat
  cap : Nat
  e : Nat
  sz : Nat
  l : List T
def HR.raw (h : HR) : T := .raw h.a h.n h.cap
def HR.val (h : HR) : Value := .slice h.a h.n h.cap
structure HRok (C : Ctx) (h : HR) : Prop where
  n : h.n = h.l.length
  sz : 0 < h.sz
  max : h.l.length ≤ maxLen
  cells : ∀ x ∈ h.l, x.cells.length = h.sz
  flatD : ∀ x ∈ h.l, x.flatData = true
  row : ∃ xs, C.w1.ownsRow C.w0.heap.size h.e h.sz h.val h.n xs ∧ RepL (fun _ => False) C.w1 (flat h.l) xs
  hid : ∀ b, h.val.ownBlock = some b → C.K b
structure Hid {κ : Type} (g : κ → Option HR) (C : Ctx) : Prop where
  ok : ∀ x h, g x = some h → HRok C h
  dist : ∀ x y h h' b, g x = some h → g y = some h' → h.val.ownBlock = some b → h'.val.ownBlock = some b → x = y
theorem Hid.empty {κ : Type} (C : Ctx) : Hid (fun _ : κ => none) C := ⟨fun _ _ h => (by cases h), fun _ _ _ _ _ h _ _ _ => (by cases h)⟩
def upd {κ : Type} [DecidableEq κ] (g : κ → Option HR) (x : κ) (h : Option HR) : κ → Option HR := fun y => if y = x then h else g y

section
variable {P : Program} {G : World → Prop} {κ : Type} {tt : Nat → Option TI} {tb : Tab}
def LiftH (C : Ctx) (Q : Exit → St → (κ → Option HR) → Prop) : Exit → Act → World → Prop := fun e a w => ∃ C' st hd g, C'.w0 = C.w0 ∧ C'.S0 = C.S0 ∧ Q e st g ∧ Hid g C' ∧ StR C' st hd a w
theorem LiftH.eq {C C' : Ctx} {Q : Exit → St → (κ → Option HR) → Prop} (h1 : C'.w0 = C.w0) (h2 : C'.S0 = C.S0) : LiftH C' Q = LiftH C Q := by
  funext e a w
  unfold LiftH
  rw [h1, h2]
variable {Q : Exit → St → (κ → Option HR) → Prop} {st : St} {g : κ → Option HR} {c : Code}
/-- A step that does nothing: what was own is hidden, what was hidden is shown. -/
def GS {α : Type} (st : St) (g : κ → Option HR) (st' : α → St) (g' : α → κ → Option HR) : Prop := ∀ C hd a w, Hid g C → StR C st hd a w → ∃ x C' hd', C'.w0 = C.w0 ∧ C'.S0 = C.S0 ∧ Hid (g' x) C' ∧ StR C' (st' x) hd' a w
theorem GS.trans {α β : Type} {s1 : St} {g1 : κ → Option HR} {s2 : α → St} {g2 : α → κ → Option HR} {s3 : α → β → St} {g3 : α → β → κ → Option HR} (h : GS s1 g1 s2 g2) (h' : ∀ x, GS (s2 x) (g2 x) (s3 x) (g3 x)) : GS s1 g1 (fun p : α × β => s3 p.1 p.2) (fun p => g3 p.1 p.2) := fun C hd a w hg hr => by
  obtain ⟨x, C', hd', h1, h2, h3, h4⟩ := h C hd a w hg hr
  obtain ⟨y, C2, hd2, k1, k2, k3, k4⟩ := h' x C' hd' a w h3 h4
  exact ⟨(x, y), C2, hd2, k1.trans h1, k2.trans h2, k3, k4⟩
/-- The context anew: what was written until now is as it is. -/
def reC (C : Ctx) (w : World) (hd : List Hd) (K : Nat → Prop) (h1 : C.w0.heap.size ≤ w.heap.size) (h2 : ∀ b, K b → b < w.heap.size ∧ ¬ ∃ h ∈ hd, h.own = some b) : Ctx := ⟨C.S0, C.w0, w, fun b => ∃ h ∈ hd, h.own = some b, K, h1, h2⟩
theorem hid_free {C : Ctx} {hd : List Hd} {a : Act} {w : World} (hr : StR C st hd a w) {b : Nat} (hb : C.K b) : b < w.heap.size ∧ w.heap[b]? = C.w1.heap[b]? ∧ ∀ h ∈ hd, h.own ≠ some b := by
  obtain ⟨k1, k2⟩ := C.hK b hb
  refine ⟨Nat.lt_of_lt_of_le k1 hr.ext.gro, hr.ext.stay b k1 k2, fun h hh e => ?_⟩
  rcases hr.ext.lent h b hh e with q | q
  · exact k2 q
  · omega
theorem HRok.move {C C' : Ctx} {h : HR} (hh : HRok C h) (e0 : C'.w0 = C.w0) (hK : ∀ b, h.val.ownBlock = some b → C'.K b ∧ C'.w1.heap[b]? = C.w1.heap[b]?) : HRok C' h := by
  obtain ⟨xs, h1, h2⟩ := hh.row
  refine ⟨hh.n, hh.sz, hh.max, hh.cells, hh.flatD, ⟨xs, ?_, ?_⟩, fun b e => (hK b e).1⟩
  · rw [e0]
    exact ownsRow_same h1 fun k e => (hK k e).2
  · refine ⟨h2.len, h2.one, fun k y v e1 e2 => (h2.rep k y v e1 e2).flat ?_⟩
    obtain ⟨z, hz, hy⟩ := List.mem_flatMap.1 (List.mem_of_getElem? e1)
    have := hh.flatD z hz
    cases z <;> simp only [T.cells, List.mem_singleton] at hy <;> first | (subst hy; exact this) | exact flatAll_mem (by simpa [T.flatData] using this) y hy

theorem flatD_flat {l : List T} (h : ∀ x ∈ l, x.flatData = true) {k : Nat} {y : T} (hy : (flat l)[k]? = some y) : y.flatData = true := by
  obtain ⟨z, hz, hy⟩ := List.mem_flatMap.1 (List.mem_of_getElem? hy)
  have := h z hz
  cases z <;> simp only [T.cells, List.mem_singleton] at hy <;> first | (subst hy; exact this) | exact flatAll_mem (by simpa [T.flatData] using this) y hy
theorem HRok.rowAt {C : Ctx} {h : HR} {w : World} (hh : HRok C h) (hw : ∀ b, h.val.ownBlock = some b → w.heap[b]? = C.w1.heap[b]?) : ∃ xs, w.ownsRow C.w0.heap.size h.e h.sz h.val h.n xs ∧ ∀ S : Nat → Prop, RepL S w (flat h.l) xs := by
  obtain ⟨xs, h1, h2⟩ := hh.row
  exact ⟨xs, ownsRow_same h1 hw, fun S => ⟨h2.len, h2.one, fun k y v e1 e2 => (h2.rep k y v e1 e2).flat (flatD_flat hh.flatD e1)⟩⟩
theorem look_cons {l : List (Nat × SV)} {t u : Nat} {x y : SV} (h : look ((t, x) :: l) u = some y) : (u = t ∧ y = x) ∨ look l u = some y := by
  simp only [look] at h
  split at h
  · rename_i e; cases h; exact .inl ⟨e.symm, rfl⟩
  · exact .inr h
end
end Go.Proofs.YtpgkpbfefnpagaaGreatDoor
namespace Go.Proofs.YtpgkpbfefnpagaaGreatDoor
open Go.RowKit

section
variable {P : Program} {G : World → Prop} {tt : Nat → Option TI} {tb : Tab} {Q : Exit → St → Prop} {st : St}
theorem SL_done (hT : TTok P tt) (hGl : Lasting G) (htb : Tab.ok P G tb) {ops : Array Oper} {l : List Oper} {st' : St} (h : runX tt tb ops l st = some st') (hq : Q .normal st') : SL P G ops l Q st := SL_runX hT hGl htb h hq
end
end Go.Proofs.YtpgkpbfefnpagaaGreatDoor
namespace Go.Proofs.YtpgkpbfefnpagaaGreatDoor
open Go.RowKit

def runA {σ : Type} (stp : Nat → σ → Option σ) : List Nat → σ → Option σ
  | [], s => some s
  | k :: r, s => match stp k s with
    | some s' => runA stp r s'
    | none => none
section
variable {σ γ : Type} {P : Program} {ops : Array Oper} {stp : Nat → σ → Option σ} {E : σ → σ → Prop}
theorem runA_nil {s : σ} : runA stp [] s = some s := rfl
theorem runA_cons {k : Nat} {r : List Nat} {s s1 s2 : σ} (h1 : stp k s = some s1) (h2 : runA stp r s1 = some s2) : runA stp (k :: r) s = some s2 := by
  unfold runA; rw [h1]; exact h2
theorem runA_congr (hC : ∀ k s s' t, E s s' → stp k s = some t → ∃ t', stp k s' = some t' ∧ E t t') : ∀ {l : List Nat} {s s' : σ}, E s s' → ∀ {t : σ}, runA stp l s = some t → ∃ t', runA stp l s' = some t' ∧ E t t'
  | [], s, s', h, t, hs => by simp [runA] at hs; subst hs; exact ⟨_, rfl, h⟩
  | k :: r, s, s', h, t, hs => by
    unfold runA at hs ⊢
    split at hs
    · rename_i u hu
      obtain ⟨u', h1, h2⟩ := hC k _ _ _ h hu
      rw [h1]
      exact runA_congr hC h2 hs
    · cases hs
theorem frontA (hEr : ∀ s, E s s) (hEt : ∀ s t u, E s t → E t u → E s u) (hC : ∀ k s s' t, E s s' → stp k s = some t → ∃ t', stp k s' = some t' ∧ E t t') {pass : Nat → Nat → Prop} (hP : ∀ j k s s1 s2, pass j k → stp j s = some s1 → stp k s1 = some s2 → ∃ u u', stp k s = some u ∧ stp j u = some u' ∧ E s2 u') :
    ∀ {p q : List Nat} {k : Nat} {s t : σ}, (∀ j ∈ p, pass j k) → runA stp (p ++ k :: q) s = some t → ∃ s1 t', stp k s = some s1 ∧ runA stp (p ++ q) s1 = some t' ∧ E t t'
  | [], q, k, s, t, _, h => by
    simp only [List.nil_append, runA] at h
    split at h
    · rename_i s1 h1; exact ⟨s1, t, h1, h, hEr _⟩
    · cases h
  | j :: p, q, k, s, t, hp, h => by
    simp only [List.cons_append, runA] at h
    split at h
    · rename_i s1 h1
      obtain ⟨s2, t', e1, e2, e3⟩ := frontA hEr hEt hC hP (fun j' hj' => hp j' (List.mem_cons_of_mem _ hj')) h
      obtain ⟨u, u', f1, f2, f3⟩ := hP j k _ _ _ (hp j List.mem_cons_self) h1 e1
      obtain ⟨t'', g1, g2⟩ := runA_congr hC f3 e2
      refine ⟨u, t'', f1, ?_, hEt _ _ _ e3 g2⟩
      simp only [List.cons_append, runA, f2]
      exact g1
    · cases h
/-- Operation kc may have more than one outcome; all others have one, whatever that one is. -/
theorem wpAny_abs (Rel : σ → Act → World → Prop) (stp : γ → Nat → σ → Option σ) (kc : Nat) (hEr : ∀ s, E s s) (hEt : ∀ s t u, E s t → E t u → E s u) (hI : ∀ c c' k, k ≠ kc → stp c k = stp c' k)
    (hC : ∀ c k s s' t, E s s' → stp c k s = some t → ∃ t', stp c k s' = some t' ∧ E t t') {pass : Nat → Nat → Prop}
    (hP : ∀ c j k s s1 s2, pass j k → stp c j s = some s1 → stp c k s1 = some s2 → ∃ u u', stp c k s = some u ∧ stp c j u = some u' ∧ E s2 u')
    (htp : ∀ i y, ops[i]? = some y → (∀ e ∈ y.after, Region.binds .any e = true → e.on < i) ∧ ∀ j, j < i → ((ancs ops ops.size).getD i 0).testBit j = true ∨ pass j i) {Q : Exit → Act → World → Prop}
    (hS : ∀ c k o s s1 a w (K : Act → World → Prop), ops[k]? = some o → k ≠ kc → stp c k s = some s1 → Rel s a w → (∀ a' w', Rel s1 a' w' → K a' w') → if Region.wanted o (yielded ops a.tmps) then o.wp P a w K Q else K (a.put o.dst undef) w)
    (hSc : ∀ o s a w (K : Act → World → Prop), ops[kc]? = some o → (∀ c, ∃ s1, stp c kc s = some s1) → Rel s a w → (∀ c s1 a' w', stp c kc s = some s1 → Rel s1 a' w' → K a' w') → if Region.wanted o (yielded ops a.tmps) then o.wp P a w K Q else K (a.put o.dst undef) w) :
    ∀ (fuel : Nat) (listed : Array Bool) (s : σ) (a : Act) (w : World) (A : γ → Prop), listed.size = ops.size → (∀ i y, listed.getD i false = true → ops[i]? = some y → ∀ e ∈ y.after, Region.binds .any e = true → listed.getD e.on false = true) → (left listed ops.size).length = fuel →
    (∃ c, A c) → (listed.getD kc true = false → ∀ c, A c) → (∀ c, A c → ∃ t, runA (stp c) (left listed ops.size) s = some t ∧ ∀ t' a' w', E t t' → Rel t' a' w' → Q .normal a' w') → Rel s a w → wpAny P .any ops Q fuel listed a w := by
  have memLeft : ∀ {listed : Array Bool} {k : Nat}, listed.size = ops.size → (k ∈ left listed ops.size ↔ k < ops.size ∧ listed.getD k true = false) := fun {listed k} _ => by
    simp [left]
  intro fuel
  induction fuel with
  | zero =>
    intro listed s a w A hsz hcl hl hA hAll hrun hr
    have hnil : left listed ops.size = [] := List.eq_nil_of_length_eq_zero hl
    obtain ⟨c, hc⟩ := hA
    obtain ⟨t, hrun, hQ⟩ := hrun c hc
    rw [hnil] at hrun
    simp [runA] at hrun
    subst hrun
    refine ⟨?_, hQ s a w (hEr _) hr⟩
    apply List.eq_nil_iff_forall_not_mem.2
    intro k hk
    obtain ⟨h1, o, h2, _⟩ := mem_ready.1 hk
    have : k ∈ left listed ops.size := (memLeft hsz).2 ⟨(Array.getElem?_eq_some_iff.1 h2).1, h1⟩
    rw [hnil] at this
    simp at this
  | succ fuel ih =>
    intro listed s a w A hsz hcl hl hA hAll hrun hr
    refine ⟨fun h0 => ?_, fun k hk => ?_⟩
    · exfalso
      obtain ⟨k, r, hkr⟩ : ∃ k r, left listed ops.size = k :: r := by
        cases hL : left listed ops.size with
        | nil => rw [hL] at hl; simp at hl
        | cons k r => exact ⟨k, r, rfl⟩
      have hkm : k ∈ left listed ops.size := by rw [hkr]; exact List.mem_cons_self
      obtain ⟨hlt, hun⟩ := (memLeft hsz).1 hkm
      have hy := Array.getElem?_eq_getElem hlt
      have : k ∈ Region.ready .any ops listed := by
        refine mem_ready.2 ⟨hun, _, hy, fun e he hb => ?_⟩
        have hon := (htp k _ hy).1 e he hb
        cases hle : listed.getD e.on false with
        | true => rfl
        | false =>
          exfalso
          have hm : e.on ∈ left listed ops.size := by
            refine (memLeft hsz).2 ⟨by omega, ?_⟩
            have : e.on < listed.size := by omega
            simp [this] at hle ⊢
            exact hle
          have hsorted : (left listed ops.size).Pairwise (· < ·) := List.Pairwise.filter _ List.pairwise_lt_range
          rw [hkr] at hm hsorted
          rcases List.mem_cons.1 hm with e1 | e1
          · omega
          · have := (List.pairwise_cons.1 hsorted).1 _ e1
            omega
      rw [h0] at this
      simp at this
    · obtain ⟨hun, o, ho, hall⟩ := mem_ready.1 hk
      have hlt := (Array.getElem?_eq_some_iff.1 ho).1
      have hkm : k ∈ left listed ops.size := (memLeft hsz).2 ⟨hlt, hun⟩
      obtain ⟨p, q, hpq⟩ := List.append_of_mem hkm
      have hsorted : (left listed ops.size).Pairwise (· < ·) := List.Pairwise.filter _ List.pairwise_lt_range
      rw [hpq] at hsorted hrun
      have hpk : ∀ j ∈ p, j < k := fun j hj => (List.pairwise_append.1 hsorted).2.2 j hj k List.mem_cons_self
      have hcomm : ∀ j ∈ p, pass j k := fun j hj => by
        have hjm : j ∈ left listed ops.size := by rw [hpq]; exact List.mem_append_left _ hj
        obtain ⟨hjl, hju⟩ := (memLeft hsz).1 hjm
        rcases (htp k o ho).2 j (hpk j hj) with hc | hc
        · exfalso
          have := ancs_closed (L := fun i => listed.getD i false = true) hcl k ops.size j o hlt ho hall hc
          have hj2 : j < listed.size := by omega
          simp [hj2] at this hju
          rw [this] at hju; cases hju
        · exact hc
      have hleft : left (listed.setIfInBounds k true) ops.size = p ++ q := by
        have : left (listed.setIfInBounds k true) ops.size = (left listed ops.size).filter (· ≠ k) := by
          unfold left
          rw [List.filter_filter]
          apply List.filter_congr
          intro x hx
          by_cases hxk : x = k
          · subst hxk
            have : x < listed.size := by omega
            simp [this]
          · have : ¬ k = x := fun e => hxk e.symm
            simp [Array.getElem?_setIfInBounds, this, hxk]
        rw [this, hpq, List.filter_append]
        have f1 : p.filter (· ≠ k) = p := List.filter_eq_self.2 fun x hx => by have := hpk x hx; simp; omega
        have f2 : (k :: q).filter (· ≠ k) = q := by
          rw [List.filter_cons_of_neg (by simp)]
          exact List.filter_eq_self.2 fun x hx => by
            have := (List.pairwise_cons.1 (List.pairwise_append.1 hsorted).2.1).1 x hx
            simp; omega
        rw [f1, f2]
      have hcl' : ∀ i y, (listed.setIfInBounds k true).getD i false = true → ops[i]? = some y → ∀ e ∈ y.after, Region.binds .any e = true → (listed.setIfInBounds k true).getD e.on false = true := fun i y hi hy e he hb => by
        have up : ∀ q, listed.getD q false = true → (listed.setIfInBounds k true).getD q false = true := fun q hq => by
          by_cases hqk : k = q
          · subst hqk
            have : k < listed.size := by omega
            simp [this]
          · simp [Array.getElem?_setIfInBounds, hqk] at hq ⊢; exact hq
        by_cases hik : k = i
        · subst hik
          rw [ho] at hy; cases hy
          exact up _ (hall e he hb)
        · refine up _ (hcl i y ?_ hy e he hb)
          simp [Array.getElem?_setIfInBounds, hik] at hi ⊢; exact hi
      have hlen : (p ++ q).length = fuel := by rw [hpq] at hl; simp at hl ⊢; omega
      have hlk : (listed.setIfInBounds k true).getD k true = true := by
        have : k < listed.size := by omega
        simp [this]
      have fr : ∀ c, A c → ∃ s1 t', stp c k s = some s1 ∧ runA (stp c) (p ++ q) s1 = some t' ∧ ∀ t'' a' w', E t' t'' → Rel t'' a' w' → Q .normal a' w' := fun c hc => by
        obtain ⟨t, e0, hQ⟩ := hrun c hc
        obtain ⟨s1, t', e1, e2, e3⟩ := frontA hEr hEt (hC c) (hP c) hcomm e0
        exact ⟨s1, t', e1, e2, fun t'' a' w' h1 h2 => hQ t'' a' w' (hEt _ _ _ e3 h1) h2⟩
      have hstep : if Region.wanted o (yielded ops a.tmps) then o.wp P a w (wpAny P .any ops Q fuel (listed.setIfInBounds k true)) Q else (wpAny P .any ops Q fuel (listed.setIfInBounds k true)) (a.put o.dst undef) w := by
        by_cases hkc : k = kc
        · subst hkc
          have hall' := hAll hun
          refine hSc o s a w _ ho (fun c => by obtain ⟨s1, _, e1, _⟩ := fr c (hall' c); exact ⟨s1, e1⟩) hr fun c s1 a' w' e1 h' => ?_
          refine ih (listed.setIfInBounds k true) s1 a' w' (fun c' => c' = c) (by simp [hsz]) hcl' (by rw [hleft]; exact hlen) ⟨c, rfl⟩ (fun h => by rw [hlk] at h; cases h) (fun c' hc' => ?_) h'
          subst hc'
          obtain ⟨s1', t', e1', e2, e3⟩ := fr c' (hall' c')
          rw [e1] at e1'
          cases e1'
          rw [hleft]
          exact ⟨t', e2, e3⟩
        · obtain ⟨c, hc⟩ := hA
          obtain ⟨s1, t', e1, e2, e3⟩ := fr c hc
          refine hS c k o s s1 a w _ ho hkc e1 hr fun a' w' h' => ?_
          refine ih (listed.setIfInBounds k true) s1 a' w' A (by simp [hsz]) hcl' (by rw [hleft]; exact hlen) ⟨c, hc⟩ (fun h => hAll (by simpa [Array.getElem?_setIfInBounds, hkc] using h)) (fun c' hc' => ?_) h'
          obtain ⟨s1', t'', e1', e2', e3'⟩ := fr c' hc'
          rw [hI c' c k hkc, e1] at e1'
          cases e1'
          rw [hleft]
          exact ⟨t'', e2', e3'⟩
      unfold wpOp
      rw [ho]
      simp only
      split
      · rename_i hw; rw [if_pos hw] at hstep; exact .inl hstep
      · rename_i hw; rw [if_neg hw] at hstep; exact hstep
end
end Go.Proofs.YtpgkpbfefnpagaaGreatDoor
namespace Go.Proofs.YtpgkpbfefnpagaaGreatDoor
open Go.RowKit

section
variable {P : Program} {G : World → Prop} {γ : Type} {H : γ → Ctx → Prop} {tt : Nat → Option TI} {tb : Tab}
def LiftB (H : γ → Ctx → Prop) (C : Ctx) (Q : Exit → St → γ → Prop) : Exit → Act → World → Prop := fun e a w => ∃ C' st hd g, C'.w0 = C.w0 ∧ C'.S0 = C.S0 ∧ Q e st g ∧ H g C' ∧ StR C' st hd a w
theorem LiftB.eq {C C' : Ctx} {Q : Exit → St → γ → Prop} (h1 : C'.w0 = C.w0) (h2 : C'.S0 = C.S0) : LiftB H C' Q = LiftB H C Q := by
  funext e a w
  unfold LiftB
  rw [h1, h2]
def BW (P : Program) (G : World → Prop) (H : γ → Ctx → Prop) (c : Code) (Q : Exit → St → γ → Prop) (st : St) (g : γ) : Prop := ∀ C hd a w, G C.w0 → H g C → StR C st hd a w → c.wp P (LiftB H C Q) a w
def BL (P : Program) (G : World → Prop) (H : γ → Ctx → Prop) (ops : Array Oper) (l : List Oper) (Q : Exit → St → γ → Prop) (st : St) (g : γ) : Prop := ∀ C hd a w, G C.w0 → H g C → StR C st hd a w → wpList P ops (LiftB H C Q) l a w
def BThen (K : St → γ → Prop) (Q : Exit → St → γ → Prop) : Exit → St → γ → Prop
  | .normal, st, g => K st g
  | e, st, g => Q e st g
def BIn (id : Nat) (Q : Exit → St → γ → Prop) : Exit → St → γ → Prop
  | .exit id', st, g => if id' = id then Q .normal st g else Q (.exit id') st g
  | e, st, g => Q e st g
variable {Q : Exit → St → γ → Prop} {st : St} {g : γ} {c : Code}
/-- What needs none of the hidden rows. -/
theorem BW_sw (h : SW P G c (fun e s => Q e s g) st) : BW P G H c Q st g := fun C hd a w hG hg hr =>
  wp_mono (h C hd a w hG hr) fun e a' w' ⟨st', hd', h1, h2⟩ => ⟨C, st', hd', g, rfl, rfl, h1, hg, h2⟩
theorem BW_seq {x y : Code} (h : BW P G H x (BThen (BW P G H y Q) Q) st g) : BW P G H (.seq x y) Q st g := fun C hd a w hG hg hr => by
  refine wp_seq (wp_mono (h C hd a w hG hg hr) fun e a' w' hq => ?_)
  obtain ⟨C', st', hd', g', h1, h2, h3, h4, h5⟩ := hq
  cases e with
  | normal =>
    have := h3 C' hd' a' w' (by rw [h1]; exact hG) h4 h5
    rwa [LiftB.eq h1 h2] at this
  | _ => exact ⟨C', st', hd', g', h1, h2, h3, h4, h5⟩
theorem BW_block {id : Nat} (h : BW P G H c (BIn id Q) st g) : BW P G H (.block id c) Q st g := fun C hd a w hG hg hr => by
  refine wp_block (wp_mono (h C hd a w hG hg hr) fun e a' w' hq => ?_)
  obtain ⟨C', st', hd', g', h1, h2, h3, h4, h5⟩ := hq
  cases e with
  | exit id' =>
    simp only [BIn] at h3
    simp only [Exit.inBlock]
    split
    · rename_i e; rw [if_pos e] at h3; exact ⟨C', st', hd', g', h1, h2, h3, h4, h5⟩
    · rename_i e; rw [if_neg e] at h3; exact ⟨C', st', hd', g', h1, h2, h3, h4, h5⟩
  | _ => exact ⟨C', st', hd', g', h1, h2, h3, h4, h5⟩
theorem BW_cond {o : Operand} {x y : Code} {b : Bool} (hc : st.ev o = .t (.bool b)) (h1 : b = true → BW P G H x Q st g) (h2 : b = false → BW P G H y Q st g) : BW P G H (.cond o x y) Q st g := fun C hd a w hG hg hr => by
  have h3 := hr.ev o
  rw [hc] at h3
  generalize hv : a.eval o = v at h3
  have h4 := h3.toT
  cases h4
  exact wp_cond_split hv (fun e => h1 e C hd a w hG hg hr) (fun e => h2 e C hd a w hG hg hr)
theorem BW_true {o : Operand} {x y : Code} (hc : st.ev o = .t (.bool true)) (h : BW P G H x Q st g) : BW P G H (.cond o x y) Q st g := BW_cond hc (fun _ => h) (fun e => by cases e)
theorem BW_false {o : Operand} {x y : Code} (hc : st.ev o = .t (.bool false)) (h : BW P G H y Q st g) : BW P G H (.cond o x y) Q st g := BW_cond hc (fun e => by cases e) (fun _ => h)
theorem BW_skip (h : Q .normal st g) : BW P G H .skip Q st g := BW_sw (SW_skip h)
theorem BW_exit {id : Nat} (h : Q (.exit id) st g) : BW P G H (.exit id) Q st g := BW_sw (SW_exit h)
theorem BW_ret (h : Q .ret st g) : BW P G H .ret Q st g := BW_sw (SW_ret h)
theorem BW_norm {st' : St} (hn : Norm st st') (h : BW P G H c Q st' g) : BW P G H c Q st g := fun C hd a w hG hg hr => by
  obtain ⟨hd', hr'⟩ := hn C hd a w hr
  exact h C hd' a w hG hg hr'
/-- A step that does nothing: what was own is hidden, what was hidden is shown. -/
def GB (H : γ → Ctx → Prop) {α : Type} (st : St) (g : γ) (st' : α → St) (g' : α → γ) : Prop := ∀ C hd a w, H g C → StR C st hd a w → ∃ x C' hd', C'.w0 = C.w0 ∧ C'.S0 = C.S0 ∧ H (g' x) C' ∧ StR C' (st' x) hd' a w
theorem GB.trans {α β : Type} {s1 : St} {g1 : γ} {s2 : α → St} {g2 : α → γ} {s3 : α → β → St} {g3 : α → β → γ} (h : GB H s1 g1 s2 g2) (h' : ∀ x, GB H (s2 x) (g2 x) (s3 x) (g3 x)) : GB H s1 g1 (fun p : α × β => s3 p.1 p.2) (fun p => g3 p.1 p.2) := fun C hd a w hg hr => by
  obtain ⟨x, C', hd', h1, h2, h3, h4⟩ := h C hd a w hg hr
  obtain ⟨y, C2, hd2, k1, k2, k3, k4⟩ := h' x C' hd' a w h3 h4
  exact ⟨(x, y), C2, hd2, k1.trans h1, k2.trans h2, k3, k4⟩
theorem BW_loop (I : Nat → St → γ → Prop) (n : Nat) (h0 : ∃ st', Norm st st' ∧ I n st' g) (h : ∀ n s g, I n s g → BW P G H c (BThen (fun s' g' => ∃ n' s'', n' < n ∧ Norm s' s'' ∧ I n' s'' g') Q) s g) : BW P G H (.loop c) Q st g := fun C hd a w hG hg hr => by
  obtain ⟨st', hn, hI⟩ := h0
  obtain ⟨hd', hr'⟩ := hn C hd a w hr
  refine wp_loop_ghost (fun n a w => ∃ C' s hd g, C'.w0 = C.w0 ∧ C'.S0 = C.S0 ∧ I n s g ∧ H g C' ∧ StR C' s hd a w) n ⟨C, st', hd', g, rfl, rfl, hI, hg, hr'⟩ fun n a w hq => ?_
  obtain ⟨C1, s, hd1, g1, q1, q2, hI1, hg1, hr1⟩ := hq
  refine wp_mono (h n s g1 hI1 C1 hd1 a w (by rw [q1]; exact hG) hg1 hr1) fun e a' w' hq => ?_
  obtain ⟨C2, s', hd2, g2, k1, k2, h1, h2, h3⟩ := hq
  cases e with
  | normal =>
    obtain ⟨n', s'', h4, h5, h6⟩ := h1
    obtain ⟨hd3, h7⟩ := h5 C2 hd2 a' w' h3
    exact ⟨n', h4, C2, s'', hd3, g2, k1.trans q1, k2.trans q2, h6, h2, h7⟩
  | _ => exact ⟨C2, s', hd2, g2, k1.trans q1, k2.trans q2, h1, h2, h3⟩
/-- Regions of fixed order, some operations at a time. -/
theorem BL_nil {ops : Array Oper} (h : Q .normal st g) : BL P G H ops [] Q st g := fun C hd _ _ _ hg hr => ⟨C, st, hd, g, rfl, rfl, h, hg, hr⟩
theorem BL_app (hT : TTok P tt) (hGl : Lasting G) (htb : Tab.ok P G tb) {ops : Array Oper} {l2 : List Oper} : ∀ {l : List Oper} {st st' : St}, runX tt tb ops l st = some st' → BL P G H ops l2 Q st' g → BL P G H ops (l ++ l2) Q st g
  | [], st, st', h, hq => by simp [runX] at h; subst h; exact hq
  | o :: r, st, st', h, hq => by
    unfold runX at h
    split at h
    · rename_i s1 hs
      intro C hd a w hG hg hr
      show wpList P ops _ (o :: (r ++ l2)) a w
      unfold wpList
      have := stepX_wp (K := wpList P ops (LiftB H C Q) (r ++ l2)) (Q := LiftB H C Q) hT hGl htb hG hr ops o hs fun hd' a' w' h' => BL_app hT hGl htb h hq C hd' a' w' hG hg h'
      split
      · rename_i hw; rw [if_pos hw] at this; exact .inl this
      · rename_i hw; rw [if_neg hw] at this; exact this
    · cases h
theorem BW_region {id : Nat} {l : List Oper} (h : BL P G H l.toArray l Q st g) : BW P G H (.region id l.toArray false) Q st g := fun C hd a w hG hg hr => wp_region_lit (h C hd a w hG hg hr)

end
section
variable {P : Program} {G : World → Prop} {γ : Type} {H : γ → Ctx → Prop} {tt : Nat → Option TI} {tb : Tab} {K : St → γ → Prop} {Q : Exit → St → γ → Prop} {st : St} {g : γ} {i id : Nat}
theorem BThen_n (h : K st g) : BThen K Q .normal st g := h
theorem BThen_r (h : Q .ret st g) : BThen K Q .ret st g := h
theorem BThen_e (h : Q (.exit i) st g) : BThen K Q (.exit i) st g := h
theorem BIn_n (h : Q .normal st g) : BIn id Q .normal st g := h
theorem BIn_r (h : Q .ret st g) : BIn id Q .ret st g := h
theorem BIn_eq (h : Q .normal st g) : BIn id Q (.exit id) st g := by simp [BIn, h]
theorem BIn_ne (hne : i ≠ id) (h : Q (.exit i) st g) : BIn id Q (.exit i) st g := by simp [BIn, hne, h]
theorem BW_run (hT : TTok P tt) (hGl : Lasting G) (htb : Tab.ok P G tb) {id : Nat} {l : List Oper} {st st' : St} {g : γ} (h : runX tt tb l.toArray l st = some st') (hq : Q .normal st' g) : BW P G H (.region id l.toArray false) Q st g :=
  BW_sw (SW_run hT hGl htb h hq)
theorem BW_draw (hm : P.follows .mixedOrders = true) (hT : TTok P tt) (hGl : Lasting G) (htb : Tab.ok P G tb) {id : Nat} {ops : Array Oper} (htopo : topoB ops = true) {s t : St} {g : γ} (h : runI tt tb ops (List.range ops.size) s = some t) (hq : Q .normal t g) : BW P G H (.region id ops true) Q s g :=
  BW_sw (SW_draw hm hT hGl htb htopo h hq)
theorem sndB_of_body (hT : TTok P tt) {f : Nat} {fn : Func} {c : Code} {args : List T} {r : T} {g0 : γ} (hg0 : ∀ C, H g0 C) (hf : P.funcs[f]? = some fn) (hb : fn.body = some c) (hn : (fn.name == "runtime.NumGoroutine") = false) {n : Nat} (hnt : n = args.length + (fn.ntmps - args.length)) {tm : List (Nat × SV)} (htm : tm = mkSlots 0 args) {rs : List ResultVar} (hrs : fn.results.toList = rs)
    (h : BW P G H c (fun e s (_ : γ) => SPost tt rs r e s) ⟨n, tm, []⟩ g0) : Snd P G f args r := by
  subst hrs
  refine ⟨fun vs w => ?_, fun S w vs hG hvs hrep => ?_⟩
  · unfold callFunc
    rw [Sem.run_bind, run_program, Result.andThen_ok]
    simp only [hf, hn, hb, Option.isNone_some, Bool.false_eq_true, if_false]
    rfl
  · let C : Ctx := Ctx.of S w
    refine calls_of_wp hf hb ?_
    have hr : StR C ⟨n, tm, []⟩ [] { tmps := vs ++ Array.replicate (fn.ntmps - vs.size) undef, defers := [] } w := by
      refine ⟨Below.refl _ _, rfl, by simp [hnt, hvs], rfl, fun i o g h => by simp at h, fun g b h => by simp at h, fun i j gi gj b h => by simp at h, fun t x hx => ?_, ⟨Nat.le_refl _, fun _ _ _ => rfl, fun g b h => by simp at h⟩⟩
      subst htm
      obtain ⟨j, y, rfl, h2, rfl⟩ := mkSlots_look hx
      have hj := (List.getElem?_eq_some_iff.1 h2).1
      have e : vs[j]? = some vs[j] := Array.getElem?_eq_getElem (by omega)
      have e2 : (vs ++ Array.replicate (fn.ntmps - vs.size) undef).getD (0 + j) undef = vs[j] := by
        rw [Nat.zero_add, Array.getD_eq_getD_getElem?, Array.getElem?_append_left (by omega), e]; rfl
      rw [e2]
      exact .t _ _ ((hrep j y _ h2 e).keep ⟨Nat.le_refl _, fun b hb _ => ⟨rfl, ⟨.inl hb, id⟩, fun g hg => by simp at hg⟩⟩)
    refine wp_mono (h C [] _ w hG (hg0 _) hr) fun e a' w' hq => ?_
    obtain ⟨C', st', hd', g', e1, e2, h1, _, h2⟩ := hq
    have hbw : Below w.heap.size w w' := by have := h2.below; rwa [e1] at this
    have hS : ∀ b, Own C' b → (S b ∨ w.heap.size ≤ b) := fun b hb => by
      have := hb.1
      rw [e1, e2] at this
      exact this
    cases e <;> simp only [SPost] at h1
    · obtain ⟨v, g1, g2⟩ := res_ok hT h2 h1
      exact ⟨h2.df, v, g1, v, rfl, g2.mono hS, hbw⟩
    · obtain ⟨v, g1, g2⟩ := res_ok hT h2 h1
      exact ⟨h2.df, v, g1, v, rfl, g2.mono hS, hbw⟩
end
theorem u1 : type_of% @BW_seq := @BW_seq
theorem u2 : type_of% @BW_block := @BW_block
theorem u3 : type_of% @BThen_n := @BThen_n
theorem u4 : type_of% @BThen_r := @BThen_r
theorem u5 : type_of% @BThen_e := @BThen_e
theorem u6 : type_of% @BIn_n := @BIn_n
theorem u7 : type_of% @BIn_r := @BIn_r
theorem u8 : type_of% @BIn_eq := @BIn_eq
theorem u9 : type_of% @BW_skip := @BW_skip
theorem ua : type_of% @BW_exit := @BW_exit
theorem ub : type_of% @BW_ret := @BW_ret
theorem uc : type_of% @SPost_r := @SPost_r
theorem ud : type_of% @BIn_ne := @BIn_ne
theorem ue : type_of% @BW_true := @BW_true
theorem uf : type_of% @BW_false := @BW_false
end Go.Proofs.YtpgkpbfefnpagaaGreatDoor
namespace Go.Proofs.YtpgkpbfefnpagaaGreatDoor
open Go.RowKit

/-- A place of a hidden row, as the data that lie there. -/
inductive OpenH {κ : Type} (g : κ → Option HR) : T → T → Prop
  | refl (x : T) : OpenH g x x
  | raw (k : κ) (h : HR) (l' : List T) (hk : g k = some h) (hl : l'.length = h.l.length) (hx : ∀ (i : Nat) (y y' : T), h.l[i]? = some y → l'[i]? = some y' → OpenH g y y') : OpenH g h.raw (.list l')
section
variable {P : Program} {G : World → Prop} {κ : Type} {tt : Nat → Option TI} {tb : Tab} {g : κ → Option HR} {C : Ctx} {hd : List Hd} {a : Act} {w : World} {st : St}
theorem OpenH.cells {x x' : T} (h : OpenH g x x') : x'.cells.length = x.cells.length ∧ ∀ (i : Nat) (y y' : T), x.cells[i]? = some y → x'.cells[i]? = some y' → y = y' ∨ (y = x ∧ y' = x') := by
  cases h with
  | refl => exact ⟨rfl, fun i y y' h1 h2 => by rw [h1] at h2; cases h2; exact .inl rfl⟩
  | raw k h l' hk hl hx =>
    refine ⟨rfl, fun i y y' h1 h2 => ?_⟩
    cases i with
    | zero =>
      simp only [HR.raw, T.cells, List.getElem?_cons_zero, Option.some.injEq] at h1 h2
      subst h1 h2
      exact .inr ⟨rfl, rfl⟩
    | succ i => simp [T.cells] at h2
theorem flat_opens : ∀ {l l' : List T}, l'.length = l.length → (∀ (i : Nat) (y y' : T), l[i]? = some y → l'[i]? = some y' → OpenH g y y') → ∀ (k : Nat) (y' : T), (flat l')[k]? = some y' → ∃ y, (flat l)[k]? = some y ∧ (y = y' ∨ ∃ i : Nat, l[i]? = some y ∧ l'[i]? = some y')
  | [], [], _, _, k, y', h => by simp [flat] at h
  | [], _ :: _, e, _, _, _, _ => by simp at e
  | _ :: _, [], e, _, _, _, _ => by simp at e
  | x :: l, x' :: l', e, hx, k, y', h => by
    have hc := (hx 0 x x' rfl rfl).cells
    simp only [flat, List.flatMap_cons] at h ⊢
    by_cases hk : k < x.cells.length
    · rw [List.getElem?_append_left (by omega)] at h
      rw [List.getElem?_append_left hk]
      refine ⟨_, List.getElem?_eq_getElem hk, ?_⟩
      rcases hc.2 k _ y' (List.getElem?_eq_getElem hk) h with q | ⟨q1, q2⟩
      · exact .inl q
      · exact .inr ⟨0, by rw [q1]; rfl, by rw [q2]; rfl⟩
    · rw [List.getElem?_append_right (by omega)] at h ⊢
      rw [hc.1] at h
      obtain ⟨y, h1, h2⟩ := flat_opens (l := l) (l' := l') (by simpa using e) (fun i y y' h1 h2 => hx (i + 1) y y' h1 h2) _ y' h
      refine ⟨y, h1, ?_⟩
      rcases h2 with h2 | ⟨i, q1, q2⟩
      · exact .inl h2
      · exact .inr ⟨i + 1, q1, q2⟩
/-- What stays hidden when these rows are given up. -/
def openK (g : κ → Option HR) (C : Ctx) (b : Nat) : Prop := C.K b ∧ ∀ k h, g k = some h → h.val.ownBlock ≠ some b
theorem openK2 (hr : StR C st hd a w) (b : Nat) (hb : openK g C b) : b < w.heap.size ∧ ¬ ∃ k ∈ hd, k.own = some b := by
  obtain ⟨q1, _, q3⟩ := hid_free hr hb.1
  exact ⟨q1, fun ⟨k, k1, k2⟩ => q3 k k1 k2⟩
theorem open_stay (hr : StR C st hd a w) : Stay (vis C hd) (vis (reC C w hd (openK g C) hr.below.size (openK2 hr)) hd) w w :=
  ⟨Nat.le_refl _, fun _ hb _ => ⟨rfl, ⟨hb.1.1, fun k => hb.1.2 k.1⟩, hb.2⟩⟩
theorem OpenH.rep (hg : Hid g C) (hr : StR C st hd a w) {y y' : T} (h : OpenH g y y') : ∀ v, RepT (vis C hd) w y v → RepT (vis (reC C w hd (openK g C) hr.below.size (openK2 hr)) hd) w y' v := by
  induction h with
  | refl x => exact fun v hv => hv.keep (open_stay hr)
  | raw k h l' hk hl hx ih =>
    intro v hv
    have hh := hg.ok k h hk
    unfold HR.raw at hv
    cases hv
    obtain ⟨ys, h1, h2⟩ := hh.rowAt fun b e => (hid_free hr (hh.hid b e)).2.1
    have hob : ObR (vis C hd) C.w0.heap.size w hd (.row h.e h.sz true h.l) (.sl h.a h.n h.cap h.val.ownBlock) := ⟨hh.n, hh.sz, hh.max, hh.cells, .inl ⟨ys, h1, rfl, h2 _⟩⟩
    obtain ⟨xs, c1, c2, c3⟩ := row_cells hob
    have hn : h.n = l'.length := by rw [hh.n, hl]
    rw [hn]
    have hcap : l'.length ≤ h.cap := by
      rcases h1.2 with ⟨q, q2⟩ | ⟨b, cap', cur, q, _, _, q3, _⟩
      · omega
      · unfold HR.val at q
        injection q with q1 q2 q4
        omega
    refine .list l' h.a h.cap h.sz xs (by have := hh.max; omega) hh.sz (fun x hx' => ?_) (fun hne => ?_) (fun k hk => c2 k (by rw [← hl]; exact hk)) (fun k y hy => ?_) hcap
    · obtain ⟨i, hi⟩ := List.mem_iff_getElem?.1 hx'
      have hil := (List.getElem?_eq_some_iff.1 hi).1
      have e : h.l[i]? = some h.l[i] := List.getElem?_eq_getElem (by omega)
      rw [(hx i _ x e hi).cells.1]
      exact hh.cells _ (List.mem_of_getElem? e)
    · have hne2 : h.l ≠ [] := fun e => hne (List.eq_nil_of_length_eq_zero (by rw [hl, e]; rfl))
      obtain ⟨b, e, hc⟩ := c1 hne2
      have hbo : h.val.ownBlock = some b := by unfold HR.val; rw [e]; rfl
      refine ⟨b, 0, e, ⟨⟨.inr (h1.lt b hbo).1, fun q => q.2 k h hk hbo⟩, (hid_free hr (hh.hid b hbo)).2.2⟩, fun k hk => by rw [Nat.zero_add]; exact hc k (by rw [← hl]; exact hk)⟩
    · obtain ⟨z, hz, ho⟩ := flat_opens hl hx k y hy
      have e0 := c3 k z hz
      rcases ho with rfl | ⟨i, q1, q2⟩
      · exact e0.keep (open_stay hr)
      · exact ih i z y q1 q2 _ e0
end
end Go.Proofs.YtpgkpbfefnpagaaGreatDoor
namespace Go.Proofs.YtpgkpbfefnpagaaGreatDoor
open Go.RowKit

section
variable {P : Program} {C C0 : Ctx} {st : St} {hd hd0 : List Hd} {a a0 : Act} {w w0 : World}
end
end Go.Proofs.YtpgkpbfefnpagaaGreatDoor
namespace Go.Proofs.YtpgkpbfefnpagaaGreatDoor
open Go.RowKit

structure AppS (κ : Type) where
  kc : Nat
  s0 : Operand
  x0 : Operand
  sv : T
  xs : List T
  x : κ
  e : Nat
  sz : Nat
  l : List T
  g0 : κ → Option HR
def AppS.g1 {κ : Type} [DecidableEq κ] (A : AppS κ) (c : Option Addr × Nat × Nat) : κ → Option HR := upd A.g0 A.x (some ⟨c.1, c.2.1, c.2.2, A.e, A.sz, A.l ++ A.xs⟩)
section
variable {κ : Type} [DecidableEq κ] {P : Program} {G : World → Prop} {tt : Nat → Option TI} {tb : Tab} {ops : Array Oper} {A : AppS κ} {last : Nat} {c : Option Addr × Nat × Nat} {k j : Nat} {s : St} {g : κ → Option HR} {o : Oper}
def passH (kc last : Nat) (ops : Array Oper) (j k : Nat) : Bool := match ops[j]?, ops[k]? with
  | some x, some y => x.apart ops y && (decide (j ≠ k) && (decide (j ≠ last) && decide (k ≠ last)) && (!(j == kc) || ((x.op.operands.toList.all fun z => true) && true)))
  | _, _ => false
def topoH (kc last : Nat) (ops : Array Oper) : Bool := (List.range ops.size).all fun i => match ops[i]? with
  | some y => y.after.all (fun e => !Region.binds .any e || decide (e.on < i)) && (List.range i).all (fun j => ((ancs ops ops.size).getD i 0).testBit j || passH kc last ops j i)
  | none => true
theorem topoH_spec {kc : Nat} (htopo : topoH kc last ops = true) : ∀ i y, ops[i]? = some y → (∀ e ∈ y.after, Region.binds .any e = true → e.on < i) ∧ ∀ j, j < i → ((ancs ops ops.size).getD i 0).testBit j = true ∨ passH kc last ops j i = true := fun i y hy => by
  have hi := (Array.getElem?_eq_some_iff.1 hy).1
  have := List.all_eq_true.1 htopo i (List.mem_range.2 hi)
  rw [hy] at this
  simp only [Bool.and_eq_true] at this
  obtain ⟨h1, h2⟩ := this
  refine ⟨fun e he hb => ?_, fun j hj => by simpa using List.all_eq_true.1 h2 j (List.mem_range.2 hj)⟩
  have := (Array.all_eq_true_iff_forall_mem.1 h1) e he
  simpa [hb] using this
end
end Go.Proofs.YtpgkpbfefnpagaaGreatDoor
namespace Go.Proofs.YtpgkpbfefnpagaaGreatDoor
open Go.RowKit

open Classical in
noncomputable def stepB {γ : Type} (line : St → Prop) (g0 g1 : γ) (last : Nat) (tt : Nat → Option TI) (tb : Tab) (ops : Array Oper) (k : Nat) (p : St × γ) : Option (St × γ) := match ops[k]? with
  | none => none
  | some o =>
    if k = last then (if line p.1 ∧ p.2 = g0 then some (p.1.put o.dst (.t (.tup [])), g1) else none)
    else if o.guard = none ∧ dstOk p.1.nt o.dst = true then (evalX tt tb p.1 o.op).map fun x => (p.1.put o.dst x, p.2) else none
section
variable {γ : Type} {H : γ → Ctx → Prop} {P : Program} {G : World → Prop} {tt : Nat → Option TI} {tb : Tab} {ops : Array Oper} {line : St → Prop} {g0 g1 : γ} {last k j : Nat} {s : St} {g : γ} {o : Oper}
theorem stepB_l (ho : ops[k]? = some o) (hl : k = last) (h : line s) {t : St} (h2 : s.put o.dst (.t (.tup [])) = t) : stepB line g0 g1 last tt tb ops k (s, g0) = some (t, g1) := by
  unfold stepB
  rw [ho]
  simp only
  rw [if_pos hl, if_pos ⟨h, rfl⟩, h2]
theorem stepB_q (ho : ops[k]? = some o) (hl : k ≠ last) (h1 : o.guard = none) (h2 : dstOk s.nt o.dst = true) {x : SV} (h : evalX tt tb s o.op = some x) {t : St} (h6 : s.put o.dst x = t) : stepB line g0 g1 last tt tb ops k (s, g) = some (t, g) := by
  unfold stepB
  rw [ho]
  simp only
  rw [if_neg hl, if_pos ⟨h1, h2⟩, h, ← h6]
  rfl
theorem stepB_qi (ho : ops[k]? = some o) (hl : k ≠ last) {t : St × γ} (h : stepB line g0 g1 last tt tb ops k (s, g) = some t) : ∃ x, o.guard = none ∧ dstOk s.nt o.dst = true ∧ evalX tt tb s o.op = some x ∧ t = (s.put o.dst x, g) := by
  unfold stepB at h
  rw [ho] at h
  simp only at h
  rw [if_neg hl] at h
  split at h
  · rename_i hc
    rw [Option.map_eq_some_iff] at h
    obtain ⟨x, hx, rfl⟩ := h
    exact ⟨x, hc.1, hc.2, hx, rfl⟩
  · cases h
theorem stepB_li (ho : ops[k]? = some o) (hl : k = last) {t : St × γ} (h : stepB line g0 g1 last tt tb ops k (s, g) = some t) : line s ∧ g = g0 ∧ t = (s.put o.dst (.t (.tup [])), g1) := by
  unfold stepB at h
  rw [ho] at h
  simp only at h
  rw [if_pos hl] at h
  split at h
  · rename_i hc
    cases h
    exact ⟨hc.1, hc.2, rfl⟩
  · cases h
def EqB (p q : St × γ) : Prop := Eqv p.1 q.1 ∧ p.2 = q.2
theorem stepB_congr (hc : ∀ s s', Eqv s s' → line s → line s') (k : Nat) (p q t : St × γ) (h : EqB p q) (hs : stepB line g0 g1 last tt tb ops k p = some t) : ∃ t', stepB line g0 g1 last tt tb ops k q = some t' ∧ EqB t t' := by
  obtain ⟨s, g⟩ := p
  obtain ⟨s', g'⟩ := q
  obtain ⟨he, hg⟩ := h
  simp only at he hg
  subst hg
  cases ho : ops[k]? with
  | none => unfold stepB at hs; rw [ho] at hs; cases hs
  | some o =>
    by_cases hl : k = last
    · obtain ⟨h1, rfl, rfl⟩ := stepB_li ho hl hs
      exact ⟨_, stepB_l ho hl (hc _ _ he h1) rfl, he.put _ _, rfl⟩
    · obtain ⟨x, h1, h2, h3, rfl⟩ := stepB_qi ho hl hs
      exact ⟨_, stepB_q ho hl h1 (by rw [← he.nt]; exact h2) (by rw [← evalX_congr he.heap o.op fun y _ => he.ev y]; exact h3) rfl, he.put _ _, rfl⟩
theorem swapB (j k : Nat) (p p1 p2 : St × γ) (hp : passH ops.size last ops j k = true) (h1 : stepB line g0 g1 last tt tb ops j p = some p1) (h2 : stepB line g0 g1 last tt tb ops k p1 = some p2) : ∃ u u', stepB line g0 g1 last tt tb ops k p = some u ∧ stepB line g0 g1 last tt tb ops j u = some u' ∧ EqB p2 u' := by
  obtain ⟨s, g⟩ := p
  unfold passH at hp
  split at hp
  rotate_left
  · cases hp
  rename_i x y hx hy
  simp only [Bool.and_eq_true, decide_eq_true_eq] at hp
  obtain ⟨hap, ⟨hjk, hjl, hkl⟩, _⟩ := hp
  obtain ⟨a1, a2, a3⟩ := Oper.apart_spec hap
  obtain ⟨v, k1, k2, k3, rfl⟩ := stepB_qi hx hjl h1
  obtain ⟨q, m1, m2, m3, rfl⟩ := stepB_qi hy hkl h2
  have e1 : evalX tt tb s y.op = some q := by
    rw [← m3]
    exact (evalX_congr (put_heap ..) y.op fun z hz => put_ev fun t e ez => a1 t e (looks_op (by subst ez; exact hz))).symm
  refine ⟨_, _, stepB_q hy hkl m1 (by rw [put_nt] at m2; exact m2) e1 rfl, stepB_q hx hjl k1 (by rw [put_nt]; exact k2) (x := v) ?_ rfl, put_comm s v q fun t e => a2 t e, rfl⟩
  rw [← k3]
  exact evalX_congr (put_heap ..) x.op fun z hz => put_ev fun t e ez => a3 t e (looks_op (by subst ez; exact hz))
/-- A region that draws its order; the last operation, behind all others, changes the ghost. -/
theorem BW_drawL (line : St → Prop) (g0 g1 : γ) (last : Nat) (hc : ∀ s s', Eqv s s' → line s → line s') (hmo : P.follows .mixedOrders = true) (hT : TTok P tt) (hGl : Lasting G) (htb : Tab.ok P G tb) {id : Nat} {ops : Array Oper} (htopo : topoH ops.size last ops = true)
    (hline : ∀ C hd a w s o (K : Act → World → Prop) (Q : Exit → Act → World → Prop), ops[last]? = some o → line s → H g0 C → StR C s hd a w → G C.w0 → (∀ C' hd' a' w', C'.w0 = C.w0 → C'.S0 = C.S0 → H g1 C' → StR C' (s.put o.dst (.t (.tup []))) hd' a' w' → K a' w') → if Region.wanted o (yielded ops a.tmps) then o.wp P a w K Q else K (a.put o.dst undef) w)
    {Q : Exit → St → γ → Prop} {st : St} {g : γ} {t : St × γ} (ht : runA (stepB line g0 g1 last tt tb ops) (List.range ops.size) (st, g) = some t) (hq : Q .normal t.1 t.2) : BW P G H (.region id ops true) Q st g := fun C hd a w hG hg hr => by
  refine wp_region_any hmo ?_
  refine wpAny_abs (γ := Unit) (E := EqB) (fun p a w => ∃ C' hd, C'.w0 = C.w0 ∧ C'.S0 = C.S0 ∧ H p.2 C' ∧ StR C' p.1 hd a w) (fun _ => stepB line g0 g1 last tt tb ops) ops.size (fun p => ⟨Eqv.refl _, rfl⟩) (fun _ _ _ h1 h2 => ⟨h1.1.trans h2.1, h1.2.trans h2.2⟩) (fun _ _ _ _ => rfl) (fun _ => stepB_congr hc) (pass := fun j k => passH ops.size last ops j k = true) (fun _ => swapB) (topoH_spec htopo) ?_ ?_ ops.size (Array.replicate ops.size false) (st, g) a _ (fun _ => True) (by simp) (fun i y hi => by by_cases h : i < ops.size <;> simp [h] at hi) (by rw [left_all]; simp) ⟨(), trivial⟩ (fun _ _ => trivial) (fun _ _ => ⟨t, by rw [left_all]; exact ht, fun t' a' w' h1 ⟨C', hd', e1, e2, hg', h2⟩ => ⟨C', t.1, hd', t.2, e1, e2, hq, by rw [h1.2]; exact hg', h1.1.symm.str h2⟩⟩) ⟨C, hd, rfl, rfl, hg, hr.drawn⟩
  · rintro c k o ⟨s, g⟩ s1 a w K ho hkc hst ⟨C', hd, e1, e2, hg, hr⟩ hK
    by_cases hl : k = last
    · obtain ⟨h1, rfl, rfl⟩ := stepB_li ho hl hst
      subst hl
      exact hline C' hd a w s o K _ ho h1 hg hr (by rw [e1]; exact hG) fun C2 hd' a' w' f1 f2 hg' hr' => hK a' w' ⟨C2, hd', f1.trans e1, f2.trans e2, hg', hr'⟩
    · obtain ⟨x, h1, h2, h3, rfl⟩ := stepB_qi ho hl hst
      rw [if_pos (by simp [Region.wanted, h1])]
      exact evalX_wp hT hGl htb (by rw [e1]; exact hG) hr o h3 fun v w' k1 k2 => hK _ _ ⟨C', hd, e1, e2, hg, k1.put' rfl h2 k2⟩
  · intro o s a w K ho
    have := (Array.getElem?_eq_some_iff.1 ho).1
    omega
theorem BL_one (hT : TTok P tt) (hGl : Lasting G) (htb : Tab.ok P G tb) {o : Oper} {rest : List Oper} {Q : Exit → St → γ → Prop} {st st' : St} (h : runX tt tb ops [o] st = some st') (hq : BL P G H ops rest Q st' g) : BL P G H ops (o :: rest) Q st g := BL_app hT hGl htb (l := [o]) h hq
/-- Parts that meet at one state. -/
theorem BW_meet {c : Code} {Q : Exit → St → γ → Prop} {st : St} (X : St) (h : BW P G H c (fun e s g' => e = .normal ∧ g' = g ∧ ∃ st', Norm s st' ∧ st' = X) st g) (hX : ∀ s, Norm s X → Q .normal s g) : BW P G H c Q st g := fun C hd a w hG hg hr =>
  wp_mono (h C hd a w hG hg hr) fun e a' w' hq => by
    obtain ⟨C', st', hd', g2, h1, h2, ⟨rfl, rfl, s2, h3, rfl⟩, h4, h5⟩ := hq
    exact ⟨C', st', hd', g2, h1, h2, hX _ h3, h4, h5⟩
theorem BThen_norm {c : Code} {Q Q' : Exit → St → γ → Prop} {X : St} (h : BW P G H c Q X g) : ∀ s, Norm s X → BThen (BW P G H c Q) Q' .normal s g := fun s hs => BW_norm hs h
theorem BW_normE {c : Code} {Q : Exit → St → γ → Prop} {st : St} (X : St) (h : ∃ st', Norm st st' ∧ st' = X) (hX : BW P G H c Q X g) : BW P G H c Q st g := by
  obtain ⟨st', h1, rfl⟩ := h
  exact BW_norm h1 hX
end
end Go.Proofs.YtpgkpbfefnpagaaGreatDoor
namespace Go.Proofs.YtpgkpbfefnpagaaGreatDoor
open Go.RowKit

section
variable {P : Program} {G : World → Prop} {C : Ctx} {st : St} {hd : List Hd} {a : Act} {w : World} {tt : Nat → Option TI} {tb : Tab}
theorem lit_own (hr : StR C st hd a w) {e sz : Nat} {l : List T} {vs : Array Value} (h0 : 0 < sz) (hm : l.length ≤ maxLen) (hf : ∀ x ∈ l, x.cells.length = sz) (hc : RepL (vis C hd) w (flat l) vs.toList) :
    StR C { st with heap := st.heap ++ [.row e sz true l] } (hd ++ [.sl (some ⟨w.heap.size, 0, none⟩) l.length l.length (some w.heap.size)]) a (w.alloc (.cells vs e)) := by
  have hb := alloc_below w (.cells vs e)
  have hlt : w.heap.size < (w.alloc (.cells vs e)).heap.size := (Array.getElem?_eq_some_iff.1 (heap_alloc_new w (.cells vs e))).1
  have hsz : vs.size = l.length * sz := by have := hc.len; rw [flat_length hf] at this; simpa using this
  refine hr.new hb _ _ (fun b hbo => ?_) ⟨rfl, h0, hm, hf, .inl ⟨vs.toList, ⟨by simpa using hsz, .inr ⟨w.heap.size, l.length, vs, rfl, hr.below.size, heap_alloc_new w _, Nat.le_refl _, hm, hsz, ?_⟩⟩, rfl, hc.keep ⟨hb.size, fun b hS hl => ⟨hb.block b hl, hS.1, fun x hx e => ?_⟩⟩⟩⟩
  · simp only [Hd.own, Option.some.injEq] at hbo
    subst hbo
    exact ⟨Nat.le_refl _, hlt⟩
  · rw [← hsz]
    exact List.take_of_length_le (by simp)
  · rcases List.mem_append.1 hx with hx | hx
    · exact hS.2 x hx e
    · simp at hx; subst hx
      simp only [Hd.own, Option.some.injEq] at e
      omega
theorem litO_ok (hr : StR C st hd a w) {t e : Nat} {i ie : TI} (hi : TIok P t i) (hk : i.k = .slice e) (he : TIok P e ie) {len : Nat} {parts : Array (Nat × Operand)} {ys : List T} (h : st.litQ ie len parts.toList = some (.lit ys)) :
    ∃ v w' hd', (Instr.buildSlice t len (parts.map fun (i, x) => (i, a.eval x))).run P w = .ok v w' ∧ StR C { st with heap := st.heap ++ [.row e ie.sz true ys] } hd' a w' ∧ RepS (vis C hd') w' hd' (.sref st.heap.length) v := by
  have hs := hi.says
  rw [hk] at hs; simp only [TK.says] at hs
  unfold St.litQ at h
  split at h
  · rename_i hc
    obtain ⟨h1, h2, h3, h4⟩ := hc
    split at h
    · rename_i zs hz
      split at h
      · rename_i hall
        simp only [Option.some.injEq, SV.lit.injEq] at h
        subst h
        rw [List.all_eq_true] at hall
        have hlen : parts.size = len := by simpa using h2
        obtain ⟨l1, t1⟩ := trL_get hz
        simp at l1
        have hyl : zs.length = len := by omega
        have hf : ∀ x ∈ zs, x.cells.length = ie.sz := fun x hx => by have := hall x hx; simp at this; exact this.2
        have hparts : ∀ k, k < len → ∃ p y, parts[k]? = some p ∧ p.1 = k ∧ zs[k]? = some y ∧ RepL (vis C hd) w y.cells (a.eval p.2).cells.toList := fun k hk => by
          have e1 : parts.toList[k]? = some parts.toList[k] := List.getElem?_eq_getElem (by simpa [hlen] using hk)
          have e2 : zs[k]? = some zs[k] := List.getElem?_eq_getElem (by omega)
          refine ⟨_, _, by rw [← Array.getElem?_toList]; exact e1, by have := idxOk_spec h1 k _ e1; omega, e2, ?_⟩
          have := tr_ok hr (hr.ev _) (t1 k _ _ (by rw [List.getElem?_map, e1]; rfl) e2)
          have hst := hall _ (List.getElem_mem (by omega : k < zs.length))
          simp at hst
          exact this.toL hst.1
        obtain ⟨z, z1, z2, _⟩ := he.zL (S := fun _ => False) (w := w)
        have hfl : RepL (vis C hd) w (flat zs) ((parts.toList.map fun p => (p.1, a.eval p.2)).flatMap fun p => p.2.cells.toList) := by
          have key : ∀ (l : List T) (m : List (Nat × Value)), l.length = m.length → (∀ (k : Nat) (y : T) (p : Nat × Value), l[k]? = some y → m[k]? = some p → RepL (vis C hd) w y.cells p.2.cells.toList) → RepL (vis C hd) w (flat l) (m.flatMap fun p => p.2.cells.toList) := by
            intro l
            induction l with
            | nil => intro m hm _; obtain rfl : m = [] := List.eq_nil_of_length_eq_zero (by simpa using hm.symm); exact RepL.nil _ _
            | cons y l ih =>
              intro m hm hh
              cases m with
              | nil => simp at hm
              | cons p m =>
                simp only [flat, List.flatMap_cons]
                exact (hh 0 y p rfl rfl).append (ih m (by simpa using hm) fun k y p a b => hh (k + 1) y p (by simpa using a) (by simpa using b))
          refine key zs _ (by simp; omega) fun k y p a1 a2 => ?_
          have hk := (List.getElem?_eq_some_iff.1 a1).1
          obtain ⟨q, y', e1, e2, e3, e4⟩ := hparts k (by omega)
          rw [a1] at e3; cases e3
          rw [List.getElem?_map, Array.getElem?_toList, e1] at a2
          simp at a2; subst a2
          exact e4
        have hfill : ∀ cells : Array Value, cells.size = len * ie.sz → Instr.fill (fun i => some (i * ie.sz, ie.sz)) cells (parts.toList.map fun p => (p.1, a.eval p.2)) = some ((parts.toList.map fun p => (p.1, a.eval p.2)).flatMap fun p => p.2.cells.toList).toArray := fun cells hcs => by
          have := fill_lit he.pos 0 (parts.toList.map fun p => (p.1, a.eval p.2)) cells (fun j p hj => by
            rw [List.getElem?_map, Option.map_eq_some_iff] at hj
            obtain ⟨q, hq, rfl⟩ := hj
            have hk := (List.getElem?_eq_some_iff.1 hq).1
            simp at hk
            obtain ⟨p', y', e1, e2, e3, e4⟩ := hparts j (by omega)
            rw [Array.getElem?_toList, e1] at hq
            cases hq
            refine ⟨by simpa using e2, ?_⟩
            have := e4.len
            rw [hf y' (List.mem_of_getElem? e3)] at this
            simpa using this) (by simp [hcs, hlen])
          simpa using this
        have hlw := lit_own (e := e) (vs := ((parts.toList.map fun p => (p.1, a.eval p.2)).flatMap fun p => p.2.cells.toList).toArray) hr he.pos (l := zs) (by simp only [maxLen]; omega) hf (by simpa using hfl)
        refine ⟨_, _, _, ?_, hlw, .sref _ _ _ _ _ (by rw [← hr.hl, List.getElem?_append_right (Nat.le_refl _), Nat.sub_self]; rfl)⟩
        unfold Instr.buildSlice
        rw [Sem.run_bind, run_underlying hs, Result.andThen_ok]
        simp only []
        rw [Sem.run_bind, he.sizeOf, Result.andThen_ok]
        rw [if_neg (by omega)]
        have hmap : (parts.map fun (i, x) => (i, a.eval x)).toList = parts.toList.map fun p => (p.1, a.eval p.2) := by simp
        by_cases h0 : len * ie.sz = 0
        · rw [if_pos h0, Sem.run_bind, Sem.run_pure, Result.andThen_ok, hmap, hfill _ (by simp)]
          simp only []
          rw [Sem.run_bind]
          simp [newRow, hyl]
        · rw [if_neg h0, Sem.run_bind, z1, Result.andThen_ok, Sem.run_bind, Sem.run_pure, Result.andThen_ok, hmap, hfill _ (by simp)]
          simp only []
          rw [Sem.run_bind]
          simp [newRow, hyl]
      · cases h
    · cases h
  · cases h
/-- An operation of a region that makes a slice that is written later. -/
theorem SL_litO (hT : TTok P tt) {Q : Exit → St → Prop} {ops : Array Oper} {o : Oper} {rest : List Oper} {t len e : Nat} {parts : Array (Nat × Operand)} {i ie : TI} {ys : List T} (ho : o.op = .buildSlice t len parts) (hgd : o.guard = none) (hd0 : dstOk st.nt o.dst = true) (hi : tt t = some i) (hk : i.k = .slice e) (he : tt e = some ie) (hq : st.litQ ie len parts.toList = some (.lit ys))
    (h : SL P G ops rest Q (({ st with heap := st.heap ++ [.row e ie.sz true ys] } : St).put o.dst (.sref st.heap.length))) : SL P G ops (o :: rest) Q st := fun C hd a w hG hr => by
  unfold wpList
  rw [if_pos (by simp [Region.wanted, hgd])]
  left
  obtain ⟨v, w', hd', h1, h2, h3⟩ := litO_ok hr (hT t i hi) hk (hT e ie he) hq
  have hx : (execOp a.eval o).run P w = .ok (.value v) w' := by
    obtain ⟨dst, op, ty, pos, after, guard⟩ := o
    simp only at ho
    subst ho
    exact run_val h1
  unfold Oper.wp
  rw [hx]
  exact h C _ _ w' hG (h2.put' rfl hd0 h3)
end
end Go.Proofs.YtpgkpbfefnpagaaGreatDoor
