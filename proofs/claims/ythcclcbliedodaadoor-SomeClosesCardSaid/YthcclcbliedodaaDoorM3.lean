/- Plain laws, data behind worlds, and contracts of functions, for the last text. No conditions. -/
import Derived.Test.YthcclcbliedodaaDoorM2
set_option linter.unusedSimpArgs false
set_option linter.unusedVariables false
set_option linter.unnecessarySimpa false
set_option linter.unusedSectionVars false
namespace Go.Proofs.YthcclcbliedodaaDoor
open Go.RowKit

theorem RepS.same {S S' : Nat → Prop} {w w' : World} {hd hd' : List Hd} (hb : Stay S S' w w') (hp : ∀ (i : Nat) (h : Hd), hd[i]? = some h → h ≠ .no → ∃ h', hd'[i]? = some h' ∧ (h' = h ∨ h' = h.off)) {x : SV} {v : Value} (h : RepS S w hd x v) : RepS S' w' hd' x v := by
  induction h with
  | t x v h => exact .t x v (h.keep hb)
  | nil => exact .nil
  | lit l a h => exact .lit l a (h.keep hb)
  | agg l vs hl h1 hx ih => exact .agg _ vs hl h1 fun k y v a b => ih k y v a b
  | sref i a n cap o h =>
    obtain ⟨h', e1, e2⟩ := hp i _ h (by simp)
    rcases e2 with rfl | rfl
    · exact .sref i a n cap o e1
    · exact .sref i a n cap none e1
  | cut i m a n cap o h hm =>
    obtain ⟨h', e1, e2⟩ := hp i _ h (by simp)
    rcases e2 with rfl | rfl
    · exact .cut i m a n cap o e1 hm
    · exact .cut i m a n cap none e1 hm
  | bptr i off b o h =>
    obtain ⟨h', e1, e2⟩ := hp i _ h (by simp)
    rcases e2 with rfl | rfl
    · exact .bptr i off b o e1
    · exact .bptr i off b false e1
  | eptr i sz k off g n cap o h =>
    obtain ⟨h', e1, e2⟩ := hp i _ h (by simp)
    rcases e2 with rfl | rfl
    · exact .eptr i sz k off g n cap o e1
    · exact .eptr i sz k off g n cap none e1
  | map i r h =>
    obtain ⟨h', e1, e2⟩ := hp i _ h (by simp)
    rcases e2 with rfl | rfl
    · exact .map i r e1
    · exact .map i r e1
  | fn f cap vs hl hx ih => exact .fn f _ vs hl fun k y v a b => ih k y v a b
  | pin i b o h =>
    obtain ⟨h', e1, e2⟩ := hp i _ h (by simp)
    rcases e2 with rfl | rfl
    · exact .pin i b o e1
    · exact .pin i b false e1
  | pinS i a n cap o h =>
    obtain ⟨h', e1, e2⟩ := hp i _ h (by simp)
    rcases e2 with rfl | rfl
    · exact .pinS i a n cap o e1
    · exact .pinS i a n cap none e1
theorem ObR.same {S S' : Nat → Prop} {B : Nat} {w : World} {hd hd' : List Hd} (hb : Stay S S' w w) (hp : ∀ (i : Nat) (h : Hd), hd[i]? = some h → h ≠ .no → ∃ h', hd'[i]? = some h' ∧ (h' = h ∨ h' = h.off)) {o : Ob} {h : Hd} (hr : ObR S B w hd o h) : ObR S' B w hd' o h := by
  by_cases ho : ∃ l, o = .box l
  · obtain ⟨l, rfl⟩ := ho
    cases h <;> simp only [ObR] at hr ⊢
    obtain ⟨rfl, vs, t, h1, h2, h3, h4⟩ := hr
    exact ⟨rfl, vs, t, h1, h2, h3, fun k y v a b => (h4 k y v a b).same hb hp⟩
  · have := ObR.ren (hd' := hd) hb (Keeps.refl hd) (fun _ _ => rfl) hr
    rw [Ob.ren_some] at this
    cases o <;> cases h <;> first | exact this | (exact (ho ⟨_, rfl⟩).elim)
/-- A place for a variable that is to come. -/
theorem Norm.hole (s : St) : Norm s { s with heap := s.heap ++ [.hole] } := fun C hd a w hr =>
  ⟨_, hr.new (Below.refl _ _) .hole .no (fun b hb => by simp [Hd.own] at hb) trivial⟩
section
variable {P : Program} {G : World → Prop} {tt : Nat → Option TI} {tb : Tab} {ops : Array Oper}
theorem Norm.place {s : St} {d : Option Nat} {l : List SV} {j : Nat} (hj : s.heap[j]? = some .hole) : Norm (({ s with heap := s.heap ++ [.box l] } : St).put d (.bptr s.heap.length 0)) (({ s with heap := s.heap.set j (.box l) ++ [.gone] } : St).put d (.bptr j 0)) := fun C hd a w hr => by
  have hjl := (List.getElem?_eq_some_iff.1 hj).1
  have hh : ∀ (hp : List Ob) (x : SV), (({ s with heap := hp } : St).put d x).heap = hp := fun hp x => put_heap _ _ _
  have hlen : hd.length = s.heap.length + 1 := by rw [hr.hl, hh]; simp
  obtain ⟨g, hg⟩ : ∃ g, hd[s.heap.length]? = some g := ⟨hd[s.heap.length]'(by omega), List.getElem?_eq_getElem _⟩
  have hog := hr.ob s.heap.length (.box l) g (by rw [hh]; simp) hg
  have hjg : hd[j]? = some .no := by
    have e : hd[j]? = some (hd[j]'(by omega)) := List.getElem?_eq_getElem _
    have := hr.ob j .hole _ (by rw [hh, List.getElem?_append_left hjl]; exact hj) e
    generalize hd[j]'(by omega) = q at e this
    cases q <;> simp only [ObR] at this
    exact e
  have hgb : ∃ b, g = .bx b true := by
    cases g <;> simp only [ObR] at hog
    exact ⟨_, by rw [hog.1]⟩
  obtain ⟨b, rfl⟩ := hgb
  have hne : j ≠ s.heap.length := by omega
  have look1 : ∀ i x, ((hd.set j (.bx b true)).set s.heap.length (.bx b false))[i]? = some x → (i = s.heap.length ∧ x = .bx b false) ∨ (i = j ∧ x = .bx b true) ∨ (i ≠ j ∧ i ≠ s.heap.length ∧ hd[i]? = some x) := fun i x e => by
    rw [List.getElem?_set] at e
    split at e
    · rename_i e0; subst e0
      rw [if_pos (by simp; omega)] at e
      exact .inl ⟨rfl, by cases e; rfl⟩
    · rw [List.getElem?_set] at e
      split at e
      · rename_i e0; subst e0
        rw [if_pos (by omega)] at e
        exact .inr (.inl ⟨rfl, by cases e; rfl⟩)
      · exact .inr (.inr ⟨by omega, by omega, e⟩)
  have mem1 : ∀ x, x ∈ ((hd.set j (.bx b true)).set s.heap.length (.bx b false)) → x = .bx b false ∨ x ∈ hd := fun x hx => by
    obtain ⟨i, hi⟩ := List.mem_iff_getElem?.1 hx
    rcases look1 i x hi with ⟨_, e⟩ | ⟨_, e⟩ | ⟨_, _, e⟩
    · exact .inl e
    · subst e; exact .inr (List.mem_of_getElem? hg)
    · exact .inr (List.mem_of_getElem? e)
  have hst : Stay (vis C hd) (vis C ((hd.set j (.bx b true)).set s.heap.length (.bx b false))) w w := ⟨Nat.le_refl _, fun c hc _ => ⟨rfl, hc.1, fun x hx => by
    rcases mem1 x hx with rfl | h
    · simp [Hd.own]
    · exact hc.2 x h⟩⟩
  have hkp : ∀ (i : Nat) (h : Hd), hd[i]? = some h → h ≠ .no → ∃ h', ((hd.set j (.bx b true)).set s.heap.length (.bx b false))[i]? = some h' ∧ (h' = h ∨ h' = h.off) := fun i h e hn => by
    by_cases e1 : i = s.heap.length
    · subst e1
      rw [hg] at e
      cases e
      exact ⟨.bx b false, List.getElem?_set_self (by simp; omega), .inr rfl⟩
    · by_cases e2 : i = j
      · subst e2; rw [hjg] at e; cases e; exact (hn rfl).elim
      · exact ⟨h, by rw [List.getElem?_set_ne (by omega), List.getElem?_set_ne (by omega)]; exact e, .inl rfl⟩
  refine ⟨(hd.set j (.bx b true)).set s.heap.length (.bx b false), hr.below, hr.df, by have := hr.nt; rw [put_nt] at this ⊢; exact this, by rw [hh]; simp [hlen], fun i o x h1 h2 => ?_, fun x c hx hc => ?_, fun i k hi hk c e1 e2 e3 e4 => ?_, fun t x hx => ?_, ?_⟩
  · rw [hh] at h1
    rcases look1 i x h2 with ⟨rfl, rfl⟩ | ⟨rfl, rfl⟩ | ⟨n1, n2, e⟩
    · rw [List.getElem?_append_right (by simp)] at h1
      simp at h1; subst h1
      simp only [ObR]
    · rw [List.getElem?_append_left (by simpa using hjl), List.getElem?_set_self hjl] at h1
      cases h1
      exact hog.same hst hkp
    · have hi := (List.getElem?_eq_some_iff.1 e).1
      have hi2 : i < s.heap.length := by omega
      rw [List.getElem?_append_left (by simpa using hi2), List.getElem?_set_ne (by omega)] at h1
      exact (hr.ob i o x (by rw [hh, List.getElem?_append_left hi2]; exact h1) e).same hst hkp
  · rcases mem1 x hx with rfl | h
    · simp [Hd.own] at hc
    · exact hr.own x c h hc
  · rcases look1 i hi e1 with ⟨a1, b1⟩ | ⟨a1, b1⟩ | ⟨a1, a2, b1⟩ <;> rcases look1 k hk e2 with ⟨c1, d1⟩ | ⟨c1, d1⟩ | ⟨c1, c2, d1⟩
    · omega
    · subst b1; simp [Hd.own] at e3
    · subst b1; simp [Hd.own] at e3
    · subst d1; simp [Hd.own] at e4
    · omega
    · subst b1
      exact (c2 (hr.dist k s.heap.length hk _ c d1 hg e4 e3)).elim
    · subst d1; simp [Hd.own] at e4
    · subst d1
      exact (a2 (hr.dist i s.heap.length hi _ c b1 hg e3 e4)).elim
    · exact hr.dist i k hi hk c b1 d1 e3 e4
  · cases d with
    | none => exact (hr.sl t x hx).same hst hkp
    | some d =>
      simp only [St.put, look] at hx
      by_cases e : d = t
      · subst e
        rw [if_pos rfl] at hx
        cases hx
        have := hr.sl d (.bptr s.heap.length 0) (by simp [St.put, look])
        generalize a.tmps.getD d undef = v at this
        cases this with
        | bptr _ _ b' o h =>
          rw [hg] at h
          cases h
          exact .bptr j 0 b true (by rw [List.getElem?_set_ne (by omega), List.getElem?_set_self (by omega)])
      · rw [if_neg e] at hx
        exact (hr.sl t x (by simp only [St.put, look]; rw [if_neg e]; exact hx)).same hst hkp
  · refine ⟨hr.ext.gro, hr.ext.stay, fun h c h1 h2 => ?_⟩
    rcases mem1 h h1 with rfl | h3
    · simp [Hd.own] at h2
    · exact hr.ext.lent h c h3 h2
/-- The state in which more is there. -/
def Mono (s s' : St) : Prop := ∀ i q, s.obj i = q → q ≠ .gone → q ≠ .hole → s'.obj i = q
section
variable {s s' : St} (hm : Mono s s')
include hm
mutual
theorem rd_mono : ∀ (x : SV) (y : T), s.rd x = some y → s'.rd x = some y
  | .t _, _, h => h
  | .nil, _, h => h
  | .lit _, _, h => h
  | .agg l, y, h => by
    simp only [St.rd, Option.map_eq_some_iff] at h ⊢
    obtain ⟨ys, h1, h2⟩ := h
    exact ⟨ys, rdL_mono l ys h1, h2⟩
  | .sref i, y, h => by
    simp only [St.rd] at h ⊢
    split at h
    · rename_i ho; rw [hm _ _ ho (by simp) (by simp)]; exact h
    · rename_i ho; rw [hm _ _ ho (by simp) (by simp)]; exact h
    · cases h
  | .bptr i off, y, h => by
    simp only [St.rd] at h ⊢
    split at h
    · rename_i ho; rw [hm _ _ ho (by simp) (by simp)]; exact h
    · rename_i ho; rw [hm _ _ ho (by simp) (by simp)]; exact h
    · cases h
  | .eptr _ _ _ _, _, h => by simp [St.rd] at h
  | .cut _ _, _, h => by simp [St.rd] at h
  | .map _, _, h => by simp [St.rd] at h
  | .fn f l, y, h => by
    simp only [St.rd, Option.map_eq_some_iff] at h ⊢
    obtain ⟨ys, h1, h2⟩ := h
    exact ⟨ys, rdL_mono l ys h1, h2⟩
  | .pin _ _, _, h => by simp [St.rd] at h
  | .pinS _ _ _ _, _, h => by simp [St.rd] at h
theorem rdL_mono : ∀ (l : List SV) (ys : List T), s.rdL l = some ys → s'.rdL l = some ys
  | [], _, h => h
  | x :: r, ys, h => by
    simp only [St.rdL] at h ⊢
    split at h
    · rename_i y hy
      rw [rd_mono x y hy]
      split at h
      · rename_i zs hz
        rw [rdL_mono r zs hz]; exact h
      · cases h
    · cases h
end
mutual
theorem tr_mono : ∀ (x : SV) (y : T), s.tr x = some y → s'.tr x = some y
  | .t _, _, h => h
  | .nil, _, h => h
  | .lit _, _, h => h
  | .agg l, y, h => by
    simp only [St.tr, Option.map_eq_some_iff] at h ⊢
    obtain ⟨ys, h1, h2⟩ := h
    exact ⟨ys, trL_mono l ys h1, h2⟩
  | .sref i, y, h => by
    simp only [St.tr] at h ⊢
    split at h
    · rename_i ho; rw [hm _ _ ho (by simp) (by simp)]; exact h
    · cases h
  | .bptr i off, y, h => by
    simp only [St.tr] at h ⊢
    split at h
    · rename_i ho; rw [hm _ _ ho (by simp) (by simp)]; exact h
    · cases h
  | .eptr _ _ _ _, _, h => by simp [St.tr] at h
  | .cut _ _, _, h => by simp [St.tr] at h
  | .map _, _, h => by simp [St.tr] at h
  | .fn f l, y, h => by
    simp only [St.tr, Option.map_eq_some_iff] at h ⊢
    obtain ⟨ys, h1, h2⟩ := h
    exact ⟨ys, trL_mono l ys h1, h2⟩
  | .pin _ _, _, h => by simp [St.tr] at h
  | .pinS _ _ _ _, _, h => by simp [St.tr] at h
theorem trL_mono : ∀ (l : List SV) (ys : List T), s.trL l = some ys → s'.trL l = some ys
  | [], _, h => h
  | x :: r, ys, h => by
    simp only [St.trL] at h ⊢
    split at h
    · rename_i y hy
      rw [tr_mono x y hy]
      split at h
      · rename_i zs hz
        rw [trL_mono r zs hz]; exact h
      · cases h
    · cases h
end
end
/-- A variable that comes into its place. -/
def allocAt (tt : Nat → Option TI) (s : St) (o : Oper) (j : Nat) : Option St := match o.op with
  | .alloc t => match tt t with
    | some i => match s.heap[j]? with
      | some .hole => if dstOk s.nt o.dst = true ∧ o.guard = none then some (({ s with heap := s.heap.set j (.box i.zero) ++ [.gone] } : St).put o.dst (.bptr j 0)) else none
      | _ => none
    | none => none
  | _ => none
noncomputable def stepA (ps : List (Nat × Nat)) (tt : Nat → Option TI) (tb : Tab) (ops : Array Oper) (k : Nat) (s : St) : Option St := match ps.lookup k with
  | none => stepI tt tb ops k s
  | some j => match ops[k]? with
    | some o => allocAt tt s o j
    | none => none
variable {ps : List (Nat × Nat)}
end
end Go.Proofs.YthcclcbliedodaaDoor
namespace Go.Proofs.YthcclcbliedodaaDoor

theorem powW_bd {k : Int} (h2 : 2 ≤ k) (h6 : k ≤ 6) {j : Nat} (hj : j ≤ 5) : 1 ≤ powW k j ∧ powW k j ≤ 7776 := by
  have key : ∀ j, j ≤ 5 → powW k j ≤ powW 6 j := by
    intro j
    induction j with
    | zero => intro _; exact Int.le_refl _
    | succ j ih =>
      intro hj
      have h := ih (by omega)
      have p := powW_pos h2 j
      show powW k j * k ≤ powW 6 j * 6
      exact Int.le_trans (Int.mul_le_mul_of_nonneg_right h (by omega)) (Int.mul_le_mul_of_nonneg_left h6 (by omega))
  refine ⟨powW_pos h2 j, Int.le_trans (key j hj) ?_⟩
  have : j = 0 ∨ j = 1 ∨ j = 2 ∨ j = 3 ∨ j = 4 ∨ j = 5 := by omega
  rcases this with rfl | rfl | rfl | rfl | rfl | rfl <;> decide

theorem rowsFault_at {n m : Int} {l : List (List Int)} {k : Nat} (hk : k < l.length) (h : ∀ i (hi : i < l.length), i < k → (l[i].length : Int) = n ∧ ∀ s ∈ l[i], 0 ≤ s ∧ s < m) :
    ((l[k].length : Int) ≠ n → rowsFault n m l = 2) ∧ ((l[k].length : Int) = n → (∃ s ∈ l[k], ¬ (0 ≤ s ∧ s < m)) → rowsFault n m l = 1) := by
  induction l generalizing k with
  | nil => simp at hk
  | cons r t ih =>
    cases k with
    | zero =>
      refine ⟨fun h1 => ?_, fun h1 h2 => ?_⟩
      · simp only [List.getElem_cons_zero] at h1
        unfold rowsFault; rw [if_pos h1]
      · simp only [List.getElem_cons_zero] at h1 h2
        obtain ⟨s, hs, hn⟩ := h2
        unfold rowsFault
        rw [if_neg (by omega), if_neg]
        intro hall
        exact hn (by simpa using List.all_eq_true.1 hall s hs)
    | succ k =>
      have h0 := h 0 (by simp) (by omega)
      simp only [List.getElem_cons_zero] at h0
      have e : rowsFault n m (r :: t) = rowsFault n m t := by
        conv => lhs; unfold rowsFault
        rw [if_neg (by omega), if_pos]
        rw [List.all_eq_true]; intro s hs; simpa using h0.2 s hs
      rw [e]
      exact ih (by simpa using hk) (fun i hi hik => h (i + 1) (by simp; omega) (by omega))

end Go.Proofs.YthcclcbliedodaaDoor
namespace Go.Proofs.YthcclcbliedodaaDoor
open Go.RowKit

def runA {σ : Type} (stp : Nat → σ → Option σ) : List Nat → σ → Option σ
  | [], s => some s
  | k :: r, s => match stp k s with
    | some s' => runA stp r s'
    | none => none
section
variable {σ γ : Type} {P : Program} {ops : Array Oper} {stp : Nat → σ → Option σ} {E : σ → σ → Prop}
theorem runA_nil {s : σ} : runA stp [] s = some s := rfl
theorem runA_cons {k : Nat} {r : List Nat} {s s1 s2 : σ} (h1 : stp k s = some s1) (h2 : runA stp r s1 = some s2) : runA stp (k :: r) s = some s2 := by
  unfold runA; rw [h1]; exact h2
theorem runA_congr (hC : ∀ k s s' t, E s s' → stp k s = some t → ∃ t', stp k s' = some t' ∧ E t t') : ∀ {l : List Nat} {s s' : σ}, E s s' → ∀ {t : σ}, runA stp l s = some t → ∃ t', runA stp l s' = some t' ∧ E t t'
  | [], s, s', h, t, hs => by simp [runA] at hs; subst hs; exact ⟨_, rfl, h⟩
  | k :: r, s, s', h, t, hs => by
    unfold runA at hs ⊢
    split at hs
    · rename_i u hu
      obtain ⟨u', h1, h2⟩ := hC k _ _ _ h hu
      rw [h1]
      exact runA_congr hC h2 hs
    · cases hs
theorem frontA (hEr : ∀ s, E s s) (hEt : ∀ s t u, E s t → E t u → E s u) (hC : ∀ k s s' t, E s s' → stp k s = some t → ∃ t', stp k s' = some t' ∧ E t t') {pass : Nat → Nat → Prop} (hP : ∀ j k s s1 s2, pass j k → stp j s = some s1 → stp k s1 = some s2 → ∃ u u', stp k s = some u ∧ stp j u = some u' ∧ E s2 u') :
    ∀ {p q : List Nat} {k : Nat} {s t : σ}, (∀ j ∈ p, pass j k) → runA stp (p ++ k :: q) s = some t → ∃ s1 t', stp k s = some s1 ∧ runA stp (p ++ q) s1 = some t' ∧ E t t'
  | [], q, k, s, t, _, h => by
    simp only [List.nil_append, runA] at h
    split at h
    · rename_i s1 h1; exact ⟨s1, t, h1, h, hEr _⟩
    · cases h
  | j :: p, q, k, s, t, hp, h => by
    simp only [List.cons_append, runA] at h
    split at h
    · rename_i s1 h1
      obtain ⟨s2, t', e1, e2, e3⟩ := frontA hEr hEt hC hP (fun j' hj' => hp j' (List.mem_cons_of_mem _ hj')) h
      obtain ⟨u, u', f1, f2, f3⟩ := hP j k _ _ _ (hp j List.mem_cons_self) h1 e1
      obtain ⟨t'', g1, g2⟩ := runA_congr hC f3 e2
      refine ⟨u, t'', f1, ?_, hEt _ _ _ e3 g2⟩
      simp only [List.cons_append, runA, f2]
      exact g1
    · cases h
/-- Operation kc may have more than one outcome; all others have one, whatever that one is. -/
theorem wpAny_abs (Rel : σ → Act → World → Prop) (stp : γ → Nat → σ → Option σ) (kc : Nat) (hEr : ∀ s, E s s) (hEt : ∀ s t u, E s t → E t u → E s u) (hI : ∀ c c' k, k ≠ kc → stp c k = stp c' k)
    (hC : ∀ c k s s' t, E s s' → stp c k s = some t → ∃ t', stp c k s' = some t' ∧ E t t') {pass : Nat → Nat → Prop}
    (hP : ∀ c j k s s1 s2, pass j k → stp c j s = some s1 → stp c k s1 = some s2 → ∃ u u', stp c k s = some u ∧ stp c j u = some u' ∧ E s2 u')
    (htp : ∀ i y, ops[i]? = some y → (∀ e ∈ y.after, Region.binds .any e = true → e.on < i) ∧ ∀ j, j < i → ((ancs ops ops.size).getD i 0).testBit j = true ∨ pass j i) {Q : Exit → Act → World → Prop}
    (hS : ∀ c k o s s1 a w (K : Act → World → Prop), ops[k]? = some o → k ≠ kc → stp c k s = some s1 → Rel s a w → (∀ a' w', Rel s1 a' w' → K a' w') → if Region.wanted o (yielded ops a.tmps) then o.wp P a w K Q else K (a.put o.dst undef) w)
    (hSc : ∀ o s a w (K : Act → World → Prop), ops[kc]? = some o → (∀ c, ∃ s1, stp c kc s = some s1) → Rel s a w → (∀ c s1 a' w', stp c kc s = some s1 → Rel s1 a' w' → K a' w') → if Region.wanted o (yielded ops a.tmps) then o.wp P a w K Q else K (a.put o.dst undef) w) :
    ∀ (fuel : Nat) (listed : Array Bool) (s : σ) (a : Act) (w : World) (A : γ → Prop), listed.size = ops.size → (∀ i y, listed.getD i false = true → ops[i]? = some y → ∀ e ∈ y.after, Region.binds .any e = true → listed.getD e.on false = true) → (left listed ops.size).length = fuel →
    (∃ c, A c) → (listed.getD kc true = false → ∀ c, A c) → (∀ c, A c → ∃ t, runA (stp c) (left listed ops.size) s = some t ∧ ∀ t' a' w', E t t' → Rel t' a' w' → Q .normal a' w') → Rel s a w → wpAny P .any ops Q fuel listed a w := by
  have memLeft : ∀ {listed : Array Bool} {k : Nat}, listed.size = ops.size → (k ∈ left listed ops.size ↔ k < ops.size ∧ listed.getD k true = false) := fun {listed k} _ => by
    simp [left]
  intro fuel
  induction fuel with
  | zero =>
    intro listed s a w A hsz hcl hl hA hAll hrun hr
    have hnil : left listed ops.size = [] := List.eq_nil_of_length_eq_zero hl
    obtain ⟨c, hc⟩ := hA
    obtain ⟨t, hrun, hQ⟩ := hrun c hc
    rw [hnil] at hrun
    simp [runA] at hrun
    subst hrun
    refine ⟨?_, hQ s a w (hEr _) hr⟩
    apply List.eq_nil_iff_forall_not_mem.2
    intro k hk
    obtain ⟨h1, o, h2, _⟩ := mem_ready.1 hk
    have : k ∈ left listed ops.size := (memLeft hsz).2 ⟨(Array.getElem?_eq_some_iff.1 h2).1, h1⟩
    rw [hnil] at this
    simp at this
  | succ fuel ih =>
    intro listed s a w A hsz hcl hl hA hAll hrun hr
    refine ⟨fun h0 => ?_, fun k hk => ?_⟩
    · exfalso
      obtain ⟨k, r, hkr⟩ : ∃ k r, left listed ops.size = k :: r := by
        cases hL : left listed ops.size with
        | nil => rw [hL] at hl; simp at hl
        | cons k r => exact ⟨k, r, rfl⟩
      have hkm : k ∈ left listed ops.size := by rw [hkr]; exact List.mem_cons_self
      obtain ⟨hlt, hun⟩ := (memLeft hsz).1 hkm
      have hy := Array.getElem?_eq_getElem hlt
      have : k ∈ Region.ready .any ops listed := by
        refine mem_ready.2 ⟨hun, _, hy, fun e he hb => ?_⟩
        have hon := (htp k _ hy).1 e he hb
        cases hle : listed.getD e.on false with
        | true => rfl
        | false =>
          exfalso
          have hm : e.on ∈ left listed ops.size := by
            refine (memLeft hsz).2 ⟨by omega, ?_⟩
            have : e.on < listed.size := by omega
            simp [this] at hle ⊢
            exact hle
          have hsorted : (left listed ops.size).Pairwise (· < ·) := List.Pairwise.filter _ List.pairwise_lt_range
          rw [hkr] at hm hsorted
          rcases List.mem_cons.1 hm with e1 | e1
          · omega
          · have := (List.pairwise_cons.1 hsorted).1 _ e1
            omega
      rw [h0] at this
      simp at this
    · obtain ⟨hun, o, ho, hall⟩ := mem_ready.1 hk
      have hlt := (Array.getElem?_eq_some_iff.1 ho).1
      have hkm : k ∈ left listed ops.size := (memLeft hsz).2 ⟨hlt, hun⟩
      obtain ⟨p, q, hpq⟩ := List.append_of_mem hkm
      have hsorted : (left listed ops.size).Pairwise (· < ·) := List.Pairwise.filter _ List.pairwise_lt_range
      rw [hpq] at hsorted hrun
      have hpk : ∀ j ∈ p, j < k := fun j hj => (List.pairwise_append.1 hsorted).2.2 j hj k List.mem_cons_self
      have hcomm : ∀ j ∈ p, pass j k := fun j hj => by
        have hjm : j ∈ left listed ops.size := by rw [hpq]; exact List.mem_append_left _ hj
        obtain ⟨hjl, hju⟩ := (memLeft hsz).1 hjm
        rcases (htp k o ho).2 j (hpk j hj) with hc | hc
        · exfalso
          have := ancs_closed (L := fun i => listed.getD i false = true) hcl k ops.size j o hlt ho hall hc
          have hj2 : j < listed.size := by omega
          simp [hj2] at this hju
          rw [this] at hju; cases hju
        · exact hc
      have hleft : left (listed.setIfInBounds k true) ops.size = p ++ q := by
        have : left (listed.setIfInBounds k true) ops.size = (left listed ops.size).filter (· ≠ k) := by
          unfold left
          rw [List.filter_filter]
          apply List.filter_congr
          intro x hx
          by_cases hxk : x = k
          · subst hxk
            have : x < listed.size := by omega
            simp [this]
          · have : ¬ k = x := fun e => hxk e.symm
            simp [Array.getElem?_setIfInBounds, this, hxk]
        rw [this, hpq, List.filter_append]
        have f1 : p.filter (· ≠ k) = p := List.filter_eq_self.2 fun x hx => by have := hpk x hx; simp; omega
        have f2 : (k :: q).filter (· ≠ k) = q := by
          rw [List.filter_cons_of_neg (by simp)]
          exact List.filter_eq_self.2 fun x hx => by
            have := (List.pairwise_cons.1 (List.pairwise_append.1 hsorted).2.1).1 x hx
            simp; omega
        rw [f1, f2]
      have hcl' : ∀ i y, (listed.setIfInBounds k true).getD i false = true → ops[i]? = some y → ∀ e ∈ y.after, Region.binds .any e = true → (listed.setIfInBounds k true).getD e.on false = true := fun i y hi hy e he hb => by
        have up : ∀ q, listed.getD q false = true → (listed.setIfInBounds k true).getD q false = true := fun q hq => by
          by_cases hqk : k = q
          · subst hqk
            have : k < listed.size := by omega
            simp [this]
          · simp [Array.getElem?_setIfInBounds, hqk] at hq ⊢; exact hq
        by_cases hik : k = i
        · subst hik
          rw [ho] at hy; cases hy
          exact up _ (hall e he hb)
        · refine up _ (hcl i y ?_ hy e he hb)
          simp [Array.getElem?_setIfInBounds, hik] at hi ⊢; exact hi
      have hlen : (p ++ q).length = fuel := by rw [hpq] at hl; simp at hl ⊢; omega
      have hlk : (listed.setIfInBounds k true).getD k true = true := by
        have : k < listed.size := by omega
        simp [this]
      have fr : ∀ c, A c → ∃ s1 t', stp c k s = some s1 ∧ runA (stp c) (p ++ q) s1 = some t' ∧ ∀ t'' a' w', E t' t'' → Rel t'' a' w' → Q .normal a' w' := fun c hc => by
        obtain ⟨t, e0, hQ⟩ := hrun c hc
        obtain ⟨s1, t', e1, e2, e3⟩ := frontA hEr hEt (hC c) (hP c) hcomm e0
        exact ⟨s1, t', e1, e2, fun t'' a' w' h1 h2 => hQ t'' a' w' (hEt _ _ _ e3 h1) h2⟩
      have hstep : if Region.wanted o (yielded ops a.tmps) then o.wp P a w (wpAny P .any ops Q fuel (listed.setIfInBounds k true)) Q else (wpAny P .any ops Q fuel (listed.setIfInBounds k true)) (a.put o.dst undef) w := by
        by_cases hkc : k = kc
        · subst hkc
          have hall' := hAll hun
          refine hSc o s a w _ ho (fun c => by obtain ⟨s1, _, e1, _⟩ := fr c (hall' c); exact ⟨s1, e1⟩) hr fun c s1 a' w' e1 h' => ?_
          refine ih (listed.setIfInBounds k true) s1 a' w' (fun c' => c' = c) (by simp [hsz]) hcl' (by rw [hleft]; exact hlen) ⟨c, rfl⟩ (fun h => by rw [hlk] at h; cases h) (fun c' hc' => ?_) h'
          subst hc'
          obtain ⟨s1', t', e1', e2, e3⟩ := fr c' (hall' c')
          rw [e1] at e1'
          cases e1'
          rw [hleft]
          exact ⟨t', e2, e3⟩
        · obtain ⟨c, hc⟩ := hA
          obtain ⟨s1, t', e1, e2, e3⟩ := fr c hc
          refine hS c k o s s1 a w _ ho hkc e1 hr fun a' w' h' => ?_
          refine ih (listed.setIfInBounds k true) s1 a' w' A (by simp [hsz]) hcl' (by rw [hleft]; exact hlen) ⟨c, hc⟩ (fun h => hAll (by simpa [Array.getElem?_setIfInBounds, hkc] using h)) (fun c' hc' => ?_) h'
          obtain ⟨s1', t'', e1', e2', e3'⟩ := fr c' hc'
          rw [hI c' c k hkc, e1] at e1'
          cases e1'
          rw [hleft]
          exact ⟨t'', e2', e3'⟩
      unfold wpOp
      rw [ho]
      simp only
      split
      · rename_i hw; rw [if_pos hw] at hstep; exact .inl hstep
      · rename_i hw; rw [if_neg hw] at hstep; exact hstep
end
end Go.Proofs.YthcclcbliedodaaDoor
namespace Go.Proofs.YthcclcbliedodaaDoor
open Go.RowKit

/-- Is no own object behind it? -/
def isR : SV → Bool
  | .t .undef => false
  | .t _ => true
  | .nil => true
  | .lit _ => true
  | _ => false
theorem isR_ren {π : Nat → Option Nat} {x : SV} (h : isR (x.ren π) = true) : x.ren π = x := by
  cases x <;> simp only [SV.ren] at h ⊢ <;> try (split at h <;> simp [isR] at h)
  all_goals simp [isR] at h
theorem isR_id {π : Nat → Option Nat} {x : SV} (h : isR x = true) : x.ren π = x := by
  cases x <;> first | rfl | (simp [isR] at h)
/-- A call whose own memory and arguments are these. -/
structure LoudS where
  heap : List Ob
  args : List SV
  heap' : List Ob
  r : SV
  π : Nat → Option Nat
def loudSt (s : St) (L : LoudS) (d : Option Nat) : St := ({ nt := s.nt, tmps := s.tmps.map fun p => (p.1, p.2.ren L.π), heap := L.heap' } : St).put d L.r
def LoudOk (P : Program) (G : World → Prop) (o : Oper) (L : LoudS) : Prop := ∀ (C : Ctx) (hd : List Hd) (a : Act) (w : World) (s : St) (K : Act → World → Prop) (Q : Exit → Act → World → Prop), G C.w0 → StR C s hd a w → s.heap = L.heap → o.op.operands.toList.map s.ev = L.args → dstOk s.nt o.dst = true →
  (∀ hd' a' w', StR C (loudSt s L o.dst) hd' a' w' → K a' w') → o.wp P a w K Q
structure QS (tt : Nat → Option TI) (tb : Tab) (o : Oper) (s : St) (x : SV) : Prop where
  guard : o.guard = none
  dst : dstOk s.nt o.dst = true
  args : o.op.operands.toList.all (fun y => isR (s.ev y)) = true
  val : ∀ H : List Ob, evalX tt tb ⟨s.nt, s.tmps, H⟩ o.op = some x
  res : isR x = true
open Classical in
noncomputable def stepS (ls : Nat → Option LoudS) (tt : Nat → Option TI) (tb : Tab) (ops : Array Oper) (k : Nat) (s : St) : Option St := match ops[k]? with
  | none => none
  | some o => match ls k with
    | some L => if o.guard = none ∧ s.heap = L.heap ∧ o.op.operands.toList.map s.ev = L.args ∧ dstOk s.nt o.dst = true then some (loudSt s L o.dst) else none
    | none => if h : ∃ x, QS tt tb o s x then some (s.put o.dst (Classical.choose h)) else none
section
variable {P : Program} {G : World → Prop} {tt : Nat → Option TI} {tb : Tab} {ops : Array Oper} {ls : Nat → Option LoudS}
theorem QS.eq {o : Oper} {s : St} {x y : SV} (h : QS tt tb o s x) (h' : QS tt tb o s y) : x = y := by
  have := h.val []
  rw [h'.val []] at this
  exact (Option.some.inj this).symm
theorem ev_heap (s : St) (H : List Ob) (y : Operand) : (⟨s.nt, s.tmps, H⟩ : St).ev y = s.ev y := by cases y <;> rfl
theorem QS.ev {o : Oper} {s s' : St} {x : SV} (h : QS tt tb o s x) (hn : s'.nt = s.nt) (he : ∀ y ∈ o.op.operands, s'.ev y = s.ev y) : QS tt tb o s' x := by
  refine ⟨h.guard, by rw [hn]; exact h.dst, List.all_eq_true.2 fun y hy => ?_, fun H => ?_, h.res⟩
  · rw [he y (by simpa using hy)]; exact List.all_eq_true.1 h.args y hy
  · rw [← h.val H]
    exact evalX_congr (s := ⟨s'.nt, s'.tmps, H⟩) (s' := ⟨s.nt, s.tmps, H⟩) rfl o.op fun y hy => by rw [ev_heap, ev_heap]; exact he y hy
theorem stepS_q {k : Nat} {s t : St} {o : Oper} (ho : ops[k]? = some o) (hl : ls k = none) : stepS ls tt tb ops k s = some t ↔ ∃ x, QS tt tb o s x ∧ t = s.put o.dst x := by
  unfold stepS
  rw [ho, hl]
  simp only
  constructor
  · intro h
    split at h
    · rename_i hx
      cases h
      exact ⟨_, Classical.choose_spec hx, rfl⟩
    · cases h
  · rintro ⟨x, hx, rfl⟩
    have he : ∃ x, QS tt tb o s x := ⟨x, hx⟩
    rw [dif_pos he, (Classical.choose_spec he).eq hx]
theorem stepS_l {k : Nat} {s t : St} {o : Oper} {L : LoudS} (ho : ops[k]? = some o) (hl : ls k = some L) : stepS ls tt tb ops k s = some t ↔ (o.guard = none ∧ s.heap = L.heap ∧ o.op.operands.toList.map s.ev = L.args ∧ dstOk s.nt o.dst = true) ∧ t = loudSt s L o.dst := by
  unfold stepS
  rw [ho, hl]
  simp only
  constructor
  · intro h
    split at h
    · rename_i hc; cases h; exact ⟨hc, rfl⟩
    · cases h
  · rintro ⟨hc, rfl⟩
    rw [if_pos hc]
theorem stepS_quiet {k : Nat} {s : St} {o : Oper} {x : SV} (ho : ops[k]? = some o) (hl : ls k = none) (h1 : o.guard = none) (h2 : dstOk s.nt o.dst = true) (h4 : ∀ H : List Ob, evalX tt tb ⟨s.nt, s.tmps, H⟩ o.op = some x) (h3 : o.op.operands.toList.all (fun y => isR (s.ev y)) = true) (h5 : isR x = true) : stepS ls tt tb ops k s = some (s.put o.dst x) :=
  (stepS_q ho hl).2 ⟨x, ⟨h1, h2, h3, h4, h5⟩, rfl⟩
theorem stepS_quietE {k : Nat} {s t : St} {o : Oper} {x : SV} (ho : ops[k]? = some o) (hl : ls k = none) (h1 : o.guard = none) (h2 : dstOk s.nt o.dst = true) (h4 : ∀ H : List Ob, evalX tt tb ⟨s.nt, s.tmps, H⟩ o.op = some x) (h3 : o.op.operands.toList.all (fun y => isR (s.ev y)) = true) (h5 : isR x = true) (h6 : s.put o.dst x = t) : stepS ls tt tb ops k s = some t := by
  subst h6
  exact stepS_quiet ho hl h1 h2 h4 h3 h5
theorem stepS_loud {k : Nat} {s : St} {o : Oper} {L : LoudS} (ho : ops[k]? = some o) (hl : ls k = some L) (h1 : o.guard = none) (h2 : s.heap = L.heap) (h3 : o.op.operands.toList.map s.ev = L.args) (h4 : dstOk s.nt o.dst = true) {t : St} (h5 : loudSt s L o.dst = t) : stepS ls tt tb ops k s = some t :=
  (stepS_l ho hl).2 ⟨⟨h1, h2, h3, h4⟩, h5.symm⟩
theorem loud_congr {s s' : St} (h : Eqv s s') (L : LoudS) (d : Option Nat) : Eqv (loudSt s L d) (loudSt s' L d) := by
  unfold loudSt
  have e : Eqv ({ nt := s.nt, tmps := s.tmps.map fun p => (p.1, p.2.ren L.π), heap := L.heap' } : St) { nt := s'.nt, tmps := s'.tmps.map fun p => (p.1, p.2.ren L.π), heap := L.heap' } := ⟨h.nt, rfl, fun t => by
    show look (s.tmps.map _) t = look (s'.tmps.map _) t
    rw [look_map, look_map, h.look]⟩
  exact e.put d L.r
theorem stepS_congr (k : Nat) (s s' t : St) (h : Eqv s s') (hs : stepS ls tt tb ops k s = some t) : ∃ t', stepS ls tt tb ops k s' = some t' ∧ Eqv t t' := by
  cases ho : ops[k]? with
  | none => unfold stepS at hs; rw [ho] at hs; cases hs
  | some o =>
    cases hl : ls k with
    | none =>
      obtain ⟨x, hx, rfl⟩ := (stepS_q ho hl).1 hs
      exact ⟨_, (stepS_q ho hl).2 ⟨x, hx.ev h.nt.symm fun y _ => (h.ev y).symm, rfl⟩, h.put _ _⟩
    | some L =>
      obtain ⟨⟨h1, h2, h3, h4⟩, rfl⟩ := (stepS_l ho hl).1 hs
      refine ⟨_, (stepS_l ho hl).2 ⟨⟨h1, by rw [← h.heap]; exact h2, ?_, by rw [← h.nt]; exact h4⟩, rfl⟩, loud_congr h L _⟩
      rw [← h3]
      exact List.map_congr_left fun y _ => (h.ev y).symm
theorem loud_ev {s : St} {L : LoudS} {d : Option Nat} {y : Operand} (hd : ∀ t, d = some t → y ≠ .tmp t) : (loudSt s L d).ev y = (s.ev y).ren L.π ∨ (loudSt s L d).ev y = s.ev y := by
  cases y with
  | tmp t =>
    left
    unfold loudSt
    rw [put_ev hd]
    show (look (s.tmps.map _) t).getD (.t .undef) = ((look s.tmps t).getD (.t .undef)).ren L.π
    rw [look_map]
    cases look s.tmps t <;> rfl
  | _ => exact .inr rfl
theorem QS.toLoud {s : St} {L : LoudS} {d : Option Nat} {o : Oper} {x : SV} (hd : ∀ t, d = some t → t ∉ o.looksAt ops) (h : QS tt tb o s x) : QS tt tb o (loudSt s L d) x :=
  h.ev (by unfold loudSt; rw [put_nt]) fun y hy => by
    have hR : isR (s.ev y) = true := List.all_eq_true.1 h.args y (by simpa using hy)
    rcases loud_ev (s := s) (L := L) (d := d) (y := y) (fun t e ey => hd t e (looks_op (by subst ey; exact hy))) with e | e
    · rw [e, isR_id hR]
    · exact e
theorem QS.ofLoud {s : St} {L : LoudS} {d : Option Nat} {o : Oper} {x : SV} (hd : ∀ t, d = some t → t ∉ o.looksAt ops) (h : QS tt tb o (loudSt s L d) x) : QS tt tb o s x :=
  h.ev (by unfold loudSt; rw [put_nt]) fun y hy => by
    have hR : isR ((loudSt s L d).ev y) = true := List.all_eq_true.1 h.args y (by simpa using hy)
    rcases loud_ev (s := s) (L := L) (d := d) (y := y) (fun t e ey => hd t e (looks_op (by subst ey; exact hy))) with e | e
    · rw [e] at hR ⊢
      exact (isR_ren hR).symm
    · exact e.symm
theorem loud_put (s : St) (L : LoudS) (d e : Option Nat) {x : SV} (hx : isR x = true) (hne : ∀ t, e = some t → d ≠ some t) : Eqv (loudSt (s.put e x) L d) ((loudSt s L d).put e x) := by
  have e1 : loudSt (s.put e x) L d = (({ nt := s.nt, tmps := s.tmps.map fun p => (p.1, p.2.ren L.π), heap := L.heap' } : St).put e x).put d L.r := by
    unfold loudSt
    cases e with
    | none => rfl
    | some t => simp only [St.put, List.map_cons, isR_id hx]
  rw [e1]
  unfold loudSt
  exact put_comm _ x L.r hne
def passS (lk : List Nat) (ops : Array Oper) (j k : Nat) : Bool := match ops[j]?, ops[k]? with
  | some x, some y => x.apart ops y && !(lk.contains j && lk.contains k)
  | _, _ => false
theorem swapS {lk : List Nat} (hlk : ∀ k L, ls k = some L → k ∈ lk) (j k : Nat) (s s1 s2 : St) (hp : passS lk ops j k = true) (h1 : stepS ls tt tb ops j s = some s1) (h2 : stepS ls tt tb ops k s1 = some s2) : ∃ u u', stepS ls tt tb ops k s = some u ∧ stepS ls tt tb ops j u = some u' ∧ Eqv s2 u' := by
  unfold passS at hp
  split at hp
  rotate_left
  · cases hp
  rename_i x y hx hy
  rw [Bool.and_eq_true] at hp
  obtain ⟨hap, hnl⟩ := hp
  obtain ⟨a1, a2, a3⟩ := Oper.apart_spec hap
  cases hj : ls j with
  | none =>
    obtain ⟨p, hpq, rfl⟩ := (stepS_q hx hj).1 h1
    cases hk : ls k with
    | none =>
      obtain ⟨q, hq, rfl⟩ := (stepS_q hy hk).1 h2
      have hq' : QS tt tb y s q := hq.ev (put_nt ..).symm fun z hz => (put_ev fun t e ez => a1 t e (looks_op (by subst ez; exact hz))).symm
      refine ⟨_, _, (stepS_q hy hk).2 ⟨q, hq', rfl⟩, (stepS_q hx hj).2 ⟨p, hpq.ev (put_nt ..) fun z hz => put_ev fun t e ez => a3 t e (looks_op (by subst ez; exact hz)), rfl⟩, put_comm s p q fun t e => a2 t e⟩
    | some L =>
      obtain ⟨⟨g1, g2, g3, g4⟩, rfl⟩ := (stepS_l hy hk).1 h2
      refine ⟨_, _, (stepS_l hy hk).2 ⟨⟨g1, by rw [← put_heap s x.dst p]; exact g2, ?_, by rw [← put_nt s x.dst p]; exact g4⟩, rfl⟩, (stepS_q hx hj).2 ⟨p, hpq.toLoud (ops := ops) fun t e => a3 t e, rfl⟩, loud_put s L _ _ hpq.res fun t e => a2 t e⟩
      rw [← g3]
      exact List.map_congr_left fun z hz => (put_ev fun t e ez => a1 t e (looks_op (by subst ez; simpa using hz))).symm
  | some L =>
    obtain ⟨⟨g1, g2, g3, g4⟩, rfl⟩ := (stepS_l hx hj).1 h1
    cases hk : ls k with
    | some L2 =>
      exfalso
      have e1 := hlk j L hj
      have e2 := hlk k L2 hk
      simp [e1, e2] at hnl
    | none =>
      obtain ⟨q, hq, rfl⟩ := (stepS_q hy hk).1 h2
      have hq' : QS tt tb y s q := hq.ofLoud (ops := ops) fun t e => a1 t e
      refine ⟨_, _, (stepS_q hy hk).2 ⟨q, hq', rfl⟩, (stepS_l hx hj).2 ⟨⟨g1, by rw [put_heap]; exact g2, ?_, by rw [put_nt]; exact g4⟩, rfl⟩, (loud_put s L _ _ hq.res fun t e e2 => a2 t e2 e).symm⟩
      rw [← g3]
      exact List.map_congr_left fun z hz => put_ev fun t e ez => a3 t e (looks_op (by subst ez; simpa using hz))
def topoS (lk : List Nat) (ops : Array Oper) : Bool := (List.range ops.size).all fun i => match ops[i]? with
  | some y => y.after.all (fun e => !Region.binds .any e || decide (e.on < i)) && (List.range i).all (fun j => ((ancs ops ops.size).getD i 0).testBit j || passS lk ops j i)
  | none => true
theorem topoS_spec {lk : List Nat} (htopo : topoS lk ops = true) : ∀ i y, ops[i]? = some y → (∀ e ∈ y.after, Region.binds .any e = true → e.on < i) ∧ ∀ j, j < i → ((ancs ops ops.size).getD i 0).testBit j = true ∨ passS lk ops j i = true := fun i y hy => by
  have hi := (Array.getElem?_eq_some_iff.1 hy).1
  have := List.all_eq_true.1 htopo i (List.mem_range.2 hi)
  rw [hy] at this
  simp only [Bool.and_eq_true] at this
  obtain ⟨h1, h2⟩ := this
  refine ⟨fun e he hb => ?_, fun j hj => by simpa using List.all_eq_true.1 h2 j (List.mem_range.2 hj)⟩
  have := (Array.all_eq_true_iff_forall_mem.1 h1) e he
  simpa [hb] using this
/-- A region that draws its order, with calls that make and take own objects. -/
theorem SW_drawS (ls : Nat → Option LoudS) (lk : List Nat) (hm : P.follows .mixedOrders = true) (hT : TTok P tt) (hGl : Lasting G) (htb : Tab.ok P G tb) {id : Nat} {ops : Array Oper} (htopo : topoS lk ops = true) (hlk : ∀ k L, ls k = some L → k ∈ lk) (hok : ∀ k L o, ls k = some L → ops[k]? = some o → LoudOk P G o L) {Q : Exit → St → Prop} {s t : St}
    (h : runA (stepS ls tt tb ops) (List.range ops.size) s = some t) (hq : Q .normal t) : SW P G (.region id ops true) Q s := fun C hd a w hG hr => by
  refine wp_region_any hm ?_
  refine wpAny_abs (γ := Unit) (E := Eqv) (fun s a w => ∃ hd, StR C s hd a w) (fun _ => stepS ls tt tb ops) ops.size Eqv.refl (fun _ _ _ h1 h2 => h1.trans h2) (fun _ _ _ _ => rfl) (fun _ => stepS_congr) (pass := fun j k => passS lk ops j k = true) (fun _ => swapS hlk) (topoS_spec htopo) ?_ ?_ ops.size (Array.replicate ops.size false) s a _ (fun _ => True) (by simp) (fun i y hi => by by_cases h : i < ops.size <;> simp [h] at hi) (by rw [left_all]; simp) ⟨(), trivial⟩ (fun _ _ => trivial) (fun _ _ => ⟨t, by rw [left_all]; exact h, fun t' a' w' h1 ⟨hd', h2⟩ => ⟨t, hd', hq, h1.symm.str h2⟩⟩) ⟨hd, hr.drawn⟩
  · rintro _ k o s s1 a w K ho _ hst ⟨hd, hr⟩ hK
    cases hl : ls k with
    | none =>
      obtain ⟨x, hx, rfl⟩ := (stepS_q ho hl).1 hst
      rw [if_pos (by simp [Region.wanted, hx.guard])]
      exact evalX_wp hT hGl htb hG hr o (hx.val s.heap) fun v w' h1 h2 => hK _ _ ⟨hd, h1.put' rfl hx.dst h2⟩
    | some L =>
      obtain ⟨⟨h1, h2, h3, h4⟩, rfl⟩ := (stepS_l ho hl).1 hst
      rw [if_pos (by simp [Region.wanted, h1])]
      exact hok k L o hl ho C hd a w s K _ hG hr h2 h3 h4 fun hd' a' w' h' => hK _ _ ⟨hd', h'⟩
  · intro o s a w K ho
    simp at ho
/-- A call that was lent own objects, or none. -/
theorem LoudOk.call {o : Oper} {c : Call} {f : Operand} {g : Nat} {fv : SV} {asl cap : List SV} {obs rst : List Ob} {ks : List Nat} {obs' : List Ob} {r : SV} (ho : o.op = .call c) (hc : c.callee = .value f) (hf : fnOf fv = some (g, cap)) (hs : SndG P G g (asl ++ cap) obs ks r obs') (hob : obs.map (Ob.ren (upto obs.length)) = obs) (hxs : (asl ++ cap).map (SV.ren (upto obs.length)) = asl ++ cap) :
    LoudOk P G o ⟨obs ++ rst, fv :: asl, (obs'.take obs.length).map (Ob.ren (late obs.length rst.length)) ++ rst.map (Ob.ren (pastG obs ks)) ++ (obs'.drop obs.length).map (Ob.ren (late obs.length rst.length)), r.ren (late obs.length rst.length), pastG obs ks⟩ := fun C hd a w s K Q hG hr hheap hargs hd0 hK => by
  have hops : o.op.operands.toList = f :: c.args.toList := by rw [ho]; simp [Op.operands, Call.operands, hc]
  rw [hops, List.map_cons, List.cons.injEq] at hargs
  obtain ⟨e1, e2⟩ := hargs
  obtain ⟨capv, hv, hcl, hcx⟩ := fnOf_rep (hr.ev f) (by rw [e1]; exact hf)
  simp only at hheap
  unfold Oper.wp
  rw [run_call ho hc hv hs.enter]
  rw [Oper.upon_enter]
  rw [← e2] at hs hxs
  refine (hs.calls (lentC C hd w obs.length hr.below.size (lent_hK hr obs.length)) (hd.take obs.length) w _ hG (lent_in hr hheap hob) (by simp [hcl]) fun k x v h1 h2 => ?_).mono fun e w' hq => ?_
  · have hx : RepS (vis C hd) w hd x v := by
      by_cases hk : k < c.args.size
      · rw [List.getElem?_append_left (by simpa using hk), List.getElem?_map, Option.map_eq_some_iff] at h1
        obtain ⟨z, hz, rfl⟩ := h1
        rw [Array.getElem?_append_left (by simpa using hk), Array.getElem?_map, Option.map_eq_some_iff] at h2
        obtain ⟨z', hz', rfl⟩ := h2
        rw [Array.getElem?_toList, hz'] at hz
        cases hz
        exact hr.ev _
      · rw [List.getElem?_append_right (by simpa using hk)] at h1
        rw [Array.getElem?_append_right (by simpa using hk)] at h2
        exact hcx _ x v (by simpa using h1) (by simpa using h2)
    have e3 : x.ren (upto obs.length) = x := by
      have h3 : ((c.args.toList.map s.ev ++ cap).map (SV.ren (upto obs.length)))[k]? = (c.args.toList.map s.ev ++ cap)[k]? := by rw [hxs]
      rw [List.getElem?_map, h1] at h3
      simpa using h3
    have := hx.ren (lent_stay hr obs.length) (keeps_upto hd obs.length)
    rwa [e3] at this
  · obtain ⟨v, hd1, rfl, h1, h2, hk, h3⟩ := hq
    obtain ⟨hr', hv'⟩ := lent_outG hr hheap hs.len h1 h2 hk
    exact hK _ _ w' (hr'.put' rfl hd0 (hv' r v h3))
end
end Go.Proofs.YthcclcbliedodaaDoor
namespace Go.Proofs.YthcclcbliedodaaDoor
open Go.RowKit

section
variable {P : Program} {G : World → Prop} {C : Ctx} {st : St} {hd : List Hd} {a : Act} {w : World} {tt : Nat → Option TI} {tb : Tab}
theorem lit_own (hr : StR C st hd a w) {e sz : Nat} {l : List T} {vs : Array Value} (h0 : 0 < sz) (hm : l.length ≤ maxLen) (hf : ∀ x ∈ l, x.cells.length = sz) (hc : RepL (vis C hd) w (flat l) vs.toList) :
    StR C { st with heap := st.heap ++ [.row e sz true l] } (hd ++ [.sl (some ⟨w.heap.size, 0, none⟩) l.length l.length (some w.heap.size)]) a (w.alloc (.cells vs e)) := by
  have hb := alloc_below w (.cells vs e)
  have hlt : w.heap.size < (w.alloc (.cells vs e)).heap.size := (Array.getElem?_eq_some_iff.1 (heap_alloc_new w (.cells vs e))).1
  have hsz : vs.size = l.length * sz := by have := hc.len; rw [flat_length hf] at this; simpa using this
  refine hr.new hb _ _ (fun b hbo => ?_) ⟨rfl, h0, hm, hf, .inl ⟨vs.toList, ⟨by simpa using hsz, .inr ⟨w.heap.size, l.length, vs, rfl, hr.below.size, heap_alloc_new w _, Nat.le_refl _, hm, hsz, ?_⟩⟩, rfl, hc.keep ⟨hb.size, fun b hS hl => ⟨hb.block b hl, hS.1, fun x hx e => ?_⟩⟩⟩⟩
  · simp only [Hd.own, Option.some.injEq] at hbo
    subst hbo
    exact ⟨Nat.le_refl _, hlt⟩
  · rw [← hsz]
    exact List.take_of_length_le (by simp)
  · rcases List.mem_append.1 hx with hx | hx
    · exact hS.2 x hx e
    · simp at hx; subst hx
      simp only [Hd.own, Option.some.injEq] at e
      omega
theorem litO_ok (hr : StR C st hd a w) {t e : Nat} {i ie : TI} (hi : TIok P t i) (hk : i.k = .slice e) (he : TIok P e ie) {len : Nat} {parts : Array (Nat × Operand)} {ys : List T} (h : st.litQ ie len parts.toList = some (.lit ys)) :
    ∃ v w' hd', (Instr.buildSlice t len (parts.map fun (i, x) => (i, a.eval x))).run P w = .ok v w' ∧ StR C { st with heap := st.heap ++ [.row e ie.sz true ys] } hd' a w' ∧ RepS (vis C hd') w' hd' (.sref st.heap.length) v := by
  have hs := hi.says
  rw [hk] at hs; simp only [TK.says] at hs
  unfold St.litQ at h
  split at h
  · rename_i hc
    obtain ⟨h1, h2, h3, h4⟩ := hc
    split at h
    · rename_i zs hz
      split at h
      · rename_i hall
        simp only [Option.some.injEq, SV.lit.injEq] at h
        subst h
        rw [List.all_eq_true] at hall
        have hlen : parts.size = len := by simpa using h2
        obtain ⟨l1, t1⟩ := trL_get hz
        simp at l1
        have hyl : zs.length = len := by omega
        have hf : ∀ x ∈ zs, x.cells.length = ie.sz := fun x hx => by have := hall x hx; simp at this; exact this.2
        have hparts : ∀ k, k < len → ∃ p y, parts[k]? = some p ∧ p.1 = k ∧ zs[k]? = some y ∧ RepL (vis C hd) w y.cells (a.eval p.2).cells.toList := fun k hk => by
          have e1 : parts.toList[k]? = some parts.toList[k] := List.getElem?_eq_getElem (by simpa [hlen] using hk)
          have e2 : zs[k]? = some zs[k] := List.getElem?_eq_getElem (by omega)
          refine ⟨_, _, by rw [← Array.getElem?_toList]; exact e1, by have := idxOk_spec h1 k _ e1; omega, e2, ?_⟩
          have := tr_ok hr (hr.ev _) (t1 k _ _ (by rw [List.getElem?_map, e1]; rfl) e2)
          have hst := hall _ (List.getElem_mem (by omega : k < zs.length))
          simp at hst
          exact this.toL hst.1
        obtain ⟨z, z1, z2, _⟩ := he.zL (S := fun _ => False) (w := w)
        have hfl : RepL (vis C hd) w (flat zs) ((parts.toList.map fun p => (p.1, a.eval p.2)).flatMap fun p => p.2.cells.toList) := by
          have key : ∀ (l : List T) (m : List (Nat × Value)), l.length = m.length → (∀ (k : Nat) (y : T) (p : Nat × Value), l[k]? = some y → m[k]? = some p → RepL (vis C hd) w y.cells p.2.cells.toList) → RepL (vis C hd) w (flat l) (m.flatMap fun p => p.2.cells.toList) := by
            intro l
            induction l with
            | nil => intro m hm _; obtain rfl : m = [] := List.eq_nil_of_length_eq_zero (by simpa using hm.symm); exact RepL.nil _ _
            | cons y l ih =>
              intro m hm hh
              cases m with
              | nil => simp at hm
              | cons p m =>
                simp only [flat, List.flatMap_cons]
                exact (hh 0 y p rfl rfl).append (ih m (by simpa using hm) fun k y p a b => hh (k + 1) y p (by simpa using a) (by simpa using b))
          refine key zs _ (by simp; omega) fun k y p a1 a2 => ?_
          have hk := (List.getElem?_eq_some_iff.1 a1).1
          obtain ⟨q, y', e1, e2, e3, e4⟩ := hparts k (by omega)
          rw [a1] at e3; cases e3
          rw [List.getElem?_map, Array.getElem?_toList, e1] at a2
          simp at a2; subst a2
          exact e4
        have hfill : ∀ cells : Array Value, cells.size = len * ie.sz → Instr.fill (fun i => some (i * ie.sz, ie.sz)) cells (parts.toList.map fun p => (p.1, a.eval p.2)) = some ((parts.toList.map fun p => (p.1, a.eval p.2)).flatMap fun p => p.2.cells.toList).toArray := fun cells hcs => by
          have := fill_lit he.pos 0 (parts.toList.map fun p => (p.1, a.eval p.2)) cells (fun j p hj => by
            rw [List.getElem?_map, Option.map_eq_some_iff] at hj
            obtain ⟨q, hq, rfl⟩ := hj
            have hk := (List.getElem?_eq_some_iff.1 hq).1
            simp at hk
            obtain ⟨p', y', e1, e2, e3, e4⟩ := hparts j (by omega)
            rw [Array.getElem?_toList, e1] at hq
            cases hq
            refine ⟨by simpa using e2, ?_⟩
            have := e4.len
            rw [hf y' (List.mem_of_getElem? e3)] at this
            simpa using this) (by simp [hcs, hlen])
          simpa using this
        have hlw := lit_own (e := e) (vs := ((parts.toList.map fun p => (p.1, a.eval p.2)).flatMap fun p => p.2.cells.toList).toArray) hr he.pos (l := zs) (by simp only [maxLen]; omega) hf (by simpa using hfl)
        refine ⟨_, _, _, ?_, hlw, .sref _ _ _ _ _ (by rw [← hr.hl, List.getElem?_append_right (Nat.le_refl _), Nat.sub_self]; rfl)⟩
        unfold Instr.buildSlice
        rw [Sem.run_bind, run_underlying hs, Result.andThen_ok]
        simp only []
        rw [Sem.run_bind, he.sizeOf, Result.andThen_ok]
        rw [if_neg (by omega)]
        have hmap : (parts.map fun (i, x) => (i, a.eval x)).toList = parts.toList.map fun p => (p.1, a.eval p.2) := by simp
        by_cases h0 : len * ie.sz = 0
        · rw [if_pos h0, Sem.run_bind, Sem.run_pure, Result.andThen_ok, hmap, hfill _ (by simp)]
          simp only []
          rw [Sem.run_bind]
          simp [newRow, hyl]
        · rw [if_neg h0, Sem.run_bind, z1, Result.andThen_ok, Sem.run_bind, Sem.run_pure, Result.andThen_ok, hmap, hfill _ (by simp)]
          simp only []
          rw [Sem.run_bind]
          simp [newRow, hyl]
      · cases h
    · cases h
  · cases h
/-- An operation of a region that makes a slice that is written later. -/
theorem SL_litO (hT : TTok P tt) {Q : Exit → St → Prop} {ops : Array Oper} {o : Oper} {rest : List Oper} {t len e : Nat} {parts : Array (Nat × Operand)} {i ie : TI} {ys : List T} (ho : o.op = .buildSlice t len parts) (hgd : o.guard = none) (hd0 : dstOk st.nt o.dst = true) (hi : tt t = some i) (hk : i.k = .slice e) (he : tt e = some ie) (hq : st.litQ ie len parts.toList = some (.lit ys))
    (h : SL P G ops rest Q (({ st with heap := st.heap ++ [.row e ie.sz true ys] } : St).put o.dst (.sref st.heap.length))) : SL P G ops (o :: rest) Q st := fun C hd a w hG hr => by
  unfold wpList
  rw [if_pos (by simp [Region.wanted, hgd])]
  left
  obtain ⟨v, w', hd', h1, h2, h3⟩ := litO_ok hr (hT t i hi) hk (hT e ie he) hq
  have hx : (execOp a.eval o).run P w = .ok (.value v) w' := by
    obtain ⟨dst, op, ty, pos, after, guard⟩ := o
    simp only at ho
    subst ho
    exact run_val h1
  unfold Oper.wp
  rw [hx]
  exact h C _ _ w' hG (h2.put' rfl hd0 h3)
end
end Go.Proofs.YthcclcbliedodaaDoor
namespace Go.Proofs.YthcclcbliedodaaDoor
open Go.RowKit

theorem Norm.ids (ids : List Nat) (hdis : distinct ids = true) (st : St) : Norm st { nt := st.nt, tmps := st.tmps.map fun p => (p.1, p.2.ren (posIn ids)), heap := ids.map fun i => ((st.heap[i]?).getD .gone).ren (posIn ids) } := fun C hd a w hr => by
  have hd'e : ∀ (k : Nat) (g : Hd), (ids.map fun i => (hd[i]?).getD .no)[k]? = some g → ∃ i, ids[k]? = some i ∧ g = (hd[i]?).getD .no := fun k g hg => by
    rw [List.getElem?_map, Option.map_eq_some_iff] at hg
    obtain ⟨i, h1, rfl⟩ := hg
    exact ⟨i, h1, rfl⟩
  have hsub : ∀ g b, g ∈ (ids.map fun i => (hd[i]?).getD .no) → g.own = some b → g ∈ hd := fun g b hg hb => by
    obtain ⟨i, _, rfl⟩ := List.mem_map.1 hg
    cases e : hd[i]? with
    | none => rw [e] at hb; simp [Hd.own] at hb
    | some x => exact List.mem_of_getElem? e
  have hst : Stay (vis C hd) (vis C (ids.map fun i => (hd[i]?).getD .no)) w w := ⟨Nat.le_refl _, fun b hb _ => ⟨rfl, hb.1, fun g hg e => hb.2 g (hsub g b hg e) e⟩⟩
  have hk : Keeps (posIn ids) hd (ids.map fun i => (hd[i]?).getD .no) := fun i j g hj hi => by
    have := posIn_spec hj
    exact ⟨g, by rw [List.getElem?_map, this]; simp [hi], .inl rfl⟩
  refine ⟨ids.map fun i => (hd[i]?).getD .no, hr.change (posIn ids) (Below.refl _ _) hst hk (by simp) (fun k o g h1 h2 => ?_) (fun g b hg hb => hr.own g b (hsub g b hg hb) hb) (fun i j gi gj b h1 h2 h3 h4 => ?_) (fun _ _ _ => rfl) (fun g b hg hb => .inl ⟨g, hsub g b hg hb, hb⟩)⟩
  · obtain ⟨i, e1, rfl⟩ := hd'e k g h2
    rw [List.getElem?_map, e1] at h1
    simp at h1
    subst h1
    cases e : hd[i]? with
    | none =>
      have : st.heap[i]? = none := by
        rw [List.getElem?_eq_none_iff] at e ⊢; rw [← hr.hl]; exact e
      rw [this]; exact trivial
    | some g =>
      have hi : i < st.heap.length := by rw [← hr.hl]; exact (List.getElem?_eq_some_iff.1 e).1
      have e2 : st.heap[i]? = some st.heap[i] := List.getElem?_eq_getElem hi
      rw [e2]
      exact ObR.ren hst hk (fun _ _ => rfl) (hr.ob i _ g e2 e)
  · obtain ⟨x, e1, rfl⟩ := hd'e i gi h1
    obtain ⟨y, e2, rfl⟩ := hd'e j gj h2
    have : x = y := by
      cases ex : hd[x]? with
      | none => rw [ex] at h3; simp [Hd.own] at h3
      | some gx =>
        cases ey : hd[y]? with
        | none => rw [ey] at h4; simp [Hd.own] at h4
        | some gy =>
          rw [ex] at h3; rw [ey] at h4
          exact hr.dist x y gx gy b ex ey h3 h4
    subst this
    exact distinct_spec hdis i j x e1 e2
mutual
theorem SV.ren_ren (π ρ : Nat → Option Nat) : ∀ x : SV, (x.ren π).ren ρ = x.ren fun i => (π i).bind ρ
  | .t _ => rfl
  | .nil => rfl
  | .lit _ => rfl
  | .agg l => by simp only [SV.ren, renL_renL π ρ l]
  | .sref i => by simp only [SV.ren]; cases π i <;> simp [SV.ren]
  | .cut i m => by simp only [SV.ren]; cases π i <;> simp [SV.ren]
  | .bptr i o => by simp only [SV.ren]; cases π i <;> simp [SV.ren]
  | .eptr i sz k o => by simp only [SV.ren]; cases π i <;> simp [SV.ren]
  | .map i => by simp only [SV.ren]; cases π i <;> simp [SV.ren]
  | .fn f cap => by simp only [SV.ren, renL_renL π ρ cap]
  | .pin i b => by simp only [SV.ren]; cases π i <;> simp [SV.ren]
  | .pinS i a n c => by simp only [SV.ren]; cases π i <;> simp [SV.ren]
theorem renL_renL (π ρ : Nat → Option Nat) : ∀ l : List SV, renL ρ (renL π l) = renL (fun i => (π i).bind ρ) l
  | [] => rfl
  | x :: t => by simp only [renL, SV.ren_ren π ρ x, renL_renL π ρ t]
end
section
variable {P : Program} {G : World → Prop}
theorem SndG.weak {f : Nat} {xs xs' : List SV} {obs : List Ob} {ks : List Nat} {r : SV} {obs' : List Ob} (h : SndG P G f xs obs ks r obs') (hl : xs'.length = xs.length) (hw : ∀ (S : Nat → Prop) (w : World) (hd : List Hd) (k : Nat) (x x' : SV) (v : Value), xs[k]? = some x → xs'[k]? = some x' → RepS S w hd x' v → RepS S w hd x v) : SndG P G f xs' obs ks r obs' :=
  ⟨h.enter, h.len, h.box, fun C hd w vs hG hr hvs hrep => h.calls C hd w vs hG hr (by rw [hvs, hl]) fun k x v h1 h2 => by
    have hk : k < xs'.length := by rw [hl]; exact (List.getElem?_eq_some_iff.1 h1).1
    exact hw _ _ _ k x _ v h1 (List.getElem?_eq_getElem hk) (hrep k _ v (List.getElem?_eq_getElem hk) h2)⟩
theorem RepS.litT {S : Nat → Prop} {w : World} {hd : List Hd} {l : List T} {v : Value} (h : RepS S w hd (.lit l) v) : RepS S w hd (.t (.list l)) v := by
  cases h with
  | lit _ b h => exact .t _ _ h
/-- Of own objects that are named by ids; what is not named is forgotten. -/
theorem LoudOk.perm {o : Oper} (ids : List Nat) (hdis : distinct ids = true) {heap : List Ob} {args : List SV} {L : LoudS} (h : LoudOk P G o L) (hh : ids.map (fun i => ((heap[i]?).getD .gone).ren (posIn ids)) = L.heap) (ha : args.map (SV.ren (posIn ids)) = L.args) (hc : ∀ v, (.const v) ∈ o.op.operands → ((⟨0, [], []⟩ : St).ev (.const v)).ren (posIn ids) = (⟨0, [], []⟩ : St).ev (.const v)) :
    LoudOk P G o ⟨heap, args, L.heap', L.r, fun i => (posIn ids i).bind L.π⟩ := fun C hd a w s K Q hG hr hheap hargs hd0 hK => by
  obtain ⟨hd1, hr1⟩ := Norm.ids ids hdis s C hd a w hr
  simp only at hheap hargs
  refine h C hd1 a w _ K Q hG hr1 (by rw [hheap]; exact hh) ?_ hd0 fun hd' a' w' h' => hK hd' a' w' ?_
  · rw [← ha, ← hargs, List.map_map]
    refine List.map_congr_left fun y hy => ?_
    have hy' : y ∈ o.op.operands := by simpa using hy
    cases y with
    | tmp t =>
      show (look (s.tmps.map _) t).getD (.t .undef) = ((look s.tmps t).getD (.t .undef)).ren (posIn ids)
      rw [look_map]
      cases look s.tmps t <;> rfl
    | const v => exact (hc v hy').symm
    | _ => rfl
  · have e : loudSt s ⟨heap, args, L.heap', L.r, fun i => (posIn ids i).bind L.π⟩ o.dst = loudSt { nt := s.nt, tmps := s.tmps.map fun p => (p.1, p.2.ren (posIn ids)), heap := ids.map fun i => ((s.heap[i]?).getD .gone).ren (posIn ids) } L o.dst := by
      unfold loudSt
      simp only [List.map_map, Function.comp_def, SV.ren_ren]
    rw [e]; exact h'
end
end Go.Proofs.YthcclcbliedodaaDoor
namespace Go.Proofs.YthcclcbliedodaaDoor

/-- Words from behind: shorter, or as long and ahead. -/
def RL : List Nat → List Nat → Prop
  | [], [] => False
  | [], _ :: _ => True
  | _ :: _, [] => False
  | l :: v, k :: w => RL v w ∨ (v = w ∧ l < k)
theorem RL.irrefl : ∀ {v : List Nat}, ¬ RL v v
  | [], h => h
  | l :: v, h => by
    rcases h with h | ⟨_, h⟩
    · exact RL.irrefl h
    · omega
theorem RL.trans : ∀ {u v w : List Nat}, RL u v → RL v w → RL u w
  | [], [], _, h, _ => h.elim
  | [], _ :: _, [], _, h => h.elim
  | [], _ :: _, _ :: _, _, _ => trivial
  | _ :: _, [], _, h, _ => h.elim
  | _ :: _, _ :: _, [], _, h => h.elim
  | a :: u, b :: v, c :: w, h, h' => by
    rcases h with h | ⟨rfl, h⟩ <;> rcases h' with h' | ⟨rfl, h'⟩
    · exact .inl (RL.trans h h')
    · exact .inl h
    · exact .inl h'
    · exact .inr ⟨rfl, by omega⟩
theorem RL.cons : ∀ (l : Nat) (v : List Nat), RL v (l :: v)
  | _, [] => trivial
  | l, k :: v => .inl (RL.cons k v)
/-- The first word of a language. -/
structure FirstW (n : Nat) (L : List Nat → Bool) (w : List Nat) : Prop where
  ltr : Ltr n w
  is : L w = true
  le : ∀ v, Ltr n v → L v = true → w = v ∨ RL w.reverse v.reverse
theorem FirstW.unique {n : Nat} {L L' : List Nat → Bool} {v w : List Nat} (h : FirstW n L v) (h' : FirstW n L' w) (hL : ∀ w, Ltr n w → L w = L' w) : v = w := by
  rcases h.le w h'.ltr (by rw [hL w h'.ltr]; exact h'.is) with e | e
  · exact e
  · rcases h'.le v h.ltr (by rw [← hL v h.ltr]; exact h.is) with e' | e'
    · exact e'.symm
    · exact (RL.irrefl (e.trans e')).elim
theorem FirstW.congr {n : Nat} {L L' : List Nat → Bool} {w : List Nat} (h : FirstW n L w) (hL : ∀ w, Ltr n w → L w = L' w) : FirstW n L' w :=
  ⟨h.ltr, by rw [← hL w h.ltr]; exact h.is, fun v hv hv' => h.le v hv (by rw [hL v hv]; exact hv')⟩

/-- The way back to what was met first. -/
def wayF (par : Nat → Nat × Nat) : Nat → Nat → List Nat
  | 0, _ => []
  | f + 1, i => if i = 0 then [] else (par i).2 :: wayF par f (par i).1
def way (par : Nat → Nat × Nat) (i : Nat) : List Nat := wayF par i i
section
variable {σ : Type} {δ : σ → Nat → σ} {n : Nat} {met : List σ} {par : Nat → Nat × Nat} {s0 : σ} {J L : Nat}
/-- What was met, from where, and that it is closed ahead of a place. -/
structure Tree (δ : σ → Nat → σ) (n : Nat) (s0 : σ) (met : List σ) (par : Nat → Nat × Nat) (J L : Nat) : Prop where
  zero : met[0]? = some s0
  src : ∀ i, 0 < i → i < met.length → (par i).1 < i ∧ (par i).2 < n ∧ Before (par i).1 (par i).2 J L ∧ ∃ s, met[(par i).1]? = some s ∧ met[i]? = some (δ s (par i).2)
  mono : ∀ i i', 0 < i → i < i' → i' < met.length → Before (par i).1 (par i).2 (par i').1 (par i').2
  clos : ∀ j l s, Before j l J L → l < n → met[j]? = some s → ∃ i, met[i]? = some (δ s l) ∧ (i = 0 ∨ par i = (j, l) ∨ Before (par i).1 (par i).2 j l)
theorem wayF_more (h : ∀ i, 0 < i → i < met.length → (par i).1 < i) : ∀ (f i : Nat), i ≤ f → i < met.length → wayF par f i = way par i := by
  have key : ∀ (f g i : Nat), i ≤ f → i ≤ g → i < met.length → wayF par f i = wayF par g i := by
    intro f
    induction f with
    | zero =>
      intro g i hf _ _
      obtain rfl : i = 0 := by omega
      cases g with
      | zero => rfl
      | succ g => simp [wayF]
    | succ f ih =>
      intro g i hf hg hi
      cases g with
      | zero =>
        obtain rfl : i = 0 := by omega
        simp [wayF]
      | succ g =>
        unfold wayF
        split
        · rfl
        · have := h i (by omega) hi
          rw [ih g (par i).1 (by omega) (by omega) (by omega)]
  exact fun f i hf hi => key f i i hf (Nat.le_refl _) hi
theorem way_zero : way par 0 = [] := rfl
theorem way_step (h : ∀ i, 0 < i → i < met.length → (par i).1 < i) {i : Nat} (h0 : 0 < i) (hi : i < met.length) : way par i = (par i).2 :: way par (par i).1 := by
  obtain ⟨k, rfl⟩ : ∃ k, i = k + 1 := ⟨i - 1, by omega⟩
  have := h (k + 1) h0 hi
  unfold way
  rw [wayF, if_neg (by omega), wayF_more h k _ (by omega) (by omega)]
  rfl
theorem Tree.par_lt (h : Tree δ n s0 met par J L) : ∀ i, 0 < i → i < met.length → (par i).1 < i := fun i h0 hi => (h.src i h0 hi).1
theorem Tree.way_ltr (h : Tree δ n s0 met par J L) : ∀ i, i < met.length → Ltr n (way par i) := by
  intro i
  induction i using Nat.strongRecOn with
  | _ i ih =>
    intro hi
    by_cases h0 : i = 0
    · subst h0; intro l hl; simp [way_zero] at hl
    · have hs := h.src i (by omega) hi
      rw [way_step h.par_lt (by omega) hi]
      intro l hl
      rcases List.mem_cons.1 hl with rfl | hl
      · exact hs.2.1
      · exact ih _ hs.1 (by omega) l hl
/-- The way leads there. -/
theorem Tree.way_run (h : Tree δ n s0 met par J L) : ∀ i, i < met.length → met[i]? = some ((way par i).foldr (fun l s => δ s l) s0) := by
  intro i
  induction i using Nat.strongRecOn with
  | _ i ih =>
    intro hi
    by_cases h0 : i = 0
    · subst h0; exact h.zero
    · obtain ⟨h1, _, _, s, h2, h3⟩ := h.src i (by omega) hi
      rw [way_step h.par_lt (by omega) hi, h3]
      have := ih _ h1 (by omega)
      rw [h2] at this
      rw [List.foldr_cons, ← Option.some.inj this]
theorem Tree.way_mono (h : Tree δ n s0 met par J L) : ∀ i' i, i < i' → i' < met.length → RL (way par i) (way par i') := by
  intro i'
  induction i' using Nat.strongRecOn with
  | _ i' ih =>
    intro i hi hi'
    have hs := h.src i' (by omega) hi'
    rw [way_step h.par_lt (by omega) hi']
    by_cases h0 : i = 0
    · subst h0; trivial
    · rw [way_step h.par_lt (i := i) (by omega) (by omega)]
      rcases h.mono i i' (by omega) hi hi' with hb | ⟨e, hb⟩
      · exact .inl (ih _ hs.1 _ hb (by omega))
      · exact .inr ⟨by rw [e], hb⟩
theorem Tree.upto (h : Tree δ n s0 met par J 0) : ∀ r : List Nat, Ltr n r → (∃ i, met[i]? = some (r.foldr (fun l s => δ s l) s0) ∧ (way par i = r ∨ RL (way par i) r)) ∨ (J < met.length ∧ RL (way par J) r)
  | [], _ => .inl ⟨0, h.zero, .inl way_zero⟩
  | l :: q, hr => by
    have hl := hr l List.mem_cons_self
    rcases h.upto q fun x hx => hr x (List.mem_cons_of_mem _ hx) with ⟨j, h1, h2⟩ | ⟨h1, h2⟩
    · have hj := (List.getElem?_eq_some_iff.1 h1).1
      by_cases hJ : j < J
      · obtain ⟨i, h3, h4⟩ := h.clos j l _ (.inl hJ) hl h1
        have hi := (List.getElem?_eq_some_iff.1 h3).1
        refine .inl ⟨i, h3, ?_⟩
        by_cases h0 : i = 0
        · subst h0; exact .inr trivial
        · rw [way_step h.par_lt (by omega) hi]
          rcases h4 with e | e | e
          · omega
          · rw [e]
            rcases h2 with h2 | h2
            · exact .inl (by rw [h2])
            · exact .inr (.inl h2)
          · rcases e with e | ⟨e1, e2⟩
            · have := h.way_mono j _ e hj
              rcases h2 with h2 | h2
              · exact .inr (.inl (h2 ▸ this))
              · exact .inr (.inl (this.trans h2))
            · rw [e1]
              rcases h2 with h2 | h2
              · exact .inr (.inr ⟨h2, e2⟩)
              · exact .inr (.inl h2)
      · refine .inr ⟨by omega, ?_⟩
        have : RL (way par J) q ∨ way par J = q := by
          by_cases e : J = j
          · subst e; exact h2.symm
          · have := h.way_mono j J (by omega) hj
            rcases h2 with h2 | h2
            · exact .inl (h2 ▸ this)
            · exact .inl (this.trans h2)
        rcases this with h | h
        · exact h.trans (RL.cons l q)
        · rw [h]; exact RL.cons l q
    · exact .inr ⟨h1, h2.trans (RL.cons l q)⟩
/-- The first that is found. -/
theorem Tree.first (h : Tree δ n s0 met par J 0) {E : σ → Bool} {s : σ} (hJ : met[J]? = some s) (hE : E s = true) (hno : ∀ i s, i < J → met[i]? = some s → E s = false) : FirstW n (fun w => E (w.foldl δ s0)) (way par J).reverse := by
  have hlt := (List.getElem?_eq_some_iff.1 hJ).1
  refine ⟨fun l hl => h.way_ltr J hlt l (by simpa using hl), ?_, fun v hv hv' => ?_⟩
  · have := h.way_run J hlt
    rw [hJ] at this
    simp only [List.foldl_reverse]
    rw [← Option.some.inj this]; exact hE
  · rw [List.reverse_reverse]
    have hv2 : v.foldl δ s0 = v.reverse.foldr (fun l s => δ s l) s0 := by rw [List.foldr_reverse]
    simp only [hv2] at hv'
    rcases h.upto v.reverse fun l hl => hv l (by simpa using hl) with ⟨i, h1, h2⟩ | ⟨_, h2⟩
    · have hi := (List.getElem?_eq_some_iff.1 h1).1
      by_cases hiJ : i < J
      · have := hno i _ hiJ h1
        rw [this] at hv'; simp at hv'
      · have key : way par J = v.reverse ∨ RL (way par J) v.reverse := by
          by_cases e : i = J
          · subst e; exact h2
          · have := h.way_mono i J (by omega) hi
            rcases h2 with h2 | h2
            · exact .inr (h2 ▸ this)
            · exact .inr (this.trans h2)
        rcases key with k | k
        · exact .inl (by rw [k, List.reverse_reverse])
        · exact .inr k
    · exact .inr h2
/-- Nothing is found. -/
theorem Tree.none (h : Tree δ n s0 met par met.length 0) {E : σ → Bool} (hno : ∀ (i : Nat) (s : σ), met[i]? = some s → E s = false) {w : List Nat} (hw : Ltr n w) : E (w.foldl δ s0) = false := by
  have hv2 : w.foldl δ s0 = w.reverse.foldr (fun l s => δ s l) s0 := by rw [List.foldr_reverse]
  rcases h.upto w.reverse fun l hl => hw l (by simpa using hl) with ⟨i, h1, _⟩ | ⟨h1, _⟩
  · rw [hv2]; exact hno i _ h1
  · omega
theorem Tree.start (δ : σ → Nat → σ) (n : Nat) (s0 : σ) (par : Nat → Nat × Nat) : Tree δ n s0 [s0] par 0 0 :=
  ⟨rfl, fun i h0 hi => by simp at hi; omega, fun i i' h0 h1 h2 => by simp at h2; omega, fun j l s h => by rcases h with h | ⟨_, h⟩ <;> omega⟩
theorem Tree.skip (h : Tree δ n s0 met par J L) {s u : σ} (hr : met[J]? = some s) (hu : δ s L = u) (hm : u ∈ met) : Tree δ n s0 met par J (L + 1) := by
  refine ⟨h.zero, fun i h0 hi => ?_, h.mono, fun j l q hb hl hq => ?_⟩
  · obtain ⟨a, b, c, d⟩ := h.src i h0 hi
    exact ⟨a, b, before_weak c, d⟩
  · rcases before_succ hb with hb | ⟨rfl, rfl⟩
    · exact h.clos j l q hb hl hq
    · rw [hr] at hq; cases hq
      obtain ⟨i, hi⟩ := List.mem_iff_getElem?.1 hm
      refine ⟨i, by rw [hi, hu], ?_⟩
      by_cases h0 : i = 0
      · exact .inl h0
      · exact .inr (.inr (h.src i (by omega) (List.getElem?_eq_some_iff.1 hi).1).2.2.1)
theorem Tree.snoc (h : Tree δ n s0 met par J L) {par' : Nat → Nat × Nat} (hp : ∀ i, i < met.length → par' i = par i) (hp2 : par' met.length = (J, L)) (hL : L < n) {s u : σ} (hr : met[J]? = some s) (hu : δ s L = u) : Tree δ n s0 (met ++ [u]) par' J (L + 1) := by
  have hJ : J < met.length := (List.getElem?_eq_some_iff.1 hr).1
  have up : ∀ {k : Nat} {x : σ}, met[k]? = some x → (met ++ [u])[k]? = some x := fun {k x} hk => by
    rw [List.getElem?_append_left (List.getElem?_eq_some_iff.1 hk).1]; exact hk
  have down : ∀ {k : Nat} {x : σ}, k < met.length → (met ++ [u])[k]? = some x → met[k]? = some x := fun {k x} hk hx => by
    rwa [List.getElem?_append_left hk] at hx
  have hlast : (met ++ [u])[met.length]? = some u := by rw [List.getElem?_append_right (Nat.le_refl _), Nat.sub_self]; rfl
  refine ⟨up h.zero, fun i h0 hi => ?_, fun i i' h0 h1 h2 => ?_, fun j l q hb hl hq => ?_⟩
  · by_cases hlt : i < met.length
    · obtain ⟨a, b, c, x, d, e⟩ := h.src i h0 hlt
      rw [hp i hlt]
      exact ⟨a, b, before_weak c, x, up d, up e⟩
    · obtain rfl : i = met.length := by simp at hi; omega
      rw [hp2]
      exact ⟨hJ, hL, .inr ⟨rfl, by omega⟩, s, up hr, by rw [hlast, hu]⟩
  · by_cases hlt : i' < met.length
    · rw [hp i (by omega), hp i' hlt]; exact h.mono i i' h0 h1 hlt
    · obtain rfl : i' = met.length := by simp at h2; omega
      rw [hp i h1, hp2]
      exact (h.src i h0 h1).2.2.1
  · rcases before_succ hb with hb | ⟨rfl, rfl⟩
    · have hj : j < met.length := by rcases hb with hb | ⟨rfl, _⟩ <;> omega
      obtain ⟨i, h1, h2⟩ := h.clos j l q hb hl (down hj hq)
      have hi := (List.getElem?_eq_some_iff.1 h1).1
      exact ⟨i, up h1, by rw [hp i hi]; exact h2⟩
    · have hq := down hJ hq
      rw [hr] at hq; cases hq
      exact ⟨met.length, by rw [hlast, hu], .inr (.inl hp2)⟩
theorem Tree.line (h : Tree δ n s0 met par J n) : Tree δ n s0 met par (J + 1) 0 := by
  refine ⟨h.zero, fun i h0 hi => ?_, h.mono, fun j l q hb hl hq => h.clos j l q ?_ hl hq⟩
  · obtain ⟨a, b, c, d⟩ := h.src i h0 hi
    refine ⟨a, b, ?_, d⟩
    rcases c with c | ⟨c, _⟩
    · exact .inl (by omega)
    · exact .inl (by omega)
  · rcases hb with hb | ⟨_, hb⟩
    · by_cases e : j = J
      · exact .inr ⟨e, hl⟩
      · exact .inl (by omega)
    · omega
end
/-- What a search over pairs has come to. -/
structure Srch (a b : GAuto) (n ma mb : Nat) (met hw : List (Int × Int)) (par : Nat → Nat × Nat) (J L : Nat) : Prop where
  nd : met.Nodup
  rg : ∀ p ∈ met, (0 ≤ p.1 ∧ p.1 < (ma : Int)) ∧ 0 ≤ p.2 ∧ p.2 < (mb : Int)
  tree : Tree (pst a b) n (0, 0) met par J L
  hl : hw.length = met.length
  h0 : hw[0]? = some (-1, 0)
  hs : ∀ j, 0 < j → j < met.length → hw[j]? = some (((par j).1 : Int), ((par j).2 : Int))
theorem Srch.start (a b : GAuto) (n : Nat) {ma mb : Nat} (ha : 0 < ma) (hb : 0 < mb) : Srch a b n ma mb [(0, 0)] [(-1, 0)] (fun _ => (0, 0)) 0 0 :=
  ⟨by simp, fun p hp => by simp at hp; subst hp; simp only; omega, Tree.start _ _ _ _, rfl, rfl, fun j h0 hj => by simp at hj; omega⟩
section
variable {a b : GAuto} {n ma mb : Nat} {met hw : List (Int × Int)} {par : Nat → Nat × Nat} {J L : Nat}
theorem Srch.skip (h : Srch a b n ma mb met hw par J L) {s u : Int × Int} (hr : met[J]? = some s) (hu : pst a b s L = u) (hm : u ∈ met) : Srch a b n ma mb met hw par J (L + 1) :=
  ⟨h.nd, h.rg, h.tree.skip hr hu hm, h.hl, h.h0, h.hs⟩
theorem Srch.snoc (h : Srch a b n ma mb met hw par J L) (hL : L < n) {s u : Int × Int} (hr : met[J]? = some s) (hu : pst a b s L = u) (hm : u ∉ met) (hb : (0 ≤ u.1 ∧ u.1 < (ma : Int)) ∧ 0 ≤ u.2 ∧ u.2 < (mb : Int)) :
    Srch a b n ma mb (met ++ [u]) (hw ++ [((J : Int), (L : Int))]) (fun j => if j = met.length then (J, L) else par j) J (L + 1) := by
  refine ⟨?_, fun p hp => ?_, h.tree.snoc (fun i hi => by rw [if_neg (by omega)]) (by rw [if_pos rfl]) hL hr hu, by simp [h.hl], ?_, fun j h0 hj => ?_⟩
  · rw [List.nodup_append]
    exact ⟨h.nd, by simp, fun c hc d hd => by simp at hd; subst hd; rintro rfl; exact hm hc⟩
  · rcases List.mem_append.1 hp with hp | hp
    · exact h.rg p hp
    · simp at hp; subst hp; exact hb
  · have := (List.getElem?_eq_some_iff.1 h.h0).1
    rw [List.getElem?_append_left this]; exact h.h0
  · by_cases e : j = met.length
    · subst e
      simp only [if_true]
      rw [List.getElem?_append_right (by rw [h.hl]; exact Nat.le_refl _), h.hl, Nat.sub_self]; rfl
    · have hj2 : j < met.length := by simp at hj; omega
      simp only [e, if_false]
      rw [List.getElem?_append_left (by rw [h.hl]; exact hj2)]
      exact h.hs j h0 hj2
theorem Srch.line (h : Srch a b n ma mb met hw par J n) : Srch a b n ma mb met hw par (J + 1) 0 := ⟨h.nd, h.rg, h.tree.line, h.hl, h.h0, h.hs⟩
end
/-- A list turned round, pair by pair. -/
def Turned (W c : List Int) (j : Nat) : Prop := c.length = W.length ∧ ∀ x, x < W.length → c[x]! = if x < j ∨ W.length - 1 - x < j then W[W.length - 1 - x]! else W[x]!
theorem Turned.start (W : List Int) : Turned W W 0 := ⟨rfl, fun x _ => by simp⟩
theorem Turned.step {W c : List Int} {j : Nat} (h : Turned W c j) (hj : j < W.length - 1 - j) : Turned W ((c.set j (c[W.length - 1 - j]!)).set (W.length - 1 - j) (c[j]!)) (j + 1) := by
  have hl := h.1
  refine ⟨by simp [hl], fun x hx => ?_⟩
  have hxl : x < ((c.set j (c[W.length - 1 - j]!)).set (W.length - 1 - j) (c[j]!)).length := by simp; omega
  rw [getElem!_pos _ x hxl, List.getElem_set]
  by_cases h1 : W.length - 1 - j = x
  · rw [if_pos h1, if_pos (by omega), h.2 j (by omega), if_neg (by omega)]
    congr 1; omega
  · rw [if_neg h1, List.getElem_set]
    by_cases h2 : j = x
    · rw [if_pos h2, if_pos (by omega), h.2 _ (by omega), if_neg (by omega)]
      congr 1; omega
    · have hxc : x < c.length := by omega
      rw [if_neg h2, ← getElem!_pos c x hxc, h.2 x hx]
      by_cases h3 : x < j ∨ W.length - 1 - x < j
      · rw [if_pos h3, if_pos (by omega)]
      · rw [if_neg h3, if_neg (by omega)]
theorem Turned.done {W c : List Int} {j : Nat} (h : Turned W c j) (hj : ¬ j < W.length - 1 - j) : c = W.reverse := by
  have hl := h.1
  refine List.ext_getElem (by simp [hl]) fun x h1 h2 => ?_
  have hx : x < W.length := by omega
  rw [← getElem!_pos c x h1, h.2 x hx, List.getElem_reverse]
  by_cases h3 : x < j ∨ W.length - 1 - x < j
  · rw [if_pos h3, getElem!_pos W _ (by omega)]
  · rw [if_neg h3, getElem!_pos W x hx]
    congr 1; omega
end Go.Proofs.YthcclcbliedodaaDoor
namespace Go.Proofs.YthcclcbliedodaaDoor

theorem met_step {n m : Nat} {next : List (List Int)} (h : Rows0 n m next) (h0 : 0 < m) {s : Int} (hs : s ∈ met next) {l : Nat} (hl : l < n) : nx next s l ∈ met next := by
  obtain ⟨j, hj⟩ := List.mem_iff_getElem?.1 hs
  have hb := met_bfs h h0
  obtain ⟨i, hi, _⟩ := hb.rg j l s (.inl (List.getElem?_eq_some_iff.1 hj).1) hl hj
  exact List.mem_of_getElem? hi
theorem met_zero {n m : Nat} {next : List (List Int)} (h : Rows0 n m next) (h0 : 0 < m) : (0 : Int) ∈ met next := List.mem_of_getElem? (met_bfs h h0).zero
/-- Every state of a least automaton is met. -/
theorem Least.met {n : Nat} {N : List (List Int)} {E : List Bool} {L : List Nat → Bool} (h : Least n N E L) : (met N).length = N.length := by
  have hR := h.rows
  have h0 := h.canon.m0
  have hall : ∀ t, t < N.length → (t : Int) ∈ Go.Proofs.YthcclcbliedodaaDoor.met N := by
    intro t
    induction t using Nat.strongRecOn with
    | _ t ih =>
      intro ht
      by_cases ht0 : t = 0
      · subst ht0; exact met_zero hR h0
      · obtain ⟨s, l, hs, hl, he⟩ := h.canon.reach t (by omega) ht
        have h1 := met_step hR h0 (ih s hs (by omega)) hl
        have h2 := nx_ok hR (s := (s : Int)) (l := l) ⟨by omega, by omega⟩ hl
        have e : nx N (s : Int) l = (t : Int) := by
          have e1 : nx N (s : Int) l = (N.getD s []).getD l 0 := rfl
          omega
        rwa [e] at h1
  have hok := met_ok hR h0
  have hle := hok.len
  refine Nat.le_antisymm hle ?_
  have hi : ∀ t, ∃ i, t < N.length → (Go.Proofs.YthcclcbliedodaaDoor.met N)[i]? = some (t : Int) := fun t => by
    by_cases ht : t < N.length
    · obtain ⟨i, hi⟩ := List.mem_iff_getElem?.1 (hall t ht)
      exact ⟨i, fun _ => hi⟩
    · exact ⟨0, fun h => absurd h ht⟩
  let f : Nat → Nat := fun t => Classical.choose (hi t)
  have hf : ∀ t, t < N.length → (Go.Proofs.YthcclcbliedodaaDoor.met N)[f t]? = some (t : Int) := fun t => Classical.choose_spec (hi t)
  have hn := nodup_boundN (Go.Proofs.YthcclcbliedodaaDoor.met N).length ((List.range N.length).map f) (by
    rw [List.nodup_iff_pairwise_ne, List.pairwise_map]
    refine List.Pairwise.imp_of_mem (fun {a b} ha hb hab => ?_) List.nodup_range
    intro e
    have h1 := hf a (List.mem_range.1 ha)
    have h2 := hf b (List.mem_range.1 hb)
    rw [e, h2] at h1
    exact hab (by have := Option.some.inj h1; omega)) fun s hs => by
    obtain ⟨t, ht, rfl⟩ := List.mem_map.1 hs
    exact (List.getElem?_eq_some_iff.1 (hf t (List.mem_range.1 ht))).1
  simpa using hn
/-- Any two states of a least automaton part at some word. -/
theorem Least.part {n : Nat} {N : List (List Int)} {E : List Bool} {L : List Nat → Bool} (h : Least n N E L) {s t : Int} (hs : 0 ≤ s ∧ s < (N.length : Int)) (ht : 0 ≤ t ∧ t < (N.length : Int)) (hne : s ≠ t) : ∃ w, Ltr n w ∧ lang N E s w ≠ lang N E t w := by
  refine Classical.byContradiction fun hc => hne ?_
  have hall : ∀ w, Ltr n w → lang N E s w = lang N E t w := fun w hw => Classical.byContradiction fun h => hc ⟨w, hw, h⟩
  obtain ⟨s, rfl⟩ := Int.eq_ofNat_of_zero_le hs.1
  obtain ⟨t, rfl⟩ := Int.eq_ofNat_of_zero_le ht.1
  have := h.canon.red s t (by omega) (by omega) fun w hw => by
    have := hall w hw
    unfold lang endOf at this
    rw [h.runS w s (by omega) hw, h.runS w t (by omega) hw] at this
    simpa using this
  omega
end Go.Proofs.YthcclcbliedodaaDoor
namespace Go.Proofs.YthcclcbliedodaaDoor

end Go.Proofs.YthcclcbliedodaaDoor
