/- Plain laws, data behind worlds, and contracts of functions, for the last text. No conditions. -/
import Derived.Test.YthcclcbliedodaaM2
import Derived.Lib.SlicesCompact
set_option linter.unusedSimpArgs false
set_option linter.unusedVariables false
set_option linter.unnecessarySimpa false
set_option linter.unusedSectionVars false
namespace Go.Proofs.Ythcclcbliedodaa

/-- A row of classes, as what it says of each state. -/
def clf (cls : List Nat) (s : Int) : Nat := if 0 ≤ s then cls.getD s.toNat 0 else 0
theorem clf_set {cls : List Nat} {r : Int} (hr : 0 ≤ r) (h : r.toNat < cls.length) (v : Nat) : clf (cls.set r.toNat v) r = v ∧ ∀ t, t ≠ r → clf (cls.set r.toNat v) t = clf cls t := by
  constructor
  · unfold clf
    rw [if_pos hr, List.getD_eq_getElem?_getD, List.getElem?_set_self h]; rfl
  · intro t ht
    unfold clf
    split
    · rw [List.getD_eq_getElem?_getD, List.getElem?_set_ne (by omega), ← List.getD_eq_getElem?_getD]
    · rfl
theorem clf_at {cls : List Nat} {s : Int} (hs : 0 ≤ s) (h : s.toNat < cls.length) : cls[s.toNat]! = clf cls s := by
  unfold clf
  rw [if_pos hs, getD_lt h, getElem!_pos cls _ h]

/-- What a round begins with. -/
structure RInv (next : List (List Int)) (ends : List Bool) (n : Nat) (out : List Int) (cl : Int → Nat) (many : Nat) : Prop where
  sep : Sep next ends n out cl
  many : many = 0 ∨ ∃ (K : Type) (κ : Int → K) (R : List Int), Numd out κ cl R ∧ R.length = many ∧ ∀ s t, s ∈ out → t ∈ out → cl s = cl t → endOf ends s = endOf ends t
/-- What states look like in a round. -/
structure Looks {K : Type} (next : List (List Int)) (ends : List Bool) (n : Nat) (out : List Int) (cl : Int → Nat) (κ : Int → K) : Prop where
  ofCl : ∀ s t, s ∈ out → t ∈ out → κ s = κ t → cl s = cl t
  ofNx : ∀ s t, s ∈ out → t ∈ out → κ s = κ t → ∀ l, l < n → cl (nx next s l) = cl (nx next t l)
  ofEnds : ∀ s t, s ∈ out → t ∈ out → κ s = κ t → endOf ends s = endOf ends t
  back : ∀ s t, s ∈ out → t ∈ out → endOf ends s = endOf ends t → cl s = cl t → (∀ l, l < n → cl (nx next s l) = cl (nx next t l)) → κ s = κ t
section
variable {K : Type} {next : List (List Int)} {ends : List Bool} {n m many : Nat} {out : List Int} {cl cl' : Int → Nat} {κ : Int → K} {R : List Int}
theorem Bfs.closed (hb : Bfs next n out out.length 0) : ∀ s, s ∈ out → ∀ l, l < n → nx next s l ∈ out := fun s hs l hl => by
  obtain ⟨j, hj⟩ := List.mem_iff_getElem?.1 hs
  obtain ⟨i', hi', _⟩ := hb.rg j l s (.inl (List.getElem?_eq_some_iff.1 hj).1) hl hj
  exact List.mem_of_getElem? hi'
theorem length_of_all {k : Nat} {l : List Nat} (h : ∀ c, c < k → c ∈ l) : k ≤ l.length := by
  by_cases hl : l.length ≤ k
  · have := (nodup_of_all k l hl h).2; omega
  · omega
/-- There are no fewer classes than before. -/
theorem RInv.more (h : RInv next ends n out cl many) (hN : Numd out κ cl' R) (hk : Looks next ends n out cl κ) : many ≤ R.length := by
  rcases h.many with h0 | ⟨K0, κ0, R0, h0, h1, _⟩
  · omega
  · have : R0.length ≤ (R.map cl).length := length_of_all fun c hc => by
      have g1 : R0[c]? = some R0[c] := List.getElem?_eq_getElem hc
      have g2 := h0.cl_of g1
      have g3 := h0.mem (List.getElem_mem hc)
      obtain ⟨r, h4, h5⟩ := hN.at_ _ g3
      have h6 := hN.mem (List.mem_of_getElem? h4)
      exact List.mem_map.2 ⟨r, List.mem_of_getElem? h4, by rw [hk.ofCl r _ h6 g3 h5, g2]⟩
    simpa [h1] using this
theorem RInv.step (h : RInv next ends n out cl many) (hb : Bfs next n out out.length 0) (hN : Numd out κ cl' R) (hk : Looks next ends n out cl κ) : RInv next ends n out cl' R.length :=
  ⟨h.sep.round hb.closed hN fun s t hs ht e1 e2 => hk.back s t hs ht e2 e1, .inr ⟨K, κ, R, hN, rfl, fun s t hs ht e => hk.ofEnds s t hs ht ((hN.eq_iff hs ht).1 e)⟩⟩
/-- As many classes as before, and there are some: what is left is the least automaton. -/
theorem RInv.done (h : RInv next ends n out cl many) (hR : Rows0 n m next) (hm : 0 < m) (ho : MetOk m out) (hb : Bfs next n out out.length 0) (hN : Numd out κ cl' R) (hk : Looks next ends n out cl κ) (he : R.length = many) : Least n (leftRows next cl' R) (leftEnds ends R) (lang next ends 0) := by
  have h0m : (0 : Int) ∈ out := List.mem_of_getElem? hb.zero
  have hpos := hN.lt h0m
  rcases h.many with h0 | ⟨K0, κ0, R0, h0, h1, _⟩
  · omega
  · have hst := stable_of h0 hN (by omega) hk.ofCl
    refine least_of hR hm ho hb hN (fun s t hs ht e => ?_) (h.step hb hN hk).sep
    have e2 := (hN.eq_iff hs ht).1 e
    exact ⟨hk.ofEnds s t hs ht e2, fun l hl => hst _ _ (hb.closed s hs l hl) (hb.closed t ht l hl) (hk.ofNx s t hs ht e2 l hl)⟩
/-- In a round there are no more classes than there are states in the least automaton. -/
theorem RInv.bound (h : RInv next ends n out cl many) (hR : Rows0 n m next) (hm : 0 < m) (hb : Bfs next n out out.length 0) (hk : Looks next ends n out cl κ) {Q : List Int} (hQ : ∀ r ∈ Q, r ∈ out) (hd : Q.Pairwise fun r q => κ r ≠ κ q) : Q.length ≤ (leastRE n next ends).1.length := by
  have hl := (leastRE_spec (ends := ends) hR hm).1
  refine Sep.many (cl := cl) (R := (leastRE n next ends).1) hl hb hQ (fun s t hs ht e => ?_) hd
  exact hk.back s t hs ht (e [] (by intro x hx; simp at hx)) (h.sep.sep s t hs ht e) fun l hl => h.sep.sep _ _ (hb.closed s hs l hl) (hb.closed t ht l hl) (lang_step e hl)
end

/-- A class as two bytes; a state's class, and those of its nexts. -/
def byt (c : Nat) : List Int := [((c % 256 : Nat) : Int), ((c / 256 : Nat) : Int)]
def keyOf' (next : List (List Int)) (cl : Int → Nat) (s : Int) : List Int := byt (cl s) ++ (rowOf next s).flatMap fun t => byt (cl t)
theorem byt_len (f : Int → Nat) : ∀ q : List Int, (q.flatMap fun t => byt (f t)).length = 2 * q.length
  | [] => rfl
  | a :: q => by rw [List.flatMap_cons, List.length_append, byt_len f q]; simp [byt]; omega
def bytesStr (l : List Int) : ByteArray := ⟨(l.map fun n => UInt8.ofNat n.toNat).toArray⟩
theorem byt_inj {c d : Nat} (hc : c < 65536) (hd : d < 65536) (h : (byt c).map (fun n => UInt8.ofNat n.toNat) = (byt d).map (fun n => UInt8.ofNat n.toNat)) : c = d := by
  simp only [byt, List.map_cons, List.map_nil, Int.toNat_natCast, List.cons.injEq, and_true] at h
  obtain ⟨h1, h2⟩ := h
  have g1 := congrArg UInt8.toNat h1
  have g2 := congrArg UInt8.toNat h2
  simp only [UInt8.toNat_ofNat'] at g1 g2
  omega
theorem bytesStr_inj {l k : List Int} (h : bytesStr l = bytesStr k) : l.map (fun n => UInt8.ofNat n.toNat) = k.map (fun n => UInt8.ofNat n.toNat) := by
  have := congrArg (fun b : ByteArray => b.data.toList) h
  simpa [bytesStr] using this
theorem bytsl_inj : ∀ {a b : List Nat}, a.length = b.length → (∀ c ∈ a, c < 65536) → (∀ c ∈ b, c < 65536) → (a.flatMap byt).map (fun n => UInt8.ofNat n.toNat) = (b.flatMap byt).map (fun n => UInt8.ofNat n.toNat) → a = b
  | [], [], _, _, _, _ => rfl
  | [], _ :: _, h, _, _, _ => by simp at h
  | _ :: _, [], h, _, _, _ => by simp at h
  | x :: a, y :: b, hl, ha, hb, h => by
    simp only [List.flatMap_cons, List.map_append] at h
    obtain ⟨h1, h2⟩ := List.append_inj h (by simp [byt])
    rw [byt_inj (ha x List.mem_cons_self) (hb y List.mem_cons_self) h1, bytsl_inj (by simpa using hl) (fun c hc => ha c (List.mem_cons_of_mem _ hc)) (fun c hc => hb c (List.mem_cons_of_mem _ hc)) h2]
theorem key_looks {next : List (List Int)} {ends : List Bool} {n m : Nat} {out : List Int} {cl : Int → Nat} (hR : Rows0 n m next) (ho : MetOk m out) (hb : Bfs next n out out.length 0) (h16 : ∀ s, s ∈ out → cl s < 65536) (he : ∀ s t, s ∈ out → t ∈ out → cl s = cl t → endOf ends s = endOf ends t) :
    Looks next ends n out cl fun s => bytesStr (keyOf' next cl s) := by
  have hrow : ∀ s, s ∈ out → (rowOf next s).length = n ∧ ∀ l, l < n → (rowOf next s)[l]? = some (nx next s l) := fun s hs => by
    have h2 := ho.ok s hs
    have h1 : s.toNat < next.length := by have := hR.len; omega
    have h3 : (rowOf next s).length = n := by unfold rowOf; rw [getD_lt h1]; exact hR.row _ (List.getElem_mem h1)
    refine ⟨h3, fun l hl => ?_⟩
    unfold nx
    rw [getD_lt (by omega)]; exact List.getElem?_eq_getElem (by omega)
  have key : ∀ s t, s ∈ out → t ∈ out → bytesStr (keyOf' next cl s) = bytesStr (keyOf' next cl t) → cl s = cl t ∧ ∀ l, l < n → cl (nx next s l) = cl (nx next t l) := fun s t hs ht e => by
    have e2 := bytesStr_inj e
    have fl : ∀ s, keyOf' next cl s = ((cl s) :: (rowOf next s).map cl).flatMap byt := fun s => by simp [keyOf', List.flatMap_map]
    rw [fl, fl] at e2
    obtain ⟨s1, s2⟩ := hrow s hs
    obtain ⟨t1, t2⟩ := hrow t ht
    have hmem : ∀ s, s ∈ out → ∀ c ∈ (cl s) :: (rowOf next s).map cl, c < 65536 := fun s hs c hc => by
      obtain ⟨s1, s2⟩ := hrow s hs
      rcases List.mem_cons.1 hc with rfl | hc
      · exact h16 s hs
      · obtain ⟨x, hx, rfl⟩ := List.mem_map.1 hc
        obtain ⟨l, hl, rfl⟩ := List.mem_iff_getElem.1 hx
        have := s2 l (by omega)
        rw [List.getElem?_eq_getElem hl] at this
        rw [Option.some.inj this]
        exact h16 _ (hb.closed s hs l (by omega))
    have := bytsl_inj (by simp [s1, t1]) (hmem s hs) (hmem t ht) e2
    rw [List.cons.injEq] at this
    refine ⟨this.1, fun l hl => ?_⟩
    have h3 := congrArg (fun q : List Nat => q[l]?) this.2
    simp only [List.getElem?_map, s2 l hl, t2 l hl, Option.map_some] at h3
    exact Option.some.inj h3
  refine ⟨fun s t hs ht e => (key s t hs ht e).1, fun s t hs ht e => (key s t hs ht e).2, fun s t hs ht e => he s t hs ht (key s t hs ht e).1, fun s t hs ht _ e1 e2 => ?_⟩
  have : keyOf' next cl s = keyOf' next cl t := by
    unfold keyOf'
    rw [e1]
    congr 1
    have : (rowOf next s).map cl = (rowOf next t).map cl := by
      obtain ⟨s1, s2⟩ := hrow s hs
      obtain ⟨t1, t2⟩ := hrow t ht
      apply List.ext_getElem?
      intro l
      by_cases hl : l < n
      · simp only [List.getElem?_map, s2 l hl, t2 l hl, Option.map_some]; rw [e2 l hl]
      · rw [List.getElem?_eq_none (by simp; omega), List.getElem?_eq_none (by simp; omega)]
    have := congrArg (fun q : List Nat => q.flatMap byt) this
    simpa [List.flatMap_map] using this
  simp only [this]
/-- The first classes: by ends. -/
theorem RInv.start {next : List (List Int)} {ends : List Bool} {n : Nat} {out : List Int} {cl : Int → Nat} (h : ∀ s t, s ∈ out → t ∈ out → endOf ends s = endOf ends t → cl s = cl t) : RInv next ends n out cl 0 :=
  ⟨⟨fun s t hs ht he => h s t hs ht (he [] (by intro x hx; simp at hx))⟩, .inl rfl⟩
end Go.Proofs.Ythcclcbliedodaa
namespace Go.Proofs.Ythcclcbliedodaa

/-- Rows of what was met: each next by its number. -/
def Expl {σ : Type} (δ : σ → Nat → σ) (n : Nat) (met : List σ) (rows : List (List Int)) : Prop :=
  ∀ (i : Nat) (r : List Int), rows[i]? = some r → r.length = n ∧ ∃ s, met[i]? = some s ∧ ∀ l, l < n → ∃ k : Nat, r[l]? = some (k : Int) ∧ met[k]? = some (δ s l)
section
variable {σ : Type} {δ : σ → Nat → σ} {n : Nat} {met met' : List σ} {rows : List (List Int)} {ends : List Bool} {E : σ → Bool} {s0 : σ}
theorem Expl.nil : Expl δ n met [] := fun i r h => by simp at h
theorem pre_get {l l' : List σ} (h : l <+: l') {k : Nat} {s : σ} (hk : l[k]? = some s) : l'[k]? = some s := by
  obtain ⟨t, rfl⟩ := h
  rw [List.getElem?_append_left (List.getElem?_eq_some_iff.1 hk).1]; exact hk
theorem Expl.grow (h : Expl δ n met rows) (hp : met <+: met') : Expl δ n met' rows := fun i r hr => by
  obtain ⟨h1, s, h2, h3⟩ := h i r hr
  exact ⟨h1, s, pre_get hp h2, fun l hl => by
    obtain ⟨k, a, b⟩ := h3 l hl
    exact ⟨k, a, pre_get hp b⟩⟩
theorem Expl.snoc (h : Expl δ n met rows) {r : List Int} {s : σ} (hr : r.length = n) (hs : met[rows.length]? = some s) (hl : ∀ l, l < n → ∃ k : Nat, r[l]? = some (k : Int) ∧ met[k]? = some (δ s l)) : Expl δ n met (rows ++ [r]) := fun i q hq => by
  by_cases hi : i < rows.length
  · rw [List.getElem?_append_left hi] at hq; exact h i q hq
  · have hi2 := (List.getElem?_eq_some_iff.1 hq).1
    have : i = rows.length := by simp at hi2; omega
    subst this
    rw [List.getElem?_append_right (Nat.le_refl _), Nat.sub_self] at hq
    obtain rfl : r = q := by simpa using hq
    exact ⟨hr, s, hs, hl⟩
theorem Expl.table (h : Expl δ n met rows) (hl : rows.length = met.length) : Rows0 n met.length rows := by
  refine ⟨hl, fun r hr => ?_, fun r hr x hx => ?_⟩
  · obtain ⟨i, hi⟩ := List.mem_iff_getElem?.1 hr
    exact (h i r hi).1
  · obtain ⟨i, hi⟩ := List.mem_iff_getElem?.1 hr
    obtain ⟨h1, s, _, h3⟩ := h i r hi
    obtain ⟨l, hl2, rfl⟩ := List.mem_iff_getElem.1 hx
    obtain ⟨k, h4, h5⟩ := h3 l (by omega)
    rw [List.getElem?_eq_getElem hl2] at h4
    have := (List.getElem?_eq_some_iff.1 h5).1
    rw [Option.some.inj h4]; omega
theorem Expl.run (h : Expl δ n met rows) (hl : rows.length = met.length) : ∀ (w : List Nat) (k : Nat) (s : σ), met[k]? = some s → Ltr n w → ∃ j : Nat, runS rows (k : Int) w = (j : Int) ∧ met[j]? = some (w.foldl δ s)
  | [], k, s, hk, _ => ⟨k, rfl, hk⟩
  | l :: w, k, s, hk, hw => by
    have hkl := (List.getElem?_eq_some_iff.1 hk).1
    obtain ⟨h1, s', h2, h3⟩ := h k rows[k] (List.getElem?_eq_getElem (by omega))
    rw [hk] at h2
    obtain rfl := Option.some.inj h2
    obtain ⟨j, h4, h5⟩ := h3 l (hw l List.mem_cons_self)
    have hnx : nx rows (k : Int) l = (j : Int) := by
      unfold nx rowOf
      have hrk : rows.getD k [] = rows[k] := getD_lt (by omega)
      rw [Int.toNat_natCast, hrk, List.getD_eq_getElem?_getD, h4]; rfl
    obtain ⟨q, e1, e2⟩ := h.run hl w j _ h5 fun x hx => hw x (List.mem_cons_of_mem _ hx)
    refine ⟨q, ?_, e2⟩
    show runS rows (nx rows (k : Int) l) w = _
    rw [hnx]; exact e1
/-- The words that are taken are those of what is explored. -/
theorem Expl.lang (h : Expl δ n met rows) (hl : rows.length = met.length) (h0 : met[0]? = some s0) (he : ∀ (i : Nat) (s : σ), met[i]? = some s → ends[i]? = some (E s)) {w : List Nat} (hw : Ltr n w) : Go.Proofs.Ythcclcbliedodaa.lang rows ends 0 w = E (w.foldl δ s0) := by
  obtain ⟨j, e1, e2⟩ := h.run hl w 0 s0 h0 hw
  unfold Go.Proofs.Ythcclcbliedodaa.lang endOf
  rw [show ((0 : Int)) = ((0 : Nat) : Int) from rfl, e1, Int.toNat_natCast, List.getD_eq_getElem?_getD, he j _ e2]; rfl
end

/-- Two states, a letter on. -/
def pst (a b : GAuto) (s : Int × Int) (l : Nat) : Int × Int := (nx a.next s.1 l, nx b.next s.2 l)
end Go.Proofs.Ythcclcbliedodaa
namespace Go.Proofs.Ythcclcbliedodaa

section
variable {σ : Type} [DecidableEq σ]
def addS (met : List σ) (x : σ) : List σ := if x ∈ met then met else met ++ [x]
/-- What has come up behind so many letters of a round. -/
def partS (δ : σ → Nat → σ) (met : List σ) (s : σ) : Nat → List σ
  | 0 => met
  | l + 1 => addS (partS δ met s l) (δ s l)
def growS (δ : σ → Nat → σ) (n : Nat) (s0 : σ) : Nat → List σ
  | 0 => [s0]
  | k + 1 => match (growS δ n s0 k)[k]? with
    | some s => partS δ (growS δ n s0 k) s n
    | none => growS δ n s0 k
def setsOf (δ : σ → Nat → σ) (n : Nat) (s0 : σ) : List σ := growS δ n s0 2001
/-- Are they no more than may be? -/
def setsOk (δ : σ → Nat → σ) (n : Nat) (s0 : σ) : Bool := decide ((setsOf δ n s0).length ≤ 2000)
/-- Which one it is. -/
def idxS (l : List σ) (x : σ) : Nat := l.idxOf x
def rowIn (δ : σ → Nat → σ) (P : List σ) (s : σ) (l : Nat) : List Int := (List.range l).map fun j => ((idxS P (δ s j) : Nat) : Int)
def rowsIn (δ : σ → Nat → σ) (n : Nat) (P : List σ) (i : Nat) : List (List Int) := (P.take i).map fun s => rowIn δ P s n
def rowsOf (δ : σ → Nat → σ) (n : Nat) (s0 : σ) : List (List Int) := rowsIn δ n (setsOf δ n s0) (setsOf δ n s0).length

variable {δ : σ → Nat → σ} {n : Nat} {s0 s x : σ} {met P : List σ}
theorem addS_pre (met : List σ) (x : σ) : met <+: addS met x := by
  unfold addS; split
  · exact List.prefix_refl _
  · exact List.prefix_append _ _
theorem addS_mem (met : List σ) (x : σ) : x ∈ addS met x := by
  unfold addS; split
  · assumption
  · simp
theorem addS_nodup (h : met.Nodup) (x : σ) : (addS met x).Nodup := by
  unfold addS; split
  · exact h
  · rename_i hx
    rw [List.nodup_append]
    exact ⟨h, by simp, fun c hc d hd => by simp at hd; subst hd; rintro rfl; exact hx hc⟩
theorem addS_in {p : σ → Prop} (h : ∀ y ∈ met, p y) (hx : p x) : ∀ y ∈ addS met x, p y := by
  unfold addS; split
  · exact h
  · intro y hy
    rcases List.mem_append.1 hy with hy | hy
    · exact h y hy
    · simp at hy; subst hy; exact hx
theorem partS_pre (δ : σ → Nat → σ) (met : List σ) (s : σ) : ∀ l, met <+: partS δ met s l
  | 0 => List.prefix_refl _
  | l + 1 => (partS_pre δ met s l).trans (addS_pre _ _)
theorem partS_nodup (h : met.Nodup) (s : σ) : ∀ l, (partS δ met s l).Nodup
  | 0 => h
  | l + 1 => addS_nodup (partS_nodup h s l) _
theorem partS_len (δ : σ → Nat → σ) (met : List σ) (s : σ) : ∀ l, (partS δ met s l).length ≤ met.length + l
  | 0 => Nat.le_refl _
  | l + 1 => by
    have ih := partS_len δ met s l
    show (addS _ _).length ≤ _
    unfold addS
    split
    · omega
    · rw [List.length_append, List.length_singleton]; omega
theorem partS_mono (δ : σ → Nat → σ) (met : List σ) (s : σ) (l : Nat) : ∀ d, partS δ met s l <+: partS δ met s (l + d)
  | 0 => List.prefix_refl _
  | d + 1 => (partS_mono δ met s l d).trans (addS_pre _ _)
theorem pre_mem {l l' : List σ} (h : l <+: l') {x : σ} (hx : x ∈ l) : x ∈ l' := by
  obtain ⟨t, rfl⟩ := h
  exact List.mem_append_left _ hx
theorem partS_has (δ : σ → Nat → σ) (met : List σ) (s : σ) {l j : Nat} (h : j < l) : δ s j ∈ partS δ met s l := by
  have h1 : δ s j ∈ partS δ met s (j + 1) := addS_mem _ _
  have := partS_mono δ met s (j + 1) (l - (j + 1))
  rw [show j + 1 + (l - (j + 1)) = l by omega] at this
  exact pre_mem this h1
theorem idx_pre {l l' : List σ} (h : l <+: l') {x : σ} (hx : x ∈ l) : idxS l' x = idxS l x := by
  unfold idxS
  obtain ⟨t, rfl⟩ := h
  rw [List.idxOf_append, if_pos hx]
theorem idx_new {l : List σ} {x : σ} (hx : x ∉ l) : idxS (l ++ [x]) x = l.length := by
  unfold idxS
  rw [List.idxOf_append, if_neg hx]; simp
theorem idx_get {l : List σ} {x : σ} (hx : x ∈ l) : l[idxS l x]? = some x := by
  unfold idxS
  have h := List.idxOf_lt_length_of_mem hx
  rw [List.getElem?_eq_getElem h, List.getElem_idxOf h]
theorem rowIn_step (l : Nat) : rowIn δ (partS δ met s l) s l ++ [((idxS (partS δ met s (l + 1)) (δ s l) : Nat) : Int)] = rowIn δ (partS δ met s (l + 1)) s (l + 1) := by
  unfold rowIn
  rw [List.range_succ, List.map_append, List.map_singleton]
  congr 1
  refine List.map_congr_left fun j hj => ?_
  rw [idx_pre (partS_mono δ met s l 1) (partS_has δ met s (List.mem_range.1 hj))]
theorem growS_some {k : Nat} (h : (growS δ n s0 k)[k]? = some s) : growS δ n s0 (k + 1) = partS δ (growS δ n s0 k) s n := by
  rw [growS, h]
theorem growS_none {k : Nat} (h : (growS δ n s0 k).length ≤ k) : growS δ n s0 (k + 1) = growS δ n s0 k := by
  rw [growS, List.getElem?_eq_none h]
theorem growS_pre1 (k : Nat) : growS δ n s0 k <+: growS δ n s0 (k + 1) := by
  cases h : (growS δ n s0 k)[k]? with
  | none => rw [growS_none (List.getElem?_eq_none_iff.1 h)]; exact List.prefix_refl _
  | some s => rw [growS_some h]; exact partS_pre _ _ _ _
theorem growS_pre (k : Nat) : ∀ d, growS δ n s0 k <+: growS δ n s0 (k + d)
  | 0 => List.prefix_refl _
  | d + 1 => (growS_pre k d).trans (growS_pre1 _)
theorem growS_fix {k : Nat} (h : (growS δ n s0 k).length ≤ k) : ∀ d, growS δ n s0 (k + d) = growS δ n s0 k
  | 0 => rfl
  | d + 1 => by
    have ih := growS_fix h d
    have := growS_none (δ := δ) (n := n) (s0 := s0) (k := k + d) (by rw [ih]; omega)
    rw [show k + (d + 1) = k + d + 1 by omega, this, ih]
theorem growS_nodup : ∀ k, (growS δ n s0 k).Nodup
  | 0 => by simp [growS]
  | k + 1 => by
    cases h : (growS δ n s0 k)[k]? with
    | none => rw [growS_none (List.getElem?_eq_none_iff.1 h)]; exact growS_nodup k
    | some s => rw [growS_some h]; exact partS_nodup (growS_nodup k) _ _
theorem partS_in' {p : σ → Prop} (h : ∀ y ∈ met, p y) : ∀ l, (∀ j, j < l → p (δ s j)) → ∀ y ∈ partS δ met s l, p y
  | 0, _ => h
  | l + 1, hs => addS_in (partS_in' h l fun j hj => hs j (by omega)) (hs l (by omega))
theorem growS_in' {p : σ → Prop} (h0 : p s0) (hp : ∀ s l, l < n → p s → p (δ s l)) : ∀ k, ∀ y ∈ growS δ n s0 k, p y
  | 0 => by intro y hy; simp [growS] at hy; subst hy; exact h0
  | k + 1 => by
    cases h : (growS δ n s0 k)[k]? with
    | none => rw [growS_none (List.getElem?_eq_none_iff.1 h)]; exact growS_in' h0 hp k
    | some s => rw [growS_some h]; exact partS_in' (growS_in' h0 hp k) n (fun l hl => hp s l hl (growS_in' h0 hp k s (List.mem_of_getElem? h)))
theorem growS_zero (k : Nat) : (growS δ n s0 k)[0]? = some s0 := by
  have := growS_pre (δ := δ) (n := n) (s0 := s0) 0 k
  rw [Nat.zero_add] at this
  exact pre_get this rfl
/-- Behind a round its letters lead to what has come up. -/
theorem growS_done : ∀ (k j : Nat) (s : σ), j < k → (growS δ n s0 k)[j]? = some s → ∀ l, l < n → δ s l ∈ growS δ n s0 k
  | 0, j, s, hj, _, _, _ => by omega
  | k + 1, j, s, hj, hs, l, hl => by
    have hp := growS_pre1 (δ := δ) (n := n) (s0 := s0) k
    by_cases e : j < k
    · by_cases hlt : j < (growS δ n s0 k).length
      · have hs2 : (growS δ n s0 k)[j]? = some s := by
          obtain ⟨t, ht⟩ := hp
          rw [← ht, List.getElem?_append_left hlt] at hs
          exact hs
        exact pre_mem hp (growS_done k j s e hs2 l hl)
      · have := growS_none (δ := δ) (n := n) (s0 := s0) (k := k) (by omega)
        rw [this] at hs
        have := (List.getElem?_eq_some_iff.1 hs).1
        omega
    · obtain rfl : j = k := by omega
      cases h : (growS δ n s0 j)[j]? with
      | none =>
        rw [growS_none (List.getElem?_eq_none_iff.1 h), h] at hs
        cases hs
      | some s' =>
        have := pre_get hp h
        rw [this] at hs
        cases hs
        rw [growS_some h]
        exact partS_has _ _ _ hl
theorem rows_step {i : Nat} (hs : (growS δ n s0 i)[i]? = some s) : rowsIn δ n (growS δ n s0 i) i ++ [rowIn δ (partS δ (growS δ n s0 i) s n) s n] = rowsIn δ n (growS δ n s0 (i + 1)) (i + 1) := by
  have hp := growS_pre1 (δ := δ) (n := n) (s0 := s0) i
  have hlt := (List.getElem?_eq_some_iff.1 hs).1
  have ht : (growS δ n s0 (i + 1)).take (i + 1) = (growS δ n s0 i).take i ++ [s] := by
    obtain ⟨t, ht⟩ := hp
    rw [← ht, List.take_append_of_le_length (by omega), List.take_succ_eq_append_getElem hlt]
    rw [List.getElem?_eq_getElem hlt] at hs
    rw [Option.some.inj hs]
  unfold rowsIn
  rw [ht, List.map_append, List.map_singleton, growS_some hs]
  congr 1
  refine List.map_congr_left fun s' hs' => ?_
  obtain ⟨j, hj⟩ := List.mem_iff_getElem?.1 hs'
  rw [List.getElem?_take] at hj
  split at hj
  · unfold rowIn
    refine List.map_congr_left fun l hl => ?_
    rw [idx_pre (partS_pre _ _ _ _) (growS_done i j s' (by assumption) hj l (List.mem_range.1 hl))]
  · cases hj
/-- Nothing is left: these are all. -/
theorem grow_end {i : Nat} (hi : i ≤ 2001) (h : (growS δ n s0 i).length ≤ i) : setsOf δ n s0 = growS δ n s0 i := by
  have := growS_fix h (2001 - i)
  rw [show i + (2001 - i) = 2001 by omega] at this
  exact this
theorem grow_rows {i : Nat} (hi : i ≤ 2001) (h : (growS δ n s0 i).length = i) : rowsOf δ n s0 = rowsIn δ n (growS δ n s0 i) i := by
  unfold rowsOf
  rw [grow_end hi (by omega), h]
theorem grow_few {i : Nat} (h0 : i ≤ 2000) (h : (growS δ n s0 i).length = i) : setsOk δ n s0 = true := by
  unfold setsOk
  rw [grow_end (i := i) (by omega) (by omega), h]
  simpa using h0
theorem grow_many {i : Nat} (hi : i ≤ 2001) (h : 2000 < (growS δ n s0 i).length) : setsOk δ n s0 = false := by
  have := growS_pre (δ := δ) (n := n) (s0 := s0) i (2001 - i)
  rw [show i + (2001 - i) = 2001 by omega] at this
  unfold setsOk setsOf
  have := this.length_le
  simp; omega
/-- If there are not too many, there is an end. -/
theorem grow_ok (h : setsOk δ n s0 = true) : ∃ i, i ≤ 2000 ∧ (growS δ n s0 i).length = i ∧ setsOf δ n s0 = growS δ n s0 i := by
  have h1 : (growS δ n s0 2001).length ≤ 2000 := of_decide_eq_true h
  have key : ∀ k, k ≤ (growS δ n s0 k).length ∨ ∃ i, i < k ∧ (growS δ n s0 i).length = i := fun k => by
    induction k with
    | zero => exact .inl (Nat.zero_le _)
    | succ k ih =>
      rcases ih with ih | ⟨i, h1, h2⟩
      · by_cases e : (growS δ n s0 k).length = k
        · exact .inr ⟨k, by omega, e⟩
        · left
          have := (growS_pre1 (δ := δ) (n := n) (s0 := s0) k).length_le
          omega
      · exact .inr ⟨i, by omega, h2⟩
  rcases key 2001 with q | ⟨i, q1, q2⟩
  · omega
  · exact ⟨i, by omega, q2, grow_end (by omega) (by omega)⟩
theorem sets_nodup : (setsOf δ n s0).Nodup := growS_nodup _
theorem sets_closed (h : setsOk δ n s0 = true) {s : σ} (hs : s ∈ setsOf δ n s0) {l : Nat} (hl : l < n) : δ s l ∈ setsOf δ n s0 := by
  obtain ⟨i, h1, h2, h3⟩ := grow_ok h
  rw [h3] at hs ⊢
  obtain ⟨j, hj⟩ := List.mem_iff_getElem?.1 hs
  exact growS_done i j s (by have := (List.getElem?_eq_some_iff.1 hj).1; omega) hj l hl
theorem rowsOf_len : (rowsOf δ n s0).length = (setsOf δ n s0).length := by simp [rowsOf, rowsIn]
theorem rowsOf_expl (h : setsOk δ n s0 = true) : Expl δ n (setsOf δ n s0) (rowsOf δ n s0) := fun i r hr => by
  unfold rowsOf rowsIn at hr
  rw [List.take_length, List.getElem?_map, Option.map_eq_some_iff] at hr
  obtain ⟨s, hs, rfl⟩ := hr
  refine ⟨by simp [rowIn], s, hs, fun l hl => ⟨_, by simp [rowIn, hl], idx_get (sets_closed h (List.mem_of_getElem? hs) hl)⟩⟩
end
end Go.Proofs.Ythcclcbliedodaa
namespace Go.Proofs.Ythcclcbliedodaa
open Go.Lib

def sortL (l : List Int) : List Int := l.mergeSort fun x y => decide (x ≤ y)
/-- A set: its states once each, ascending. -/
def canonL (l : List Int) : List Int := Lib.compact (sortL l)
theorem sortL_mem {l : List Int} {x : Int} : x ∈ sortL l ↔ x ∈ l := List.mem_mergeSort
theorem sortL_len (l : List Int) : (sortL l).length = l.length := List.length_mergeSort l
theorem sortL_sorted (l : List Int) : (sortL l).Pairwise (· ≤ ·) := by
  have := List.pairwise_mergeSort (le := fun x y : Int => decide (x ≤ y)) (fun a b c h1 h2 => by simp at h1 h2 ⊢; omega) (fun a b => by simp; omega) l
  exact this.imp fun h => by simpa using h
theorem compact_inv {d : Array Int} (hs : ∀ i j, i ≤ j → j < d.size → d[i]! ≤ d[j]!) : ∀ m, m ≤ d.size → (compactUpTo d m).Pairwise (· < ·) ∧ ∀ x, x ∈ compactUpTo d m ↔ ∃ j, j < m ∧ d[j]! = x
  | 0, _ => by simp [compactUpTo]
  | m + 1, hm => by
    obtain ⟨h1, h2⟩ := compact_inv hs m (by omega)
    rw [compactUpTo_succ]
    by_cases hk : keeps d m = true
    · rw [if_pos hk]
      have hk' : m = 0 ∨ d[m]! ≠ d[m - 1]! := by simpa [keeps] using hk
      refine ⟨?_, fun x => ?_⟩
      · rw [List.pairwise_append]
        refine ⟨h1, List.pairwise_singleton _ _, fun a ha b hb => ?_⟩
        simp at hb
        obtain ⟨j, hj, rfl⟩ := (h2 a).1 ha
        rcases hk' with rfl | hk'
        · omega
        · have q1 := hs j (m - 1) (by omega) (by omega)
          have q2 := hs (m - 1) m (by omega) (by omega)
          omega
      · rw [List.mem_append, h2]
        constructor
        · rintro (⟨j, hj, e⟩ | e)
          · exact ⟨j, by omega, e⟩
          · simp at e; exact ⟨m, by omega, e.symm⟩
        · rintro ⟨j, hj, e⟩
          by_cases hjm : j = m
          · subst hjm; right; simp [e]
          · exact .inl ⟨j, by omega, e⟩
    · rw [if_neg hk, List.append_nil]
      refine ⟨h1, fun x => ?_⟩
      have hk' : m ≠ 0 ∧ d[m]! = d[m - 1]! := by
        have : ¬ (m = 0 ∨ d[m]! ≠ d[m - 1]!) := by simpa [keeps] using hk
        exact ⟨fun e => this (.inl e), Decidable.not_not.1 fun e => this (.inr e)⟩
      rw [h2]
      constructor
      · rintro ⟨j, hj, e⟩
        exact ⟨j, by omega, e⟩
      · rintro ⟨j, hj, e⟩
        by_cases hjm : j = m
        · subst hjm; exact ⟨j - 1, by omega, by rw [← hk'.2]; exact e⟩
        · exact ⟨j, by omega, e⟩
theorem canonL_spec (l : List Int) : (canonL l).Pairwise (· < ·) ∧ ∀ x, x ∈ canonL l ↔ x ∈ l := by
  have hs := sortL_sorted l
  have h := compact_inv (d := (sortL l).toArray) (fun i j hij hj => by
    have hj' : j < (sortL l).length := by simpa using hj
    rw [getElem!_pos (sortL l).toArray j hj, getElem!_pos (sortL l).toArray i (by omega)]
    simp only [List.getElem_toArray]
    rcases Nat.lt_or_eq_of_le hij with e | e
    · exact List.pairwise_iff_getElem.1 hs i j (by omega) hj' e
    · subst e; exact Int.le_refl _) (sortL l).length (by simp)
  refine ⟨h.1, fun x => ?_⟩
  show x ∈ compactUpTo _ _ ↔ _
  rw [h.2, ← sortL_mem (l := l)]
  constructor
  · rintro ⟨j, hj, rfl⟩
    rw [getElem!_pos (sortL l).toArray j (by simpa using hj)]
    simp
  · intro hx
    obtain ⟨j, hj, rfl⟩ := List.mem_iff_getElem.1 hx
    exact ⟨j, hj, by rw [getElem!_pos (sortL l).toArray j (by simpa using hj)]; simp⟩
theorem canonL_mem {l : List Int} {x : Int} : x ∈ canonL l ↔ x ∈ l := (canonL_spec l).2 x
theorem asc_eq : ∀ {l l' : List Int}, l.Pairwise (· < ·) → l'.Pairwise (· < ·) → (∀ x, x ∈ l ↔ x ∈ l') → l = l'
  | [], [], _, _, _ => rfl
  | [], y :: _, _, _, h => by have := (h y).2 List.mem_cons_self; simp at this
  | x :: _, [], _, _, h => by have := (h x).1 List.mem_cons_self; simp at this
  | x :: l, y :: l', h1, h2, h => by
    obtain ⟨a1, a2⟩ := List.pairwise_cons.1 h1
    obtain ⟨b1, b2⟩ := List.pairwise_cons.1 h2
    have hxy : x = y := by
      rcases List.mem_cons.1 ((h x).1 List.mem_cons_self) with e | e
      · exact e
      · rcases List.mem_cons.1 ((h y).2 List.mem_cons_self) with e2 | e2
        · exact e2.symm
        · have := a1 y e2; have := b1 x e; omega
    subst hxy
    rw [asc_eq a2 b2 fun z => ?_]
    constructor
    · intro hz
      rcases List.mem_cons.1 ((h z).1 (List.mem_cons_of_mem _ hz)) with rfl | e
      · have := a1 z hz; omega
      · exact e
    · intro hz
      rcases List.mem_cons.1 ((h z).2 (List.mem_cons_of_mem _ hz)) with rfl | e
      · have := b1 z hz; omega
      · exact e
theorem canonL_eq {l l' : List Int} (h : ∀ x, x ∈ l ↔ x ∈ l') : canonL l = canonL l' :=
  asc_eq (canonL_spec l).1 (canonL_spec l').1 fun x => by rw [canonL_mem, canonL_mem]; exact h x
theorem canonL_self {l : List Int} (h : l.Pairwise (· < ·)) : canonL l = l := asc_eq (canonL_spec l).1 h fun _ => canonL_mem
theorem canonL_len (l : List Int) : (canonL l).length ≤ l.length := by
  have : (canonL l).length ≤ (sortL l).length := by
    show (compactUpTo _ _).length ≤ _
    unfold compactUpTo
    rw [List.length_map]
    exact Nat.le_trans (List.length_filter_le _ _) (by simp)
  rw [sortL_len] at this; exact this
/-- An ascending list of numbers below m has at most m. -/
theorem asc_len {l : List Int} (h : l.Pairwise (· < ·)) {m : Nat} (hm : ∀ x ∈ l, 0 ≤ x ∧ x < (m : Int)) : l.length ≤ m := by
  have key : ∀ (l : List Int) (k : Int), l.Pairwise (· < ·) → (∀ x ∈ l, k ≤ x ∧ x < (m : Int)) → k ≤ (m : Int) → ((l.length : Nat) : Int) ≤ (m : Int) - k := by
    intro l
    induction l with
    | nil => intro k _ _ hk; simp; omega
    | cons x l ih =>
      intro k h1 h2 hk
      obtain ⟨a1, a2⟩ := List.pairwise_cons.1 h1
      have hx := h2 x List.mem_cons_self
      have := ih (x + 1) a2 (fun y hy => ⟨by have := a1 y hy; omega, (h2 y (List.mem_cons_of_mem _ hy)).2⟩) (by omega)
      simp only [List.length_cons]; omega
  have := key l 0 h hm (by omega)
  omega

end Go.Proofs.Ythcclcbliedodaa
namespace Go.Proofs.Ythcclcbliedodaa
open Go.RowKit

/-- May its states be bytes? -/
def Small (s : List Int) : Prop := ∀ x ∈ s, 0 ≤ x ∧ x < 80
def Inm (m : Nat) (s : List Int) : Prop := ∀ x ∈ s, 0 ≤ x ∧ x < (m : Int)
theorem Inm.small {m : Nat} (hm : m ≤ 80) {s : List Int} (h : Inm m s) : Small s := fun x hx => by have := h x hx; omega
theorem Inm.canon {m : Nat} {s : List Int} (h : Inm m s) : Inm m (canonL s) := fun x hx => h x (canonL_mem.1 hx)
theorem Small.canon {s : List Int} (h : Small s) : Small (canonL s) := fun x hx => h x (canonL_mem.1 hx)
def strEntries (met : List (List Int)) : List (T × T) := met.zipIdx.map fun p => (.str (bytesStr p.1), tNat p.2)
theorem strEntries_length (met : List (List Int)) : (strEntries met).length = met.length := by simp [strEntries]
theorem strEntries_mem {met : List (List Int)} {p : T × T} (h : p ∈ strEntries met) : ∃ r ∈ met, p.1 = .str (bytesStr r) := by
  obtain ⟨q, hq, rfl⟩ := List.mem_map.1 h
  have := (List.mem_zipIdx_iff_getElem?.1 (show (q.1, q.2) ∈ met.zipIdx from hq))
  exact ⟨q.1, List.mem_of_getElem? this, rfl⟩
theorem small_inj : ∀ {s t : List Int}, Small s → Small t → s.map (fun n => UInt8.ofNat n.toNat) = t.map (fun n => UInt8.ofNat n.toNat) → s = t
  | [], [], _, _, _ => rfl
  | [], _ :: _, _, _, h => by simp at h
  | _ :: _, [], _, _, h => by simp at h
  | x :: s, y :: t, hs, ht, h => by
    simp only [List.map_cons, List.cons.injEq] at h
    have h1 := congrArg UInt8.toNat h.1
    simp only [UInt8.toNat_ofNat'] at h1
    have hx := hs x List.mem_cons_self
    have hy := ht y List.mem_cons_self
    rw [show x = y by omega, small_inj (fun z hz => hs z (List.mem_cons_of_mem _ hz)) (fun z hz => ht z (List.mem_cons_of_mem _ hz)) h.2]
theorem str_inj {s t : List Int} (hs : Small s) (ht : Small t) (h : bytesStr s = bytesStr t) : s = t := small_inj hs ht (bytesStr_inj h)
theorem strEntries_none {met : List (List Int)} {s : List Int} (hm : ∀ q ∈ met, Small q) (hs : Small s) (h : s ∉ met) : ∀ p ∈ strEntries met, p.1 ≠ .str (bytesStr s) := fun p hp e => by
  obtain ⟨r, hr, e2⟩ := strEntries_mem hp
  rw [e2] at e
  exact h (str_inj (hm r hr) hs (T.str.inj e) ▸ hr)
theorem strEntries_get_none {met : List (List Int)} {s : List Int} (hm : ∀ q ∈ met, Small q) (hs : Small s) (h : s ∉ met) : mapGet (strEntries met) (.str (bytesStr s)) = none := mapGet_none (strEntries_none hm hs h)
theorem strEntries_set {met : List (List Int)} {s : List Int} (hm : ∀ q ∈ met, Small q) (hs : Small s) (h : s ∉ met) : mapSet (strEntries met) (.str (bytesStr s)) (tNat met.length) = strEntries (met ++ [s]) := by
  rw [mapSet_none (strEntries_none hm hs h)]; simp [strEntries, List.zipIdx_append]
theorem strEntries_get_some {met : List (List Int)} {s : List Int} {k : Nat} (hm : ∀ q ∈ met, Small q) (hd : met.Nodup) (hk : met[k]? = some s) : mapGet (strEntries met) (.str (bytesStr s)) = some (tNat k) := by
  refine mapGet_some (j := k) (p := (.str (bytesStr s), tNat k)) ?_ ?_ rfl
  · rw [List.pairwise_iff_getElem]
    intro i j hi hj hij e
    simp only [strEntries, List.getElem_map, List.getElem_zipIdx] at e
    rw [strEntries_length] at hi hj
    have := nodup_inj hd hi hj (str_inj (hm _ (List.getElem_mem hi)) (hm _ (List.getElem_mem hj)) (T.str.inj e))
    omega
  · simp [strEntries, List.getElem?_map, List.getElem?_zipIdx, hk]
/-- A row that is filled from its begin. -/
def fillB (s : List Int) (i : Nat) : List Int := s.take i ++ List.replicate (s.length - i) 0
theorem fillB_zero (s : List Int) : fillB s 0 = List.replicate s.length 0 := by simp [fillB]
theorem fillB_len {s : List Int} {i : Nat} (h : i ≤ s.length) : (fillB s i).length = s.length := by simp [fillB]; omega
theorem fillB_all (s : List Int) : fillB s s.length = s := by simp [fillB]
theorem fillB_set {s : List Int} {i : Nat} {x : Int} (h : s[i]? = some x) : (fillB s i).set i x = fillB s (i + 1) := by
  obtain ⟨hi, rfl⟩ := List.getElem?_eq_some_iff.1 h
  unfold fillB
  obtain ⟨k, hk⟩ : ∃ k, s.length - i = k + 1 := ⟨s.length - i - 1, by omega⟩
  rw [hk, show s.length - (i + 1) = k by omega, List.replicate_succ, List.set_append_right _ _ (by rw [List.length_take]; omega), List.length_take, Nat.min_eq_left (by omega), Nat.sub_self, List.set_cons_zero, List.take_succ_eq_append_getElem hi, List.append_assoc]
  rfl
end Go.Proofs.Ythcclcbliedodaa
namespace Go.Proofs.Ythcclcbliedodaa
open Go.RowKit

def runA {σ : Type} (stp : Nat → σ → Option σ) : List Nat → σ → Option σ
  | [], s => some s
  | k :: r, s => match stp k s with
    | some s' => runA stp r s'
    | none => none
section
variable {σ γ : Type} {P : Program} {ops : Array Oper} {stp : Nat → σ → Option σ} {E : σ → σ → Prop}
theorem runA_nil {s : σ} : runA stp [] s = some s := rfl
theorem runA_cons {k : Nat} {r : List Nat} {s s1 s2 : σ} (h1 : stp k s = some s1) (h2 : runA stp r s1 = some s2) : runA stp (k :: r) s = some s2 := by
  unfold runA; rw [h1]; exact h2
theorem runA_congr (hC : ∀ k s s' t, E s s' → stp k s = some t → ∃ t', stp k s' = some t' ∧ E t t') : ∀ {l : List Nat} {s s' : σ}, E s s' → ∀ {t : σ}, runA stp l s = some t → ∃ t', runA stp l s' = some t' ∧ E t t'
  | [], s, s', h, t, hs => by simp [runA] at hs; subst hs; exact ⟨_, rfl, h⟩
  | k :: r, s, s', h, t, hs => by
    unfold runA at hs ⊢
    split at hs
    · rename_i u hu
      obtain ⟨u', h1, h2⟩ := hC k _ _ _ h hu
      rw [h1]
      exact runA_congr hC h2 hs
    · cases hs
theorem frontA (hEr : ∀ s, E s s) (hEt : ∀ s t u, E s t → E t u → E s u) (hC : ∀ k s s' t, E s s' → stp k s = some t → ∃ t', stp k s' = some t' ∧ E t t') {pass : Nat → Nat → Prop} (hP : ∀ j k s s1 s2, pass j k → stp j s = some s1 → stp k s1 = some s2 → ∃ u u', stp k s = some u ∧ stp j u = some u' ∧ E s2 u') :
    ∀ {p q : List Nat} {k : Nat} {s t : σ}, (∀ j ∈ p, pass j k) → runA stp (p ++ k :: q) s = some t → ∃ s1 t', stp k s = some s1 ∧ runA stp (p ++ q) s1 = some t' ∧ E t t'
  | [], q, k, s, t, _, h => by
    simp only [List.nil_append, runA] at h
    split at h
    · rename_i s1 h1; exact ⟨s1, t, h1, h, hEr _⟩
    · cases h
  | j :: p, q, k, s, t, hp, h => by
    simp only [List.cons_append, runA] at h
    split at h
    · rename_i s1 h1
      obtain ⟨s2, t', e1, e2, e3⟩ := frontA hEr hEt hC hP (fun j' hj' => hp j' (List.mem_cons_of_mem _ hj')) h
      obtain ⟨u, u', f1, f2, f3⟩ := hP j k _ _ _ (hp j List.mem_cons_self) h1 e1
      obtain ⟨t'', g1, g2⟩ := runA_congr hC f3 e2
      refine ⟨u, t'', f1, ?_, hEt _ _ _ e3 g2⟩
      simp only [List.cons_append, runA, f2]
      exact g1
    · cases h
/-- Operation kc may have more than one outcome; all others have one, whatever that one is. -/
theorem wpAny_abs (Rel : σ → Act → World → Prop) (stp : γ → Nat → σ → Option σ) (kc : Nat) (hEr : ∀ s, E s s) (hEt : ∀ s t u, E s t → E t u → E s u) (hI : ∀ c c' k, k ≠ kc → stp c k = stp c' k)
    (hC : ∀ c k s s' t, E s s' → stp c k s = some t → ∃ t', stp c k s' = some t' ∧ E t t') {pass : Nat → Nat → Prop}
    (hP : ∀ c j k s s1 s2, pass j k → stp c j s = some s1 → stp c k s1 = some s2 → ∃ u u', stp c k s = some u ∧ stp c j u = some u' ∧ E s2 u')
    (htp : ∀ i y, ops[i]? = some y → (∀ e ∈ y.after, Region.binds .any e = true → e.on < i) ∧ ∀ j, j < i → ((ancs ops ops.size).getD i 0).testBit j = true ∨ pass j i) {Q : Exit → Act → World → Prop}
    (hS : ∀ c k o s s1 a w (K : Act → World → Prop), ops[k]? = some o → k ≠ kc → stp c k s = some s1 → Rel s a w → (∀ a' w', Rel s1 a' w' → K a' w') → if Region.wanted o (yielded ops a.tmps) then o.wp P a w K Q else K (a.put o.dst undef) w)
    (hSc : ∀ o s a w (K : Act → World → Prop), ops[kc]? = some o → (∀ c, ∃ s1, stp c kc s = some s1) → Rel s a w → (∀ c s1 a' w', stp c kc s = some s1 → Rel s1 a' w' → K a' w') → if Region.wanted o (yielded ops a.tmps) then o.wp P a w K Q else K (a.put o.dst undef) w) :
    ∀ (fuel : Nat) (listed : Array Bool) (s : σ) (a : Act) (w : World) (A : γ → Prop), listed.size = ops.size → (∀ i y, listed.getD i false = true → ops[i]? = some y → ∀ e ∈ y.after, Region.binds .any e = true → listed.getD e.on false = true) → (left listed ops.size).length = fuel →
    (∃ c, A c) → (listed.getD kc true = false → ∀ c, A c) → (∀ c, A c → ∃ t, runA (stp c) (left listed ops.size) s = some t ∧ ∀ t' a' w', E t t' → Rel t' a' w' → Q .normal a' w') → Rel s a w → wpAny P .any ops Q fuel listed a w := by
  have memLeft : ∀ {listed : Array Bool} {k : Nat}, listed.size = ops.size → (k ∈ left listed ops.size ↔ k < ops.size ∧ listed.getD k true = false) := fun {listed k} _ => by
    simp [left]
  intro fuel
  induction fuel with
  | zero =>
    intro listed s a w A hsz hcl hl hA hAll hrun hr
    have hnil : left listed ops.size = [] := List.eq_nil_of_length_eq_zero hl
    obtain ⟨c, hc⟩ := hA
    obtain ⟨t, hrun, hQ⟩ := hrun c hc
    rw [hnil] at hrun
    simp [runA] at hrun
    subst hrun
    refine ⟨?_, hQ s a w (hEr _) hr⟩
    apply List.eq_nil_iff_forall_not_mem.2
    intro k hk
    obtain ⟨h1, o, h2, _⟩ := mem_ready.1 hk
    have : k ∈ left listed ops.size := (memLeft hsz).2 ⟨(Array.getElem?_eq_some_iff.1 h2).1, h1⟩
    rw [hnil] at this
    simp at this
  | succ fuel ih =>
    intro listed s a w A hsz hcl hl hA hAll hrun hr
    refine ⟨fun h0 => ?_, fun k hk => ?_⟩
    · exfalso
      obtain ⟨k, r, hkr⟩ : ∃ k r, left listed ops.size = k :: r := by
        cases hL : left listed ops.size with
        | nil => rw [hL] at hl; simp at hl
        | cons k r => exact ⟨k, r, rfl⟩
      have hkm : k ∈ left listed ops.size := by rw [hkr]; exact List.mem_cons_self
      obtain ⟨hlt, hun⟩ := (memLeft hsz).1 hkm
      have hy := Array.getElem?_eq_getElem hlt
      have : k ∈ Region.ready .any ops listed := by
        refine mem_ready.2 ⟨hun, _, hy, fun e he hb => ?_⟩
        have hon := (htp k _ hy).1 e he hb
        cases hle : listed.getD e.on false with
        | true => rfl
        | false =>
          exfalso
          have hm : e.on ∈ left listed ops.size := by
            refine (memLeft hsz).2 ⟨by omega, ?_⟩
            have : e.on < listed.size := by omega
            simp [this] at hle ⊢
            exact hle
          have hsorted : (left listed ops.size).Pairwise (· < ·) := List.Pairwise.filter _ List.pairwise_lt_range
          rw [hkr] at hm hsorted
          rcases List.mem_cons.1 hm with e1 | e1
          · omega
          · have := (List.pairwise_cons.1 hsorted).1 _ e1
            omega
      rw [h0] at this
      simp at this
    · obtain ⟨hun, o, ho, hall⟩ := mem_ready.1 hk
      have hlt := (Array.getElem?_eq_some_iff.1 ho).1
      have hkm : k ∈ left listed ops.size := (memLeft hsz).2 ⟨hlt, hun⟩
      obtain ⟨p, q, hpq⟩ := List.append_of_mem hkm
      have hsorted : (left listed ops.size).Pairwise (· < ·) := List.Pairwise.filter _ List.pairwise_lt_range
      rw [hpq] at hsorted hrun
      have hpk : ∀ j ∈ p, j < k := fun j hj => (List.pairwise_append.1 hsorted).2.2 j hj k List.mem_cons_self
      have hcomm : ∀ j ∈ p, pass j k := fun j hj => by
        have hjm : j ∈ left listed ops.size := by rw [hpq]; exact List.mem_append_left _ hj
        obtain ⟨hjl, hju⟩ := (memLeft hsz).1 hjm
        rcases (htp k o ho).2 j (hpk j hj) with hc | hc
        · exfalso
          have := ancs_closed (L := fun i => listed.getD i false = true) hcl k ops.size j o hlt ho hall hc
          have hj2 : j < listed.size := by omega
          simp [hj2] at this hju
          rw [this] at hju; cases hju
        · exact hc
      have hleft : left (listed.setIfInBounds k true) ops.size = p ++ q := by
        have : left (listed.setIfInBounds k true) ops.size = (left listed ops.size).filter (· ≠ k) := by
          unfold left
          rw [List.filter_filter]
          apply List.filter_congr
          intro x hx
          by_cases hxk : x = k
          · subst hxk
            have : x < listed.size := by omega
            simp [this]
          · have : ¬ k = x := fun e => hxk e.symm
            simp [Array.getElem?_setIfInBounds, this, hxk]
        rw [this, hpq, List.filter_append]
        have f1 : p.filter (· ≠ k) = p := List.filter_eq_self.2 fun x hx => by have := hpk x hx; simp; omega
        have f2 : (k :: q).filter (· ≠ k) = q := by
          rw [List.filter_cons_of_neg (by simp)]
          exact List.filter_eq_self.2 fun x hx => by
            have := (List.pairwise_cons.1 (List.pairwise_append.1 hsorted).2.1).1 x hx
            simp; omega
        rw [f1, f2]
      have hcl' : ∀ i y, (listed.setIfInBounds k true).getD i false = true → ops[i]? = some y → ∀ e ∈ y.after, Region.binds .any e = true → (listed.setIfInBounds k true).getD e.on false = true := fun i y hi hy e he hb => by
        have up : ∀ q, listed.getD q false = true → (listed.setIfInBounds k true).getD q false = true := fun q hq => by
          by_cases hqk : k = q
          · subst hqk
            have : k < listed.size := by omega
            simp [this]
          · simp [Array.getElem?_setIfInBounds, hqk] at hq ⊢; exact hq
        by_cases hik : k = i
        · subst hik
          rw [ho] at hy; cases hy
          exact up _ (hall e he hb)
        · refine up _ (hcl i y ?_ hy e he hb)
          simp [Array.getElem?_setIfInBounds, hik] at hi ⊢; exact hi
      have hlen : (p ++ q).length = fuel := by rw [hpq] at hl; simp at hl ⊢; omega
      have hlk : (listed.setIfInBounds k true).getD k true = true := by
        have : k < listed.size := by omega
        simp [this]
      have fr : ∀ c, A c → ∃ s1 t', stp c k s = some s1 ∧ runA (stp c) (p ++ q) s1 = some t' ∧ ∀ t'' a' w', E t' t'' → Rel t'' a' w' → Q .normal a' w' := fun c hc => by
        obtain ⟨t, e0, hQ⟩ := hrun c hc
        obtain ⟨s1, t', e1, e2, e3⟩ := frontA hEr hEt (hC c) (hP c) hcomm e0
        exact ⟨s1, t', e1, e2, fun t'' a' w' h1 h2 => hQ t'' a' w' (hEt _ _ _ e3 h1) h2⟩
      have hstep : if Region.wanted o (yielded ops a.tmps) then o.wp P a w (wpAny P .any ops Q fuel (listed.setIfInBounds k true)) Q else (wpAny P .any ops Q fuel (listed.setIfInBounds k true)) (a.put o.dst undef) w := by
        by_cases hkc : k = kc
        · subst hkc
          have hall' := hAll hun
          refine hSc o s a w _ ho (fun c => by obtain ⟨s1, _, e1, _⟩ := fr c (hall' c); exact ⟨s1, e1⟩) hr fun c s1 a' w' e1 h' => ?_
          refine ih (listed.setIfInBounds k true) s1 a' w' (fun c' => c' = c) (by simp [hsz]) hcl' (by rw [hleft]; exact hlen) ⟨c, rfl⟩ (fun h => by rw [hlk] at h; cases h) (fun c' hc' => ?_) h'
          subst hc'
          obtain ⟨s1', t', e1', e2, e3⟩ := fr c' (hall' c')
          rw [e1] at e1'
          cases e1'
          rw [hleft]
          exact ⟨t', e2, e3⟩
        · obtain ⟨c, hc⟩ := hA
          obtain ⟨s1, t', e1, e2, e3⟩ := fr c hc
          refine hS c k o s s1 a w _ ho hkc e1 hr fun a' w' h' => ?_
          refine ih (listed.setIfInBounds k true) s1 a' w' A (by simp [hsz]) hcl' (by rw [hleft]; exact hlen) ⟨c, hc⟩ (fun h => hAll (by simpa [Array.getElem?_setIfInBounds, hkc] using h)) (fun c' hc' => ?_) h'
          obtain ⟨s1', t'', e1', e2', e3'⟩ := fr c' hc'
          rw [hI c' c k hkc, e1] at e1'
          cases e1'
          rw [hleft]
          exact ⟨t'', e2', e3'⟩
      unfold wpOp
      rw [ho]
      simp only
      split
      · rename_i hw; rw [if_pos hw] at hstep; exact .inl hstep
      · rename_i hw; rw [if_neg hw] at hstep; exact hstep
end
end Go.Proofs.Ythcclcbliedodaa
namespace Go.Proofs.Ythcclcbliedodaa
open Go.RowKit

/-- Is no own object behind it? -/
def isR : SV → Bool
  | .t .undef => false
  | .t _ => true
  | .nil => true
  | .lit _ => true
  | _ => false
theorem isR_ren {π : Nat → Option Nat} {x : SV} (h : isR (x.ren π) = true) : x.ren π = x := by
  cases x <;> simp only [SV.ren] at h ⊢ <;> try (split at h <;> simp [isR] at h)
  all_goals simp [isR] at h
theorem isR_id {π : Nat → Option Nat} {x : SV} (h : isR x = true) : x.ren π = x := by
  cases x <;> first | rfl | (simp [isR] at h)
/-- A call whose own memory and arguments are these. -/
structure LoudS where
  heap : List Ob
  args : List SV
  heap' : List Ob
  r : SV
  π : Nat → Option Nat
def loudSt (s : St) (L : LoudS) (d : Option Nat) : St := ({ nt := s.nt, tmps := s.tmps.map fun p => (p.1, p.2.ren L.π), heap := L.heap' } : St).put d L.r
def LoudOk (P : Program) (G : World → Prop) (o : Oper) (L : LoudS) : Prop := ∀ (C : Ctx) (hd : List Hd) (a : Act) (w : World) (s : St) (K : Act → World → Prop) (Q : Exit → Act → World → Prop), G C.w0 → StR C s hd a w → s.heap = L.heap → o.op.operands.toList.map s.ev = L.args → dstOk s.nt o.dst = true →
  (∀ hd' a' w', StR C (loudSt s L o.dst) hd' a' w' → K a' w') → o.wp P a w K Q
structure QS (tt : Nat → Option TI) (tb : Tab) (o : Oper) (s : St) (x : SV) : Prop where
  guard : o.guard = none
  dst : dstOk s.nt o.dst = true
  args : o.op.operands.toList.all (fun y => isR (s.ev y)) = true
  val : ∀ H : List Ob, evalX tt tb ⟨s.nt, s.tmps, H⟩ o.op = some x
  res : isR x = true
open Classical in
noncomputable def stepS (ls : Nat → Option LoudS) (tt : Nat → Option TI) (tb : Tab) (ops : Array Oper) (k : Nat) (s : St) : Option St := match ops[k]? with
  | none => none
  | some o => match ls k with
    | some L => if o.guard = none ∧ s.heap = L.heap ∧ o.op.operands.toList.map s.ev = L.args ∧ dstOk s.nt o.dst = true then some (loudSt s L o.dst) else none
    | none => if h : ∃ x, QS tt tb o s x then some (s.put o.dst (Classical.choose h)) else none
section
variable {P : Program} {G : World → Prop} {tt : Nat → Option TI} {tb : Tab} {ops : Array Oper} {ls : Nat → Option LoudS}
theorem QS.eq {o : Oper} {s : St} {x y : SV} (h : QS tt tb o s x) (h' : QS tt tb o s y) : x = y := by
  have := h.val []
  rw [h'.val []] at this
  exact (Option.some.inj this).symm
theorem ev_heap (s : St) (H : List Ob) (y : Operand) : (⟨s.nt, s.tmps, H⟩ : St).ev y = s.ev y := by cases y <;> rfl
theorem QS.ev {o : Oper} {s s' : St} {x : SV} (h : QS tt tb o s x) (hn : s'.nt = s.nt) (he : ∀ y ∈ o.op.operands, s'.ev y = s.ev y) : QS tt tb o s' x := by
  refine ⟨h.guard, by rw [hn]; exact h.dst, List.all_eq_true.2 fun y hy => ?_, fun H => ?_, h.res⟩
  · rw [he y (by simpa using hy)]; exact List.all_eq_true.1 h.args y hy
  · rw [← h.val H]
    exact evalX_congr (s := ⟨s'.nt, s'.tmps, H⟩) (s' := ⟨s.nt, s.tmps, H⟩) rfl o.op fun y hy => by rw [ev_heap, ev_heap]; exact he y hy
theorem stepS_q {k : Nat} {s t : St} {o : Oper} (ho : ops[k]? = some o) (hl : ls k = none) : stepS ls tt tb ops k s = some t ↔ ∃ x, QS tt tb o s x ∧ t = s.put o.dst x := by
  unfold stepS
  rw [ho, hl]
  simp only
  constructor
  · intro h
    split at h
    · rename_i hx
      cases h
      exact ⟨_, Classical.choose_spec hx, rfl⟩
    · cases h
  · rintro ⟨x, hx, rfl⟩
    have he : ∃ x, QS tt tb o s x := ⟨x, hx⟩
    rw [dif_pos he, (Classical.choose_spec he).eq hx]
theorem stepS_l {k : Nat} {s t : St} {o : Oper} {L : LoudS} (ho : ops[k]? = some o) (hl : ls k = some L) : stepS ls tt tb ops k s = some t ↔ (o.guard = none ∧ s.heap = L.heap ∧ o.op.operands.toList.map s.ev = L.args ∧ dstOk s.nt o.dst = true) ∧ t = loudSt s L o.dst := by
  unfold stepS
  rw [ho, hl]
  simp only
  constructor
  · intro h
    split at h
    · rename_i hc; cases h; exact ⟨hc, rfl⟩
    · cases h
  · rintro ⟨hc, rfl⟩
    rw [if_pos hc]
theorem stepS_quiet {k : Nat} {s : St} {o : Oper} {x : SV} (ho : ops[k]? = some o) (hl : ls k = none) (h1 : o.guard = none) (h2 : dstOk s.nt o.dst = true) (h4 : ∀ H : List Ob, evalX tt tb ⟨s.nt, s.tmps, H⟩ o.op = some x) (h3 : o.op.operands.toList.all (fun y => isR (s.ev y)) = true) (h5 : isR x = true) : stepS ls tt tb ops k s = some (s.put o.dst x) :=
  (stepS_q ho hl).2 ⟨x, ⟨h1, h2, h3, h4, h5⟩, rfl⟩
theorem stepS_quietE {k : Nat} {s t : St} {o : Oper} {x : SV} (ho : ops[k]? = some o) (hl : ls k = none) (h1 : o.guard = none) (h2 : dstOk s.nt o.dst = true) (h4 : ∀ H : List Ob, evalX tt tb ⟨s.nt, s.tmps, H⟩ o.op = some x) (h3 : o.op.operands.toList.all (fun y => isR (s.ev y)) = true) (h5 : isR x = true) (h6 : s.put o.dst x = t) : stepS ls tt tb ops k s = some t := by
  subst h6
  exact stepS_quiet ho hl h1 h2 h4 h3 h5
theorem stepS_loud {k : Nat} {s : St} {o : Oper} {L : LoudS} (ho : ops[k]? = some o) (hl : ls k = some L) (h1 : o.guard = none) (h2 : s.heap = L.heap) (h3 : o.op.operands.toList.map s.ev = L.args) (h4 : dstOk s.nt o.dst = true) {t : St} (h5 : loudSt s L o.dst = t) : stepS ls tt tb ops k s = some t :=
  (stepS_l ho hl).2 ⟨⟨h1, h2, h3, h4⟩, h5.symm⟩
theorem loud_congr {s s' : St} (h : Eqv s s') (L : LoudS) (d : Option Nat) : Eqv (loudSt s L d) (loudSt s' L d) := by
  unfold loudSt
  have e : Eqv ({ nt := s.nt, tmps := s.tmps.map fun p => (p.1, p.2.ren L.π), heap := L.heap' } : St) { nt := s'.nt, tmps := s'.tmps.map fun p => (p.1, p.2.ren L.π), heap := L.heap' } := ⟨h.nt, rfl, fun t => by
    show look (s.tmps.map _) t = look (s'.tmps.map _) t
    rw [look_map, look_map, h.look]⟩
  exact e.put d L.r
theorem stepS_congr (k : Nat) (s s' t : St) (h : Eqv s s') (hs : stepS ls tt tb ops k s = some t) : ∃ t', stepS ls tt tb ops k s' = some t' ∧ Eqv t t' := by
  cases ho : ops[k]? with
  | none => unfold stepS at hs; rw [ho] at hs; cases hs
  | some o =>
    cases hl : ls k with
    | none =>
      obtain ⟨x, hx, rfl⟩ := (stepS_q ho hl).1 hs
      exact ⟨_, (stepS_q ho hl).2 ⟨x, hx.ev h.nt.symm fun y _ => (h.ev y).symm, rfl⟩, h.put _ _⟩
    | some L =>
      obtain ⟨⟨h1, h2, h3, h4⟩, rfl⟩ := (stepS_l ho hl).1 hs
      refine ⟨_, (stepS_l ho hl).2 ⟨⟨h1, by rw [← h.heap]; exact h2, ?_, by rw [← h.nt]; exact h4⟩, rfl⟩, loud_congr h L _⟩
      rw [← h3]
      exact List.map_congr_left fun y _ => (h.ev y).symm
theorem loud_ev {s : St} {L : LoudS} {d : Option Nat} {y : Operand} (hd : ∀ t, d = some t → y ≠ .tmp t) : (loudSt s L d).ev y = (s.ev y).ren L.π ∨ (loudSt s L d).ev y = s.ev y := by
  cases y with
  | tmp t =>
    left
    unfold loudSt
    rw [put_ev hd]
    show (look (s.tmps.map _) t).getD (.t .undef) = ((look s.tmps t).getD (.t .undef)).ren L.π
    rw [look_map]
    cases look s.tmps t <;> rfl
  | _ => exact .inr rfl
theorem QS.toLoud {s : St} {L : LoudS} {d : Option Nat} {o : Oper} {x : SV} (hd : ∀ t, d = some t → t ∉ o.looksAt ops) (h : QS tt tb o s x) : QS tt tb o (loudSt s L d) x :=
  h.ev (by unfold loudSt; rw [put_nt]) fun y hy => by
    have hR : isR (s.ev y) = true := List.all_eq_true.1 h.args y (by simpa using hy)
    rcases loud_ev (s := s) (L := L) (d := d) (y := y) (fun t e ey => hd t e (looks_op (by subst ey; exact hy))) with e | e
    · rw [e, isR_id hR]
    · exact e
theorem QS.ofLoud {s : St} {L : LoudS} {d : Option Nat} {o : Oper} {x : SV} (hd : ∀ t, d = some t → t ∉ o.looksAt ops) (h : QS tt tb o (loudSt s L d) x) : QS tt tb o s x :=
  h.ev (by unfold loudSt; rw [put_nt]) fun y hy => by
    have hR : isR ((loudSt s L d).ev y) = true := List.all_eq_true.1 h.args y (by simpa using hy)
    rcases loud_ev (s := s) (L := L) (d := d) (y := y) (fun t e ey => hd t e (looks_op (by subst ey; exact hy))) with e | e
    · rw [e] at hR ⊢
      exact (isR_ren hR).symm
    · exact e.symm
theorem loud_put (s : St) (L : LoudS) (d e : Option Nat) {x : SV} (hx : isR x = true) (hne : ∀ t, e = some t → d ≠ some t) : Eqv (loudSt (s.put e x) L d) ((loudSt s L d).put e x) := by
  have e1 : loudSt (s.put e x) L d = (({ nt := s.nt, tmps := s.tmps.map fun p => (p.1, p.2.ren L.π), heap := L.heap' } : St).put e x).put d L.r := by
    unfold loudSt
    cases e with
    | none => rfl
    | some t => simp only [St.put, List.map_cons, isR_id hx]
  rw [e1]
  unfold loudSt
  exact put_comm _ x L.r hne
def passS (lk : List Nat) (ops : Array Oper) (j k : Nat) : Bool := match ops[j]?, ops[k]? with
  | some x, some y => x.apart ops y && !(lk.contains j && lk.contains k)
  | _, _ => false
theorem swapS {lk : List Nat} (hlk : ∀ k L, ls k = some L → k ∈ lk) (j k : Nat) (s s1 s2 : St) (hp : passS lk ops j k = true) (h1 : stepS ls tt tb ops j s = some s1) (h2 : stepS ls tt tb ops k s1 = some s2) : ∃ u u', stepS ls tt tb ops k s = some u ∧ stepS ls tt tb ops j u = some u' ∧ Eqv s2 u' := by
  unfold passS at hp
  split at hp
  rotate_left
  · cases hp
  rename_i x y hx hy
  rw [Bool.and_eq_true] at hp
  obtain ⟨hap, hnl⟩ := hp
  obtain ⟨a1, a2, a3⟩ := Oper.apart_spec hap
  cases hj : ls j with
  | none =>
    obtain ⟨p, hpq, rfl⟩ := (stepS_q hx hj).1 h1
    cases hk : ls k with
    | none =>
      obtain ⟨q, hq, rfl⟩ := (stepS_q hy hk).1 h2
      have hq' : QS tt tb y s q := hq.ev (put_nt ..).symm fun z hz => (put_ev fun t e ez => a1 t e (looks_op (by subst ez; exact hz))).symm
      refine ⟨_, _, (stepS_q hy hk).2 ⟨q, hq', rfl⟩, (stepS_q hx hj).2 ⟨p, hpq.ev (put_nt ..) fun z hz => put_ev fun t e ez => a3 t e (looks_op (by subst ez; exact hz)), rfl⟩, put_comm s p q fun t e => a2 t e⟩
    | some L =>
      obtain ⟨⟨g1, g2, g3, g4⟩, rfl⟩ := (stepS_l hy hk).1 h2
      refine ⟨_, _, (stepS_l hy hk).2 ⟨⟨g1, by rw [← put_heap s x.dst p]; exact g2, ?_, by rw [← put_nt s x.dst p]; exact g4⟩, rfl⟩, (stepS_q hx hj).2 ⟨p, hpq.toLoud (ops := ops) fun t e => a3 t e, rfl⟩, loud_put s L _ _ hpq.res fun t e => a2 t e⟩
      rw [← g3]
      exact List.map_congr_left fun z hz => (put_ev fun t e ez => a1 t e (looks_op (by subst ez; simpa using hz))).symm
  | some L =>
    obtain ⟨⟨g1, g2, g3, g4⟩, rfl⟩ := (stepS_l hx hj).1 h1
    cases hk : ls k with
    | some L2 =>
      exfalso
      have e1 := hlk j L hj
      have e2 := hlk k L2 hk
      simp [e1, e2] at hnl
    | none =>
      obtain ⟨q, hq, rfl⟩ := (stepS_q hy hk).1 h2
      have hq' : QS tt tb y s q := hq.ofLoud (ops := ops) fun t e => a1 t e
      refine ⟨_, _, (stepS_q hy hk).2 ⟨q, hq', rfl⟩, (stepS_l hx hj).2 ⟨⟨g1, by rw [put_heap]; exact g2, ?_, by rw [put_nt]; exact g4⟩, rfl⟩, (loud_put s L _ _ hq.res fun t e e2 => a2 t e2 e).symm⟩
      rw [← g3]
      exact List.map_congr_left fun z hz => put_ev fun t e ez => a3 t e (looks_op (by subst ez; simpa using hz))
def topoS (lk : List Nat) (ops : Array Oper) : Bool := (List.range ops.size).all fun i => match ops[i]? with
  | some y => y.after.all (fun e => !Region.binds .any e || decide (e.on < i)) && (List.range i).all (fun j => ((ancs ops ops.size).getD i 0).testBit j || passS lk ops j i)
  | none => true
theorem topoS_spec {lk : List Nat} (htopo : topoS lk ops = true) : ∀ i y, ops[i]? = some y → (∀ e ∈ y.after, Region.binds .any e = true → e.on < i) ∧ ∀ j, j < i → ((ancs ops ops.size).getD i 0).testBit j = true ∨ passS lk ops j i = true := fun i y hy => by
  have hi := (Array.getElem?_eq_some_iff.1 hy).1
  have := List.all_eq_true.1 htopo i (List.mem_range.2 hi)
  rw [hy] at this
  simp only [Bool.and_eq_true] at this
  obtain ⟨h1, h2⟩ := this
  refine ⟨fun e he hb => ?_, fun j hj => by simpa using List.all_eq_true.1 h2 j (List.mem_range.2 hj)⟩
  have := (Array.all_eq_true_iff_forall_mem.1 h1) e he
  simpa [hb] using this
/-- A region that draws its order, with calls that make and take own objects. -/
theorem SW_drawS (ls : Nat → Option LoudS) (lk : List Nat) (hm : P.follows .mixedOrders = true) (hT : TTok P tt) (hGl : Lasting G) (htb : Tab.ok P G tb) {id : Nat} {ops : Array Oper} (htopo : topoS lk ops = true) (hlk : ∀ k L, ls k = some L → k ∈ lk) (hok : ∀ k L o, ls k = some L → ops[k]? = some o → LoudOk P G o L) {Q : Exit → St → Prop} {s t : St}
    (h : runA (stepS ls tt tb ops) (List.range ops.size) s = some t) (hq : Q .normal t) : SW P G (.region id ops true) Q s := fun C hd a w hG hr => by
  refine wp_region_any hm ?_
  refine wpAny_abs (γ := Unit) (E := Eqv) (fun s a w => ∃ hd, StR C s hd a w) (fun _ => stepS ls tt tb ops) ops.size Eqv.refl (fun _ _ _ h1 h2 => h1.trans h2) (fun _ _ _ _ => rfl) (fun _ => stepS_congr) (pass := fun j k => passS lk ops j k = true) (fun _ => swapS hlk) (topoS_spec htopo) ?_ ?_ ops.size (Array.replicate ops.size false) s a _ (fun _ => True) (by simp) (fun i y hi => by by_cases h : i < ops.size <;> simp [h] at hi) (by rw [left_all]; simp) ⟨(), trivial⟩ (fun _ _ => trivial) (fun _ _ => ⟨t, by rw [left_all]; exact h, fun t' a' w' h1 ⟨hd', h2⟩ => ⟨t, hd', hq, h1.symm.str h2⟩⟩) ⟨hd, hr.drawn⟩
  · rintro _ k o s s1 a w K ho _ hst ⟨hd, hr⟩ hK
    cases hl : ls k with
    | none =>
      obtain ⟨x, hx, rfl⟩ := (stepS_q ho hl).1 hst
      rw [if_pos (by simp [Region.wanted, hx.guard])]
      exact evalX_wp hT hGl htb hG hr o (hx.val s.heap) fun v w' h1 h2 => hK _ _ ⟨hd, h1.put' rfl hx.dst h2⟩
    | some L =>
      obtain ⟨⟨h1, h2, h3, h4⟩, rfl⟩ := (stepS_l ho hl).1 hst
      rw [if_pos (by simp [Region.wanted, h1])]
      exact hok k L o hl ho C hd a w s K _ hG hr h2 h3 h4 fun hd' a' w' h' => hK _ _ ⟨hd', h'⟩
  · intro o s a w K ho
    simp at ho
/-- A call that was lent own objects, or none. -/
theorem LoudOk.call {o : Oper} {c : Call} {f : Operand} {g : Nat} {fv : SV} {asl cap : List SV} {obs rst : List Ob} {ks : List Nat} {obs' : List Ob} {r : SV} (ho : o.op = .call c) (hc : c.callee = .value f) (hf : fnOf fv = some (g, cap)) (hs : SndG P G g (asl ++ cap) obs ks r obs') (hob : obs.map (Ob.ren (upto obs.length)) = obs) (hxs : (asl ++ cap).map (SV.ren (upto obs.length)) = asl ++ cap) :
    LoudOk P G o ⟨obs ++ rst, fv :: asl, (obs'.take obs.length).map (Ob.ren (lateG obs.length rst.length)) ++ rst.map (Ob.ren (pastG obs ks)) ++ (obs'.drop obs.length).map (Ob.ren (lateG obs.length rst.length)), r.ren (lateG obs.length rst.length), pastG obs ks⟩ := fun C hd a w s K Q hG hr hheap hargs hd0 hK => by
  have hops : o.op.operands.toList = f :: c.args.toList := by rw [ho]; simp [Op.operands, Call.operands, hc]
  rw [hops, List.map_cons, List.cons.injEq] at hargs
  obtain ⟨e1, e2⟩ := hargs
  obtain ⟨capv, hv, hcl, hcx⟩ := fnOf_rep (hr.ev f) (by rw [e1]; exact hf)
  simp only at hheap
  unfold Oper.wp
  rw [run_call ho hc hv hs.enter]
  rw [Oper.upon_enter]
  rw [← e2] at hs hxs
  refine (hs.calls (lentC C hd w obs.length hr.below.size (lent_hK hr obs.length)) (hd.take obs.length) w _ hG (lent_in hr hheap hob) (by simp [hcl]) fun k x v h1 h2 => ?_).mono fun e w' hq => ?_
  · have hx : RepS (vis C hd) w hd x v := by
      by_cases hk : k < c.args.size
      · rw [List.getElem?_append_left (by simpa using hk), List.getElem?_map, Option.map_eq_some_iff] at h1
        obtain ⟨z, hz, rfl⟩ := h1
        rw [Array.getElem?_append_left (by simpa using hk), Array.getElem?_map, Option.map_eq_some_iff] at h2
        obtain ⟨z', hz', rfl⟩ := h2
        rw [Array.getElem?_toList, hz'] at hz
        cases hz
        exact hr.ev _
      · rw [List.getElem?_append_right (by simpa using hk)] at h1
        rw [Array.getElem?_append_right (by simpa using hk)] at h2
        exact hcx _ x v (by simpa using h1) (by simpa using h2)
    have e3 : x.ren (upto obs.length) = x := by
      have h3 : ((c.args.toList.map s.ev ++ cap).map (SV.ren (upto obs.length)))[k]? = (c.args.toList.map s.ev ++ cap)[k]? := by rw [hxs]
      rw [List.getElem?_map, h1] at h3
      simpa using h3
    have := hx.ren (lent_stay hr obs.length) (keeps_upto hd obs.length)
    rwa [e3] at this
  · obtain ⟨v, hd1, rfl, h1, h2, hk, h3⟩ := hq
    obtain ⟨hr', hv'⟩ := lent_outG hr hheap hs.len h1 h2 hk
    exact hK _ _ w' (hr'.put' rfl hd0 (hv' r v h3))
end
end Go.Proofs.Ythcclcbliedodaa
namespace Go.Proofs.Ythcclcbliedodaa
open Go.RowKit

section
variable {P : Program} {G : World → Prop} {C : Ctx} {st : St} {hd : List Hd} {a : Act} {w : World} {tt : Nat → Option TI} {tb : Tab}
theorem lit_own (hr : StR C st hd a w) {e sz : Nat} {l : List T} {vs : Array Value} (h0 : 0 < sz) (hm : l.length ≤ maxLen) (hf : ∀ x ∈ l, x.cells.length = sz) (hc : RepL (vis C hd) w (flat l) vs.toList) :
    StR C { st with heap := st.heap ++ [.row e sz true l] } (hd ++ [.sl (some ⟨w.heap.size, 0, none⟩) l.length l.length (some w.heap.size)]) a (w.alloc (.cells vs e)) := by
  have hb := alloc_below w (.cells vs e)
  have hlt : w.heap.size < (w.alloc (.cells vs e)).heap.size := (Array.getElem?_eq_some_iff.1 (heap_alloc_new w (.cells vs e))).1
  have hsz : vs.size = l.length * sz := by have := hc.len; rw [flat_length hf] at this; simpa using this
  refine hr.new hb _ _ (fun b hbo => ?_) ⟨rfl, h0, hm, hf, .inl ⟨vs.toList, ⟨by simpa using hsz, .inr ⟨w.heap.size, l.length, vs, rfl, hr.below.size, heap_alloc_new w _, Nat.le_refl _, hm, hsz, ?_⟩⟩, rfl, hc.keep ⟨hb.size, fun b hS hl => ⟨hb.block b hl, hS.1, fun x hx e => ?_⟩⟩⟩⟩
  · simp only [Hd.own, Option.some.injEq] at hbo
    subst hbo
    exact ⟨Nat.le_refl _, hlt⟩
  · rw [← hsz]
    exact List.take_of_length_le (by simp)
  · rcases List.mem_append.1 hx with hx | hx
    · exact hS.2 x hx e
    · simp at hx; subst hx
      simp only [Hd.own, Option.some.injEq] at e
      omega
theorem litO_ok (hr : StR C st hd a w) {t e : Nat} {i ie : TI} (hi : TIok P t i) (hk : i.k = .slice e) (he : TIok P e ie) {len : Nat} {parts : Array (Nat × Operand)} {ys : List T} (h : st.litQ ie len parts.toList = some (.lit ys)) :
    ∃ v w' hd', (Instr.buildSlice t len (parts.map fun (i, x) => (i, a.eval x))).run P w = .ok v w' ∧ StR C { st with heap := st.heap ++ [.row e ie.sz true ys] } hd' a w' ∧ RepS (vis C hd') w' hd' (.sref st.heap.length) v := by
  have hs := hi.says
  rw [hk] at hs; simp only [TK.says] at hs
  unfold St.litQ at h
  split at h
  · rename_i hc
    obtain ⟨h1, h2, h3, h4⟩ := hc
    split at h
    · rename_i zs hz
      split at h
      · rename_i hall
        simp only [Option.some.injEq, SV.lit.injEq] at h
        subst h
        rw [List.all_eq_true] at hall
        have hlen : parts.size = len := by simpa using h2
        obtain ⟨l1, t1⟩ := trL_get hz
        simp at l1
        have hyl : zs.length = len := by omega
        have hf : ∀ x ∈ zs, x.cells.length = ie.sz := fun x hx => by have := hall x hx; simp at this; exact this.2
        have hparts : ∀ k, k < len → ∃ p y, parts[k]? = some p ∧ p.1 = k ∧ zs[k]? = some y ∧ RepL (vis C hd) w y.cells (a.eval p.2).cells.toList := fun k hk => by
          have e1 : parts.toList[k]? = some parts.toList[k] := List.getElem?_eq_getElem (by simpa [hlen] using hk)
          have e2 : zs[k]? = some zs[k] := List.getElem?_eq_getElem (by omega)
          refine ⟨_, _, by rw [← Array.getElem?_toList]; exact e1, by have := idxOk_spec h1 k _ e1; omega, e2, ?_⟩
          have := tr_ok hr (hr.ev _) (t1 k _ _ (by rw [List.getElem?_map, e1]; rfl) e2)
          have hst := hall _ (List.getElem_mem (by omega : k < zs.length))
          simp at hst
          exact this.toL hst.1
        obtain ⟨z, z1, z2, _⟩ := he.zL (S := fun _ => False) (w := w)
        have hfl : RepL (vis C hd) w (flat zs) ((parts.toList.map fun p => (p.1, a.eval p.2)).flatMap fun p => p.2.cells.toList) := by
          have key : ∀ (l : List T) (m : List (Nat × Value)), l.length = m.length → (∀ (k : Nat) (y : T) (p : Nat × Value), l[k]? = some y → m[k]? = some p → RepL (vis C hd) w y.cells p.2.cells.toList) → RepL (vis C hd) w (flat l) (m.flatMap fun p => p.2.cells.toList) := by
            intro l
            induction l with
            | nil => intro m hm _; obtain rfl : m = [] := List.eq_nil_of_length_eq_zero (by simpa using hm.symm); exact RepL.nil _ _
            | cons y l ih =>
              intro m hm hh
              cases m with
              | nil => simp at hm
              | cons p m =>
                simp only [flat, List.flatMap_cons]
                exact (hh 0 y p rfl rfl).append (ih m (by simpa using hm) fun k y p a b => hh (k + 1) y p (by simpa using a) (by simpa using b))
          refine key zs _ (by simp; omega) fun k y p a1 a2 => ?_
          have hk := (List.getElem?_eq_some_iff.1 a1).1
          obtain ⟨q, y', e1, e2, e3, e4⟩ := hparts k (by omega)
          rw [a1] at e3; cases e3
          rw [List.getElem?_map, Array.getElem?_toList, e1] at a2
          simp at a2; subst a2
          exact e4
        have hfill : ∀ cells : Array Value, cells.size = len * ie.sz → Instr.fill (fun i => some (i * ie.sz, ie.sz)) cells (parts.toList.map fun p => (p.1, a.eval p.2)) = some ((parts.toList.map fun p => (p.1, a.eval p.2)).flatMap fun p => p.2.cells.toList).toArray := fun cells hcs => by
          have := fill_lit he.pos 0 (parts.toList.map fun p => (p.1, a.eval p.2)) cells (fun j p hj => by
            rw [List.getElem?_map, Option.map_eq_some_iff] at hj
            obtain ⟨q, hq, rfl⟩ := hj
            have hk := (List.getElem?_eq_some_iff.1 hq).1
            simp at hk
            obtain ⟨p', y', e1, e2, e3, e4⟩ := hparts j (by omega)
            rw [Array.getElem?_toList, e1] at hq
            cases hq
            refine ⟨by simpa using e2, ?_⟩
            have := e4.len
            rw [hf y' (List.mem_of_getElem? e3)] at this
            simpa using this) (by simp [hcs, hlen])
          simpa using this
        have hlw := lit_own (e := e) (vs := ((parts.toList.map fun p => (p.1, a.eval p.2)).flatMap fun p => p.2.cells.toList).toArray) hr he.pos (l := zs) (by simp only [maxLen]; omega) hf (by simpa using hfl)
        refine ⟨_, _, _, ?_, hlw, .sref _ _ _ _ _ (by rw [← hr.hl, List.getElem?_append_right (Nat.le_refl _), Nat.sub_self]; rfl)⟩
        unfold Instr.buildSlice
        rw [Sem.run_bind, run_underlying hs, Result.andThen_ok]
        simp only []
        rw [Sem.run_bind, he.sizeOf, Result.andThen_ok]
        rw [if_neg (by omega)]
        have hmap : (parts.map fun (i, x) => (i, a.eval x)).toList = parts.toList.map fun p => (p.1, a.eval p.2) := by simp
        by_cases h0 : len * ie.sz = 0
        · rw [if_pos h0, Sem.run_bind, Sem.run_pure, Result.andThen_ok, hmap, hfill _ (by simp)]
          simp only []
          rw [Sem.run_bind]
          simp [newRow, hyl]
        · rw [if_neg h0, Sem.run_bind, z1, Result.andThen_ok, Sem.run_bind, Sem.run_pure, Result.andThen_ok, hmap, hfill _ (by simp)]
          simp only []
          rw [Sem.run_bind]
          simp [newRow, hyl]
      · cases h
    · cases h
  · cases h
/-- An operation of a region that makes a slice that is written later. -/
theorem SL_litO (hT : TTok P tt) {Q : Exit → St → Prop} {ops : Array Oper} {o : Oper} {rest : List Oper} {t len e : Nat} {parts : Array (Nat × Operand)} {i ie : TI} {ys : List T} (ho : o.op = .buildSlice t len parts) (hgd : o.guard = none) (hd0 : dstOk st.nt o.dst = true) (hi : tt t = some i) (hk : i.k = .slice e) (he : tt e = some ie) (hq : st.litQ ie len parts.toList = some (.lit ys))
    (h : SL P G ops rest Q (({ st with heap := st.heap ++ [.row e ie.sz true ys] } : St).put o.dst (.sref st.heap.length))) : SL P G ops (o :: rest) Q st := fun C hd a w hG hr => by
  unfold wpList
  rw [if_pos (by simp [Region.wanted, hgd])]
  left
  obtain ⟨v, w', hd', h1, h2, h3⟩ := litO_ok hr (hT t i hi) hk (hT e ie he) hq
  have hx : (execOp a.eval o).run P w = .ok (.value v) w' := by
    obtain ⟨dst, op, ty, pos, after, guard⟩ := o
    simp only at ho
    subst ho
    exact run_val h1
  unfold Oper.wp
  rw [hx]
  exact h C _ _ w' hG (h2.put' rfl hd0 h3)
end
end Go.Proofs.Ythcclcbliedodaa
namespace Go.Proofs.Ythcclcbliedodaa
open Go.RowKit

theorem Norm.ids (ids : List Nat) (hdis : distinct ids = true) (st : St) : Norm st { nt := st.nt, tmps := st.tmps.map fun p => (p.1, p.2.ren (posIn ids)), heap := ids.map fun i => ((st.heap[i]?).getD .gone).ren (posIn ids) } := fun C hd a w hr => by
  have hd'e : ∀ (k : Nat) (g : Hd), (ids.map fun i => (hd[i]?).getD .no)[k]? = some g → ∃ i, ids[k]? = some i ∧ g = (hd[i]?).getD .no := fun k g hg => by
    rw [List.getElem?_map, Option.map_eq_some_iff] at hg
    obtain ⟨i, h1, rfl⟩ := hg
    exact ⟨i, h1, rfl⟩
  have hsub : ∀ g b, g ∈ (ids.map fun i => (hd[i]?).getD .no) → g.own = some b → g ∈ hd := fun g b hg hb => by
    obtain ⟨i, _, rfl⟩ := List.mem_map.1 hg
    cases e : hd[i]? with
    | none => rw [e] at hb; simp [Hd.own] at hb
    | some x => exact List.mem_of_getElem? e
  have hst : Stay (vis C hd) (vis C (ids.map fun i => (hd[i]?).getD .no)) w w := ⟨Nat.le_refl _, fun b hb _ => ⟨rfl, hb.1, fun g hg e => hb.2 g (hsub g b hg e) e⟩⟩
  have hk : Keeps (posIn ids) hd (ids.map fun i => (hd[i]?).getD .no) := fun i j g hj hi => by
    have := posIn_spec hj
    exact ⟨g, by rw [List.getElem?_map, this]; simp [hi], .inl rfl⟩
  refine ⟨ids.map fun i => (hd[i]?).getD .no, hr.change (posIn ids) (Below.refl _ _) hst hk (by simp) (fun k o g h1 h2 => ?_) (fun g b hg hb => hr.own g b (hsub g b hg hb) hb) (fun i j gi gj b h1 h2 h3 h4 => ?_) (fun _ _ _ => rfl) (fun g b hg hb => .inl ⟨g, hsub g b hg hb, hb⟩)⟩
  · obtain ⟨i, e1, rfl⟩ := hd'e k g h2
    rw [List.getElem?_map, e1] at h1
    simp at h1
    subst h1
    cases e : hd[i]? with
    | none =>
      have : st.heap[i]? = none := by
        rw [List.getElem?_eq_none_iff] at e ⊢; rw [← hr.hl]; exact e
      rw [this]; exact trivial
    | some g =>
      have hi : i < st.heap.length := by rw [← hr.hl]; exact (List.getElem?_eq_some_iff.1 e).1
      have e2 : st.heap[i]? = some st.heap[i] := List.getElem?_eq_getElem hi
      rw [e2]
      exact ObR.ren hst hk (fun _ _ => rfl) (hr.ob i _ g e2 e)
  · obtain ⟨x, e1, rfl⟩ := hd'e i gi h1
    obtain ⟨y, e2, rfl⟩ := hd'e j gj h2
    have : x = y := by
      cases ex : hd[x]? with
      | none => rw [ex] at h3; simp [Hd.own] at h3
      | some gx =>
        cases ey : hd[y]? with
        | none => rw [ey] at h4; simp [Hd.own] at h4
        | some gy =>
          rw [ex] at h3; rw [ey] at h4
          exact hr.dist x y gx gy b ex ey h3 h4
    subst this
    exact distinct_spec hdis i j x e1 e2
mutual
theorem SV.ren_ren (π ρ : Nat → Option Nat) : ∀ x : SV, (x.ren π).ren ρ = x.ren fun i => (π i).bind ρ
  | .t _ => rfl
  | .nil => rfl
  | .lit _ => rfl
  | .agg l => by simp only [SV.ren, renL_renL π ρ l]
  | .sref i => by simp only [SV.ren]; cases π i <;> simp [SV.ren]
  | .cut i m => by simp only [SV.ren]; cases π i <;> simp [SV.ren]
  | .bptr i o => by simp only [SV.ren]; cases π i <;> simp [SV.ren]
  | .eptr i sz k o => by simp only [SV.ren]; cases π i <;> simp [SV.ren]
  | .map i => by simp only [SV.ren]; cases π i <;> simp [SV.ren]
  | .fn f cap => by simp only [SV.ren, renL_renL π ρ cap]
  | .pin i b => by simp only [SV.ren]; cases π i <;> simp [SV.ren]
  | .pinS i a n c => by simp only [SV.ren]; cases π i <;> simp [SV.ren]
theorem renL_renL (π ρ : Nat → Option Nat) : ∀ l : List SV, renL ρ (renL π l) = renL (fun i => (π i).bind ρ) l
  | [] => rfl
  | x :: t => by simp only [renL, SV.ren_ren π ρ x, renL_renL π ρ t]
end
section
variable {P : Program} {G : World → Prop}
theorem SndG.weak {f : Nat} {xs xs' : List SV} {obs : List Ob} {ks : List Nat} {r : SV} {obs' : List Ob} (h : SndG P G f xs obs ks r obs') (hl : xs'.length = xs.length) (hw : ∀ (S : Nat → Prop) (w : World) (hd : List Hd) (k : Nat) (x x' : SV) (v : Value), xs[k]? = some x → xs'[k]? = some x' → RepS S w hd x' v → RepS S w hd x v) : SndG P G f xs' obs ks r obs' :=
  ⟨h.enter, h.len, h.box, fun C hd w vs hG hr hvs hrep => h.calls C hd w vs hG hr (by rw [hvs, hl]) fun k x v h1 h2 => by
    have hk : k < xs'.length := by rw [hl]; exact (List.getElem?_eq_some_iff.1 h1).1
    exact hw _ _ _ k x _ v h1 (List.getElem?_eq_getElem hk) (hrep k _ v (List.getElem?_eq_getElem hk) h2)⟩
theorem RepS.litT {S : Nat → Prop} {w : World} {hd : List Hd} {l : List T} {v : Value} (h : RepS S w hd (.lit l) v) : RepS S w hd (.t (.list l)) v := by
  cases h with
  | lit _ b h _ => exact .t _ _ h
/-- Of own objects that are named by ids; what is not named is forgotten. -/
theorem LoudOk.perm {o : Oper} (ids : List Nat) (hdis : distinct ids = true) {heap : List Ob} {args : List SV} {L : LoudS} (h : LoudOk P G o L) (hh : ids.map (fun i => ((heap[i]?).getD .gone).ren (posIn ids)) = L.heap) (ha : args.map (SV.ren (posIn ids)) = L.args) (hc : ∀ v, (.const v) ∈ o.op.operands → ((⟨0, [], []⟩ : St).ev (.const v)).ren (posIn ids) = (⟨0, [], []⟩ : St).ev (.const v)) :
    LoudOk P G o ⟨heap, args, L.heap', L.r, fun i => (posIn ids i).bind L.π⟩ := fun C hd a w s K Q hG hr hheap hargs hd0 hK => by
  obtain ⟨hd1, hr1⟩ := Norm.ids ids hdis s C hd a w hr
  simp only at hheap hargs
  refine h C hd1 a w _ K Q hG hr1 (by rw [hheap]; exact hh) ?_ hd0 fun hd' a' w' h' => hK hd' a' w' ?_
  · rw [← ha, ← hargs, List.map_map]
    refine List.map_congr_left fun y hy => ?_
    have hy' : y ∈ o.op.operands := by simpa using hy
    cases y with
    | tmp t =>
      show (look (s.tmps.map _) t).getD (.t .undef) = ((look s.tmps t).getD (.t .undef)).ren (posIn ids)
      rw [look_map]
      cases look s.tmps t <;> rfl
    | const v => exact (hc v hy').symm
    | _ => rfl
  · have e : loudSt s ⟨heap, args, L.heap', L.r, fun i => (posIn ids i).bind L.π⟩ o.dst = loudSt { nt := s.nt, tmps := s.tmps.map fun p => (p.1, p.2.ren (posIn ids)), heap := ids.map fun i => ((s.heap[i]?).getD .gone).ren (posIn ids) } L o.dst := by
      unfold loudSt
      simp only [List.map_map, Function.comp_def, SV.ren_ren]
    rw [e]; exact h'
end
end Go.Proofs.Ythcclcbliedodaa
namespace Go.Proofs.Ythcclcbliedodaa

def dOf (N : List (List Int)) (s l : Nat) : Nat := ((N.getD s []).getD l 0).toNat
/-- Is it a least automaton? The words part its states. -/
def leastChk (n : Nat) (N : List (List Int)) (E : List Bool) (ws : List (List Nat)) : Bool :=
  decide (E.length = N.length) && decide (0 < N.length) && N.all (fun r => decide (r.length = n) && r.all fun x => decide (0 ≤ x) && decide (x < N.length)) &&
  ((List.range N.length).all fun s => (List.range n).all fun l => (List.range (dOf N s l)).all fun t => t == 0 || (List.range (s + 1)).any fun s' => (List.range n).any fun l' => (decide (s' < s) || (s' == s && decide (l' < l))) && dOf N s' l' == t) &&
  ((List.range N.length).all fun t => t == 0 || (List.range t).any fun s => (List.range n).any fun l => dOf N s l == t) &&
  ws.all (fun w => w.all fun l => decide (l < n)) &&
  ((List.range N.length).all fun s => (List.range N.length).all fun t => s == t || ws.any fun w => E.getD (runN (dOf N) s w) false != E.getD (runN (dOf N) t w) false)
theorem rows_run {n m : Nat} {N : List (List Int)} (h : Rows0 n m N) : ∀ (w : List Nat) (s : Nat), s < m → Ltr n w → runS N (s : Int) w = (runN (dOf N) s w : Nat)
  | [], s, _, _ => rfl
  | l :: w, s, hs, hw => by
    have hl : l < n := hw l List.mem_cons_self
    have h1 := nx_ok h (s := (s : Int)) ⟨by omega, by omega⟩ hl
    have h2 : nx N (s : Int) l = (dOf N s l : Nat) := by
      have : nx N (s : Int) l = (N.getD s []).getD l 0 := by unfold nx rowOf; rw [Int.toNat_natCast]
      unfold dOf; rw [← this]; omega
    have h3 : dOf N s l < m := by rw [h2] at h1; omega
    show runS N (nx N (s : Int) l) w = _
    rw [h2]
    exact rows_run h w _ h3 fun x hx => hw x (List.mem_cons_of_mem _ hx)
theorem least_chk {n : Nat} {N : List (List Int)} {E : List Bool} (ws : List (List Nat)) (h : leastChk n N E ws = true) : Least n N E (lang N E 0) := by
  unfold leastChk at h
  simp only [Bool.and_eq_true, decide_eq_true_eq, List.all_eq_true, List.mem_range, Bool.or_eq_true, beq_iff_eq, List.any_eq_true, bne_iff_ne] at h
  obtain ⟨⟨⟨⟨⟨⟨h1, h2⟩, h3⟩, h4⟩, h5⟩, h6⟩, h7⟩ := h
  have hR : Rows0 n N.length N := ⟨rfl, fun r hr => (h3 r hr).1, fun r hr x hx => (h3 r hr).2 x hx⟩
  have hlt : ∀ s l, s < N.length → l < n → dOf N s l < N.length := fun s l hs hl => by
    have h1 := nx_ok hR (s := (s : Int)) ⟨by omega, by omega⟩ hl
    have : nx N (s : Int) l = (N.getD s []).getD l 0 := by unfold nx rowOf; rw [Int.toNat_natCast]
    unfold dOf; rw [← this]; omega
  refine ⟨h1, hR.row, fun r hr x hx => (hR.ok r hr x hx).1, h2, hlt, fun w hw => ?_, fun s l hs hl t h0 ht => ?_, fun t h0 ht => ?_, fun s t hs ht hh => ?_⟩
  · unfold lang endOf
    have := rows_run hR w 0 h2 hw
    rw [show ((0 : Nat) : Int) = 0 from rfl] at this
    rw [this, Int.toNat_natCast]; rfl
  · rcases h4 s hs l hl t ht with e | ⟨s', hs', l', hl', hb, e⟩
    · omega
    · exact ⟨s', l', hl', by unfold Before; omega, e⟩
  · rcases h5 t ht with e | ⟨s, hs, l, hl, e⟩
    · omega
    · exact ⟨s, l, hs, hl, e⟩
  · rcases h7 s hs t ht with e | ⟨w, hw, e⟩
    · exact e
    · exact (e (hh w fun l hl => by have := h6 w hw l hl; simpa using this)).elim
/-- Rows that are a least automaton are their own. -/
theorem leastRE_chk {n m : Nat} {next N : List (List Int)} {ends E : List Bool} (ws : List (List Nat)) (h : leastChk n N E ws = true) (hR : Rows0 n m next) (hm : 0 < m) (hL : ∀ w, Ltr n w → lang next ends 0 w = lang N E 0 w) : leastRE n next ends = (N, E) :=
  leastRE_eq hR hm ((least_chk ws h).lang_congr fun w hw => (hL w hw).symm)
end Go.Proofs.Ythcclcbliedodaa
namespace Go.Proofs.Ythcclcbliedodaa
open Go.RowKit

/-- A hidden row. -/
structure HR where
  a : Option Addr
  n : Nat
  cap : Nat
  e : Nat
  sz : Nat
  l : List T
def HR.raw (h : HR) : T := .raw h.a h.n h.cap
def HR.val (h : HR) : Value := .slice h.a h.n h.cap
structure HRok (C : Ctx) (h : HR) : Prop where
  n : h.n = h.l.length
  sz : 0 < h.sz
  max : h.l.length ≤ maxLen
  cells : ∀ x ∈ h.l, x.cells.length = h.sz
  flatD : ∀ x ∈ h.l, x.flatData = true
  row : ∃ xs, C.w1.ownsRow C.w0.heap.size h.e h.sz h.val h.n xs ∧ RepL (fun _ => False) C.w1 (flat h.l) xs
  hid : ∀ b, h.val.ownBlock = some b → C.K b
structure Hid {κ : Type} (g : κ → Option HR) (C : Ctx) : Prop where
  ok : ∀ x h, g x = some h → HRok C h
  dist : ∀ x y h h' b, g x = some h → g y = some h' → h.val.ownBlock = some b → h'.val.ownBlock = some b → x = y
theorem Hid.empty {κ : Type} (C : Ctx) : Hid (fun _ : κ => none) C := ⟨fun _ _ h => (by cases h), fun _ _ _ _ _ h _ _ _ => (by cases h)⟩
def upd {κ : Type} [DecidableEq κ] (g : κ → Option HR) (x : κ) (h : Option HR) : κ → Option HR := fun y => if y = x then h else g y

section
variable {P : Program} {G : World → Prop} {κ : Type} {tt : Nat → Option TI} {tb : Tab}
def LiftH (C : Ctx) (Q : Exit → St → (κ → Option HR) → Prop) : Exit → Act → World → Prop := fun e a w => ∃ C' st hd g, C'.w0 = C.w0 ∧ C'.S0 = C.S0 ∧ Q e st g ∧ Hid g C' ∧ StR C' st hd a w
theorem LiftH.eq {C C' : Ctx} {Q : Exit → St → (κ → Option HR) → Prop} (h1 : C'.w0 = C.w0) (h2 : C'.S0 = C.S0) : LiftH C' Q = LiftH C Q := by
  funext e a w
  unfold LiftH
  rw [h1, h2]
def HW (P : Program) (G : World → Prop) (c : Code) (Q : Exit → St → (κ → Option HR) → Prop) (st : St) (g : κ → Option HR) : Prop := ∀ C hd a w, G C.w0 → Hid g C → StR C st hd a w → c.wp P (LiftH C Q) a w
def HThen (K : St → (κ → Option HR) → Prop) (Q : Exit → St → (κ → Option HR) → Prop) : Exit → St → (κ → Option HR) → Prop
  | .normal, st, g => K st g
  | e, st, g => Q e st g
def HIn (id : Nat) (Q : Exit → St → (κ → Option HR) → Prop) : Exit → St → (κ → Option HR) → Prop
  | .exit id', st, g => if id' = id then Q .normal st g else Q (.exit id') st g
  | e, st, g => Q e st g
variable {Q : Exit → St → (κ → Option HR) → Prop} {st : St} {g : κ → Option HR} {c : Code}
/-- What needs none of the hidden rows. -/
theorem HW_sw (h : SW P G c (fun e s => Q e s g) st) : HW P G c Q st g := fun C hd a w hG hg hr =>
  wp_mono (h C hd a w hG hr) fun e a' w' ⟨st', hd', h1, h2⟩ => ⟨C, st', hd', g, rfl, rfl, h1, hg, h2⟩
theorem HW_seq {x y : Code} (h : HW P G x (HThen (HW P G y Q) Q) st g) : HW P G (.seq x y) Q st g := fun C hd a w hG hg hr => by
  refine wp_seq (wp_mono (h C hd a w hG hg hr) fun e a' w' hq => ?_)
  obtain ⟨C', st', hd', g', h1, h2, h3, h4, h5⟩ := hq
  cases e with
  | normal =>
    have := h3 C' hd' a' w' (by rw [h1]; exact hG) h4 h5
    rwa [LiftH.eq h1 h2] at this
  | _ => exact ⟨C', st', hd', g', h1, h2, h3, h4, h5⟩
theorem HW_block {id : Nat} (h : HW P G c (HIn id Q) st g) : HW P G (.block id c) Q st g := fun C hd a w hG hg hr => by
  refine wp_block (wp_mono (h C hd a w hG hg hr) fun e a' w' hq => ?_)
  obtain ⟨C', st', hd', g', h1, h2, h3, h4, h5⟩ := hq
  cases e with
  | exit id' =>
    simp only [HIn] at h3
    simp only [Exit.inBlock]
    split
    · rename_i e; rw [if_pos e] at h3; exact ⟨C', st', hd', g', h1, h2, h3, h4, h5⟩
    · rename_i e; rw [if_neg e] at h3; exact ⟨C', st', hd', g', h1, h2, h3, h4, h5⟩
  | _ => exact ⟨C', st', hd', g', h1, h2, h3, h4, h5⟩
theorem HW_cond {o : Operand} {x y : Code} {b : Bool} (hc : st.ev o = .t (.bool b)) (h1 : b = true → HW P G x Q st g) (h2 : b = false → HW P G y Q st g) : HW P G (.cond o x y) Q st g := fun C hd a w hG hg hr => by
  have h3 := hr.ev o
  rw [hc] at h3
  generalize hv : a.eval o = v at h3
  have h4 := h3.toT
  cases h4
  exact wp_cond_split hv (fun e => h1 e C hd a w hG hg hr) (fun e => h2 e C hd a w hG hg hr)
theorem HW_true {o : Operand} {x y : Code} (hc : st.ev o = .t (.bool true)) (h : HW P G x Q st g) : HW P G (.cond o x y) Q st g := HW_cond hc (fun _ => h) (fun e => by cases e)
theorem HW_false {o : Operand} {x y : Code} (hc : st.ev o = .t (.bool false)) (h : HW P G y Q st g) : HW P G (.cond o x y) Q st g := HW_cond hc (fun e => by cases e) (fun _ => h)
theorem HW_skip (h : Q .normal st g) : HW P G .skip Q st g := HW_sw (SW_skip h)
theorem HW_exit {id : Nat} (h : Q (.exit id) st g) : HW P G (.exit id) Q st g := HW_sw (SW_exit h)
theorem HW_ret (h : Q .ret st g) : HW P G .ret Q st g := HW_sw (SW_ret h)
theorem HW_norm {st' : St} (hn : Norm st st') (h : HW P G c Q st' g) : HW P G c Q st g := fun C hd a w hG hg hr => by
  obtain ⟨hd', hr'⟩ := hn C hd a w hr
  exact h C hd' a w hG hg hr'
/-- A step that does nothing: what was own is hidden, what was hidden is shown. -/
def GS {α : Type} (st : St) (g : κ → Option HR) (st' : α → St) (g' : α → κ → Option HR) : Prop := ∀ C hd a w, Hid g C → StR C st hd a w → ∃ x C' hd', C'.w0 = C.w0 ∧ C'.S0 = C.S0 ∧ Hid (g' x) C' ∧ StR C' (st' x) hd' a w
theorem GS.trans {α β : Type} {s1 : St} {g1 : κ → Option HR} {s2 : α → St} {g2 : α → κ → Option HR} {s3 : α → β → St} {g3 : α → β → κ → Option HR} (h : GS s1 g1 s2 g2) (h' : ∀ x, GS (s2 x) (g2 x) (s3 x) (g3 x)) : GS s1 g1 (fun p : α × β => s3 p.1 p.2) (fun p => g3 p.1 p.2) := fun C hd a w hg hr => by
  obtain ⟨x, C', hd', h1, h2, h3, h4⟩ := h C hd a w hg hr
  obtain ⟨y, C2, hd2, k1, k2, k3, k4⟩ := h' x C' hd' a w h3 h4
  exact ⟨(x, y), C2, hd2, k1.trans h1, k2.trans h2, k3, k4⟩
theorem HW_loop (I : Nat → St → (κ → Option HR) → Prop) (n : Nat) (h0 : ∃ st', Norm st st' ∧ I n st' g) (h : ∀ n s g, I n s g → HW P G c (HThen (fun s' g' => ∃ n' s'', n' < n ∧ Norm s' s'' ∧ I n' s'' g') Q) s g) : HW P G (.loop c) Q st g := fun C hd a w hG hg hr => by
  obtain ⟨st', hn, hI⟩ := h0
  obtain ⟨hd', hr'⟩ := hn C hd a w hr
  refine wp_loop_ghost (fun n a w => ∃ C' s hd g, C'.w0 = C.w0 ∧ C'.S0 = C.S0 ∧ I n s g ∧ Hid g C' ∧ StR C' s hd a w) n ⟨C, st', hd', g, rfl, rfl, hI, hg, hr'⟩ fun n a w hq => ?_
  obtain ⟨C1, s, hd1, g1, q1, q2, hI1, hg1, hr1⟩ := hq
  refine wp_mono (h n s g1 hI1 C1 hd1 a w (by rw [q1]; exact hG) hg1 hr1) fun e a' w' hq => ?_
  obtain ⟨C2, s', hd2, g2, k1, k2, h1, h2, h3⟩ := hq
  cases e with
  | normal =>
    obtain ⟨n', s'', h4, h5, h6⟩ := h1
    obtain ⟨hd3, h7⟩ := h5 C2 hd2 a' w' h3
    exact ⟨n', h4, C2, s'', hd3, g2, k1.trans q1, k2.trans q2, h6, h2, h7⟩
  | _ => exact ⟨C2, s', hd2, g2, k1.trans q1, k2.trans q2, h1, h2, h3⟩
/-- The context anew: what was written until now is as it is. -/
def reC (C : Ctx) (w : World) (hd : List Hd) (K : Nat → Prop) (h1 : C.w0.heap.size ≤ w.heap.size) (h2 : ∀ b, K b → b < w.heap.size ∧ ¬ ∃ h ∈ hd, h.own = some b) : Ctx := ⟨C.S0, C.w0, w, fun b => ∃ h ∈ hd, h.own = some b, K, h1, h2⟩
theorem hid_free {C : Ctx} {hd : List Hd} {a : Act} {w : World} (hr : StR C st hd a w) {b : Nat} (hb : C.K b) : b < w.heap.size ∧ w.heap[b]? = C.w1.heap[b]? ∧ ∀ h ∈ hd, h.own ≠ some b := by
  obtain ⟨k1, k2⟩ := C.hK b hb
  refine ⟨Nat.lt_of_lt_of_le k1 hr.ext.gro, hr.ext.stay b k1 k2, fun h hh e => ?_⟩
  rcases hr.ext.lent h b hh e with q | q
  · exact k2 q
  · omega
theorem HRok.move {C C' : Ctx} {h : HR} (hh : HRok C h) (e0 : C'.w0 = C.w0) (hK : ∀ b, h.val.ownBlock = some b → C'.K b ∧ C'.w1.heap[b]? = C.w1.heap[b]?) : HRok C' h := by
  obtain ⟨xs, h1, h2⟩ := hh.row
  refine ⟨hh.n, hh.sz, hh.max, hh.cells, hh.flatD, ⟨xs, ?_, ?_⟩, fun b e => (hK b e).1⟩
  · rw [e0]
    exact ownsRow_same h1 fun k e => (hK k e).2
  · refine ⟨h2.len, h2.one, fun k y v e1 e2 => (h2.rep k y v e1 e2).flat ?_⟩
    obtain ⟨z, hz, hy⟩ := List.mem_flatMap.1 (List.mem_of_getElem? e1)
    have := hh.flatD z hz
    cases z <;> simp only [T.cells, List.mem_singleton] at hy <;> first | (subst hy; exact this) | exact flatAll_mem (by simpa [T.flatData] using this) y hy

theorem flatD_flat {l : List T} (h : ∀ x ∈ l, x.flatData = true) {k : Nat} {y : T} (hy : (flat l)[k]? = some y) : y.flatData = true := by
  obtain ⟨z, hz, hy⟩ := List.mem_flatMap.1 (List.mem_of_getElem? hy)
  have := h z hz
  cases z <;> simp only [T.cells, List.mem_singleton] at hy <;> first | (subst hy; exact this) | exact flatAll_mem (by simpa [T.flatData] using this) y hy
theorem HRok.rowAt {C : Ctx} {h : HR} {w : World} (hh : HRok C h) (hw : ∀ b, h.val.ownBlock = some b → w.heap[b]? = C.w1.heap[b]?) : ∃ xs, w.ownsRow C.w0.heap.size h.e h.sz h.val h.n xs ∧ ∀ S : Nat → Prop, RepL S w (flat h.l) xs := by
  obtain ⟨xs, h1, h2⟩ := hh.row
  exact ⟨xs, ownsRow_same h1 hw, fun S => ⟨h2.len, h2.one, fun k y v e1 e2 => (h2.rep k y v e1 e2).flat (flatD_flat hh.flatD e1)⟩⟩
/-- A hidden row is shown: an own slice again. -/
theorem show_at [DecidableEq κ] {x : κ} {h : HR} (hx : g x = some h) {C : Ctx} {hd : List Hd} {a : Act} {w : World} (hg : Hid g C) (hr : StR C st hd a w) :
    ∃ C' hd', C'.w0 = C.w0 ∧ C'.S0 = C.S0 ∧ Hid (upd g x none) C' ∧ StR C' { st with heap := st.heap ++ [.row h.e h.sz true h.l] } hd' a w ∧ hd'[st.heap.length]? = some (Hd.sl h.a h.n h.cap h.val.ownBlock) := by
  have hh := hg.ok x h hx
  have hfree : ∀ b, h.val.ownBlock = some b → b < w.heap.size ∧ w.heap[b]? = C.w1.heap[b]? ∧ ∀ k ∈ hd, k.own ≠ some b := fun b e => hid_free hr (hh.hid b e)
  obtain ⟨xs, h1, h2⟩ := hh.rowAt fun b e => (hfree b e).2.1
  have hown : ∀ b, (Hd.sl h.a h.n h.cap h.val.ownBlock).own = some b ↔ h.val.ownBlock = some b := fun b => Iff.rfl
  have hmem : ∀ k, k ∈ hd ++ [Hd.sl h.a h.n h.cap h.val.ownBlock] → k ∈ hd ∨ k = Hd.sl h.a h.n h.cap h.val.ownBlock := fun k hk => by simpa using hk
  have hK2 : ∀ b, (C.K b ∧ h.val.ownBlock ≠ some b) → b < w.heap.size ∧ ¬ ∃ k ∈ hd ++ [Hd.sl h.a h.n h.cap h.val.ownBlock], k.own = some b := fun b hb => by
    obtain ⟨q1, q2, q3⟩ := hid_free hr hb.1
    refine ⟨q1, fun ⟨k, k1, k2⟩ => ?_⟩
    rcases hmem k k1 with k1 | rfl
    · exact q3 k k1 k2
    · exact hb.2 k2
  let C' := reC C w (hd ++ [Hd.sl h.a h.n h.cap h.val.ownBlock]) (fun b => C.K b ∧ h.val.ownBlock ≠ some b) hr.below.size hK2
  have hst : Stay (vis C hd) (vis C' (hd ++ [Hd.sl h.a h.n h.cap h.val.ownBlock])) w w := ⟨Nat.le_refl _, fun b hb _ => ⟨rfl, ⟨hb.1.1, fun k => hb.1.2 k.1⟩, fun k hk e => by
    rcases hmem k hk with hk | rfl
    · exact hb.2 k hk e
    · exact hb.1.2 (hh.hid b e)⟩⟩
  have hkp : Keeps some hd (hd ++ [Hd.sl h.a h.n h.cap h.val.ownBlock]) := fun i j k e hi => by
    cases e
    exact ⟨k, by rw [List.getElem?_append_left (List.getElem?_eq_some_iff.1 hi).1]; exact hi, .inl rfl⟩
  have hlast : (hd ++ [Hd.sl h.a h.n h.cap h.val.ownBlock])[st.heap.length]? = some (Hd.sl h.a h.n h.cap h.val.ownBlock) := by
    rw [← hr.hl, List.getElem?_append_right (Nat.le_refl _), Nat.sub_self]; rfl
  have cases_hd : ∀ i k, (hd ++ [Hd.sl h.a h.n h.cap h.val.ownBlock])[i]? = some k → hd[i]? = some k ∨ (i = hd.length ∧ k = Hd.sl h.a h.n h.cap h.val.ownBlock) := fun i k hk => by
    by_cases hi : i < hd.length
    · rw [List.getElem?_append_left hi] at hk; exact .inl hk
    · rw [List.getElem?_append_right (by omega)] at hk
      have h0 := (List.getElem?_eq_some_iff.1 hk).1
      simp only [List.length_singleton] at h0
      have : i - hd.length = 0 := by omega
      rw [this] at hk
      exact .inr ⟨by omega, by simpa using hk.symm⟩
  refine ⟨C', hd ++ [Hd.sl h.a h.n h.cap h.val.ownBlock], rfl, rfl, ⟨fun y k e => ?_, fun y z k k' b e1 e2 h3 h4 => ?_⟩, ⟨hr.below, hr.df, hr.nt, by simp [hr.hl], fun i o k h3 h4 => ?_, fun k b h3 h4 => ?_, fun i j hi hj b h3 h4 h5 h6 => ?_, fun s y hy => (hr.sl s y hy).keep hst hkp, ⟨Nat.le_refl _, fun _ _ _ => rfl, fun k b h3 h4 => .inl ⟨k, h3, h4⟩⟩⟩, hlast⟩
  · simp only [upd] at e
    split at e
    · cases e
    · rename_i hne
      exact (hg.ok y k e).move rfl fun b hb => ⟨⟨(hg.ok y k e).hid b hb, fun q => hne (hg.dist y x k h b e hx hb q)⟩, (hid_free hr ((hg.ok y k e).hid b hb)).2.1⟩
  · simp only [upd] at e1 e2
    split at e1
    · cases e1
    split at e2
    · cases e2
    exact hg.dist y z k k' b e1 e2 h3 h4
  · rcases cases_hd i k h4 with h4 | ⟨rfl, rfl⟩
    · have hi := (List.getElem?_eq_some_iff.1 h4).1
      simp only at h3
      rw [List.getElem?_append_left (by rw [← hr.hl]; exact hi)] at h3
      exact (hr.ob i o k h3 h4).keep hst hkp fun _ _ => rfl
    · simp only at h3
      rw [List.getElem?_append_right (by rw [hr.hl]; exact Nat.le_refl _), hr.hl, Nat.sub_self] at h3
      obtain rfl : Ob.row h.e h.sz true h.l = o := by simpa using h3
      exact ⟨hh.n, hh.sz, hh.max, hh.cells, .inl ⟨xs, h1, rfl, h2 _⟩⟩
  · rcases hmem k h3 with h3 | rfl
    · exact hr.own k b h3 h4
    · exact ⟨(h1.lt b h4).1, (hfree b h4).1⟩
  · rcases cases_hd i hi h3 with f1 | ⟨a1, b1⟩ <;> rcases cases_hd j hj h4 with f2 | ⟨a2, b2⟩
    · exact hr.dist i j hi hj b f1 f2 h5 h6
    · subst b2; exact ((hfree b h6).2.2 hi (List.mem_of_getElem? f1) h5).elim
    · subst b1; exact ((hfree b h5).2.2 hj (List.mem_of_getElem? f2) h6).elim
    · omega
/-- An own slice is hidden. -/
theorem GS_hide_at [DecidableEq κ] {C : Ctx} {hd : List Hd} {a : Act} {w : World} {j e sz n cap : Nat} {ad : Option Addr} {o : Option Nat} {l : List T} (x : κ) (hx : g x = none) (hj : st.heap[j]? = some (.row e sz true l)) (hfl : l.all T.flatData = true) (hg : Hid g C) (hr : StR C st hd a w) (hh : hd[j]? = some (.sl ad n cap o)) :
    ∃ C' hd', C'.w0 = C.w0 ∧ C'.S0 = C.S0 ∧ Hid (upd g x (some ⟨ad, n, cap, e, sz, l⟩)) C' ∧ StR C' { st with heap := st.heap.set j .gone } hd' a w := by
  obtain ⟨e1, e2, e3, e4, e5⟩ := hr.ob j _ _ hj hh
  rcases e5 with ⟨xs, f1, f2, f3⟩ | ⟨q, _⟩
  rotate_left
  · cases q
  have hjm := List.mem_of_getElem? hh
  have hob : ∀ b, o = some b → C.w0.heap.size ≤ b ∧ b < w.heap.size := fun b hb => hr.own _ b hjm hb
  have hmem : ∀ k, k ∈ hd.set j (Hd.sl ad n cap none) → k ∈ hd ∨ k = Hd.sl ad n cap none := fun k hk => List.mem_or_eq_of_mem_set hk
  have hget : ∀ i k, (hd.set j (Hd.sl ad n cap none))[i]? = some k → (i = j ∧ k = Hd.sl ad n cap none) ∨ (i ≠ j ∧ hd[i]? = some k) := fun i k hk => by
    rw [List.getElem?_set] at hk
    split at hk
    · rename_i e0
      split at hk
      · cases hk; exact .inl ⟨e0.symm, rfl⟩
      · cases hk
    · exact .inr ⟨by omega, hk⟩
  have hK2 : ∀ b, (C.K b ∨ o = some b) → b < w.heap.size ∧ ¬ ∃ k ∈ hd.set j (Hd.sl ad n cap none), k.own = some b := fun b hb => by
    rcases hb with hb | hb
    · obtain ⟨q1, q2, q3⟩ := hid_free hr hb
      refine ⟨q1, fun ⟨k, k1, k2⟩ => ?_⟩
      rcases hmem k k1 with k1 | rfl
      · exact q3 k k1 k2
      · cases k2
    · refine ⟨(hob b hb).2, fun ⟨k, k1, k2⟩ => ?_⟩
      obtain ⟨i, hi⟩ := List.mem_iff_getElem?.1 k1
      rcases hget i k hi with ⟨rfl, rfl⟩ | ⟨hne, hi⟩
      · cases k2
      · exact hne (hr.dist i j k _ b hi hh k2 hb)
  let C' := reC C w (hd.set j (Hd.sl ad n cap none)) (fun b => C.K b ∨ o = some b) hr.below.size hK2
  have hst : Stay (vis C hd) (vis C' (hd.set j (Hd.sl ad n cap none))) w w := ⟨Nat.le_refl _, fun b hb _ => ⟨rfl, ⟨hb.1.1, fun k => by
      rcases k with k | k
      · exact hb.1.2 k
      · exact hb.2 _ hjm k⟩, fun k hk e => by
    rcases hmem k hk with hk | rfl
    · exact hb.2 k hk e
    · cases e⟩⟩
  have hkp : Keeps some hd (hd.set j (Hd.sl ad n cap none)) := Keeps.set_off hh
  have hfd : ∀ x ∈ l, x.flatData = true := List.all_eq_true.1 hfl
  have hself : HRok C' ⟨ad, n, cap, e, sz, l⟩ := ⟨e1, e2, e3, e4, hfd, ⟨xs, f1, f3.len, f3.one, fun k y v q1 q2 => (f3.rep k y v q1 q2).flat (flatD_flat hfd q1)⟩, fun b hb => .inr (by rw [f2]; exact hb)⟩
  refine ⟨C', hd.set j (Hd.sl ad n cap none), rfl, rfl, ⟨fun y k q => ?_, fun y z k k' b q1 q2 h3 h4 => ?_⟩, ⟨hr.below, hr.df, hr.nt, by simp [hr.hl], fun i ob k h3 h4 => ?_, fun k b h3 h4 => ?_, fun i i' hi hi' b h3 h4 h5 h6 => ?_, fun s y hy => (hr.sl s y hy).keep hst hkp, ⟨Nat.le_refl _, fun _ _ _ => rfl, fun k b h3 h4 => .inl ⟨k, h3, h4⟩⟩⟩⟩
  · simp only [upd] at q
    split at q
    · cases q; exact hself
    · exact (hg.ok y k q).move rfl fun b hb => ⟨.inl ((hg.ok y k q).hid b hb), (hid_free hr ((hg.ok y k q).hid b hb)).2.1⟩
  · have key : ∀ y k, g y = some k → k.val.ownBlock = some b → o = some b → False := fun y k q hb ho => (hid_free hr ((hg.ok y k q).hid b hb)).2.2 _ hjm ho
    simp only [upd] at q1 q2
    split at q1 <;> split at q2
    · rename_i a1 a2; rw [a1, a2]
    · cases q1; exact (key _ _ q2 h4 (by rw [f2]; exact h3)).elim
    · cases q2; exact (key _ _ q1 h3 (by rw [f2]; exact h4)).elim
    · exact hg.dist y z k k' b q1 q2 h3 h4
  · simp only at h3
    rw [List.getElem?_set] at h3
    rcases hget i k h4 with ⟨rfl, rfl⟩ | ⟨hne, h4⟩
    · rw [if_pos rfl] at h3
      split at h3
      · cases h3; trivial
      · cases h3
    · rw [if_neg (by omega)] at h3
      exact (hr.ob i ob k h3 h4).keep hst hkp fun _ _ => rfl
  · rcases hmem k h3 with h3 | rfl
    · exact hr.own k b h3 h4
    · cases h4
  · rcases hget i hi h3 with ⟨a1, rfl⟩ | ⟨a1, f1⟩
    · cases h5
    rcases hget i' hi' h4 with ⟨a2, rfl⟩ | ⟨a2, f2⟩
    · cases h6
    exact hr.dist i i' hi hi' b f1 f2 h5 h6
end
end Go.Proofs.Ythcclcbliedodaa
namespace Go.Proofs.Ythcclcbliedodaa
open Go.RowKit

/-- A place of a hidden row, as the data that lie there. -/
inductive OpenH {κ : Type} (g : κ → Option HR) : T → T → Prop
  | refl (x : T) : OpenH g x x
  | raw (k : κ) (h : HR) (l' : List T) (hk : g k = some h) (hl : l'.length = h.l.length) (hx : ∀ (i : Nat) (y y' : T), h.l[i]? = some y → l'[i]? = some y' → OpenH g y y') : OpenH g h.raw (.list l')
section
variable {P : Program} {G : World → Prop} {κ : Type} {tt : Nat → Option TI} {tb : Tab} {g : κ → Option HR} {C : Ctx} {hd : List Hd} {a : Act} {w : World} {st : St}
theorem OpenH.cells {x x' : T} (h : OpenH g x x') : x'.cells.length = x.cells.length ∧ ∀ (i : Nat) (y y' : T), x.cells[i]? = some y → x'.cells[i]? = some y' → y = y' ∨ (y = x ∧ y' = x') := by
  cases h with
  | refl => exact ⟨rfl, fun i y y' h1 h2 => by rw [h1] at h2; cases h2; exact .inl rfl⟩
  | raw k h l' hk hl hx =>
    refine ⟨rfl, fun i y y' h1 h2 => ?_⟩
    cases i with
    | zero =>
      simp only [HR.raw, T.cells, List.getElem?_cons_zero, Option.some.injEq] at h1 h2
      subst h1 h2
      exact .inr ⟨rfl, rfl⟩
    | succ i => simp [T.cells] at h2
theorem flat_opens : ∀ {l l' : List T}, l'.length = l.length → (∀ (i : Nat) (y y' : T), l[i]? = some y → l'[i]? = some y' → OpenH g y y') → ∀ (k : Nat) (y' : T), (flat l')[k]? = some y' → ∃ y, (flat l)[k]? = some y ∧ (y = y' ∨ ∃ i : Nat, l[i]? = some y ∧ l'[i]? = some y')
  | [], [], _, _, k, y', h => by simp [flat] at h
  | [], _ :: _, e, _, _, _, _ => by simp at e
  | _ :: _, [], e, _, _, _, _ => by simp at e
  | x :: l, x' :: l', e, hx, k, y', h => by
    have hc := (hx 0 x x' rfl rfl).cells
    simp only [flat, List.flatMap_cons] at h ⊢
    by_cases hk : k < x.cells.length
    · rw [List.getElem?_append_left (by omega)] at h
      rw [List.getElem?_append_left hk]
      refine ⟨_, List.getElem?_eq_getElem hk, ?_⟩
      rcases hc.2 k _ y' (List.getElem?_eq_getElem hk) h with q | ⟨q1, q2⟩
      · exact .inl q
      · exact .inr ⟨0, by rw [q1]; rfl, by rw [q2]; rfl⟩
    · rw [List.getElem?_append_right (by omega)] at h ⊢
      rw [hc.1] at h
      obtain ⟨y, h1, h2⟩ := flat_opens (l := l) (l' := l') (by simpa using e) (fun i y y' h1 h2 => hx (i + 1) y y' h1 h2) _ y' h
      refine ⟨y, h1, ?_⟩
      rcases h2 with h2 | ⟨i, q1, q2⟩
      · exact .inl h2
      · exact .inr ⟨i + 1, q1, q2⟩
/-- What stays hidden when these rows are given up. -/
def openK (g : κ → Option HR) (C : Ctx) (b : Nat) : Prop := C.K b ∧ ∀ k h, g k = some h → h.val.ownBlock ≠ some b
theorem openK2 (hr : StR C st hd a w) (b : Nat) (hb : openK g C b) : b < w.heap.size ∧ ¬ ∃ k ∈ hd, k.own = some b := by
  obtain ⟨q1, _, q3⟩ := hid_free hr hb.1
  exact ⟨q1, fun ⟨k, k1, k2⟩ => q3 k k1 k2⟩
theorem open_stay (hr : StR C st hd a w) : Stay (vis C hd) (vis (reC C w hd (openK g C) hr.below.size (openK2 hr)) hd) w w :=
  ⟨Nat.le_refl _, fun _ hb _ => ⟨rfl, ⟨hb.1.1, fun k => hb.1.2 k.1⟩, hb.2⟩⟩
theorem OpenH.rep (hg : Hid g C) (hr : StR C st hd a w) {y y' : T} (h : OpenH g y y') : ∀ v, RepT (vis C hd) w y v → RepT (vis (reC C w hd (openK g C) hr.below.size (openK2 hr)) hd) w y' v := by
  induction h with
  | refl x => exact fun v hv => hv.keep (open_stay hr)
  | raw k h l' hk hl hx ih =>
    intro v hv
    have hh := hg.ok k h hk
    unfold HR.raw at hv
    cases hv
    obtain ⟨ys, h1, h2⟩ := hh.rowAt fun b e => (hid_free hr (hh.hid b e)).2.1
    have hob : ObR (vis C hd) C.w0.heap.size w hd (.row h.e h.sz true h.l) (.sl h.a h.n h.cap h.val.ownBlock) := ⟨hh.n, hh.sz, hh.max, hh.cells, .inl ⟨ys, h1, rfl, h2 _⟩⟩
    obtain ⟨xs, c1, c2, c3⟩ := row_cells hob
    have hn : h.n = l'.length := by rw [hh.n, hl]
    rw [hn]
    have hcap : l'.length ≤ h.cap := by
      rcases h1.2 with ⟨q, q2⟩ | ⟨b, cap', cur, q, _, _, q3, _⟩
      · omega
      · unfold HR.val at q
        injection q with q1 q2 q4
        omega
    refine .list l' h.a h.cap h.sz xs (by have := hh.max; omega) hh.sz (fun x hx' => ?_) (fun hne => ?_) (fun k hk => c2 k (by rw [← hl]; exact hk)) (fun k y hy => ?_) hcap
    · obtain ⟨i, hi⟩ := List.mem_iff_getElem?.1 hx'
      have hil := (List.getElem?_eq_some_iff.1 hi).1
      have e : h.l[i]? = some h.l[i] := List.getElem?_eq_getElem (by omega)
      rw [(hx i _ x e hi).cells.1]
      exact hh.cells _ (List.mem_of_getElem? e)
    · have hne2 : h.l ≠ [] := fun e => hne (List.eq_nil_of_length_eq_zero (by rw [hl, e]; rfl))
      obtain ⟨b, e, hc⟩ := c1 hne2
      have hbo : h.val.ownBlock = some b := by unfold HR.val; rw [e]; rfl
      refine ⟨b, 0, e, ⟨⟨.inr (h1.lt b hbo).1, fun q => q.2 k h hk hbo⟩, (hid_free hr (hh.hid b hbo)).2.2⟩, fun k hk => by rw [Nat.zero_add]; exact hc k (by rw [← hl]; exact hk)⟩
    · obtain ⟨z, hz, ho⟩ := flat_opens hl hx k y hy
      have e0 := c3 k z hz
      rcases ho with rfl | ⟨i, q1, q2⟩
      · exact e0.keep (open_stay hr)
      · exact ih i z y q1 q2 _ e0
/-- An own slice of hidden rows is one of data. -/
theorem GS_openRow {κ' : Type} {j e sz : Nat} {l : List T} (l' : List T) (hj : st.heap[j]? = some (.row e sz true l)) (hl : l'.length = l.length) (hx : ∀ (i : Nat) (y y' : T), l[i]? = some y → l'[i]? = some y' → OpenH g y y') :
    ∀ C hd a w, Hid g C → StR C st hd a w → ∃ C' hd', C'.w0 = C.w0 ∧ C'.S0 = C.S0 ∧ Hid (fun _ : κ' => none) C' ∧ StR C' { st with heap := st.heap.set j (.row e sz true l') } hd' a w := fun C hd a w hg hr => by
  have hst := open_stay (g := g) hr
  refine ⟨reC C w hd (openK g C) hr.below.size (openK2 hr), hd, rfl, rfl, Hid.empty _, hr.below, hr.df, hr.nt, by simp [hr.hl], fun i o k h3 h4 => ?_, hr.own, hr.dist, fun s y hy => ?_, ⟨Nat.le_refl _, fun _ _ _ => rfl, fun k b h3 h4 => .inl ⟨k, h3, h4⟩⟩⟩
  · simp only at h3
    rw [List.getElem?_set] at h3
    split at h3
    · rename_i e0; subst e0
      split at h3
      · cases h3
        have hob := hr.ob _ _ _ hj h4
        cases k <;> simp only [ObR] at hob ⊢ <;> try exact hob
        obtain ⟨e1, e2, e3, e4, e5⟩ := hob
        rcases e5 with ⟨xs, f1, f2, f3⟩ | ⟨q, _⟩
        rotate_left
        · cases q
        refine ⟨by omega, e2, by omega, fun x hx' => ?_, .inl ⟨xs, f1, f2, ?_, f3.one, fun k y v q1 q2 => ?_⟩⟩
        · obtain ⟨i, hi⟩ := List.mem_iff_getElem?.1 hx'
          have hil := (List.getElem?_eq_some_iff.1 hi).1
          have e : l[i]? = some l[i] := List.getElem?_eq_getElem (by omega)
          rw [(hx i _ x e hi).cells.1]
          exact e4 _ (List.mem_of_getElem? e)
        · have hfl : (flat l').length = (flat l).length := by
            rw [flat_length e4, flat_length (sz := sz) (l := l') fun x hx' => ?_, hl]
            obtain ⟨i, hi⟩ := List.mem_iff_getElem?.1 hx'
            have hil := (List.getElem?_eq_some_iff.1 hi).1
            have e : l[i]? = some l[i] := List.getElem?_eq_getElem (by omega)
            rw [(hx i _ x e hi).cells.1]
            exact e4 _ (List.mem_of_getElem? e)
          rw [f3.len, hfl]
        · obtain ⟨z, hz, ho⟩ := flat_opens hl hx k y q1
          have e0 := f3.rep k z v hz q2
          rcases ho with rfl | ⟨i, r1, r2⟩
          · exact e0.keep hst
          · exact (hx i z y r1 r2).rep hg hr _ e0
      · cases h3
    · exact (hr.ob i o k h3 h4).keep hst (Keeps.refl _) fun _ _ => rfl
  · exact (hr.sl s y hy).keep hst (Keeps.refl _)
/-- Rows are given up, and nothing is hidden from then on. -/
theorem HW_open {κ' : Type} {c : Code} {Q : Exit → St → Prop} {st' : St} (hs : ∀ C hd a w, Hid g C → StR C st hd a w → ∃ C' hd', C'.w0 = C.w0 ∧ C'.S0 = C.S0 ∧ Hid (fun _ : κ' => none) C' ∧ StR C' st' hd' a w) (h : SW P G c Q st') :
    HW P G c (fun e s (_ : κ → Option HR) => Q e s) st g := fun C hd a w hG hg hr => by
  obtain ⟨C', hd', h1, h2, h3, h4⟩ := hs C hd a w hg hr
  refine wp_mono (h C' hd' a w (by rw [h1]; exact hG) h4) fun e a' w' ⟨s, hd2, k1, k2⟩ => ⟨C', s, hd2, fun _ => none, h1, h2, k1, Hid.empty _, k2⟩
/-- A function that hides rows. -/
theorem sndH_of_body (hT : TTok P tt) {f : Nat} {fn : Func} {c : Code} {args : List T} {r : T} (hf : P.funcs[f]? = some fn) (hb : fn.body = some c) (hn : (fn.name == "runtime.NumGoroutine") = false) {n : Nat} (hnt : n = args.length + (fn.ntmps - args.length)) {tm : List (Nat × SV)} (htm : tm = mkSlots 0 args) {rs : List ResultVar} (hrs : fn.results.toList = rs)
    (h : HW P G c (fun e s (_ : κ → Option HR) => SPost tt rs r e s) ⟨n, tm, []⟩ (fun _ => none)) : Snd P G f args r := by
  subst hrs
  refine ⟨fun vs w => ?_, fun S w vs hG hvs hrep => ?_⟩
  · unfold callFunc
    rw [Sem.run_bind, run_program, Result.andThen_ok]
    simp only [hf, hn, hb, Option.isNone_some, Bool.false_eq_true, if_false]
    rfl
  · let C : Ctx := Ctx.of S w
    refine calls_of_wp hf hb ?_
    have hr : StR C ⟨n, tm, []⟩ [] { tmps := vs ++ Array.replicate (fn.ntmps - vs.size) undef, defers := [] } w := by
      refine ⟨Below.refl _ _, rfl, by simp [hnt, hvs], rfl, fun i o g h => by simp at h, fun g b h => by simp at h, fun i j gi gj b h => by simp at h, fun t x hx => ?_, ⟨Nat.le_refl _, fun _ _ _ => rfl, fun g b h => by simp at h⟩⟩
      subst htm
      obtain ⟨j, y, rfl, h2, rfl⟩ := mkSlots_look hx
      have hj := (List.getElem?_eq_some_iff.1 h2).1
      have e : vs[j]? = some vs[j] := Array.getElem?_eq_getElem (by omega)
      have e2 : (vs ++ Array.replicate (fn.ntmps - vs.size) undef).getD (0 + j) undef = vs[j] := by
        rw [Nat.zero_add, Array.getD_eq_getD_getElem?, Array.getElem?_append_left (by omega), e]; rfl
      rw [e2]
      exact .t _ _ ((hrep j y _ h2 e).keep ⟨Nat.le_refl _, fun b hb _ => ⟨rfl, ⟨.inl hb, id⟩, fun g hg => by simp at hg⟩⟩)
    refine wp_mono (h C [] _ w hG (Hid.empty _) hr) fun e a' w' hq => ?_
    obtain ⟨C', st', hd', g', e1, e2, h1, _, h2⟩ := hq
    have hbw : Below w.heap.size w w' := by have := h2.below; rwa [e1] at this
    have hS : ∀ b, Own C' b → (S b ∨ w.heap.size ≤ b) := fun b hb => by
      have := hb.1
      rw [e1, e2] at this
      exact this
    cases e <;> simp only [SPost] at h1
    · obtain ⟨v, g1, g2⟩ := res_ok hT h2 h1
      exact ⟨h2.df, v, g1, v, rfl, g2.mono hS, hbw⟩
    · obtain ⟨v, g1, g2⟩ := res_ok hT h2 h1
      exact ⟨h2.df, v, g1, v, rfl, g2.mono hS, hbw⟩
end
end Go.Proofs.Ythcclcbliedodaa
namespace Go.Proofs.Ythcclcbliedodaa
open Go.RowKit

theorem renL_fix {π : Nat → Option Nat} : ∀ {l : List SV}, (∀ (k : Nat) (y : SV), l[k]? = some y → y.ren π = y) → renL π l = l
  | [], _ => rfl
  | x :: r, h => by
    simp only [renL]
    rw [h 0 x rfl, renL_fix fun k y hk => h (k + 1) y hk]
theorem RepS.fix {S : Nat → Prop} {w : World} {hd : List Hd} {π : Nat → Option Nat} (hπ : ∀ i, i < hd.length → π i = some i) {x : SV} {v : Value} (h : RepS S w hd x v) : x.ren π = x := by
  have lt : ∀ {i : Nat} {g : Hd}, hd[i]? = some g → π i = some i := fun e => hπ _ (List.getElem?_eq_some_iff.1 e).1
  induction h with
  | t x v h => rfl
  | nil => rfl
  | lit l b h _ => rfl
  | agg l vs hl h1 hx ih =>
    simp only [SV.ren]
    rw [renL_fix fun k y hk => ?_]
    have hkl := (List.getElem?_eq_some_iff.1 hk).1
    exact ih k y _ hk (Array.getElem?_eq_getElem (by omega))
  | sref i a n cap o h => simp only [SV.ren, lt h]
  | cut i m a n cap o h hm => simp only [SV.ren, lt h]
  | bptr i off b o h => simp only [SV.ren, lt h]
  | eptr i sz k off g n cap o h => simp only [SV.ren, lt h]
  | map i r h => simp only [SV.ren, lt h]
  | fn f cap vs hl hx ih =>
    simp only [SV.ren]
    rw [renL_fix fun k y hk => ?_]
    have hkl := (List.getElem?_eq_some_iff.1 hk).1
    exact ih k y _ hk (Array.getElem?_eq_getElem (by omega))
  | pin i b o h => simp only [SV.ren, lt h]
  | pinS i a n cap o h => simp only [SV.ren, lt h]
theorem ObR.fix {S : Nat → Prop} {B : Nat} {w : World} {hd : List Hd} {π : Nat → Option Nat} (hπ : ∀ i, i < hd.length → π i = some i) {o : Ob} {h : Hd} (hr : ObR S B w hd o h) : o.ren π = o := by
  cases o with
  | box l =>
    cases h <;> simp only [ObR] at hr
    obtain ⟨_, vs, t, _, h2, _, h4⟩ := hr
    simp only [Ob.ren]
    rw [renL_fix fun k y hk => ?_]
    have hkl := (List.getElem?_eq_some_iff.1 hk).1
    exact (h4 k y _ hk (Array.getElem?_eq_getElem (by omega))).fix hπ
  | _ => rfl
section
variable {P : Program} {C C0 : Ctx} {st : St} {hd hd0 : List Hd} {a a0 : Act} {w w0 : World}
theorem look_fix (h0 : StR C0 st hd0 a0 w0) {π : Nat → Option Nat} (hπ : ∀ i, i < st.heap.length → π i = some i) {t : Nat} {x : SV} (h : look st.tmps t = some x) : x.ren π = x :=
  (h0.sl t x h).fix fun i hi => hπ i (by rw [← h0.hl]; exact hi)
theorem ob_fix (h0 : StR C0 st hd0 a0 w0) {π : Nat → Option Nat} (hπ : ∀ i, i < st.heap.length → π i = some i) {i : Nat} {o : Ob} (h : st.heap[i]? = some o) : o.ren π = o := by
  have hi := (List.getElem?_eq_some_iff.1 h).1
  exact (h0.ob i o _ h (List.getElem?_eq_getElem (by rw [h0.hl]; exact hi))).fix fun i hi => hπ i (by rw [← h0.hl]; exact hi)
/-- An object at the end that is gone. -/
theorem StR.trim (h0 : StR C0 st hd0 a0 w0) {π : Nat → Option Nat} {tm : List (Nat × SV)} {hp : List Ob} (hπ : ∀ i, i < st.heap.length → π i = some i) (hr : StR C ⟨st.nt, tm, hp⟩ hd a w)
    (h1 : ∀ t, look tm t = (look st.tmps t).map (SV.ren π)) (h2 : hp = st.heap.map (Ob.ren π) ++ [.gone]) : StR C st (hd.take st.heap.length) a w := by
  subst h2
  have hu : ∀ i, i < st.heap.length → upto st.heap.length i = some i := fun i hi => by unfold upto; rw [if_pos hi]
  have hst : Stay (vis C hd) (vis C (hd.take st.heap.length)) w w := ⟨Nat.le_refl _, fun b hb _ => ⟨rfl, hb.1, fun k hk => hb.2 k (List.mem_of_mem_take hk)⟩⟩
  have hlen : hd.length = st.heap.length + 1 := by have := hr.hl; simpa using this
  have ob1 : ∀ (i : Nat) (o : Ob), st.heap[i]? = some o → (st.heap.map (Ob.ren π) ++ [Ob.gone])[i]? = some o := fun i o h => by
    have hi := (List.getElem?_eq_some_iff.1 h).1
    rw [List.getElem?_append_left (by simpa using hi), List.getElem?_map, h, Option.map_some, ob_fix h0 hπ h]
  refine ⟨hr.below, hr.df, hr.nt, by rw [List.length_take]; omega, fun i o g h3 h4 => ?_, fun g b h3 h4 => hr.own g b (List.mem_of_mem_take h3) h4, fun i j gi gj b h3 h4 h5 h6 => ?_, fun t x hx => ?_, ⟨hr.ext.gro, hr.ext.stay, fun g b h3 h4 => hr.ext.lent g b (List.mem_of_mem_take h3) h4⟩⟩
  · rw [List.getElem?_take] at h4
    split at h4
    · have := ObR.ren hst (keeps_upto hd st.heap.length) (fun _ _ => rfl) (hr.ob i o g (ob1 i o h3) h4)
      rwa [ob_fix h0 hu h3] at this
    · cases h4
  · rw [List.getElem?_take] at h3 h4
    split at h3 <;> split at h4 <;> first | (cases h3; done) | (cases h4; done) | exact hr.dist i j gi gj b h3 h4 h5 h6
  · have e : look tm t = some x := by rw [h1, hx, Option.map_some, look_fix h0 hπ hx]
    have := RepS.ren hst (keeps_upto hd st.heap.length) (hr.sl t x e)
    rwa [look_fix h0 hu hx] at this

/-- Where a row is appended to: hidden, or none until now. -/
def HdrOk {κ : Type} (g : κ → Option HR) (x : κ) (e sz : Nat) (l : List T) (s : T) : Prop := (g x = none ∧ l = [] ∧ s = .raw none 0 0) ∨ ∃ h, g x = some h ∧ h.e = e ∧ h.sz = sz ∧ h.l = l ∧ s = h.raw
theorem upd_upd {κ : Type} [DecidableEq κ] (g : κ → Option HR) (x : κ) (p q : Option HR) : upd (upd g x p) x q = upd g x q := by
  funext y
  simp only [upd]
  split <;> rfl
theorem append_hid {κ : Type} [DecidableEq κ] {g : κ → Option HR} (hr : StR C st hd a w) (hg : Hid g C) {t ty e : Nat} {i ie : TI} (hi : TIok P t i) (hk : i.k = .slice e) (he : TIok P e ie) {s0 x0 : Operand} {s : T} {l xs : List T} {x : κ} (hs : HdrOk g x e ie.sz l s) (hev : st.ev s0 = .t s) (hxv : st.ev x0 = .lit xs)
    (hall : xs.all (fun x => x.cells.length == ie.sz) = true) (hfl : xs.all T.flatData = true) (hb : (l.length + xs.length) * ie.by_ ≤ 140737488355328) (hm : l.length + xs.length ≤ maxLen) (hne : xs.isEmpty = false) :
    ∃ (c : Option Addr × Nat × Nat) (w' : World) (C' : Ctx) (hd' : List Hd), (Builtin.append_ #[t, t] ty #[a.eval s0, a.eval x0]).run P w = .ok (.slice c.1 c.2.1 c.2.2) w' ∧ C'.w0 = C.w0 ∧ C'.S0 = C.S0 ∧ Hid (upd g x (some ⟨c.1, c.2.1, c.2.2, e, ie.sz, l ++ xs⟩)) C' ∧ StR C' st hd' a w' := by
  rcases hs with ⟨hx, rfl, rfl⟩ | ⟨h, hx, rfl, hsz, rfl, rfl⟩
  · have hu := hr.ev s0
    rw [hev] at hu
    have hnil : RepS (vis C hd) w hd .nil (a.eval s0) := by
      have := hu.toT
      generalize a.eval s0 = v at this
      cases this
      exact .nil
    have hxr := hr.ev x0
    rw [hxv] at hxr
    obtain ⟨v', w', hd', r1, r2, r3⟩ := append_ok (ty := ty) hr hi hk he (s := .nil) (x := .lit xs) hnil hxr rfl hall (by simpa [St.appLen, St.lst] using hb) (by simpa [St.appLen, St.lst] using hm) (st' := { st with heap := st.heap ++ [.row e ie.sz true xs] }) (y := .sref st.heap.length) rfl
    cases r3 with
    | sref _ ad n cap o hh =>
    obtain ⟨C', hd2, k1, k2, k3, k4⟩ := GS_hide_at (l := xs) (e := e) (sz := ie.sz) x hx (by simp) hfl hg r2 hh
    refine ⟨(ad, n, cap), w', C', hd2.take st.heap.length, r1, k1, k2, by simpa using k3, ?_⟩
    exact StR.trim hr (π := some) (fun i hi => rfl) k4 (fun t => by cases look st.tmps t <;> simp [SV.ren_some]) (by
      have : st.heap.map (Ob.ren some) = st.heap := by
        conv => rhs; rw [← List.map_id st.heap]
        exact List.map_congr_left fun o _ => Ob.ren_some o
      rw [this]; simp)
  · obtain ⟨C1, hd1, e1, e2, hg1, hr1, hh1⟩ := show_at hx hg hr
    have hu := hr1.ev s0
    have hu2 : (({ st with heap := st.heap ++ [.row h.e h.sz true h.l] } : St)).ev s0 = .t h.raw := by rw [← hev]; cases s0 <;> rfl
    rw [hu2] at hu
    have hsr : RepS (vis C1 hd1) w hd1 (.sref st.heap.length) (a.eval s0) := by
      have := hu.toT
      unfold HR.raw at this
      generalize a.eval s0 = v at this
      cases this
      exact .sref _ _ _ _ _ hh1
    have hxr := hr1.ev x0
    have hx2 : (({ st with heap := st.heap ++ [.row h.e h.sz true h.l] } : St)).ev x0 = .lit xs := by rw [← hxv]; cases x0 <;> rfl
    rw [hx2] at hxr
    have hob : (({ st with heap := st.heap ++ [.row h.e h.sz true h.l] } : St)).obj st.heap.length = .row h.e h.sz true h.l := by simp [St.obj]
    obtain ⟨v', w', hd', r1, r2, r3⟩ := append_ok (ty := ty) hr1 hi hk he (s := .sref st.heap.length) (x := .lit xs) hsr hxr rfl hall (by simpa [St.appLen, St.lst, hob] using hb) (by simpa [St.appLen, St.lst, hob] using hm)
      (st' := { nt := st.nt, tmps := st.tmps.map (fun p => (p.1, p.2.ren (scrub st.heap.length))), heap := ((st.heap ++ [Ob.row h.e h.sz true h.l]).map (Ob.ren (scrub st.heap.length))).set st.heap.length (.row h.e ie.sz true (h.l ++ xs)) }) (y := .sref st.heap.length) (by
        unfold St.append
        simp only [hob]
        rw [if_pos ⟨trivial, hsz⟩, Bool.true_or])
    cases r3 with
    | sref _ ad n cap o hh =>
    obtain ⟨C', hd2, k1, k2, k3, k4⟩ := GS_hide_at (l := h.l ++ xs) (e := h.e) (sz := ie.sz) x (by simp [upd]) (by simp [List.getElem?_set]) (by rw [List.all_append, hfl, Bool.and_true]; exact List.all_eq_true.2 (hg.ok x h hx).flatD) hg1 r2 hh
    rw [upd_upd] at k3
    refine ⟨(ad, n, cap), w', C', hd2.take st.heap.length, r1, k1.trans e1, k2.trans e2, k3, ?_⟩
    refine StR.trim hr (π := scrub st.heap.length) (fun i hi => by unfold scrub; rw [if_neg (by omega)]) k4 (fun t => look_map _ _ _) ?_
    rw [List.set_set, List.map_append, List.set_append_right _ _ (by simp)]
    simp
end
end Go.Proofs.Ythcclcbliedodaa
namespace Go.Proofs.Ythcclcbliedodaa
open Go.RowKit

structure AppS (κ : Type) where
  kc : Nat
  s0 : Operand
  x0 : Operand
  sv : T
  xs : List T
  x : κ
  e : Nat
  sz : Nat
  l : List T
  g0 : κ → Option HR
def AppS.g1 {κ : Type} [DecidableEq κ] (A : AppS κ) (c : Option Addr × Nat × Nat) : κ → Option HR := upd A.g0 A.x (some ⟨c.1, c.2.1, c.2.2, A.e, A.sz, A.l ++ A.xs⟩)
open Classical in
noncomputable def stepH {κ : Type} [DecidableEq κ] (A : AppS κ) (last : Nat) (tt : Nat → Option TI) (tb : Tab) (ops : Array Oper) (c : Option Addr × Nat × Nat) (k : Nat) (p : St × (κ → Option HR)) : Option (St × (κ → Option HR)) := match ops[k]? with
  | none => none
  | some o =>
    if k = A.kc then (if o.guard = none ∧ p.2 = A.g0 ∧ p.1.ev A.s0 = .t A.sv ∧ p.1.ev A.x0 = .lit A.xs ∧ dstOk p.1.nt o.dst = true then some (p.1.put o.dst (.t (.raw c.1 c.2.1 c.2.2)), A.g1 c) else none)
    else if k = last then (stepX tt tb ops p.1 o).map fun s => (s, p.2)
    else if o.guard = none ∧ dstOk p.1.nt o.dst = true then (evalX tt tb p.1 o.op).map fun x => (p.1.put o.dst x, p.2) else none
section
variable {κ : Type} [DecidableEq κ] {P : Program} {G : World → Prop} {tt : Nat → Option TI} {tb : Tab} {ops : Array Oper} {A : AppS κ} {last : Nat} {c : Option Addr × Nat × Nat} {k j : Nat} {s : St} {g : κ → Option HR} {o : Oper}
theorem stepH_a (ho : ops[k]? = some o) (hk : k = A.kc) (h1 : o.guard = none) (h2 : g = A.g0) (h3 : s.ev A.s0 = .t A.sv) (h4 : s.ev A.x0 = .lit A.xs) (h5 : dstOk s.nt o.dst = true) {t : St} (h6 : s.put o.dst (.t (.raw c.1 c.2.1 c.2.2)) = t) : stepH A last tt tb ops c k (s, g) = some (t, A.g1 c) := by
  unfold stepH
  rw [ho]
  simp only
  rw [if_pos hk, if_pos ⟨h1, h2, h3, h4, h5⟩, h6]
theorem stepH_l (ho : ops[k]? = some o) (hk : k ≠ A.kc) (hl : k = last) {t : St} (h : stepX tt tb ops s o = some t) : stepH A last tt tb ops c k (s, g) = some (t, g) := by
  unfold stepH
  rw [ho]
  simp only
  rw [if_neg hk, if_pos hl, h]
  rfl
theorem stepH_q (ho : ops[k]? = some o) (hk : k ≠ A.kc) (hl : k ≠ last) (h1 : o.guard = none) (h2 : dstOk s.nt o.dst = true) {x : SV} (h : evalX tt tb s o.op = some x) {t : St} (h6 : s.put o.dst x = t) : stepH A last tt tb ops c k (s, g) = some (t, g) := by
  unfold stepH
  rw [ho]
  simp only
  rw [if_neg hk, if_neg hl, if_pos ⟨h1, h2⟩, h, ← h6]
  rfl
theorem stepH_qi (ho : ops[k]? = some o) (hk : k ≠ A.kc) (hl : k ≠ last) {t : St × (κ → Option HR)} (h : stepH A last tt tb ops c k (s, g) = some t) : ∃ x, o.guard = none ∧ dstOk s.nt o.dst = true ∧ evalX tt tb s o.op = some x ∧ t = (s.put o.dst x, g) := by
  unfold stepH at h
  rw [ho] at h
  simp only at h
  rw [if_neg hk, if_neg hl] at h
  split at h
  · rename_i hc
    rw [Option.map_eq_some_iff] at h
    obtain ⟨x, hx, rfl⟩ := h
    exact ⟨x, hc.1, hc.2, hx, rfl⟩
  · cases h
theorem stepH_ai (ho : ops[k]? = some o) (hk : k = A.kc) {t : St × (κ → Option HR)} (h : stepH A last tt tb ops c k (s, g) = some t) : o.guard = none ∧ g = A.g0 ∧ s.ev A.s0 = .t A.sv ∧ s.ev A.x0 = .lit A.xs ∧ dstOk s.nt o.dst = true ∧ t = (s.put o.dst (.t (.raw c.1 c.2.1 c.2.2)), A.g1 c) := by
  unfold stepH at h
  rw [ho] at h
  simp only at h
  rw [if_pos hk] at h
  split at h
  · rename_i hc
    cases h
    exact ⟨hc.1, hc.2.1, hc.2.2.1, hc.2.2.2.1, hc.2.2.2.2, rfl⟩
  · cases h
theorem stepH_li (ho : ops[k]? = some o) (hk : k ≠ A.kc) (hl : k = last) {t : St × (κ → Option HR)} (h : stepH A last tt tb ops c k (s, g) = some t) : ∃ u, stepX tt tb ops s o = some u ∧ t = (u, g) := by
  unfold stepH at h
  rw [ho] at h
  simp only at h
  rw [if_neg hk, if_pos hl, Option.map_eq_some_iff] at h
  obtain ⟨u, hu, rfl⟩ := h
  exact ⟨u, hu, rfl⟩
def EqH (p q : St × (κ → Option HR)) : Prop := Eqv p.1 q.1 ∧ p.2 = q.2
theorem stepH_congr (k : Nat) (p q t : St × (κ → Option HR)) (h : EqH p q) (hs : stepH A last tt tb ops c k p = some t) : ∃ t', stepH A last tt tb ops c k q = some t' ∧ EqH t t' := by
  obtain ⟨s, g⟩ := p
  obtain ⟨s', g'⟩ := q
  obtain ⟨he, hg⟩ := h
  simp only at he hg
  subst hg
  cases ho : ops[k]? with
  | none => unfold stepH at hs; rw [ho] at hs; cases hs
  | some o =>
    by_cases hk : k = A.kc
    · obtain ⟨h1, h2, h3, h4, h5, rfl⟩ := stepH_ai ho hk hs
      exact ⟨_, stepH_a ho hk h1 h2 (by rw [← he.ev]; exact h3) (by rw [← he.ev]; exact h4) (by rw [← he.nt]; exact h5) rfl, he.put _ _, rfl⟩
    · by_cases hl : k = last
      · obtain ⟨u, hu, rfl⟩ := stepH_li ho hk hl hs
        obtain ⟨u', h1, h2⟩ := stepX_congr he hu
        exact ⟨_, stepH_l ho hk hl h1, h2, rfl⟩
      · obtain ⟨x, h1, h2, h3, rfl⟩ := stepH_qi ho hk hl hs
        exact ⟨_, stepH_q ho hk hl h1 (by rw [← he.nt]; exact h2) (by rw [← evalX_congr he.heap o.op fun y _ => he.ev y]; exact h3) rfl, he.put _ _, rfl⟩
def passH (kc last : Nat) (ops : Array Oper) (j k : Nat) : Bool := match ops[j]?, ops[k]? with
  | some x, some y => x.apart ops y && (decide (j ≠ k) && (decide (j ≠ last) && decide (k ≠ last)) && (!(j == kc) || ((x.op.operands.toList.all fun z => true) && true)))
  | _, _ => false
theorem swapH (hop : ∀ o, ops[A.kc]? = some o → A.s0 ∈ o.op.operands ∧ A.x0 ∈ o.op.operands) (j k : Nat) (p p1 p2 : St × (κ → Option HR)) (hp : passH A.kc last ops j k = true) (h1 : stepH A last tt tb ops c j p = some p1) (h2 : stepH A last tt tb ops c k p1 = some p2) : ∃ u u', stepH A last tt tb ops c k p = some u ∧ stepH A last tt tb ops c j u = some u' ∧ EqH p2 u' := by
  obtain ⟨s, g⟩ := p
  unfold passH at hp
  split at hp
  rotate_left
  · cases hp
  rename_i x y hx hy
  simp only [Bool.and_eq_true, decide_eq_true_eq] at hp
  obtain ⟨hap, ⟨hjk, hjl, hkl⟩, _⟩ := hp
  obtain ⟨a1, a2, a3⟩ := Oper.apart_spec hap
  by_cases hjc : j = A.kc
  · have hkc : k ≠ A.kc := fun e => hjk (hjc.trans e.symm)
    obtain ⟨g1, g2, g3, g4, g5, rfl⟩ := stepH_ai hx hjc h1
    obtain ⟨q, k1, k2, k3, rfl⟩ := stepH_qi hy hkc hkl h2
    have hops := hop x (by rw [← hjc]; exact hx)
    have e1 : evalX tt tb s y.op = some q := by
      rw [← k3]
      exact (evalX_congr (put_heap ..) y.op fun z hz => put_ev fun t e ez => a1 t e (looks_op (by subst ez; exact hz))).symm
    refine ⟨_, _, stepH_q hy hkc hkl k1 (by rw [put_nt] at k2; exact k2) e1 rfl, stepH_a hx hjc g1 g2 ?_ ?_ (by rw [put_nt]; exact g5) rfl, put_comm s _ q fun t e => a2 t e, rfl⟩
    · rw [put_ev fun t e ez => a3 t e (looks_op (by rw [← ez]; exact hops.1))]; exact g3
    · rw [put_ev fun t e ez => a3 t e (looks_op (by rw [← ez]; exact hops.2))]; exact g4
  · obtain ⟨v, k1, k2, k3, rfl⟩ := stepH_qi hx hjc hjl h1
    by_cases hkc : k = A.kc
    · obtain ⟨g1, g2, g3, g4, g5, rfl⟩ := stepH_ai hy hkc h2
      have hops := hop y (by rw [← hkc]; exact hy)
      refine ⟨_, _, stepH_a hy hkc g1 g2 ?_ ?_ (by rw [put_nt] at g5; exact g5) rfl, stepH_q hx hjc hjl k1 (by rw [put_nt]; exact k2) (x := v) ?_ rfl, put_comm s v _ fun t e => a2 t e, rfl⟩
      · rw [← g3]; exact (put_ev fun t e ez => a1 t e (looks_op (by rw [← ez]; exact hops.1))).symm
      · rw [← g4]; exact (put_ev fun t e ez => a1 t e (looks_op (by rw [← ez]; exact hops.2))).symm
      · rw [← k3]
        exact evalX_congr (put_heap ..) x.op fun z hz => put_ev fun t e ez => a3 t e (looks_op (by subst ez; exact hz))
    · obtain ⟨q, m1, m2, m3, rfl⟩ := stepH_qi hy hkc hkl h2
      have e1 : evalX tt tb s y.op = some q := by
        rw [← m3]
        exact (evalX_congr (put_heap ..) y.op fun z hz => put_ev fun t e ez => a1 t e (looks_op (by subst ez; exact hz))).symm
      refine ⟨_, _, stepH_q hy hkc hkl m1 (by rw [put_nt] at m2; exact m2) e1 rfl, stepH_q hx hjc hjl k1 (by rw [put_nt]; exact k2) (x := v) ?_ rfl, put_comm s v q fun t e => a2 t e, rfl⟩
      rw [← k3]
      exact evalX_congr (put_heap ..) x.op fun z hz => put_ev fun t e ez => a3 t e (looks_op (by subst ez; exact hz))
def topoH (kc last : Nat) (ops : Array Oper) : Bool := (List.range ops.size).all fun i => match ops[i]? with
  | some y => y.after.all (fun e => !Region.binds .any e || decide (e.on < i)) && (List.range i).all (fun j => ((ancs ops ops.size).getD i 0).testBit j || passH kc last ops j i)
  | none => true
theorem topoH_spec {kc : Nat} (htopo : topoH kc last ops = true) : ∀ i y, ops[i]? = some y → (∀ e ∈ y.after, Region.binds .any e = true → e.on < i) ∧ ∀ j, j < i → ((ancs ops ops.size).getD i 0).testBit j = true ∨ passH kc last ops j i = true := fun i y hy => by
  have hi := (Array.getElem?_eq_some_iff.1 hy).1
  have := List.all_eq_true.1 htopo i (List.mem_range.2 hi)
  rw [hy] at this
  simp only [Bool.and_eq_true] at this
  obtain ⟨h1, h2⟩ := this
  refine ⟨fun e he hb => ?_, fun j hj => by simpa using List.all_eq_true.1 h2 j (List.mem_range.2 hj)⟩
  have := (Array.all_eq_true_iff_forall_mem.1 h1) e he
  simpa [hb] using this
/-- A region that draws its order, with one append onto a hidden row; an operation behind all others may write. -/
theorem HW_drawH (A : AppS κ) (last : Nat) (hmo : P.follows .mixedOrders = true) (hT : TTok P tt) (hGl : Lasting G) (htb : Tab.ok P G tb) {id : Nat} {ops : Array Oper} (htopo : topoH A.kc last ops = true) {t ty : Nat} {i ie : TI} (hop : ∃ o, ops[A.kc]? = some o ∧ o.op = .call ⟨.builtin .append, #[A.s0, A.x0], #[t, t]⟩ ∧ o.type = ty) (hi : tt t = some i) (hk : i.k = .slice A.e) (he : tt A.e = some ie) (hsz : ie.sz = A.sz)
    (hs : HdrOk A.g0 A.x A.e A.sz A.l A.sv) (hall : A.xs.all (fun x => x.cells.length == A.sz) = true) (hfl : A.xs.all T.flatData = true) (hb : (A.l.length + A.xs.length) * ie.by_ ≤ 140737488355328) (hm : A.l.length + A.xs.length ≤ maxLen) (hne : A.xs.isEmpty = false)
    {Q : Exit → St → (κ → Option HR) → Prop} {st : St} {g : κ → Option HR} (h : ∀ c, ∃ t', runA (stepH A last tt tb ops c) (List.range ops.size) (st, g) = some t' ∧ Q .normal t'.1 t'.2) : HW P G (.region id ops true) Q st g := fun C hd a w hG hg hr => by
  obtain ⟨oc, hoc, hopc, hty⟩ := hop
  have hmem : ∀ o, ops[A.kc]? = some o → A.s0 ∈ o.op.operands ∧ A.x0 ∈ o.op.operands := fun o ho => by
    rw [hoc] at ho
    cases ho
    rw [hopc]
    simp [Op.operands, Call.operands]
  refine wp_region_any hmo ?_
  refine wpAny_abs (γ := Option Addr × Nat × Nat) (E := EqH) (fun p a w => ∃ C' hd, C'.w0 = C.w0 ∧ C'.S0 = C.S0 ∧ Hid p.2 C' ∧ StR C' p.1 hd a w) (stepH A last tt tb ops) A.kc (fun p => ⟨Eqv.refl _, rfl⟩) (fun _ _ _ h1 h2 => ⟨h1.1.trans h2.1, h1.2.trans h2.2⟩) (fun c c' k hk => ?_) (fun c => stepH_congr) (pass := fun j k => passH A.kc last ops j k = true) (fun c => swapH hmem) (topoH_spec htopo) ?_ ?_ ops.size (Array.replicate ops.size false) (st, g) a _ (fun _ => True) (by simp) (fun i y hi => by by_cases h : i < ops.size <;> simp [h] at hi) (by rw [left_all]; simp) ⟨(none, 0, 0), trivial⟩ (fun _ _ => trivial) (fun c _ => ?_) ⟨C, hd, rfl, rfl, hg, hr.drawn⟩
  · funext p
    unfold stepH
    simp only [if_neg hk]
  · rintro c k o ⟨s, g⟩ s1 a w K ho hkc hst ⟨C', hd, e1, e2, hg, hr⟩ hK
    by_cases hl : k = last
    · obtain ⟨u, hu, rfl⟩ := stepH_li ho hkc hl hst
      exact stepX_wp hT hGl htb (by rw [e1]; exact hG) hr ops o hu fun hd' a' w' h' => hK _ _ ⟨C', hd', e1, e2, hg, h'⟩
    · obtain ⟨x, h1, h2, h3, rfl⟩ := stepH_qi ho hkc hl hst
      rw [if_pos (by simp [Region.wanted, h1])]
      exact evalX_wp hT hGl htb (by rw [e1]; exact hG) hr o h3 fun v w' k1 k2 => hK _ _ ⟨C', hd, e1, e2, hg, k1.put' rfl h2 k2⟩
  · rintro o ⟨s, g⟩ a w K ho hx ⟨C', hd, e1, e2, hg, hr⟩ hK
    obtain ⟨s1, hs1⟩ := hx (none, 0, 0)
    obtain ⟨h1, h2, h3, h4, h5, _⟩ := stepH_ai ho rfl hs1
    rw [hoc] at ho
    cases ho
    subst h2
    rw [if_pos (by simp [Region.wanted, h1])]
    obtain ⟨c, w', C2, hd2, r1, q1, q2, q3, q4⟩ := append_hid (ty := ty) (e := A.e) (x := A.x) (l := A.l) hr hg (hT t i hi) hk (hT A.e ie he) (by rw [hsz]; exact hs) h3 h4 (by rw [hsz]; exact hall) hfl hb hm hne
    have hr2 : (execOp a.eval oc).run P w = Result.ok (Next.value (.slice c.1 c.2.1 c.2.2)) w' := by
      clear hmem htopo h1 h5 hs1 hK hoc
      cases oc
      simp only at hopc hty
      subst hopc hty
      simp [execOp, resolve, invoke, builtin, r1]
    unfold Oper.wp
    rw [hr2]
    refine hK c _ _ _ (stepH_a hoc rfl h1 rfl h3 h4 h5 rfl) ⟨C2, hd2, q1.trans e1, q2.trans e2, ?_, q4.put' rfl h5 (.t _ _ (.raw _ _ _))⟩
    rw [hsz] at q3
    exact q3
  · obtain ⟨t', h1, h2⟩ := h c
    refine ⟨t', by rw [left_all]; exact h1, fun q a' w' h3 ⟨C', hd', k1, k2, k3, k4⟩ => ⟨C', t'.1, hd', t'.2, k1, k2, h2, by rw [h3.2]; exact k3, h3.1.symm.str k4⟩⟩
end
end Go.Proofs.Ythcclcbliedodaa
namespace Go.Proofs.Ythcclcbliedodaa

/-- Words from behind: shorter, or as long and ahead. -/
def RL : List Nat → List Nat → Prop
  | [], [] => False
  | [], _ :: _ => True
  | _ :: _, [] => False
  | l :: v, k :: w => RL v w ∨ (v = w ∧ l < k)
theorem RL.irrefl : ∀ {v : List Nat}, ¬ RL v v
  | [], h => h
  | l :: v, h => by
    rcases h with h | ⟨_, h⟩
    · exact RL.irrefl h
    · omega
theorem RL.trans : ∀ {u v w : List Nat}, RL u v → RL v w → RL u w
  | [], [], _, h, _ => h.elim
  | [], _ :: _, [], _, h => h.elim
  | [], _ :: _, _ :: _, _, _ => trivial
  | _ :: _, [], _, h, _ => h.elim
  | _ :: _, _ :: _, [], _, h => h.elim
  | a :: u, b :: v, c :: w, h, h' => by
    rcases h with h | ⟨rfl, h⟩ <;> rcases h' with h' | ⟨rfl, h'⟩
    · exact .inl (RL.trans h h')
    · exact .inl h
    · exact .inl h'
    · exact .inr ⟨rfl, by omega⟩
theorem RL.cons : ∀ (l : Nat) (v : List Nat), RL v (l :: v)
  | _, [] => trivial
  | l, k :: v => .inl (RL.cons k v)
/-- The first word of a language. -/
structure FirstW (n : Nat) (L : List Nat → Bool) (w : List Nat) : Prop where
  ltr : Ltr n w
  is : L w = true
  le : ∀ v, Ltr n v → L v = true → w = v ∨ RL w.reverse v.reverse
theorem FirstW.unique {n : Nat} {L L' : List Nat → Bool} {v w : List Nat} (h : FirstW n L v) (h' : FirstW n L' w) (hL : ∀ w, Ltr n w → L w = L' w) : v = w := by
  rcases h.le w h'.ltr (by rw [hL w h'.ltr]; exact h'.is) with e | e
  · exact e
  · rcases h'.le v h.ltr (by rw [← hL v h.ltr]; exact h.is) with e' | e'
    · exact e'.symm
    · exact (RL.irrefl (e.trans e')).elim
theorem FirstW.congr {n : Nat} {L L' : List Nat → Bool} {w : List Nat} (h : FirstW n L w) (hL : ∀ w, Ltr n w → L w = L' w) : FirstW n L' w :=
  ⟨h.ltr, by rw [← hL w h.ltr]; exact h.is, fun v hv hv' => h.le v hv (by rw [hL v hv]; exact hv')⟩

/-- The way back to what was met first. -/
def wayF (par : Nat → Nat × Nat) : Nat → Nat → List Nat
  | 0, _ => []
  | f + 1, i => if i = 0 then [] else (par i).2 :: wayF par f (par i).1
def way (par : Nat → Nat × Nat) (i : Nat) : List Nat := wayF par i i
section
variable {σ : Type} {δ : σ → Nat → σ} {n : Nat} {met : List σ} {par : Nat → Nat × Nat} {s0 : σ} {J L : Nat}
/-- What was met, from where, and that it is closed ahead of a place. -/
structure Tree (δ : σ → Nat → σ) (n : Nat) (s0 : σ) (met : List σ) (par : Nat → Nat × Nat) (J L : Nat) : Prop where
  zero : met[0]? = some s0
  src : ∀ i, 0 < i → i < met.length → (par i).1 < i ∧ (par i).2 < n ∧ Before (par i).1 (par i).2 J L ∧ ∃ s, met[(par i).1]? = some s ∧ met[i]? = some (δ s (par i).2)
  mono : ∀ i i', 0 < i → i < i' → i' < met.length → Before (par i).1 (par i).2 (par i').1 (par i').2
  clos : ∀ j l s, Before j l J L → l < n → met[j]? = some s → ∃ i, met[i]? = some (δ s l) ∧ (i = 0 ∨ par i = (j, l) ∨ Before (par i).1 (par i).2 j l)
theorem wayF_more (h : ∀ i, 0 < i → i < met.length → (par i).1 < i) : ∀ (f i : Nat), i ≤ f → i < met.length → wayF par f i = way par i := by
  have key : ∀ (f g i : Nat), i ≤ f → i ≤ g → i < met.length → wayF par f i = wayF par g i := by
    intro f
    induction f with
    | zero =>
      intro g i hf _ _
      obtain rfl : i = 0 := by omega
      cases g with
      | zero => rfl
      | succ g => simp [wayF]
    | succ f ih =>
      intro g i hf hg hi
      cases g with
      | zero =>
        obtain rfl : i = 0 := by omega
        simp [wayF]
      | succ g =>
        unfold wayF
        split
        · rfl
        · have := h i (by omega) hi
          rw [ih g (par i).1 (by omega) (by omega) (by omega)]
  exact fun f i hf hi => key f i i hf (Nat.le_refl _) hi
theorem way_zero : way par 0 = [] := rfl
theorem way_step (h : ∀ i, 0 < i → i < met.length → (par i).1 < i) {i : Nat} (h0 : 0 < i) (hi : i < met.length) : way par i = (par i).2 :: way par (par i).1 := by
  obtain ⟨k, rfl⟩ : ∃ k, i = k + 1 := ⟨i - 1, by omega⟩
  have := h (k + 1) h0 hi
  unfold way
  rw [wayF, if_neg (by omega), wayF_more h k _ (by omega) (by omega)]
  rfl
theorem Tree.par_lt (h : Tree δ n s0 met par J L) : ∀ i, 0 < i → i < met.length → (par i).1 < i := fun i h0 hi => (h.src i h0 hi).1
theorem Tree.way_ltr (h : Tree δ n s0 met par J L) : ∀ i, i < met.length → Ltr n (way par i) := by
  intro i
  induction i using Nat.strongRecOn with
  | _ i ih =>
    intro hi
    by_cases h0 : i = 0
    · subst h0; intro l hl; simp [way_zero] at hl
    · have hs := h.src i (by omega) hi
      rw [way_step h.par_lt (by omega) hi]
      intro l hl
      rcases List.mem_cons.1 hl with rfl | hl
      · exact hs.2.1
      · exact ih _ hs.1 (by omega) l hl
/-- The way leads there. -/
theorem Tree.way_run (h : Tree δ n s0 met par J L) : ∀ i, i < met.length → met[i]? = some ((way par i).foldr (fun l s => δ s l) s0) := by
  intro i
  induction i using Nat.strongRecOn with
  | _ i ih =>
    intro hi
    by_cases h0 : i = 0
    · subst h0; exact h.zero
    · obtain ⟨h1, _, _, s, h2, h3⟩ := h.src i (by omega) hi
      rw [way_step h.par_lt (by omega) hi, h3]
      have := ih _ h1 (by omega)
      rw [h2] at this
      rw [List.foldr_cons, ← Option.some.inj this]
theorem Tree.way_mono (h : Tree δ n s0 met par J L) : ∀ i' i, i < i' → i' < met.length → RL (way par i) (way par i') := by
  intro i'
  induction i' using Nat.strongRecOn with
  | _ i' ih =>
    intro i hi hi'
    have hs := h.src i' (by omega) hi'
    rw [way_step h.par_lt (by omega) hi']
    by_cases h0 : i = 0
    · subst h0; trivial
    · rw [way_step h.par_lt (i := i) (by omega) (by omega)]
      rcases h.mono i i' (by omega) hi hi' with hb | ⟨e, hb⟩
      · exact .inl (ih _ hs.1 _ hb (by omega))
      · exact .inr ⟨by rw [e], hb⟩
theorem Tree.upto (h : Tree δ n s0 met par J 0) : ∀ r : List Nat, Ltr n r → (∃ i, met[i]? = some (r.foldr (fun l s => δ s l) s0) ∧ (way par i = r ∨ RL (way par i) r)) ∨ (J < met.length ∧ RL (way par J) r)
  | [], _ => .inl ⟨0, h.zero, .inl way_zero⟩
  | l :: q, hr => by
    have hl := hr l List.mem_cons_self
    rcases h.upto q fun x hx => hr x (List.mem_cons_of_mem _ hx) with ⟨j, h1, h2⟩ | ⟨h1, h2⟩
    · have hj := (List.getElem?_eq_some_iff.1 h1).1
      by_cases hJ : j < J
      · obtain ⟨i, h3, h4⟩ := h.clos j l _ (.inl hJ) hl h1
        have hi := (List.getElem?_eq_some_iff.1 h3).1
        refine .inl ⟨i, h3, ?_⟩
        by_cases h0 : i = 0
        · subst h0; exact .inr trivial
        · rw [way_step h.par_lt (by omega) hi]
          rcases h4 with e | e | e
          · omega
          · rw [e]
            rcases h2 with h2 | h2
            · exact .inl (by rw [h2])
            · exact .inr (.inl h2)
          · rcases e with e | ⟨e1, e2⟩
            · have := h.way_mono j _ e hj
              rcases h2 with h2 | h2
              · exact .inr (.inl (h2 ▸ this))
              · exact .inr (.inl (this.trans h2))
            · rw [e1]
              rcases h2 with h2 | h2
              · exact .inr (.inr ⟨h2, e2⟩)
              · exact .inr (.inl h2)
      · refine .inr ⟨by omega, ?_⟩
        have : RL (way par J) q ∨ way par J = q := by
          by_cases e : J = j
          · subst e; exact h2.symm
          · have := h.way_mono j J (by omega) hj
            rcases h2 with h2 | h2
            · exact .inl (h2 ▸ this)
            · exact .inl (this.trans h2)
        rcases this with h | h
        · exact h.trans (RL.cons l q)
        · rw [h]; exact RL.cons l q
    · exact .inr ⟨h1, h2.trans (RL.cons l q)⟩
/-- The first that is found. -/
theorem Tree.first (h : Tree δ n s0 met par J 0) {E : σ → Bool} {s : σ} (hJ : met[J]? = some s) (hE : E s = true) (hno : ∀ i s, i < J → met[i]? = some s → E s = false) : FirstW n (fun w => E (w.foldl δ s0)) (way par J).reverse := by
  have hlt := (List.getElem?_eq_some_iff.1 hJ).1
  refine ⟨fun l hl => h.way_ltr J hlt l (by simpa using hl), ?_, fun v hv hv' => ?_⟩
  · have := h.way_run J hlt
    rw [hJ] at this
    simp only [List.foldl_reverse]
    rw [← Option.some.inj this]; exact hE
  · rw [List.reverse_reverse]
    have hv2 : v.foldl δ s0 = v.reverse.foldr (fun l s => δ s l) s0 := by rw [List.foldr_reverse]
    simp only [hv2] at hv'
    rcases h.upto v.reverse fun l hl => hv l (by simpa using hl) with ⟨i, h1, h2⟩ | ⟨_, h2⟩
    · have hi := (List.getElem?_eq_some_iff.1 h1).1
      by_cases hiJ : i < J
      · have := hno i _ hiJ h1
        rw [this] at hv'; simp at hv'
      · have key : way par J = v.reverse ∨ RL (way par J) v.reverse := by
          by_cases e : i = J
          · subst e; exact h2
          · have := h.way_mono i J (by omega) hi
            rcases h2 with h2 | h2
            · exact .inr (h2 ▸ this)
            · exact .inr (this.trans h2)
        rcases key with k | k
        · exact .inl (by rw [k, List.reverse_reverse])
        · exact .inr k
    · exact .inr h2
/-- Nothing is found. -/
theorem Tree.none (h : Tree δ n s0 met par met.length 0) {E : σ → Bool} (hno : ∀ (i : Nat) (s : σ), met[i]? = some s → E s = false) {w : List Nat} (hw : Ltr n w) : E (w.foldl δ s0) = false := by
  have hv2 : w.foldl δ s0 = w.reverse.foldr (fun l s => δ s l) s0 := by rw [List.foldr_reverse]
  rcases h.upto w.reverse fun l hl => hw l (by simpa using hl) with ⟨i, h1, _⟩ | ⟨h1, _⟩
  · rw [hv2]; exact hno i _ h1
  · omega
theorem Tree.start (δ : σ → Nat → σ) (n : Nat) (s0 : σ) (par : Nat → Nat × Nat) : Tree δ n s0 [s0] par 0 0 :=
  ⟨rfl, fun i h0 hi => by simp at hi; omega, fun i i' h0 h1 h2 => by simp at h2; omega, fun j l s h => by rcases h with h | ⟨_, h⟩ <;> omega⟩
theorem Tree.skip (h : Tree δ n s0 met par J L) {s u : σ} (hr : met[J]? = some s) (hu : δ s L = u) (hm : u ∈ met) : Tree δ n s0 met par J (L + 1) := by
  refine ⟨h.zero, fun i h0 hi => ?_, h.mono, fun j l q hb hl hq => ?_⟩
  · obtain ⟨a, b, c, d⟩ := h.src i h0 hi
    exact ⟨a, b, before_weak c, d⟩
  · rcases before_succ hb with hb | ⟨rfl, rfl⟩
    · exact h.clos j l q hb hl hq
    · rw [hr] at hq; cases hq
      obtain ⟨i, hi⟩ := List.mem_iff_getElem?.1 hm
      refine ⟨i, by rw [hi, hu], ?_⟩
      by_cases h0 : i = 0
      · exact .inl h0
      · exact .inr (.inr (h.src i (by omega) (List.getElem?_eq_some_iff.1 hi).1).2.2.1)
theorem Tree.snoc (h : Tree δ n s0 met par J L) {par' : Nat → Nat × Nat} (hp : ∀ i, i < met.length → par' i = par i) (hp2 : par' met.length = (J, L)) (hL : L < n) {s u : σ} (hr : met[J]? = some s) (hu : δ s L = u) : Tree δ n s0 (met ++ [u]) par' J (L + 1) := by
  have hJ : J < met.length := (List.getElem?_eq_some_iff.1 hr).1
  have up : ∀ {k : Nat} {x : σ}, met[k]? = some x → (met ++ [u])[k]? = some x := fun {k x} hk => by
    rw [List.getElem?_append_left (List.getElem?_eq_some_iff.1 hk).1]; exact hk
  have down : ∀ {k : Nat} {x : σ}, k < met.length → (met ++ [u])[k]? = some x → met[k]? = some x := fun {k x} hk hx => by
    rwa [List.getElem?_append_left hk] at hx
  have hlast : (met ++ [u])[met.length]? = some u := by rw [List.getElem?_append_right (Nat.le_refl _), Nat.sub_self]; rfl
  refine ⟨up h.zero, fun i h0 hi => ?_, fun i i' h0 h1 h2 => ?_, fun j l q hb hl hq => ?_⟩
  · by_cases hlt : i < met.length
    · obtain ⟨a, b, c, x, d, e⟩ := h.src i h0 hlt
      rw [hp i hlt]
      exact ⟨a, b, before_weak c, x, up d, up e⟩
    · obtain rfl : i = met.length := by simp at hi; omega
      rw [hp2]
      exact ⟨hJ, hL, .inr ⟨rfl, by omega⟩, s, up hr, by rw [hlast, hu]⟩
  · by_cases hlt : i' < met.length
    · rw [hp i (by omega), hp i' hlt]; exact h.mono i i' h0 h1 hlt
    · obtain rfl : i' = met.length := by simp at h2; omega
      rw [hp i h1, hp2]
      exact (h.src i h0 h1).2.2.1
  · rcases before_succ hb with hb | ⟨rfl, rfl⟩
    · have hj : j < met.length := by rcases hb with hb | ⟨rfl, _⟩ <;> omega
      obtain ⟨i, h1, h2⟩ := h.clos j l q hb hl (down hj hq)
      have hi := (List.getElem?_eq_some_iff.1 h1).1
      exact ⟨i, up h1, by rw [hp i hi]; exact h2⟩
    · have hq := down hJ hq
      rw [hr] at hq; cases hq
      exact ⟨met.length, by rw [hlast, hu], .inr (.inl hp2)⟩
theorem Tree.line (h : Tree δ n s0 met par J n) : Tree δ n s0 met par (J + 1) 0 := by
  refine ⟨h.zero, fun i h0 hi => ?_, h.mono, fun j l q hb hl hq => h.clos j l q ?_ hl hq⟩
  · obtain ⟨a, b, c, d⟩ := h.src i h0 hi
    refine ⟨a, b, ?_, d⟩
    rcases c with c | ⟨c, _⟩
    · exact .inl (by omega)
    · exact .inl (by omega)
  · rcases hb with hb | ⟨_, hb⟩
    · by_cases e : j = J
      · exact .inr ⟨e, hl⟩
      · exact .inl (by omega)
    · omega
end
/-- What a search over pairs has come to. -/
structure Srch (a b : GAuto) (n ma mb : Nat) (met hw : List (Int × Int)) (par : Nat → Nat × Nat) (J L : Nat) : Prop where
  nd : met.Nodup
  rg : ∀ p ∈ met, (0 ≤ p.1 ∧ p.1 < (ma : Int)) ∧ 0 ≤ p.2 ∧ p.2 < (mb : Int)
  tree : Tree (pst a b) n (0, 0) met par J L
  hl : hw.length = met.length
  h0 : hw[0]? = some (-1, 0)
  hs : ∀ j, 0 < j → j < met.length → hw[j]? = some (((par j).1 : Int), ((par j).2 : Int))
theorem Srch.start (a b : GAuto) (n : Nat) {ma mb : Nat} (ha : 0 < ma) (hb : 0 < mb) : Srch a b n ma mb [(0, 0)] [(-1, 0)] (fun _ => (0, 0)) 0 0 :=
  ⟨by simp, fun p hp => by simp at hp; subst hp; simp only; omega, Tree.start _ _ _ _, rfl, rfl, fun j h0 hj => by simp at hj; omega⟩
section
variable {a b : GAuto} {n ma mb : Nat} {met hw : List (Int × Int)} {par : Nat → Nat × Nat} {J L : Nat}
theorem Srch.skip (h : Srch a b n ma mb met hw par J L) {s u : Int × Int} (hr : met[J]? = some s) (hu : pst a b s L = u) (hm : u ∈ met) : Srch a b n ma mb met hw par J (L + 1) :=
  ⟨h.nd, h.rg, h.tree.skip hr hu hm, h.hl, h.h0, h.hs⟩
theorem Srch.snoc (h : Srch a b n ma mb met hw par J L) (hL : L < n) {s u : Int × Int} (hr : met[J]? = some s) (hu : pst a b s L = u) (hm : u ∉ met) (hb : (0 ≤ u.1 ∧ u.1 < (ma : Int)) ∧ 0 ≤ u.2 ∧ u.2 < (mb : Int)) :
    Srch a b n ma mb (met ++ [u]) (hw ++ [((J : Int), (L : Int))]) (fun j => if j = met.length then (J, L) else par j) J (L + 1) := by
  refine ⟨?_, fun p hp => ?_, h.tree.snoc (fun i hi => by rw [if_neg (by omega)]) (by rw [if_pos rfl]) hL hr hu, by simp [h.hl], ?_, fun j h0 hj => ?_⟩
  · rw [List.nodup_append]
    exact ⟨h.nd, by simp, fun c hc d hd => by simp at hd; subst hd; rintro rfl; exact hm hc⟩
  · rcases List.mem_append.1 hp with hp | hp
    · exact h.rg p hp
    · simp at hp; subst hp; exact hb
  · have := (List.getElem?_eq_some_iff.1 h.h0).1
    rw [List.getElem?_append_left this]; exact h.h0
  · by_cases e : j = met.length
    · subst e
      simp only [if_true]
      rw [List.getElem?_append_right (by rw [h.hl]; exact Nat.le_refl _), h.hl, Nat.sub_self]; rfl
    · have hj2 : j < met.length := by simp at hj; omega
      simp only [e, if_false]
      rw [List.getElem?_append_left (by rw [h.hl]; exact hj2)]
      exact h.hs j h0 hj2
theorem Srch.line (h : Srch a b n ma mb met hw par J n) : Srch a b n ma mb met hw par (J + 1) 0 := ⟨h.nd, h.rg, h.tree.line, h.hl, h.h0, h.hs⟩
end
/-- A list turned round, pair by pair. -/
def Turned (W c : List Int) (j : Nat) : Prop := c.length = W.length ∧ ∀ x, x < W.length → c[x]! = if x < j ∨ W.length - 1 - x < j then W[W.length - 1 - x]! else W[x]!
theorem Turned.start (W : List Int) : Turned W W 0 := ⟨rfl, fun x _ => by simp⟩
theorem Turned.step {W c : List Int} {j : Nat} (h : Turned W c j) (hj : j < W.length - 1 - j) : Turned W ((c.set j (c[W.length - 1 - j]!)).set (W.length - 1 - j) (c[j]!)) (j + 1) := by
  have hl := h.1
  refine ⟨by simp [hl], fun x hx => ?_⟩
  have hxl : x < ((c.set j (c[W.length - 1 - j]!)).set (W.length - 1 - j) (c[j]!)).length := by simp; omega
  rw [getElem!_pos _ x hxl, List.getElem_set]
  by_cases h1 : W.length - 1 - j = x
  · rw [if_pos h1, if_pos (by omega), h.2 j (by omega), if_neg (by omega)]
    congr 1; omega
  · rw [if_neg h1, List.getElem_set]
    by_cases h2 : j = x
    · rw [if_pos h2, if_pos (by omega), h.2 _ (by omega), if_neg (by omega)]
      congr 1; omega
    · have hxc : x < c.length := by omega
      rw [if_neg h2, ← getElem!_pos c x hxc, h.2 x hx]
      by_cases h3 : x < j ∨ W.length - 1 - x < j
      · rw [if_pos h3, if_pos (by omega)]
      · rw [if_neg h3, if_neg (by omega)]
theorem Turned.done {W c : List Int} {j : Nat} (h : Turned W c j) (hj : ¬ j < W.length - 1 - j) : c = W.reverse := by
  have hl := h.1
  refine List.ext_getElem (by simp [hl]) fun x h1 h2 => ?_
  have hx : x < W.length := by omega
  rw [← getElem!_pos c x h1, h.2 x hx, List.getElem_reverse]
  by_cases h3 : x < j ∨ W.length - 1 - x < j
  · rw [if_pos h3, getElem!_pos W _ (by omega)]
  · rw [if_neg h3, getElem!_pos W x hx]
    congr 1; omega
end Go.Proofs.Ythcclcbliedodaa
namespace Go.Proofs.Ythcclcbliedodaa

theorem met_step {n m : Nat} {next : List (List Int)} (h : Rows0 n m next) (h0 : 0 < m) {s : Int} (hs : s ∈ met next) {l : Nat} (hl : l < n) : nx next s l ∈ met next := by
  obtain ⟨j, hj⟩ := List.mem_iff_getElem?.1 hs
  have hb := met_bfs h h0
  obtain ⟨i, hi, _⟩ := hb.rg j l s (.inl (List.getElem?_eq_some_iff.1 hj).1) hl hj
  exact List.mem_of_getElem? hi
theorem met_zero {n m : Nat} {next : List (List Int)} (h : Rows0 n m next) (h0 : 0 < m) : (0 : Int) ∈ met next := List.mem_of_getElem? (met_bfs h h0).zero
/-- Every state of a least automaton is met. -/
theorem Least.met {n : Nat} {N : List (List Int)} {E : List Bool} {L : List Nat → Bool} (h : Least n N E L) : (met N).length = N.length := by
  have hR := h.rows
  have h0 := h.canon.m0
  have hall : ∀ t, t < N.length → (t : Int) ∈ Go.Proofs.Ythcclcbliedodaa.met N := by
    intro t
    induction t using Nat.strongRecOn with
    | _ t ih =>
      intro ht
      by_cases ht0 : t = 0
      · subst ht0; exact met_zero hR h0
      · obtain ⟨s, l, hs, hl, he⟩ := h.canon.reach t (by omega) ht
        have h1 := met_step hR h0 (ih s hs (by omega)) hl
        have h2 := nx_ok hR (s := (s : Int)) (l := l) ⟨by omega, by omega⟩ hl
        have e : nx N (s : Int) l = (t : Int) := by
          have e1 : nx N (s : Int) l = (N.getD s []).getD l 0 := rfl
          omega
        rwa [e] at h1
  have hok := met_ok hR h0
  have hle := hok.len
  refine Nat.le_antisymm hle ?_
  have hi : ∀ t, ∃ i, t < N.length → (Go.Proofs.Ythcclcbliedodaa.met N)[i]? = some (t : Int) := fun t => by
    by_cases ht : t < N.length
    · obtain ⟨i, hi⟩ := List.mem_iff_getElem?.1 (hall t ht)
      exact ⟨i, fun _ => hi⟩
    · exact ⟨0, fun h => absurd h ht⟩
  let f : Nat → Nat := fun t => Classical.choose (hi t)
  have hf : ∀ t, t < N.length → (Go.Proofs.Ythcclcbliedodaa.met N)[f t]? = some (t : Int) := fun t => Classical.choose_spec (hi t)
  have hn := nodup_boundN (Go.Proofs.Ythcclcbliedodaa.met N).length ((List.range N.length).map f) (by
    rw [List.nodup_iff_pairwise_ne, List.pairwise_map]
    refine List.Pairwise.imp_of_mem (fun {a b} ha hb hab => ?_) List.nodup_range
    intro e
    have h1 := hf a (List.mem_range.1 ha)
    have h2 := hf b (List.mem_range.1 hb)
    rw [e, h2] at h1
    exact hab (by have := Option.some.inj h1; omega)) fun s hs => by
    obtain ⟨t, ht, rfl⟩ := List.mem_map.1 hs
    exact (List.getElem?_eq_some_iff.1 (hf t (List.mem_range.1 ht))).1
  simpa using hn
/-- Any two states of a least automaton part at some word. -/
theorem Least.part {n : Nat} {N : List (List Int)} {E : List Bool} {L : List Nat → Bool} (h : Least n N E L) {s t : Int} (hs : 0 ≤ s ∧ s < (N.length : Int)) (ht : 0 ≤ t ∧ t < (N.length : Int)) (hne : s ≠ t) : ∃ w, Ltr n w ∧ lang N E s w ≠ lang N E t w := by
  refine Classical.byContradiction fun hc => hne ?_
  have hall : ∀ w, Ltr n w → lang N E s w = lang N E t w := fun w hw => Classical.byContradiction fun h => hc ⟨w, hw, h⟩
  obtain ⟨s, rfl⟩ := Int.eq_ofNat_of_zero_le hs.1
  obtain ⟨t, rfl⟩ := Int.eq_ofNat_of_zero_le ht.1
  have := h.canon.red s t (by omega) (by omega) fun w hw => by
    have := hall w hw
    unfold lang endOf at this
    rw [h.runS w s (by omega) hw, h.runS w t (by omega) hw] at this
    simpa using this
  omega
end Go.Proofs.Ythcclcbliedodaa
namespace Go.Proofs.Ythcclcbliedodaa
open Go.RowKit

/-- The operations of os read own memory; all others but the calls look at no memory. -/
structure QM (os : List Nat) (tt : Nat → Option TI) (tb : Tab) (k : Nat) (o : Oper) (s : St) (x : SV) : Prop where
  guard : o.guard = none
  dst : dstOk s.nt o.dst = true
  here : evalX tt tb s o.op = some x
  val : k ∉ os → ∀ H : List Ob, evalX tt tb ⟨s.nt, s.tmps, H⟩ o.op = some x
open Classical in
noncomputable def stepM (ls : Nat → Option LoudS) (os : List Nat) (tt : Nat → Option TI) (tb : Tab) (ops : Array Oper) (k : Nat) (s : St) : Option St := match ops[k]? with
  | none => none
  | some o => match ls k with
    | some L => if o.guard = none ∧ s.heap = L.heap ∧ o.op.operands.toList.map s.ev = L.args ∧ dstOk s.nt o.dst = true then some (loudSt s L o.dst) else none
    | none => if h : ∃ x, QM os tt tb k o s x then some (s.put o.dst (Classical.choose h)) else none
section
variable {P : Program} {G : World → Prop} {tt : Nat → Option TI} {tb : Tab} {ops : Array Oper} {ls : Nat → Option LoudS} {os : List Nat}
theorem QM.eq {k : Nat} {o : Oper} {s : St} {x y : SV} (h : QM os tt tb k o s x) (h' : QM os tt tb k o s y) : x = y := by
  have := h.here
  rw [h'.here] at this
  exact (Option.some.inj this).symm
theorem QM.ev {k : Nat} {o : Oper} {s s' : St} {x : SV} (h : QM os tt tb k o s x) (hh : k ∈ os → s'.heap = s.heap) (hn : s'.nt = s.nt) (he : ∀ y ∈ o.op.operands, s'.ev y = s.ev y) : QM os tt tb k o s' x := by
  have hv : k ∉ os → ∀ H : List Ob, evalX tt tb ⟨s'.nt, s'.tmps, H⟩ o.op = some x := fun hk H => by
    rw [← h.val hk H]
    exact evalX_congr (s := ⟨s'.nt, s'.tmps, H⟩) (s' := ⟨s.nt, s.tmps, H⟩) rfl o.op fun y hy => by rw [ev_heap, ev_heap]; exact he y hy
  refine ⟨h.guard, by rw [hn]; exact h.dst, ?_, hv⟩
  by_cases hk : k ∈ os
  · rw [← h.here]
    exact evalX_congr (hh hk) o.op he
  · exact hv hk s'.heap
theorem stepM_q {k : Nat} {s t : St} {o : Oper} (ho : ops[k]? = some o) (hl : ls k = none) : stepM ls os tt tb ops k s = some t ↔ ∃ x, QM os tt tb k o s x ∧ t = s.put o.dst x := by
  unfold stepM
  rw [ho, hl]
  simp only
  constructor
  · intro h
    split at h
    · rename_i hx
      cases h
      exact ⟨_, Classical.choose_spec hx, rfl⟩
    · cases h
  · rintro ⟨x, hx, rfl⟩
    have he : ∃ x, QM os tt tb k o s x := ⟨x, hx⟩
    rw [dif_pos he, (Classical.choose_spec he).eq hx]
theorem stepM_l {k : Nat} {s t : St} {o : Oper} {L : LoudS} (ho : ops[k]? = some o) (hl : ls k = some L) : stepM ls os tt tb ops k s = some t ↔ (o.guard = none ∧ s.heap = L.heap ∧ o.op.operands.toList.map s.ev = L.args ∧ dstOk s.nt o.dst = true) ∧ t = loudSt s L o.dst := by
  unfold stepM
  rw [ho, hl]
  simp only
  constructor
  · intro h
    split at h
    · rename_i hc; cases h; exact ⟨hc, rfl⟩
    · cases h
  · rintro ⟨hc, rfl⟩
    rw [if_pos hc]
theorem stepM_quiet {k : Nat} {s t : St} {o : Oper} {x : SV} (ho : ops[k]? = some o) (hl : ls k = none) (h1 : o.guard = none) (h2 : dstOk s.nt o.dst = true) (h4 : ∀ H : List Ob, evalX tt tb ⟨s.nt, s.tmps, H⟩ o.op = some x) (h6 : s.put o.dst x = t) : stepM ls os tt tb ops k s = some t := by
  subst h6
  exact (stepM_q ho hl).2 ⟨x, ⟨h1, h2, h4 s.heap, fun _ => h4⟩, rfl⟩
theorem stepM_own {k : Nat} {s t : St} {o : Oper} {x : SV} (ho : ops[k]? = some o) (hl : ls k = none) (hk : k ∈ os) (h1 : o.guard = none) (h2 : dstOk s.nt o.dst = true) (h4 : evalX tt tb s o.op = some x) (h6 : s.put o.dst x = t) : stepM ls os tt tb ops k s = some t := by
  subst h6
  exact (stepM_q ho hl).2 ⟨x, ⟨h1, h2, h4, fun h => (h hk).elim⟩, rfl⟩
theorem stepM_loud {k : Nat} {s : St} {o : Oper} {L : LoudS} (ho : ops[k]? = some o) (hl : ls k = some L) (h1 : o.guard = none) (h2 : s.heap = L.heap) (h3 : o.op.operands.toList.map s.ev = L.args) (h4 : dstOk s.nt o.dst = true) {t : St} (h5 : loudSt s L o.dst = t) : stepM ls os tt tb ops k s = some t :=
  (stepM_l ho hl).2 ⟨⟨h1, h2, h3, h4⟩, h5.symm⟩
theorem stepM_congr (k : Nat) (s s' t : St) (h : Eqv s s') (hs : stepM ls os tt tb ops k s = some t) : ∃ t', stepM ls os tt tb ops k s' = some t' ∧ Eqv t t' := by
  cases ho : ops[k]? with
  | none => unfold stepM at hs; rw [ho] at hs; cases hs
  | some o =>
    cases hl : ls k with
    | none =>
      obtain ⟨x, hx, rfl⟩ := (stepM_q ho hl).1 hs
      exact ⟨_, (stepM_q ho hl).2 ⟨x, hx.ev (fun _ => h.heap.symm) h.nt.symm fun y _ => (h.ev y).symm, rfl⟩, h.put _ _⟩
    | some L =>
      obtain ⟨⟨h1, h2, h3, h4⟩, rfl⟩ := (stepM_l ho hl).1 hs
      refine ⟨_, (stepM_l ho hl).2 ⟨⟨h1, by rw [← h.heap]; exact h2, ?_, by rw [← h.nt]; exact h4⟩, rfl⟩, loud_congr h L _⟩
      rw [← h3]
      exact List.map_congr_left fun y _ => (h.ev y).symm
theorem mild_tmps {s : St} {L : LoudS} (hm : L.π = some) : (s.tmps.map fun p => (p.1, p.2.ren L.π)) = s.tmps := by
  rw [hm]
  conv => rhs; rw [← List.map_id s.tmps]
  exact List.map_congr_left fun p _ => by rw [SV.ren_some]; rfl
theorem mild_ev {s : St} {L : LoudS} {d : Option Nat} {y : Operand} (hm : L.π = some) (hd : ∀ t, d = some t → y ≠ .tmp t) : (loudSt s L d).ev y = s.ev y := by
  unfold loudSt
  rw [put_ev hd, mild_tmps hm]
  cases y <;> rfl
theorem mild_put (s : St) (L : LoudS) (d e : Option Nat) {x : SV} (hm : L.π = some) (hne : ∀ t, e = some t → d ≠ some t) : Eqv (loudSt (s.put e x) L d) ((loudSt s L d).put e x) := by
  have e1 : loudSt (s.put e x) L d = (({ nt := s.nt, tmps := s.tmps.map fun p => (p.1, p.2.ren L.π), heap := L.heap' } : St).put e x).put d L.r := by
    unfold loudSt
    cases e with
    | none => rfl
    | some t => simp only [St.put, List.map_cons, hm, SV.ren_some]
  rw [e1]
  unfold loudSt
  exact put_comm _ x L.r hne
def passM (lk ml os : List Nat) (ops : Array Oper) (j k : Nat) : Bool := match ops[j]?, ops[k]? with
  | some x, some y => x.apart ops y && (!(lk.contains j && lk.contains k) && ((!lk.contains j || (ml.contains j && !os.contains k)) && (!lk.contains k || (ml.contains k && !os.contains j))))
  | _, _ => false
theorem swapM {lk ml : List Nat} (hlk : ∀ k L, ls k = some L → k ∈ lk) (hml : ∀ k L, ls k = some L → k ∈ ml → L.π = some) (j k : Nat) (s s1 s2 : St) (hp : passM lk ml os ops j k = true) (h1 : stepM ls os tt tb ops j s = some s1) (h2 : stepM ls os tt tb ops k s1 = some s2) : ∃ u u', stepM ls os tt tb ops k s = some u ∧ stepM ls os tt tb ops j u = some u' ∧ Eqv s2 u' := by
  unfold passM at hp
  split at hp
  rotate_left
  · cases hp
  rename_i x y hx hy
  simp only [Bool.and_eq_true] at hp
  obtain ⟨hap, hnl, hj0, hk0⟩ := hp
  obtain ⟨a1, a2, a3⟩ := Oper.apart_spec hap
  cases hj : ls j with
  | none =>
    obtain ⟨p, hpq, rfl⟩ := (stepM_q hx hj).1 h1
    cases hk : ls k with
    | none =>
      obtain ⟨q, hq, rfl⟩ := (stepM_q hy hk).1 h2
      have hq' : QM os tt tb k y s q := hq.ev (fun _ => (put_heap ..).symm) (put_nt ..).symm fun z hz => (put_ev fun t e ez => a1 t e (looks_op (by subst ez; exact hz))).symm
      refine ⟨_, _, (stepM_q hy hk).2 ⟨q, hq', rfl⟩, (stepM_q hx hj).2 ⟨p, hpq.ev (fun _ => put_heap ..) (put_nt ..) fun z hz => put_ev fun t e ez => a3 t e (looks_op (by subst ez; exact hz)), rfl⟩, put_comm s p q fun t e => a2 t e⟩
    | some L =>
      have hkl := hlk k L hk
      have hk1 : k ∈ ml ∧ j ∉ os := by simpa [hkl] using hk0
      have hm := hml k L hk hk1.1
      obtain ⟨⟨g1, g2, g3, g4⟩, rfl⟩ := (stepM_l hy hk).1 h2
      refine ⟨_, _, (stepM_l hy hk).2 ⟨⟨g1, by rw [← put_heap s x.dst p]; exact g2, ?_, by rw [← put_nt s x.dst p]; exact g4⟩, rfl⟩, (stepM_q hx hj).2 ⟨p, hpq.ev (fun h => (hk1.2 h).elim) (by unfold loudSt; rw [put_nt]) (fun z hz => mild_ev hm fun t e ez => a3 t e (looks_op (by subst ez; exact hz))), rfl⟩, mild_put s L _ _ hm fun t e => a2 t e⟩
      rw [← g3]
      exact List.map_congr_left fun z hz => (put_ev fun t e ez => a1 t e (looks_op (by subst ez; simpa using hz))).symm
  | some L =>
    have hjl := hlk j L hj
    have hj1 : j ∈ ml ∧ k ∉ os := by simpa [hjl] using hj0
    have hm := hml j L hj hj1.1
    obtain ⟨⟨g1, g2, g3, g4⟩, rfl⟩ := (stepM_l hx hj).1 h1
    cases hk : ls k with
    | some L2 =>
      exfalso
      have e2 := hlk k L2 hk
      simp [hjl, e2] at hnl
    | none =>
      obtain ⟨q, hq, rfl⟩ := (stepM_q hy hk).1 h2
      have hq' : QM os tt tb k y s q := hq.ev (fun h => (hj1.2 h).elim) (by unfold loudSt; rw [put_nt]) fun z hz => (mild_ev hm fun t e ez => a1 t e (looks_op (by subst ez; exact hz))).symm
      refine ⟨_, _, (stepM_q hy hk).2 ⟨q, hq', rfl⟩, (stepM_l hx hj).2 ⟨⟨g1, by rw [put_heap]; exact g2, ?_, by rw [put_nt]; exact g4⟩, rfl⟩, (mild_put s L _ _ hm fun t e e2 => a2 t e2 e).symm⟩
      rw [← g3]
      exact List.map_congr_left fun z hz => put_ev fun t e ez => a3 t e (looks_op (by subst ez; simpa using hz))
def topoM (lk ml os : List Nat) (ops : Array Oper) : Bool := (List.range ops.size).all fun i => match ops[i]? with
  | some y => y.after.all (fun e => !Region.binds .any e || decide (e.on < i)) && (List.range i).all (fun j => ((ancs ops ops.size).getD i 0).testBit j || passM lk ml os ops j i)
  | none => true
theorem topoM_spec {lk ml : List Nat} (htopo : topoM lk ml os ops = true) : ∀ i y, ops[i]? = some y → (∀ e ∈ y.after, Region.binds .any e = true → e.on < i) ∧ ∀ j, j < i → ((ancs ops ops.size).getD i 0).testBit j = true ∨ passM lk ml os ops j i = true := fun i y hy => by
  have hi := (Array.getElem?_eq_some_iff.1 hy).1
  have := List.all_eq_true.1 htopo i (List.mem_range.2 hi)
  rw [hy] at this
  simp only [Bool.and_eq_true] at this
  obtain ⟨h1, h2⟩ := this
  refine ⟨fun e he hb => ?_, fun j hj => by simpa using List.all_eq_true.1 h2 j (List.mem_range.2 hj)⟩
  have := (Array.all_eq_true_iff_forall_mem.1 h1) e he
  simpa [hb] using this
theorem SW_drawM (ls : Nat → Option LoudS) (lk ml os : List Nat) (hm : P.follows .mixedOrders = true) (hT : TTok P tt) (hGl : Lasting G) (htb : Tab.ok P G tb) {id : Nat} {ops : Array Oper} (htopo : topoM lk ml os ops = true) (hlk : ∀ k L, ls k = some L → k ∈ lk) (hml : ∀ k L, ls k = some L → k ∈ ml → L.π = some) (hok : ∀ k L o, ls k = some L → ops[k]? = some o → LoudOk P G o L) {Q : Exit → St → Prop} {s t : St}
    (h : runA (stepM ls os tt tb ops) (List.range ops.size) s = some t) (hq : Q .normal t) : SW P G (.region id ops true) Q s := fun C hd a w hG hr => by
  refine wp_region_any hm ?_
  refine wpAny_abs (γ := Unit) (E := Eqv) (fun s a w => ∃ hd, StR C s hd a w) (fun _ => stepM ls os tt tb ops) ops.size Eqv.refl (fun _ _ _ h1 h2 => h1.trans h2) (fun _ _ _ _ => rfl) (fun _ => stepM_congr) (pass := fun j k => passM lk ml os ops j k = true) (fun _ => swapM hlk hml) (topoM_spec htopo) ?_ ?_ ops.size (Array.replicate ops.size false) s a _ (fun _ => True) (by simp) (fun i y hi => by by_cases h : i < ops.size <;> simp [h] at hi) (by rw [left_all]; simp) ⟨(), trivial⟩ (fun _ _ => trivial) (fun _ _ => ⟨t, by rw [left_all]; exact h, fun t' a' w' h1 ⟨hd', h2⟩ => ⟨t, hd', hq, h1.symm.str h2⟩⟩) ⟨hd, hr.drawn⟩
  · rintro _ k o s s1 a w K ho _ hst ⟨hd, hr⟩ hK
    cases hl : ls k with
    | none =>
      obtain ⟨x, hx, rfl⟩ := (stepM_q ho hl).1 hst
      rw [if_pos (by simp [Region.wanted, hx.guard])]
      exact evalX_wp hT hGl htb hG hr o hx.here fun v w' h1 h2 => hK _ _ ⟨hd, h1.put' rfl hx.dst h2⟩
    | some L =>
      obtain ⟨⟨h1, h2, h3, h4⟩, rfl⟩ := (stepM_l ho hl).1 hst
      rw [if_pos (by simp [Region.wanted, h1])]
      exact hok k L o hl ho C hd a w s K _ hG hr h2 h3 h4 fun hd' a' w' h' => hK _ _ ⟨hd', h'⟩
  · intro o s a w K ho
    simp at ho
theorem past_none : pastG [] [] = some := by
  funext i
  simp [pastG]
end
end Go.Proofs.Ythcclcbliedodaa
namespace Go.Proofs.Ythcclcbliedodaa

structure GOut where
  base : Int
  next : List (List Int)
  outs : List Int
def GOut.zero : GOut := ⟨0, [], []⟩
/-- Nothing is wrong. -/
structure OkOut (o : GOut) (k m : Nat) : Prop where
  k_eq : radix o.base = k
  k2 : 2 ≤ k ∧ k ≤ 6
  m0 : 0 < m
  m20 : m ≤ 20
  outs : o.outs.length = m
  rows : Rows0 k m o.next
  rng : ∀ x ∈ o.outs, 0 ≤ x ∧ x ≤ 9
end Go.Proofs.Ythcclcbliedodaa
