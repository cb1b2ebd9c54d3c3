/- Plain laws, data behind worlds, and contracts of functions, for the last text. No conditions. -/
import Derived.Test.YthcclcbliedodaaM2
set_option linter.unusedSimpArgs false
set_option linter.unusedVariables false
set_option linter.unnecessarySimpa false
set_option linter.unusedSectionVars false
namespace Go.Proofs.Ythcclcbliedodaa
open Go.RowKit

/-- A hidden row. -/
structure HR where
  a : Option Addr
  n : Nat
  cap : Nat
  e : Nat
  sz : Nat
  l : List T
def HR.raw (h : HR) : T := .raw h.a h.n h.cap
def HR.val (h : HR) : Value := .slice h.a h.n h.cap
structure HRok (C : Ctx) (h : HR) : Prop where
  n : h.n = h.l.length
  sz : 0 < h.sz
  max : h.l.length ≤ maxLen
  cells : ∀ x ∈ h.l, x.cells.length = h.sz
  flatD : ∀ x ∈ h.l, x.flatData = true
  row : ∃ xs, C.w1.ownsRow C.w0.heap.size h.e h.sz h.val h.n xs ∧ RepL (fun _ => False) C.w1 (flat h.l) xs
  hid : ∀ b, h.val.ownBlock = some b → C.K b
structure Hid {κ : Type} (g : κ → Option HR) (C : Ctx) : Prop where
  ok : ∀ x h, g x = some h → HRok C h
  dist : ∀ x y h h' b, g x = some h → g y = some h' → h.val.ownBlock = some b → h'.val.ownBlock = some b → x = y
theorem Hid.empty {κ : Type} (C : Ctx) : Hid (fun _ : κ => none) C := ⟨fun _ _ h => (by cases h), fun _ _ _ _ _ h _ _ _ => (by cases h)⟩
def upd {κ : Type} [DecidableEq κ] (g : κ → Option HR) (x : κ) (h : Option HR) : κ → Option HR := fun y => if y = x then h else g y

section
variable {P : Program} {G : World → Prop} {κ : Type} {tt : Nat → Option TI} {tb : Tab}
def LiftH (C : Ctx) (Q : Exit → St → (κ → Option HR) → Prop) : Exit → Act → World → Prop := fun e a w => ∃ C' st hd g, C'.w0 = C.w0 ∧ C'.S0 = C.S0 ∧ Q e st g ∧ Hid g C' ∧ StR C' st hd a w
theorem LiftH.eq {C C' : Ctx} {Q : Exit → St → (κ → Option HR) → Prop} (h1 : C'.w0 = C.w0) (h2 : C'.S0 = C.S0) : LiftH C' Q = LiftH C Q := by
  funext e a w
  unfold LiftH
  rw [h1, h2]
def HW (P : Program) (G : World → Prop) (c : Code) (Q : Exit → St → (κ → Option HR) → Prop) (st : St) (g : κ → Option HR) : Prop := ∀ C hd a w, G C.w0 → Hid g C → StR C st hd a w → c.wp P (LiftH C Q) a w
def HL (P : Program) (G : World → Prop) (ops : Array Oper) (l : List Oper) (Q : Exit → St → (κ → Option HR) → Prop) (st : St) (g : κ → Option HR) : Prop := ∀ C hd a w, G C.w0 → Hid g C → StR C st hd a w → wpList P ops (LiftH C Q) l a w
def HThen (K : St → (κ → Option HR) → Prop) (Q : Exit → St → (κ → Option HR) → Prop) : Exit → St → (κ → Option HR) → Prop
  | .normal, st, g => K st g
  | e, st, g => Q e st g
def HIn (id : Nat) (Q : Exit → St → (κ → Option HR) → Prop) : Exit → St → (κ → Option HR) → Prop
  | .exit id', st, g => if id' = id then Q .normal st g else Q (.exit id') st g
  | e, st, g => Q e st g
variable {Q : Exit → St → (κ → Option HR) → Prop} {st : St} {g : κ → Option HR} {c : Code}
/-- What needs none of the hidden rows. -/
theorem HW_sw (h : SW P G c (fun e s => Q e s g) st) : HW P G c Q st g := fun C hd a w hG hg hr =>
  wp_mono (h C hd a w hG hr) fun e a' w' ⟨st', hd', h1, h2⟩ => ⟨C, st', hd', g, rfl, rfl, h1, hg, h2⟩
theorem HW_seq {x y : Code} (h : HW P G x (HThen (HW P G y Q) Q) st g) : HW P G (.seq x y) Q st g := fun C hd a w hG hg hr => by
  refine wp_seq (wp_mono (h C hd a w hG hg hr) fun e a' w' hq => ?_)
  obtain ⟨C', st', hd', g', h1, h2, h3, h4, h5⟩ := hq
  cases e with
  | normal =>
    have := h3 C' hd' a' w' (by rw [h1]; exact hG) h4 h5
    rwa [LiftH.eq h1 h2] at this
  | _ => exact ⟨C', st', hd', g', h1, h2, h3, h4, h5⟩
theorem HW_block {id : Nat} (h : HW P G c (HIn id Q) st g) : HW P G (.block id c) Q st g := fun C hd a w hG hg hr => by
  refine wp_block (wp_mono (h C hd a w hG hg hr) fun e a' w' hq => ?_)
  obtain ⟨C', st', hd', g', h1, h2, h3, h4, h5⟩ := hq
  cases e with
  | exit id' =>
    simp only [HIn] at h3
    simp only [Exit.inBlock]
    split
    · rename_i e; rw [if_pos e] at h3; exact ⟨C', st', hd', g', h1, h2, h3, h4, h5⟩
    · rename_i e; rw [if_neg e] at h3; exact ⟨C', st', hd', g', h1, h2, h3, h4, h5⟩
  | _ => exact ⟨C', st', hd', g', h1, h2, h3, h4, h5⟩
theorem HW_cond {o : Operand} {x y : Code} {b : Bool} (hc : st.ev o = .t (.bool b)) (h1 : b = true → HW P G x Q st g) (h2 : b = false → HW P G y Q st g) : HW P G (.cond o x y) Q st g := fun C hd a w hG hg hr => by
  have h3 := hr.ev o
  rw [hc] at h3
  generalize hv : a.eval o = v at h3
  have h4 := h3.toT
  cases h4
  exact wp_cond_split hv (fun e => h1 e C hd a w hG hg hr) (fun e => h2 e C hd a w hG hg hr)
theorem HW_true {o : Operand} {x y : Code} (hc : st.ev o = .t (.bool true)) (h : HW P G x Q st g) : HW P G (.cond o x y) Q st g := HW_cond hc (fun _ => h) (fun e => by cases e)
theorem HW_false {o : Operand} {x y : Code} (hc : st.ev o = .t (.bool false)) (h : HW P G y Q st g) : HW P G (.cond o x y) Q st g := HW_cond hc (fun e => by cases e) (fun _ => h)
theorem HW_skip (h : Q .normal st g) : HW P G .skip Q st g := HW_sw (SW_skip h)
theorem HW_exit {id : Nat} (h : Q (.exit id) st g) : HW P G (.exit id) Q st g := HW_sw (SW_exit h)
theorem HW_ret (h : Q .ret st g) : HW P G .ret Q st g := HW_sw (SW_ret h)
theorem HW_norm {st' : St} (hn : Norm st st') (h : HW P G c Q st' g) : HW P G c Q st g := fun C hd a w hG hg hr => by
  obtain ⟨hd', hr'⟩ := hn C hd a w hr
  exact h C hd' a w hG hg hr'
/-- A step that does nothing: what was own is hidden, what was hidden is shown. -/
def GS {α : Type} (st : St) (g : κ → Option HR) (st' : α → St) (g' : α → κ → Option HR) : Prop := ∀ C hd a w, Hid g C → StR C st hd a w → ∃ x C' hd', C'.w0 = C.w0 ∧ C'.S0 = C.S0 ∧ Hid (g' x) C' ∧ StR C' (st' x) hd' a w
theorem HW_gs {α : Type} {st' : α → St} {g' : α → κ → Option HR} (hs : GS st g st' g') (h : ∀ x, HW P G c Q (st' x) (g' x)) : HW P G c Q st g := fun C hd a w hG hg hr => by
  obtain ⟨x, C', hd', h1, h2, h3, h4⟩ := hs C hd a w hg hr
  have := h x C' hd' a w (by rw [h1]; exact hG) h3 h4
  rwa [LiftH.eq h1 h2] at this
theorem HL_gs {α : Type} {ops : Array Oper} {l : List Oper} {st' : α → St} {g' : α → κ → Option HR} (hs : GS st g st' g') (h : ∀ x, HL P G ops l Q (st' x) (g' x)) : HL P G ops l Q st g := fun C hd a w hG hg hr => by
  obtain ⟨x, C', hd', h1, h2, h3, h4⟩ := hs C hd a w hg hr
  have := h x C' hd' a w (by rw [h1]; exact hG) h3 h4
  rwa [LiftH.eq h1 h2] at this
theorem GS.trans {α β : Type} {s1 : St} {g1 : κ → Option HR} {s2 : α → St} {g2 : α → κ → Option HR} {s3 : α → β → St} {g3 : α → β → κ → Option HR} (h : GS s1 g1 s2 g2) (h' : ∀ x, GS (s2 x) (g2 x) (s3 x) (g3 x)) : GS s1 g1 (fun p : α × β => s3 p.1 p.2) (fun p => g3 p.1 p.2) := fun C hd a w hg hr => by
  obtain ⟨x, C', hd', h1, h2, h3, h4⟩ := h C hd a w hg hr
  obtain ⟨y, C2, hd2, k1, k2, k3, k4⟩ := h' x C' hd' a w h3 h4
  exact ⟨(x, y), C2, hd2, k1.trans h1, k2.trans h2, k3, k4⟩
theorem HW_loop (I : Nat → St → (κ → Option HR) → Prop) (n : Nat) (h0 : ∃ st', Norm st st' ∧ I n st' g) (h : ∀ n s g, I n s g → HW P G c (HThen (fun s' g' => ∃ n' s'', n' < n ∧ Norm s' s'' ∧ I n' s'' g') Q) s g) : HW P G (.loop c) Q st g := fun C hd a w hG hg hr => by
  obtain ⟨st', hn, hI⟩ := h0
  obtain ⟨hd', hr'⟩ := hn C hd a w hr
  refine wp_loop_ghost (fun n a w => ∃ C' s hd g, C'.w0 = C.w0 ∧ C'.S0 = C.S0 ∧ I n s g ∧ Hid g C' ∧ StR C' s hd a w) n ⟨C, st', hd', g, rfl, rfl, hI, hg, hr'⟩ fun n a w hq => ?_
  obtain ⟨C1, s, hd1, g1, q1, q2, hI1, hg1, hr1⟩ := hq
  refine wp_mono (h n s g1 hI1 C1 hd1 a w (by rw [q1]; exact hG) hg1 hr1) fun e a' w' hq => ?_
  obtain ⟨C2, s', hd2, g2, k1, k2, h1, h2, h3⟩ := hq
  cases e with
  | normal =>
    obtain ⟨n', s'', h4, h5, h6⟩ := h1
    obtain ⟨hd3, h7⟩ := h5 C2 hd2 a' w' h3
    exact ⟨n', h4, C2, s'', hd3, g2, k1.trans q1, k2.trans q2, h6, h2, h7⟩
  | _ => exact ⟨C2, s', hd2, g2, k1.trans q1, k2.trans q2, h1, h2, h3⟩
/-- Regions of fixed order, some operations at a time. -/
theorem HL_nil {ops : Array Oper} (h : Q .normal st g) : HL P G ops [] Q st g := fun C hd _ _ _ hg hr => ⟨C, st, hd, g, rfl, rfl, h, hg, hr⟩
theorem HL_app (hT : TTok P tt) (hGl : Lasting G) (htb : Tab.ok P G tb) {ops : Array Oper} {l2 : List Oper} : ∀ {l : List Oper} {st st' : St}, runX tt tb ops l st = some st' → HL P G ops l2 Q st' g → HL P G ops (l ++ l2) Q st g
  | [], st, st', h, hq => by simp [runX] at h; subst h; exact hq
  | o :: r, st, st', h, hq => by
    unfold runX at h
    split at h
    · rename_i s1 hs
      intro C hd a w hG hg hr
      show wpList P ops _ (o :: (r ++ l2)) a w
      unfold wpList
      have := stepX_wp (K := wpList P ops (LiftH C Q) (r ++ l2)) (Q := LiftH C Q) hT hGl htb hG hr ops o hs fun hd' a' w' h' => HL_app hT hGl htb h hq C hd' a' w' hG hg h'
      split
      · rename_i hw; rw [if_pos hw] at this; exact .inl this
      · rename_i hw; rw [if_neg hw] at this; exact this
    · cases h
theorem HL_run (hT : TTok P tt) (hGl : Lasting G) (htb : Tab.ok P G tb) {ops : Array Oper} (k : Nat) {l l1 l2 : List Oper} (h1 : l.take k = l1) (h2 : l.drop k = l2) {st' : St} (h : runX tt tb ops l1 st = some st') (hq : HL P G ops l2 Q st' g) : HL P G ops l Q st g := by
  have e : l = l1 ++ l2 := by rw [← h1, ← h2, List.take_append_drop]
  rw [e]
  exact HL_app hT hGl htb h hq
theorem HW_region {id : Nat} {l : List Oper} (h : HL P G l.toArray l Q st g) : HW P G (.region id l.toArray false) Q st g := fun C hd a w hG hg hr => wp_region_lit (h C hd a w hG hg hr)

/-- The context anew: what was written until now is as it is. -/
def reC (C : Ctx) (w : World) (hd : List Hd) (K : Nat → Prop) (h1 : C.w0.heap.size ≤ w.heap.size) (h2 : ∀ b, K b → b < w.heap.size ∧ ¬ ∃ h ∈ hd, h.own = some b) : Ctx := ⟨C.S0, C.w0, w, fun b => ∃ h ∈ hd, h.own = some b, K, h1, h2⟩
theorem hid_free {C : Ctx} {hd : List Hd} {a : Act} {w : World} (hr : StR C st hd a w) {b : Nat} (hb : C.K b) : b < w.heap.size ∧ w.heap[b]? = C.w1.heap[b]? ∧ ∀ h ∈ hd, h.own ≠ some b := by
  obtain ⟨k1, k2⟩ := C.hK b hb
  refine ⟨Nat.lt_of_lt_of_le k1 hr.ext.gro, hr.ext.stay b k1 k2, fun h hh e => ?_⟩
  rcases hr.ext.lent h b hh e with q | q
  · exact k2 q
  · omega
theorem HRok.move {C C' : Ctx} {h : HR} (hh : HRok C h) (e0 : C'.w0 = C.w0) (hK : ∀ b, h.val.ownBlock = some b → C'.K b ∧ C'.w1.heap[b]? = C.w1.heap[b]?) : HRok C' h := by
  obtain ⟨xs, h1, h2⟩ := hh.row
  refine ⟨hh.n, hh.sz, hh.max, hh.cells, hh.flatD, ⟨xs, ?_, ?_⟩, fun b e => (hK b e).1⟩
  · rw [e0]
    exact ownsRow_same h1 fun k e => (hK k e).2
  · refine ⟨h2.len, h2.one, fun k y v e1 e2 => (h2.rep k y v e1 e2).flat ?_⟩
    obtain ⟨z, hz, hy⟩ := List.mem_flatMap.1 (List.mem_of_getElem? e1)
    have := hh.flatD z hz
    cases z <;> simp only [T.cells, List.mem_singleton] at hy <;> first | (subst hy; exact this) | exact flatAll_mem (by simpa [T.flatData] using this) y hy

theorem flatD_flat {l : List T} (h : ∀ x ∈ l, x.flatData = true) {k : Nat} {y : T} (hy : (flat l)[k]? = some y) : y.flatData = true := by
  obtain ⟨z, hz, hy⟩ := List.mem_flatMap.1 (List.mem_of_getElem? hy)
  have := h z hz
  cases z <;> simp only [T.cells, List.mem_singleton] at hy <;> first | (subst hy; exact this) | exact flatAll_mem (by simpa [T.flatData] using this) y hy
theorem HRok.rowAt {C : Ctx} {h : HR} {w : World} (hh : HRok C h) (hw : ∀ b, h.val.ownBlock = some b → w.heap[b]? = C.w1.heap[b]?) : ∃ xs, w.ownsRow C.w0.heap.size h.e h.sz h.val h.n xs ∧ ∀ S : Nat → Prop, RepL S w (flat h.l) xs := by
  obtain ⟨xs, h1, h2⟩ := hh.row
  exact ⟨xs, ownsRow_same h1 hw, fun S => ⟨h2.len, h2.one, fun k y v e1 e2 => (h2.rep k y v e1 e2).flat (flatD_flat hh.flatD e1)⟩⟩
theorem look_cons {l : List (Nat × SV)} {t u : Nat} {x y : SV} (h : look ((t, x) :: l) u = some y) : (u = t ∧ y = x) ∨ look l u = some y := by
  simp only [look] at h
  split at h
  · rename_i e; cases h; exact .inl ⟨e.symm, rfl⟩
  · exact .inr h
/-- A hidden row is shown: an own slice again. -/
theorem show_at [DecidableEq κ] {x : κ} {h : HR} (hx : g x = some h) {C : Ctx} {hd : List Hd} {a : Act} {w : World} (hg : Hid g C) (hr : StR C st hd a w) :
    ∃ C' hd', C'.w0 = C.w0 ∧ C'.S0 = C.S0 ∧ Hid (upd g x none) C' ∧ StR C' { st with heap := st.heap ++ [.row h.e h.sz true h.l] } hd' a w ∧ hd'[st.heap.length]? = some (Hd.sl h.a h.n h.cap h.val.ownBlock) := by
  have hh := hg.ok x h hx
  have hfree : ∀ b, h.val.ownBlock = some b → b < w.heap.size ∧ w.heap[b]? = C.w1.heap[b]? ∧ ∀ k ∈ hd, k.own ≠ some b := fun b e => hid_free hr (hh.hid b e)
  obtain ⟨xs, h1, h2⟩ := hh.rowAt fun b e => (hfree b e).2.1
  have hown : ∀ b, (Hd.sl h.a h.n h.cap h.val.ownBlock).own = some b ↔ h.val.ownBlock = some b := fun b => Iff.rfl
  have hmem : ∀ k, k ∈ hd ++ [Hd.sl h.a h.n h.cap h.val.ownBlock] → k ∈ hd ∨ k = Hd.sl h.a h.n h.cap h.val.ownBlock := fun k hk => by simpa using hk
  have hK2 : ∀ b, (C.K b ∧ h.val.ownBlock ≠ some b) → b < w.heap.size ∧ ¬ ∃ k ∈ hd ++ [Hd.sl h.a h.n h.cap h.val.ownBlock], k.own = some b := fun b hb => by
    obtain ⟨q1, q2, q3⟩ := hid_free hr hb.1
    refine ⟨q1, fun ⟨k, k1, k2⟩ => ?_⟩
    rcases hmem k k1 with k1 | rfl
    · exact q3 k k1 k2
    · exact hb.2 k2
  let C' := reC C w (hd ++ [Hd.sl h.a h.n h.cap h.val.ownBlock]) (fun b => C.K b ∧ h.val.ownBlock ≠ some b) hr.below.size hK2
  have hst : Stay (vis C hd) (vis C' (hd ++ [Hd.sl h.a h.n h.cap h.val.ownBlock])) w w := ⟨Nat.le_refl _, fun b hb _ => ⟨rfl, ⟨hb.1.1, fun k => hb.1.2 k.1⟩, fun k hk e => by
    rcases hmem k hk with hk | rfl
    · exact hb.2 k hk e
    · exact hb.1.2 (hh.hid b e)⟩⟩
  have hkp : Keeps some hd (hd ++ [Hd.sl h.a h.n h.cap h.val.ownBlock]) := fun i j k e hi => by
    cases e
    exact ⟨k, by rw [List.getElem?_append_left (List.getElem?_eq_some_iff.1 hi).1]; exact hi, .inl rfl⟩
  have hlast : (hd ++ [Hd.sl h.a h.n h.cap h.val.ownBlock])[st.heap.length]? = some (Hd.sl h.a h.n h.cap h.val.ownBlock) := by
    rw [← hr.hl, List.getElem?_append_right (Nat.le_refl _), Nat.sub_self]; rfl
  have cases_hd : ∀ i k, (hd ++ [Hd.sl h.a h.n h.cap h.val.ownBlock])[i]? = some k → hd[i]? = some k ∨ (i = hd.length ∧ k = Hd.sl h.a h.n h.cap h.val.ownBlock) := fun i k hk => by
    by_cases hi : i < hd.length
    · rw [List.getElem?_append_left hi] at hk; exact .inl hk
    · rw [List.getElem?_append_right (by omega)] at hk
      have h0 := (List.getElem?_eq_some_iff.1 hk).1
      simp only [List.length_singleton] at h0
      have : i - hd.length = 0 := by omega
      rw [this] at hk
      exact .inr ⟨by omega, by simpa using hk.symm⟩
  refine ⟨C', hd ++ [Hd.sl h.a h.n h.cap h.val.ownBlock], rfl, rfl, ⟨fun y k e => ?_, fun y z k k' b e1 e2 h3 h4 => ?_⟩, ⟨hr.below, hr.df, hr.nt, by simp [hr.hl], fun i o k h3 h4 => ?_, fun k b h3 h4 => ?_, fun i j hi hj b h3 h4 h5 h6 => ?_, fun s y hy => (hr.sl s y hy).keep hst hkp, ⟨Nat.le_refl _, fun _ _ _ => rfl, fun k b h3 h4 => .inl ⟨k, h3, h4⟩⟩⟩, hlast⟩
  · simp only [upd] at e
    split at e
    · cases e
    · rename_i hne
      exact (hg.ok y k e).move rfl fun b hb => ⟨⟨(hg.ok y k e).hid b hb, fun q => hne (hg.dist y x k h b e hx hb q)⟩, (hid_free hr ((hg.ok y k e).hid b hb)).2.1⟩
  · simp only [upd] at e1 e2
    split at e1
    · cases e1
    split at e2
    · cases e2
    exact hg.dist y z k k' b e1 e2 h3 h4
  · rcases cases_hd i k h4 with h4 | ⟨rfl, rfl⟩
    · have hi := (List.getElem?_eq_some_iff.1 h4).1
      simp only at h3
      rw [List.getElem?_append_left (by rw [← hr.hl]; exact hi)] at h3
      exact (hr.ob i o k h3 h4).keep hst hkp fun _ _ => rfl
    · simp only at h3
      rw [List.getElem?_append_right (by rw [hr.hl]; exact Nat.le_refl _), hr.hl, Nat.sub_self] at h3
      obtain rfl : Ob.row h.e h.sz true h.l = o := by simpa using h3
      exact ⟨hh.n, hh.sz, hh.max, hh.cells, .inl ⟨xs, h1, rfl, h2 _⟩⟩
  · rcases hmem k h3 with h3 | rfl
    · exact hr.own k b h3 h4
    · exact ⟨(h1.lt b h4).1, (hfree b h4).1⟩
  · rcases cases_hd i hi h3 with f1 | ⟨a1, b1⟩ <;> rcases cases_hd j hj h4 with f2 | ⟨a2, b2⟩
    · exact hr.dist i j hi hj b f1 f2 h5 h6
    · subst b2; exact ((hfree b h6).2.2 hi (List.mem_of_getElem? f1) h5).elim
    · subst b1; exact ((hfree b h5).2.2 hj (List.mem_of_getElem? f2) h6).elim
    · omega
/-- The same; a pin keeps where it lies. -/
theorem GS_show [DecidableEq κ] {t : Nat} {x : κ} {h : HR} (u : Nat) (hx : g x = some h) (ht : look st.tmps t = some (.t h.raw)) (hu : st.nt ≤ u) :
    GS st g (fun _ : Unit => { st with tmps := (t, .sref st.heap.length) :: (u, .pinS st.heap.length h.a h.n h.cap) :: st.tmps, heap := st.heap ++ [.row h.e h.sz true h.l] }) (fun _ => upd g x none) := fun C hd a w hg hr => by
  obtain ⟨C', hd', e1, e2, h1, h2, hlast⟩ := show_at hx hg hr
  refine ⟨(), C', hd', e1, e2, h1, h2.below, h2.df, h2.nt, h2.hl, h2.ob, h2.own, h2.dist, fun s y hy => ?_, h2.ext⟩
  rcases look_cons hy with ⟨rfl, rfl⟩ | hy
  · have hv := (hr.sl _ _ ht).toT
    unfold HR.raw at hv
    generalize a.tmps.getD s undef = v at hv
    cases hv
    exact .sref _ _ _ _ _ hlast
  rcases look_cons hy with ⟨rfl, rfl⟩ | hy
  · have e : a.tmps.getD s undef = undef := by
      rw [Array.getD_eq_getD_getElem?, Array.getElem?_eq_none (by rw [hr.nt]; exact hu)]; rfl
    rw [e]
    exact .pinS _ _ _ _ _ hlast
  · exact h2.sl s y hy
/-- An own slice is hidden. -/
theorem GS_hide_at [DecidableEq κ] {C : Ctx} {hd : List Hd} {a : Act} {w : World} {j e sz n cap : Nat} {ad : Option Addr} {o : Option Nat} {l : List T} (x : κ) (hx : g x = none) (hj : st.heap[j]? = some (.row e sz true l)) (hfl : l.all T.flatData = true) (hg : Hid g C) (hr : StR C st hd a w) (hh : hd[j]? = some (.sl ad n cap o)) :
    ∃ C' hd', C'.w0 = C.w0 ∧ C'.S0 = C.S0 ∧ Hid (upd g x (some ⟨ad, n, cap, e, sz, l⟩)) C' ∧ StR C' { st with heap := st.heap.set j .gone } hd' a w := by
  obtain ⟨e1, e2, e3, e4, e5⟩ := hr.ob j _ _ hj hh
  rcases e5 with ⟨xs, f1, f2, f3⟩ | ⟨q, _⟩
  rotate_left
  · cases q
  have hjm := List.mem_of_getElem? hh
  have hob : ∀ b, o = some b → C.w0.heap.size ≤ b ∧ b < w.heap.size := fun b hb => hr.own _ b hjm hb
  have hmem : ∀ k, k ∈ hd.set j (Hd.sl ad n cap none) → k ∈ hd ∨ k = Hd.sl ad n cap none := fun k hk => List.mem_or_eq_of_mem_set hk
  have hget : ∀ i k, (hd.set j (Hd.sl ad n cap none))[i]? = some k → (i = j ∧ k = Hd.sl ad n cap none) ∨ (i ≠ j ∧ hd[i]? = some k) := fun i k hk => by
    rw [List.getElem?_set] at hk
    split at hk
    · rename_i e0
      split at hk
      · cases hk; exact .inl ⟨e0.symm, rfl⟩
      · cases hk
    · exact .inr ⟨by omega, hk⟩
  have hK2 : ∀ b, (C.K b ∨ o = some b) → b < w.heap.size ∧ ¬ ∃ k ∈ hd.set j (Hd.sl ad n cap none), k.own = some b := fun b hb => by
    rcases hb with hb | hb
    · obtain ⟨q1, q2, q3⟩ := hid_free hr hb
      refine ⟨q1, fun ⟨k, k1, k2⟩ => ?_⟩
      rcases hmem k k1 with k1 | rfl
      · exact q3 k k1 k2
      · cases k2
    · refine ⟨(hob b hb).2, fun ⟨k, k1, k2⟩ => ?_⟩
      obtain ⟨i, hi⟩ := List.mem_iff_getElem?.1 k1
      rcases hget i k hi with ⟨rfl, rfl⟩ | ⟨hne, hi⟩
      · cases k2
      · exact hne (hr.dist i j k _ b hi hh k2 hb)
  let C' := reC C w (hd.set j (Hd.sl ad n cap none)) (fun b => C.K b ∨ o = some b) hr.below.size hK2
  have hst : Stay (vis C hd) (vis C' (hd.set j (Hd.sl ad n cap none))) w w := ⟨Nat.le_refl _, fun b hb _ => ⟨rfl, ⟨hb.1.1, fun k => by
      rcases k with k | k
      · exact hb.1.2 k
      · exact hb.2 _ hjm k⟩, fun k hk e => by
    rcases hmem k hk with hk | rfl
    · exact hb.2 k hk e
    · cases e⟩⟩
  have hkp : Keeps some hd (hd.set j (Hd.sl ad n cap none)) := Keeps.set_off hh
  have hfd : ∀ x ∈ l, x.flatData = true := List.all_eq_true.1 hfl
  have hself : HRok C' ⟨ad, n, cap, e, sz, l⟩ := ⟨e1, e2, e3, e4, hfd, ⟨xs, f1, f3.len, f3.one, fun k y v q1 q2 => (f3.rep k y v q1 q2).flat (flatD_flat hfd q1)⟩, fun b hb => .inr (by rw [f2]; exact hb)⟩
  refine ⟨C', hd.set j (Hd.sl ad n cap none), rfl, rfl, ⟨fun y k q => ?_, fun y z k k' b q1 q2 h3 h4 => ?_⟩, ⟨hr.below, hr.df, hr.nt, by simp [hr.hl], fun i ob k h3 h4 => ?_, fun k b h3 h4 => ?_, fun i i' hi hi' b h3 h4 h5 h6 => ?_, fun s y hy => (hr.sl s y hy).keep hst hkp, ⟨Nat.le_refl _, fun _ _ _ => rfl, fun k b h3 h4 => .inl ⟨k, h3, h4⟩⟩⟩⟩
  · simp only [upd] at q
    split at q
    · cases q; exact hself
    · exact (hg.ok y k q).move rfl fun b hb => ⟨.inl ((hg.ok y k q).hid b hb), (hid_free hr ((hg.ok y k q).hid b hb)).2.1⟩
  · have key : ∀ y k, g y = some k → k.val.ownBlock = some b → o = some b → False := fun y k q hb ho => (hid_free hr ((hg.ok y k q).hid b hb)).2.2 _ hjm ho
    simp only [upd] at q1 q2
    split at q1 <;> split at q2
    · rename_i a1 a2; rw [a1, a2]
    · cases q1; exact (key _ _ q2 h4 (by rw [f2]; exact h3)).elim
    · cases q2; exact (key _ _ q1 h3 (by rw [f2]; exact h4)).elim
    · exact hg.dist y z k k' b q1 q2 h3 h4
  · simp only at h3
    rw [List.getElem?_set] at h3
    rcases hget i k h4 with ⟨rfl, rfl⟩ | ⟨hne, h4⟩
    · rw [if_pos rfl] at h3
      split at h3
      · cases h3; trivial
      · cases h3
    · rw [if_neg (by omega)] at h3
      exact (hr.ob i ob k h3 h4).keep hst hkp fun _ _ => rfl
  · rcases hmem k h3 with h3 | rfl
    · exact hr.own k b h3 h4
    · cases h4
  · rcases hget i hi h3 with ⟨a1, rfl⟩ | ⟨a1, f1⟩
    · cases h5
    rcases hget i' hi' h4 with ⟨a2, rfl⟩ | ⟨a2, f2⟩
    · cases h6
    exact hr.dist i i' hi hi' b f1 f2 h5 h6
theorem GS_hide [DecidableEq κ] {j e sz : Nat} {l : List T} (t : Nat) (x : κ) (hx : g x = none) (ht : look st.tmps t = some (.sref j)) (hj : st.heap[j]? = some (.row e sz true l)) (hfl : l.all T.flatData = true) :
    GS st g (fun p : Option Addr × Nat × Nat => { st with tmps := (t, .t (.raw p.1 p.2.1 p.2.2)) :: st.tmps, heap := st.heap.set j .gone }) (fun p => upd g x (some ⟨p.1, p.2.1, p.2.2, e, sz, l⟩)) := fun C hd a w hg hr => by
  have hv := hr.sl _ _ ht
  generalize hvv : a.tmps.getD t undef = v at hv
  cases hv with
  | sref _ ad n cap o hh =>
  obtain ⟨C', hd', h1, h2, h3, h4⟩ := GS_hide_at x hx hj hfl hg hr hh
  refine ⟨(ad, n, cap), C', hd', h1, h2, h3, h4.below, h4.df, h4.nt, h4.hl, h4.ob, h4.own, h4.dist, fun s y hy => ?_, h4.ext⟩
  rcases look_cons hy with ⟨rfl, rfl⟩ | hy
  · rw [hvv]
    exact .t _ _ (.raw _ _ _)
  · exact h4.sl s y hy
/-- What was shown is hidden again, where it lay. -/
theorem GS_back [DecidableEq κ] {j e sz n cap : Nat} {ad : Option Addr} {l : List T} (u : Nat) (x : κ) (hx : g x = none) (ht : look st.tmps u = some (.pinS j ad n cap)) (hj : st.heap[j]? = some (.row e sz true l)) (hfl : l.all T.flatData = true) :
    GS st g (fun _ : Unit => { st with heap := st.heap.set j .gone }) (fun _ => upd g x (some ⟨ad, n, cap, e, sz, l⟩)) := fun C hd a w hg hr => by
  have hv := hr.sl _ _ ht
  generalize hvv : a.tmps.getD u undef = v at hv
  cases hv with
  | pinS _ _ _ _ o hh =>
  obtain ⟨C', hd', h1, h2, h3, h4⟩ := GS_hide_at x hx hj hfl hg hr hh
  exact ⟨(), C', hd', h1, h2, h3, h4⟩
end
end Go.Proofs.Ythcclcbliedodaa
namespace Go.Proofs.Ythcclcbliedodaa
open Go.RowKit

/-- A place of a hidden row, as the data that lie there. -/
inductive OpenH {κ : Type} (g : κ → Option HR) : T → T → Prop
  | refl (x : T) : OpenH g x x
  | raw (k : κ) (h : HR) (l' : List T) (hk : g k = some h) (hl : l'.length = h.l.length) (hx : ∀ (i : Nat) (y y' : T), h.l[i]? = some y → l'[i]? = some y' → OpenH g y y') : OpenH g h.raw (.list l')
section
variable {P : Program} {G : World → Prop} {κ : Type} {tt : Nat → Option TI} {tb : Tab} {g : κ → Option HR} {C : Ctx} {hd : List Hd} {a : Act} {w : World} {st : St}
theorem OpenH.cells {x x' : T} (h : OpenH g x x') : x'.cells.length = x.cells.length ∧ ∀ (i : Nat) (y y' : T), x.cells[i]? = some y → x'.cells[i]? = some y' → y = y' ∨ (y = x ∧ y' = x') := by
  cases h with
  | refl => exact ⟨rfl, fun i y y' h1 h2 => by rw [h1] at h2; cases h2; exact .inl rfl⟩
  | raw k h l' hk hl hx =>
    refine ⟨rfl, fun i y y' h1 h2 => ?_⟩
    cases i with
    | zero =>
      simp only [HR.raw, T.cells, List.getElem?_cons_zero, Option.some.injEq] at h1 h2
      subst h1 h2
      exact .inr ⟨rfl, rfl⟩
    | succ i => simp [T.cells] at h2
theorem flat_opens : ∀ {l l' : List T}, l'.length = l.length → (∀ (i : Nat) (y y' : T), l[i]? = some y → l'[i]? = some y' → OpenH g y y') → ∀ (k : Nat) (y' : T), (flat l')[k]? = some y' → ∃ y, (flat l)[k]? = some y ∧ (y = y' ∨ ∃ i : Nat, l[i]? = some y ∧ l'[i]? = some y')
  | [], [], _, _, k, y', h => by simp [flat] at h
  | [], _ :: _, e, _, _, _, _ => by simp at e
  | _ :: _, [], e, _, _, _, _ => by simp at e
  | x :: l, x' :: l', e, hx, k, y', h => by
    have hc := (hx 0 x x' rfl rfl).cells
    simp only [flat, List.flatMap_cons] at h ⊢
    by_cases hk : k < x.cells.length
    · rw [List.getElem?_append_left (by omega)] at h
      rw [List.getElem?_append_left hk]
      refine ⟨_, List.getElem?_eq_getElem hk, ?_⟩
      rcases hc.2 k _ y' (List.getElem?_eq_getElem hk) h with q | ⟨q1, q2⟩
      · exact .inl q
      · exact .inr ⟨0, by rw [q1]; rfl, by rw [q2]; rfl⟩
    · rw [List.getElem?_append_right (by omega)] at h ⊢
      rw [hc.1] at h
      obtain ⟨y, h1, h2⟩ := flat_opens (l := l) (l' := l') (by simpa using e) (fun i y y' h1 h2 => hx (i + 1) y y' h1 h2) _ y' h
      refine ⟨y, h1, ?_⟩
      rcases h2 with h2 | ⟨i, q1, q2⟩
      · exact .inl h2
      · exact .inr ⟨i + 1, q1, q2⟩
/-- What stays hidden when these rows are given up. -/
def openK (g : κ → Option HR) (C : Ctx) (b : Nat) : Prop := C.K b ∧ ∀ k h, g k = some h → h.val.ownBlock ≠ some b
theorem openK2 (hr : StR C st hd a w) (b : Nat) (hb : openK g C b) : b < w.heap.size ∧ ¬ ∃ k ∈ hd, k.own = some b := by
  obtain ⟨q1, _, q3⟩ := hid_free hr hb.1
  exact ⟨q1, fun ⟨k, k1, k2⟩ => q3 k k1 k2⟩
theorem open_stay (hr : StR C st hd a w) : Stay (vis C hd) (vis (reC C w hd (openK g C) hr.below.size (openK2 hr)) hd) w w :=
  ⟨Nat.le_refl _, fun _ hb _ => ⟨rfl, ⟨hb.1.1, fun k => hb.1.2 k.1⟩, hb.2⟩⟩
theorem OpenH.rep (hg : Hid g C) (hr : StR C st hd a w) {y y' : T} (h : OpenH g y y') : ∀ v, RepT (vis C hd) w y v → RepT (vis (reC C w hd (openK g C) hr.below.size (openK2 hr)) hd) w y' v := by
  induction h with
  | refl x => exact fun v hv => hv.keep (open_stay hr)
  | raw k h l' hk hl hx ih =>
    intro v hv
    have hh := hg.ok k h hk
    unfold HR.raw at hv
    cases hv
    obtain ⟨ys, h1, h2⟩ := hh.rowAt fun b e => (hid_free hr (hh.hid b e)).2.1
    have hob : ObR (vis C hd) C.w0.heap.size w hd (.row h.e h.sz true h.l) (.sl h.a h.n h.cap h.val.ownBlock) := ⟨hh.n, hh.sz, hh.max, hh.cells, .inl ⟨ys, h1, rfl, h2 _⟩⟩
    obtain ⟨xs, c1, c2, c3⟩ := row_cells hob
    have hn : h.n = l'.length := by rw [hh.n, hl]
    rw [hn]
    have hcap : l'.length ≤ h.cap := by
      rcases h1.2 with ⟨q, q2⟩ | ⟨b, cap', cur, q, _, _, q3, _⟩
      · omega
      · unfold HR.val at q
        injection q with q1 q2 q4
        omega
    refine .list l' h.a h.cap h.sz xs (by have := hh.max; omega) hh.sz (fun x hx' => ?_) (fun hne => ?_) (fun k hk => c2 k (by rw [← hl]; exact hk)) (fun k y hy => ?_) hcap
    · obtain ⟨i, hi⟩ := List.mem_iff_getElem?.1 hx'
      have hil := (List.getElem?_eq_some_iff.1 hi).1
      have e : h.l[i]? = some h.l[i] := List.getElem?_eq_getElem (by omega)
      rw [(hx i _ x e hi).cells.1]
      exact hh.cells _ (List.mem_of_getElem? e)
    · have hne2 : h.l ≠ [] := fun e => hne (List.eq_nil_of_length_eq_zero (by rw [hl, e]; rfl))
      obtain ⟨b, e, hc⟩ := c1 hne2
      have hbo : h.val.ownBlock = some b := by unfold HR.val; rw [e]; rfl
      refine ⟨b, 0, e, ⟨⟨.inr (h1.lt b hbo).1, fun q => q.2 k h hk hbo⟩, (hid_free hr (hh.hid b hbo)).2.2⟩, fun k hk => by rw [Nat.zero_add]; exact hc k (by rw [← hl]; exact hk)⟩
    · obtain ⟨z, hz, ho⟩ := flat_opens hl hx k y hy
      have e0 := c3 k z hz
      rcases ho with rfl | ⟨i, q1, q2⟩
      · exact e0.keep (open_stay hr)
      · exact ih i z y q1 q2 _ e0
/-- An own slice of hidden rows is one of data. -/
theorem GS_openRow {κ' : Type} {j e sz : Nat} {l : List T} (l' : List T) (hj : st.heap[j]? = some (.row e sz true l)) (hl : l'.length = l.length) (hx : ∀ (i : Nat) (y y' : T), l[i]? = some y → l'[i]? = some y' → OpenH g y y') :
    ∀ C hd a w, Hid g C → StR C st hd a w → ∃ C' hd', C'.w0 = C.w0 ∧ C'.S0 = C.S0 ∧ Hid (fun _ : κ' => none) C' ∧ StR C' { st with heap := st.heap.set j (.row e sz true l') } hd' a w := fun C hd a w hg hr => by
  have hst := open_stay (g := g) hr
  refine ⟨reC C w hd (openK g C) hr.below.size (openK2 hr), hd, rfl, rfl, Hid.empty _, hr.below, hr.df, hr.nt, by simp [hr.hl], fun i o k h3 h4 => ?_, hr.own, hr.dist, fun s y hy => ?_, ⟨Nat.le_refl _, fun _ _ _ => rfl, fun k b h3 h4 => .inl ⟨k, h3, h4⟩⟩⟩
  · simp only at h3
    rw [List.getElem?_set] at h3
    split at h3
    · rename_i e0; subst e0
      split at h3
      · cases h3
        have hob := hr.ob _ _ _ hj h4
        cases k <;> simp only [ObR] at hob ⊢ <;> try exact hob
        obtain ⟨e1, e2, e3, e4, e5⟩ := hob
        rcases e5 with ⟨xs, f1, f2, f3⟩ | ⟨q, _⟩
        rotate_left
        · cases q
        refine ⟨by omega, e2, by omega, fun x hx' => ?_, .inl ⟨xs, f1, f2, ?_, f3.one, fun k y v q1 q2 => ?_⟩⟩
        · obtain ⟨i, hi⟩ := List.mem_iff_getElem?.1 hx'
          have hil := (List.getElem?_eq_some_iff.1 hi).1
          have e : l[i]? = some l[i] := List.getElem?_eq_getElem (by omega)
          rw [(hx i _ x e hi).cells.1]
          exact e4 _ (List.mem_of_getElem? e)
        · have hfl : (flat l').length = (flat l).length := by
            rw [flat_length e4, flat_length (sz := sz) (l := l') fun x hx' => ?_, hl]
            obtain ⟨i, hi⟩ := List.mem_iff_getElem?.1 hx'
            have hil := (List.getElem?_eq_some_iff.1 hi).1
            have e : l[i]? = some l[i] := List.getElem?_eq_getElem (by omega)
            rw [(hx i _ x e hi).cells.1]
            exact e4 _ (List.mem_of_getElem? e)
          rw [f3.len, hfl]
        · obtain ⟨z, hz, ho⟩ := flat_opens hl hx k y q1
          have e0 := f3.rep k z v hz q2
          rcases ho with rfl | ⟨i, r1, r2⟩
          · exact e0.keep hst
          · exact (hx i z y r1 r2).rep hg hr _ e0
      · cases h3
    · exact (hr.ob i o k h3 h4).keep hst (Keeps.refl _) fun _ _ => rfl
  · exact (hr.sl s y hy).keep hst (Keeps.refl _)
/-- Rows are given up, and nothing is hidden from then on. -/
theorem HW_open {κ' : Type} {c : Code} {Q : Exit → St → Prop} {st' : St} (hs : ∀ C hd a w, Hid g C → StR C st hd a w → ∃ C' hd', C'.w0 = C.w0 ∧ C'.S0 = C.S0 ∧ Hid (fun _ : κ' => none) C' ∧ StR C' st' hd' a w) (h : SW P G c Q st') :
    HW P G c (fun e s (_ : κ → Option HR) => Q e s) st g := fun C hd a w hG hg hr => by
  obtain ⟨C', hd', h1, h2, h3, h4⟩ := hs C hd a w hg hr
  refine wp_mono (h C' hd' a w (by rw [h1]; exact hG) h4) fun e a' w' ⟨s, hd2, k1, k2⟩ => ⟨C', s, hd2, fun _ => none, h1, h2, k1, Hid.empty _, k2⟩
/-- A function that hides rows. -/
theorem sndH_of_body (hT : TTok P tt) {f : Nat} {fn : Func} {c : Code} {args : List T} {r : T} (hf : P.funcs[f]? = some fn) (hb : fn.body = some c) (hn : (fn.name == "runtime.NumGoroutine") = false) {n : Nat} (hnt : n = args.length + (fn.ntmps - args.length)) {tm : List (Nat × SV)} (htm : tm = mkSlots 0 args) {rs : List ResultVar} (hrs : fn.results.toList = rs)
    (h : HW P G c (fun e s (_ : κ → Option HR) => SPost tt rs r e s) ⟨n, tm, []⟩ (fun _ => none)) : Snd P G f args r := by
  subst hrs
  refine ⟨fun vs w => ?_, fun S w vs hG hvs hrep => ?_⟩
  · unfold callFunc
    rw [Sem.run_bind, run_program, Result.andThen_ok]
    simp only [hf, hn, hb, Option.isNone_some, Bool.false_eq_true, if_false]
    rfl
  · let C : Ctx := Ctx.of S w
    refine calls_of_wp hf hb ?_
    have hr : StR C ⟨n, tm, []⟩ [] { tmps := vs ++ Array.replicate (fn.ntmps - vs.size) undef, defers := [] } w := by
      refine ⟨Below.refl _ _, rfl, by simp [hnt, hvs], rfl, fun i o g h => by simp at h, fun g b h => by simp at h, fun i j gi gj b h => by simp at h, fun t x hx => ?_, ⟨Nat.le_refl _, fun _ _ _ => rfl, fun g b h => by simp at h⟩⟩
      subst htm
      obtain ⟨j, y, rfl, h2, rfl⟩ := mkSlots_look hx
      have hj := (List.getElem?_eq_some_iff.1 h2).1
      have e : vs[j]? = some vs[j] := Array.getElem?_eq_getElem (by omega)
      have e2 : (vs ++ Array.replicate (fn.ntmps - vs.size) undef).getD (0 + j) undef = vs[j] := by
        rw [Nat.zero_add, Array.getD_eq_getD_getElem?, Array.getElem?_append_left (by omega), e]; rfl
      rw [e2]
      exact .t _ _ ((hrep j y _ h2 e).keep ⟨Nat.le_refl _, fun b hb _ => ⟨rfl, ⟨.inl hb, id⟩, fun g hg => by simp at hg⟩⟩)
    refine wp_mono (h C [] _ w hG (Hid.empty _) hr) fun e a' w' hq => ?_
    obtain ⟨C', st', hd', g', e1, e2, h1, _, h2⟩ := hq
    have hbw : Below w.heap.size w w' := by have := h2.below; rwa [e1] at this
    have hS : ∀ b, Own C' b → (S b ∨ w.heap.size ≤ b) := fun b hb => by
      have := hb.1
      rw [e1, e2] at this
      exact this
    cases e <;> simp only [SPost] at h1
    · obtain ⟨v, g1, g2⟩ := res_ok hT h2 h1
      exact ⟨h2.df, v, g1, v, rfl, g2.mono hS, hbw⟩
    · obtain ⟨v, g1, g2⟩ := res_ok hT h2 h1
      exact ⟨h2.df, v, g1, v, rfl, g2.mono hS, hbw⟩
end
end Go.Proofs.Ythcclcbliedodaa
namespace Go.Proofs.Ythcclcbliedodaa
open Go.RowKit

section
variable {P : Program} {C C0 : Ctx} {st : St} {hd hd0 : List Hd} {a a0 : Act} {w w0 : World}
/-- Where a row is appended to: hidden, or none until now. -/
def HdrOk {κ : Type} (g : κ → Option HR) (x : κ) (e sz : Nat) (l : List T) (s : T) : Prop := (g x = none ∧ l = [] ∧ s = .raw none 0 0) ∨ ∃ h, g x = some h ∧ h.e = e ∧ h.sz = sz ∧ h.l = l ∧ s = h.raw
end
end Go.Proofs.Ythcclcbliedodaa
namespace Go.Proofs.Ythcclcbliedodaa
open Go.RowKit

structure AppS (κ : Type) where
  kc : Nat
  s0 : Operand
  x0 : Operand
  sv : T
  xs : List T
  x : κ
  e : Nat
  sz : Nat
  l : List T
  g0 : κ → Option HR
def AppS.g1 {κ : Type} [DecidableEq κ] (A : AppS κ) (c : Option Addr × Nat × Nat) : κ → Option HR := upd A.g0 A.x (some ⟨c.1, c.2.1, c.2.2, A.e, A.sz, A.l ++ A.xs⟩)
section
variable {κ : Type} [DecidableEq κ] {P : Program} {G : World → Prop} {tt : Nat → Option TI} {tb : Tab} {ops : Array Oper} {A : AppS κ} {last : Nat} {c : Option Addr × Nat × Nat} {k j : Nat} {s : St} {g : κ → Option HR} {o : Oper}
end
end Go.Proofs.Ythcclcbliedodaa
namespace Go.Proofs.Ythcclcbliedodaa

/-- Words from behind: shorter, or as long and ahead. -/
def RL : List Nat → List Nat → Prop
  | [], [] => False
  | [], _ :: _ => True
  | _ :: _, [] => False
  | l :: v, k :: w => RL v w ∨ (v = w ∧ l < k)
theorem RL.irrefl : ∀ {v : List Nat}, ¬ RL v v
  | [], h => h
  | l :: v, h => by
    rcases h with h | ⟨_, h⟩
    · exact RL.irrefl h
    · omega
theorem RL.trans : ∀ {u v w : List Nat}, RL u v → RL v w → RL u w
  | [], [], _, h, _ => h.elim
  | [], _ :: _, [], _, h => h.elim
  | [], _ :: _, _ :: _, _, _ => trivial
  | _ :: _, [], _, h, _ => h.elim
  | _ :: _, _ :: _, [], _, h => h.elim
  | a :: u, b :: v, c :: w, h, h' => by
    rcases h with h | ⟨rfl, h⟩ <;> rcases h' with h' | ⟨rfl, h'⟩
    · exact .inl (RL.trans h h')
    · exact .inl h
    · exact .inl h'
    · exact .inr ⟨rfl, by omega⟩
theorem RL.cons : ∀ (l : Nat) (v : List Nat), RL v (l :: v)
  | _, [] => trivial
  | l, k :: v => .inl (RL.cons k v)
/-- The first word of a language. -/
structure FirstW (n : Nat) (L : List Nat → Bool) (w : List Nat) : Prop where
  ltr : Ltr n w
  is : L w = true
  le : ∀ v, Ltr n v → L v = true → w = v ∨ RL w.reverse v.reverse
theorem FirstW.unique {n : Nat} {L L' : List Nat → Bool} {v w : List Nat} (h : FirstW n L v) (h' : FirstW n L' w) (hL : ∀ w, Ltr n w → L w = L' w) : v = w := by
  rcases h.le w h'.ltr (by rw [hL w h'.ltr]; exact h'.is) with e | e
  · exact e
  · rcases h'.le v h.ltr (by rw [← hL v h.ltr]; exact h.is) with e' | e'
    · exact e'.symm
    · exact (RL.irrefl (e.trans e')).elim
theorem FirstW.congr {n : Nat} {L L' : List Nat → Bool} {w : List Nat} (h : FirstW n L w) (hL : ∀ w, Ltr n w → L w = L' w) : FirstW n L' w :=
  ⟨h.ltr, by rw [← hL w h.ltr]; exact h.is, fun v hv hv' => h.le v hv (by rw [hL v hv]; exact hv')⟩

/-- The way back to what was met first. -/
def wayF (par : Nat → Nat × Nat) : Nat → Nat → List Nat
  | 0, _ => []
  | f + 1, i => if i = 0 then [] else (par i).2 :: wayF par f (par i).1
def way (par : Nat → Nat × Nat) (i : Nat) : List Nat := wayF par i i
section
variable {σ : Type} {δ : σ → Nat → σ} {n : Nat} {met : List σ} {par : Nat → Nat × Nat} {s0 : σ} {J L : Nat}
/-- What was met, from where, and that it is closed ahead of a place. -/
structure Tree (δ : σ → Nat → σ) (n : Nat) (s0 : σ) (met : List σ) (par : Nat → Nat × Nat) (J L : Nat) : Prop where
  zero : met[0]? = some s0
  src : ∀ i, 0 < i → i < met.length → (par i).1 < i ∧ (par i).2 < n ∧ Before (par i).1 (par i).2 J L ∧ ∃ s, met[(par i).1]? = some s ∧ met[i]? = some (δ s (par i).2)
  mono : ∀ i i', 0 < i → i < i' → i' < met.length → Before (par i).1 (par i).2 (par i').1 (par i').2
  clos : ∀ j l s, Before j l J L → l < n → met[j]? = some s → ∃ i, met[i]? = some (δ s l) ∧ (i = 0 ∨ par i = (j, l) ∨ Before (par i).1 (par i).2 j l)
theorem wayF_more (h : ∀ i, 0 < i → i < met.length → (par i).1 < i) : ∀ (f i : Nat), i ≤ f → i < met.length → wayF par f i = way par i := by
  have key : ∀ (f g i : Nat), i ≤ f → i ≤ g → i < met.length → wayF par f i = wayF par g i := by
    intro f
    induction f with
    | zero =>
      intro g i hf _ _
      obtain rfl : i = 0 := by omega
      cases g with
      | zero => rfl
      | succ g => simp [wayF]
    | succ f ih =>
      intro g i hf hg hi
      cases g with
      | zero =>
        obtain rfl : i = 0 := by omega
        simp [wayF]
      | succ g =>
        unfold wayF
        split
        · rfl
        · have := h i (by omega) hi
          rw [ih g (par i).1 (by omega) (by omega) (by omega)]
  exact fun f i hf hi => key f i i hf (Nat.le_refl _) hi
theorem way_zero : way par 0 = [] := rfl
theorem way_step (h : ∀ i, 0 < i → i < met.length → (par i).1 < i) {i : Nat} (h0 : 0 < i) (hi : i < met.length) : way par i = (par i).2 :: way par (par i).1 := by
  obtain ⟨k, rfl⟩ : ∃ k, i = k + 1 := ⟨i - 1, by omega⟩
  have := h (k + 1) h0 hi
  unfold way
  rw [wayF, if_neg (by omega), wayF_more h k _ (by omega) (by omega)]
  rfl
theorem Tree.par_lt (h : Tree δ n s0 met par J L) : ∀ i, 0 < i → i < met.length → (par i).1 < i := fun i h0 hi => (h.src i h0 hi).1
theorem Tree.way_ltr (h : Tree δ n s0 met par J L) : ∀ i, i < met.length → Ltr n (way par i) := by
  intro i
  induction i using Nat.strongRecOn with
  | _ i ih =>
    intro hi
    by_cases h0 : i = 0
    · subst h0; intro l hl; simp [way_zero] at hl
    · have hs := h.src i (by omega) hi
      rw [way_step h.par_lt (by omega) hi]
      intro l hl
      rcases List.mem_cons.1 hl with rfl | hl
      · exact hs.2.1
      · exact ih _ hs.1 (by omega) l hl
/-- The way leads there. -/
theorem Tree.way_run (h : Tree δ n s0 met par J L) : ∀ i, i < met.length → met[i]? = some ((way par i).foldr (fun l s => δ s l) s0) := by
  intro i
  induction i using Nat.strongRecOn with
  | _ i ih =>
    intro hi
    by_cases h0 : i = 0
    · subst h0; exact h.zero
    · obtain ⟨h1, _, _, s, h2, h3⟩ := h.src i (by omega) hi
      rw [way_step h.par_lt (by omega) hi, h3]
      have := ih _ h1 (by omega)
      rw [h2] at this
      rw [List.foldr_cons, ← Option.some.inj this]
theorem Tree.way_mono (h : Tree δ n s0 met par J L) : ∀ i' i, i < i' → i' < met.length → RL (way par i) (way par i') := by
  intro i'
  induction i' using Nat.strongRecOn with
  | _ i' ih =>
    intro i hi hi'
    have hs := h.src i' (by omega) hi'
    rw [way_step h.par_lt (by omega) hi']
    by_cases h0 : i = 0
    · subst h0; trivial
    · rw [way_step h.par_lt (i := i) (by omega) (by omega)]
      rcases h.mono i i' (by omega) hi hi' with hb | ⟨e, hb⟩
      · exact .inl (ih _ hs.1 _ hb (by omega))
      · exact .inr ⟨by rw [e], hb⟩
theorem Tree.upto (h : Tree δ n s0 met par J 0) : ∀ r : List Nat, Ltr n r → (∃ i, met[i]? = some (r.foldr (fun l s => δ s l) s0) ∧ (way par i = r ∨ RL (way par i) r)) ∨ (J < met.length ∧ RL (way par J) r)
  | [], _ => .inl ⟨0, h.zero, .inl way_zero⟩
  | l :: q, hr => by
    have hl := hr l List.mem_cons_self
    rcases h.upto q fun x hx => hr x (List.mem_cons_of_mem _ hx) with ⟨j, h1, h2⟩ | ⟨h1, h2⟩
    · have hj := (List.getElem?_eq_some_iff.1 h1).1
      by_cases hJ : j < J
      · obtain ⟨i, h3, h4⟩ := h.clos j l _ (.inl hJ) hl h1
        have hi := (List.getElem?_eq_some_iff.1 h3).1
        refine .inl ⟨i, h3, ?_⟩
        by_cases h0 : i = 0
        · subst h0; exact .inr trivial
        · rw [way_step h.par_lt (by omega) hi]
          rcases h4 with e | e | e
          · omega
          · rw [e]
            rcases h2 with h2 | h2
            · exact .inl (by rw [h2])
            · exact .inr (.inl h2)
          · rcases e with e | ⟨e1, e2⟩
            · have := h.way_mono j _ e hj
              rcases h2 with h2 | h2
              · exact .inr (.inl (h2 ▸ this))
              · exact .inr (.inl (this.trans h2))
            · rw [e1]
              rcases h2 with h2 | h2
              · exact .inr (.inr ⟨h2, e2⟩)
              · exact .inr (.inl h2)
      · refine .inr ⟨by omega, ?_⟩
        have : RL (way par J) q ∨ way par J = q := by
          by_cases e : J = j
          · subst e; exact h2.symm
          · have := h.way_mono j J (by omega) hj
            rcases h2 with h2 | h2
            · exact .inl (h2 ▸ this)
            · exact .inl (this.trans h2)
        rcases this with h | h
        · exact h.trans (RL.cons l q)
        · rw [h]; exact RL.cons l q
    · exact .inr ⟨h1, h2.trans (RL.cons l q)⟩
/-- The first that is found. -/
theorem Tree.first (h : Tree δ n s0 met par J 0) {E : σ → Bool} {s : σ} (hJ : met[J]? = some s) (hE : E s = true) (hno : ∀ i s, i < J → met[i]? = some s → E s = false) : FirstW n (fun w => E (w.foldl δ s0)) (way par J).reverse := by
  have hlt := (List.getElem?_eq_some_iff.1 hJ).1
  refine ⟨fun l hl => h.way_ltr J hlt l (by simpa using hl), ?_, fun v hv hv' => ?_⟩
  · have := h.way_run J hlt
    rw [hJ] at this
    simp only [List.foldl_reverse]
    rw [← Option.some.inj this]; exact hE
  · rw [List.reverse_reverse]
    have hv2 : v.foldl δ s0 = v.reverse.foldr (fun l s => δ s l) s0 := by rw [List.foldr_reverse]
    simp only [hv2] at hv'
    rcases h.upto v.reverse fun l hl => hv l (by simpa using hl) with ⟨i, h1, h2⟩ | ⟨_, h2⟩
    · have hi := (List.getElem?_eq_some_iff.1 h1).1
      by_cases hiJ : i < J
      · have := hno i _ hiJ h1
        rw [this] at hv'; simp at hv'
      · have key : way par J = v.reverse ∨ RL (way par J) v.reverse := by
          by_cases e : i = J
          · subst e; exact h2
          · have := h.way_mono i J (by omega) hi
            rcases h2 with h2 | h2
            · exact .inr (h2 ▸ this)
            · exact .inr (this.trans h2)
        rcases key with k | k
        · exact .inl (by rw [k, List.reverse_reverse])
        · exact .inr k
    · exact .inr h2
/-- Nothing is found. -/
theorem Tree.none (h : Tree δ n s0 met par met.length 0) {E : σ → Bool} (hno : ∀ (i : Nat) (s : σ), met[i]? = some s → E s = false) {w : List Nat} (hw : Ltr n w) : E (w.foldl δ s0) = false := by
  have hv2 : w.foldl δ s0 = w.reverse.foldr (fun l s => δ s l) s0 := by rw [List.foldr_reverse]
  rcases h.upto w.reverse fun l hl => hw l (by simpa using hl) with ⟨i, h1, _⟩ | ⟨h1, _⟩
  · rw [hv2]; exact hno i _ h1
  · omega
theorem Tree.start (δ : σ → Nat → σ) (n : Nat) (s0 : σ) (par : Nat → Nat × Nat) : Tree δ n s0 [s0] par 0 0 :=
  ⟨rfl, fun i h0 hi => by simp at hi; omega, fun i i' h0 h1 h2 => by simp at h2; omega, fun j l s h => by rcases h with h | ⟨_, h⟩ <;> omega⟩
theorem Tree.skip (h : Tree δ n s0 met par J L) {s u : σ} (hr : met[J]? = some s) (hu : δ s L = u) (hm : u ∈ met) : Tree δ n s0 met par J (L + 1) := by
  refine ⟨h.zero, fun i h0 hi => ?_, h.mono, fun j l q hb hl hq => ?_⟩
  · obtain ⟨a, b, c, d⟩ := h.src i h0 hi
    exact ⟨a, b, before_weak c, d⟩
  · rcases before_succ hb with hb | ⟨rfl, rfl⟩
    · exact h.clos j l q hb hl hq
    · rw [hr] at hq; cases hq
      obtain ⟨i, hi⟩ := List.mem_iff_getElem?.1 hm
      refine ⟨i, by rw [hi, hu], ?_⟩
      by_cases h0 : i = 0
      · exact .inl h0
      · exact .inr (.inr (h.src i (by omega) (List.getElem?_eq_some_iff.1 hi).1).2.2.1)
theorem Tree.snoc (h : Tree δ n s0 met par J L) {par' : Nat → Nat × Nat} (hp : ∀ i, i < met.length → par' i = par i) (hp2 : par' met.length = (J, L)) (hL : L < n) {s u : σ} (hr : met[J]? = some s) (hu : δ s L = u) : Tree δ n s0 (met ++ [u]) par' J (L + 1) := by
  have hJ : J < met.length := (List.getElem?_eq_some_iff.1 hr).1
  have up : ∀ {k : Nat} {x : σ}, met[k]? = some x → (met ++ [u])[k]? = some x := fun {k x} hk => by
    rw [List.getElem?_append_left (List.getElem?_eq_some_iff.1 hk).1]; exact hk
  have down : ∀ {k : Nat} {x : σ}, k < met.length → (met ++ [u])[k]? = some x → met[k]? = some x := fun {k x} hk hx => by
    rwa [List.getElem?_append_left hk] at hx
  have hlast : (met ++ [u])[met.length]? = some u := by rw [List.getElem?_append_right (Nat.le_refl _), Nat.sub_self]; rfl
  refine ⟨up h.zero, fun i h0 hi => ?_, fun i i' h0 h1 h2 => ?_, fun j l q hb hl hq => ?_⟩
  · by_cases hlt : i < met.length
    · obtain ⟨a, b, c, x, d, e⟩ := h.src i h0 hlt
      rw [hp i hlt]
      exact ⟨a, b, before_weak c, x, up d, up e⟩
    · obtain rfl : i = met.length := by simp at hi; omega
      rw [hp2]
      exact ⟨hJ, hL, .inr ⟨rfl, by omega⟩, s, up hr, by rw [hlast, hu]⟩
  · by_cases hlt : i' < met.length
    · rw [hp i (by omega), hp i' hlt]; exact h.mono i i' h0 h1 hlt
    · obtain rfl : i' = met.length := by simp at h2; omega
      rw [hp i h1, hp2]
      exact (h.src i h0 h1).2.2.1
  · rcases before_succ hb with hb | ⟨rfl, rfl⟩
    · have hj : j < met.length := by rcases hb with hb | ⟨rfl, _⟩ <;> omega
      obtain ⟨i, h1, h2⟩ := h.clos j l q hb hl (down hj hq)
      have hi := (List.getElem?_eq_some_iff.1 h1).1
      exact ⟨i, up h1, by rw [hp i hi]; exact h2⟩
    · have hq := down hJ hq
      rw [hr] at hq; cases hq
      exact ⟨met.length, by rw [hlast, hu], .inr (.inl hp2)⟩
theorem Tree.line (h : Tree δ n s0 met par J n) : Tree δ n s0 met par (J + 1) 0 := by
  refine ⟨h.zero, fun i h0 hi => ?_, h.mono, fun j l q hb hl hq => h.clos j l q ?_ hl hq⟩
  · obtain ⟨a, b, c, d⟩ := h.src i h0 hi
    refine ⟨a, b, ?_, d⟩
    rcases c with c | ⟨c, _⟩
    · exact .inl (by omega)
    · exact .inl (by omega)
  · rcases hb with hb | ⟨_, hb⟩
    · by_cases e : j = J
      · exact .inr ⟨e, hl⟩
      · exact .inl (by omega)
    · omega
end
/-- What a search over pairs has come to. -/
structure Srch (a b : GAuto) (n ma mb : Nat) (met hw : List (Int × Int)) (par : Nat → Nat × Nat) (J L : Nat) : Prop where
  nd : met.Nodup
  rg : ∀ p ∈ met, (0 ≤ p.1 ∧ p.1 < (ma : Int)) ∧ 0 ≤ p.2 ∧ p.2 < (mb : Int)
  tree : Tree (pst a b) n (0, 0) met par J L
  hl : hw.length = met.length
  h0 : hw[0]? = some (-1, 0)
  hs : ∀ j, 0 < j → j < met.length → hw[j]? = some (((par j).1 : Int), ((par j).2 : Int))
theorem Srch.start (a b : GAuto) (n : Nat) {ma mb : Nat} (ha : 0 < ma) (hb : 0 < mb) : Srch a b n ma mb [(0, 0)] [(-1, 0)] (fun _ => (0, 0)) 0 0 :=
  ⟨by simp, fun p hp => by simp at hp; subst hp; simp only; omega, Tree.start _ _ _ _, rfl, rfl, fun j h0 hj => by simp at hj; omega⟩
section
variable {a b : GAuto} {n ma mb : Nat} {met hw : List (Int × Int)} {par : Nat → Nat × Nat} {J L : Nat}
theorem Srch.skip (h : Srch a b n ma mb met hw par J L) {s u : Int × Int} (hr : met[J]? = some s) (hu : pst a b s L = u) (hm : u ∈ met) : Srch a b n ma mb met hw par J (L + 1) :=
  ⟨h.nd, h.rg, h.tree.skip hr hu hm, h.hl, h.h0, h.hs⟩
theorem Srch.snoc (h : Srch a b n ma mb met hw par J L) (hL : L < n) {s u : Int × Int} (hr : met[J]? = some s) (hu : pst a b s L = u) (hm : u ∉ met) (hb : (0 ≤ u.1 ∧ u.1 < (ma : Int)) ∧ 0 ≤ u.2 ∧ u.2 < (mb : Int)) :
    Srch a b n ma mb (met ++ [u]) (hw ++ [((J : Int), (L : Int))]) (fun j => if j = met.length then (J, L) else par j) J (L + 1) := by
  refine ⟨?_, fun p hp => ?_, h.tree.snoc (fun i hi => by rw [if_neg (by omega)]) (by rw [if_pos rfl]) hL hr hu, by simp [h.hl], ?_, fun j h0 hj => ?_⟩
  · rw [List.nodup_append]
    exact ⟨h.nd, by simp, fun c hc d hd => by simp at hd; subst hd; rintro rfl; exact hm hc⟩
  · rcases List.mem_append.1 hp with hp | hp
    · exact h.rg p hp
    · simp at hp; subst hp; exact hb
  · have := (List.getElem?_eq_some_iff.1 h.h0).1
    rw [List.getElem?_append_left this]; exact h.h0
  · by_cases e : j = met.length
    · subst e
      simp only [if_true]
      rw [List.getElem?_append_right (by rw [h.hl]; exact Nat.le_refl _), h.hl, Nat.sub_self]; rfl
    · have hj2 : j < met.length := by simp at hj; omega
      simp only [e, if_false]
      rw [List.getElem?_append_left (by rw [h.hl]; exact hj2)]
      exact h.hs j h0 hj2
theorem Srch.line (h : Srch a b n ma mb met hw par J n) : Srch a b n ma mb met hw par (J + 1) 0 := ⟨h.nd, h.rg, h.tree.line, h.hl, h.h0, h.hs⟩
end
/-- A list turned round, pair by pair. -/
def Turned (W c : List Int) (j : Nat) : Prop := c.length = W.length ∧ ∀ x, x < W.length → c[x]! = if x < j ∨ W.length - 1 - x < j then W[W.length - 1 - x]! else W[x]!
theorem Turned.start (W : List Int) : Turned W W 0 := ⟨rfl, fun x _ => by simp⟩
theorem Turned.step {W c : List Int} {j : Nat} (h : Turned W c j) (hj : j < W.length - 1 - j) : Turned W ((c.set j (c[W.length - 1 - j]!)).set (W.length - 1 - j) (c[j]!)) (j + 1) := by
  have hl := h.1
  refine ⟨by simp [hl], fun x hx => ?_⟩
  have hxl : x < ((c.set j (c[W.length - 1 - j]!)).set (W.length - 1 - j) (c[j]!)).length := by simp; omega
  rw [getElem!_pos _ x hxl, List.getElem_set]
  by_cases h1 : W.length - 1 - j = x
  · rw [if_pos h1, if_pos (by omega), h.2 j (by omega), if_neg (by omega)]
    congr 1; omega
  · rw [if_neg h1, List.getElem_set]
    by_cases h2 : j = x
    · rw [if_pos h2, if_pos (by omega), h.2 _ (by omega), if_neg (by omega)]
      congr 1; omega
    · have hxc : x < c.length := by omega
      rw [if_neg h2, ← getElem!_pos c x hxc, h.2 x hx]
      by_cases h3 : x < j ∨ W.length - 1 - x < j
      · rw [if_pos h3, if_pos (by omega)]
      · rw [if_neg h3, if_neg (by omega)]
theorem Turned.done {W c : List Int} {j : Nat} (h : Turned W c j) (hj : ¬ j < W.length - 1 - j) : c = W.reverse := by
  have hl := h.1
  refine List.ext_getElem (by simp [hl]) fun x h1 h2 => ?_
  have hx : x < W.length := by omega
  rw [← getElem!_pos c x h1, h.2 x hx, List.getElem_reverse]
  by_cases h3 : x < j ∨ W.length - 1 - x < j
  · rw [if_pos h3, getElem!_pos W _ (by omega)]
  · rw [if_neg h3, getElem!_pos W x hx]
    congr 1; omega
end Go.Proofs.Ythcclcbliedodaa
namespace Go.Proofs.Ythcclcbliedodaa

theorem met_step {n m : Nat} {next : List (List Int)} (h : Rows0 n m next) (h0 : 0 < m) {s : Int} (hs : s ∈ met next) {l : Nat} (hl : l < n) : nx next s l ∈ met next := by
  obtain ⟨j, hj⟩ := List.mem_iff_getElem?.1 hs
  have hb := met_bfs h h0
  obtain ⟨i, hi, _⟩ := hb.rg j l s (.inl (List.getElem?_eq_some_iff.1 hj).1) hl hj
  exact List.mem_of_getElem? hi
theorem met_zero {n m : Nat} {next : List (List Int)} (h : Rows0 n m next) (h0 : 0 < m) : (0 : Int) ∈ met next := List.mem_of_getElem? (met_bfs h h0).zero
/-- Every state of a least automaton is met. -/
theorem Least.met {n : Nat} {N : List (List Int)} {E : List Bool} {L : List Nat → Bool} (h : Least n N E L) : (met N).length = N.length := by
  have hR := h.rows
  have h0 := h.canon.m0
  have hall : ∀ t, t < N.length → (t : Int) ∈ Go.Proofs.Ythcclcbliedodaa.met N := by
    intro t
    induction t using Nat.strongRecOn with
    | _ t ih =>
      intro ht
      by_cases ht0 : t = 0
      · subst ht0; exact met_zero hR h0
      · obtain ⟨s, l, hs, hl, he⟩ := h.canon.reach t (by omega) ht
        have h1 := met_step hR h0 (ih s hs (by omega)) hl
        have h2 := nx_ok hR (s := (s : Int)) (l := l) ⟨by omega, by omega⟩ hl
        have e : nx N (s : Int) l = (t : Int) := by
          have e1 : nx N (s : Int) l = (N.getD s []).getD l 0 := rfl
          omega
        rwa [e] at h1
  have hok := met_ok hR h0
  have hle := hok.len
  refine Nat.le_antisymm hle ?_
  have hi : ∀ t, ∃ i, t < N.length → (Go.Proofs.Ythcclcbliedodaa.met N)[i]? = some (t : Int) := fun t => by
    by_cases ht : t < N.length
    · obtain ⟨i, hi⟩ := List.mem_iff_getElem?.1 (hall t ht)
      exact ⟨i, fun _ => hi⟩
    · exact ⟨0, fun h => absurd h ht⟩
  let f : Nat → Nat := fun t => Classical.choose (hi t)
  have hf : ∀ t, t < N.length → (Go.Proofs.Ythcclcbliedodaa.met N)[f t]? = some (t : Int) := fun t => Classical.choose_spec (hi t)
  have hn := nodup_boundN (Go.Proofs.Ythcclcbliedodaa.met N).length ((List.range N.length).map f) (by
    rw [List.nodup_iff_pairwise_ne, List.pairwise_map]
    refine List.Pairwise.imp_of_mem (fun {a b} ha hb hab => ?_) List.nodup_range
    intro e
    have h1 := hf a (List.mem_range.1 ha)
    have h2 := hf b (List.mem_range.1 hb)
    rw [e, h2] at h1
    exact hab (by have := Option.some.inj h1; omega)) fun s hs => by
    obtain ⟨t, ht, rfl⟩ := List.mem_map.1 hs
    exact (List.getElem?_eq_some_iff.1 (hf t (List.mem_range.1 ht))).1
  simpa using hn
/-- Any two states of a least automaton part at some word. -/
theorem Least.part {n : Nat} {N : List (List Int)} {E : List Bool} {L : List Nat → Bool} (h : Least n N E L) {s t : Int} (hs : 0 ≤ s ∧ s < (N.length : Int)) (ht : 0 ≤ t ∧ t < (N.length : Int)) (hne : s ≠ t) : ∃ w, Ltr n w ∧ lang N E s w ≠ lang N E t w := by
  refine Classical.byContradiction fun hc => hne ?_
  have hall : ∀ w, Ltr n w → lang N E s w = lang N E t w := fun w hw => Classical.byContradiction fun h => hc ⟨w, hw, h⟩
  obtain ⟨s, rfl⟩ := Int.eq_ofNat_of_zero_le hs.1
  obtain ⟨t, rfl⟩ := Int.eq_ofNat_of_zero_le ht.1
  have := h.canon.red s t (by omega) (by omega) fun w hw => by
    have := hall w hw
    unfold lang endOf at this
    rw [h.runS w s (by omega) hw, h.runS w t (by omega) hw] at this
    simpa using this
  omega
end Go.Proofs.Ythcclcbliedodaa
namespace Go.Proofs.Ythcclcbliedodaa
open Go.RowKit

/-- The operations of os read own memory; all others but the calls look at no memory. -/
structure QM (os : List Nat) (tt : Nat → Option TI) (tb : Tab) (k : Nat) (o : Oper) (s : St) (x : SV) : Prop where
  guard : o.guard = none
  dst : dstOk s.nt o.dst = true
  here : evalX tt tb s o.op = some x
  val : k ∉ os → ∀ H : List Ob, evalX tt tb ⟨s.nt, s.tmps, H⟩ o.op = some x
section
variable {P : Program} {G : World → Prop} {tt : Nat → Option TI} {tb : Tab} {ops : Array Oper} {ls : Nat → Option LoudS} {os : List Nat}
theorem QM.eq {k : Nat} {o : Oper} {s : St} {x y : SV} (h : QM os tt tb k o s x) (h' : QM os tt tb k o s y) : x = y := by
  have := h.here
  rw [h'.here] at this
  exact (Option.some.inj this).symm
theorem QM.ev {k : Nat} {o : Oper} {s s' : St} {x : SV} (h : QM os tt tb k o s x) (hh : k ∈ os → s'.heap = s.heap) (hn : s'.nt = s.nt) (he : ∀ y ∈ o.op.operands, s'.ev y = s.ev y) : QM os tt tb k o s' x := by
  have hv : k ∉ os → ∀ H : List Ob, evalX tt tb ⟨s'.nt, s'.tmps, H⟩ o.op = some x := fun hk H => by
    rw [← h.val hk H]
    exact evalX_congr (s := ⟨s'.nt, s'.tmps, H⟩) (s' := ⟨s.nt, s.tmps, H⟩) rfl o.op fun y hy => by rw [ev_heap, ev_heap]; exact he y hy
  refine ⟨h.guard, by rw [hn]; exact h.dst, ?_, hv⟩
  by_cases hk : k ∈ os
  · rw [← h.here]
    exact evalX_congr (hh hk) o.op he
  · exact hv hk s'.heap
end
end Go.Proofs.Ythcclcbliedodaa
namespace Go.Proofs.Ythcclcbliedodaa

structure GOut where
  base : Int
  next : List (List Int)
  outs : List Int
def GOut.zero : GOut := ⟨0, [], []⟩
/-- Nothing is wrong. -/
structure OkOut (o : GOut) (k m : Nat) : Prop where
  k_eq : radix o.base = k
  k2 : 2 ≤ k ∧ k ≤ 6
  m0 : 0 < m
  m20 : m ≤ 20
  outs : o.outs.length = m
  rows : Rows0 k m o.next
  rng : ∀ x ∈ o.outs, 0 ≤ x ∧ x ≤ 9
end Go.Proofs.Ythcclcbliedodaa
namespace Go.Proofs.Ythcclcbliedodaa
open Go.RowKit

def isRB : Ob → Bool → Bool
  | .box _, true => true
  | .row .., false => true
  | _, _ => false
def refOb (b : Bool) (j : Nat) : SV := if b = true then .bptr j 0 else .sref j
section
variable {P : Program} {G : World → Prop} {tt : Nat → Option TI} {tb : Tab} {ops : Array Oper}
theorem Norm.placeO {s : St} {d : Option Nat} {ob : Ob} {b : Bool} {j : Nat} (hob : isRB ob b = true) (hj : s.heap[j]? = some .hole) : Norm (({ s with heap := s.heap ++ [ob] } : St).put d (refOb b s.heap.length)) (({ s with heap := s.heap.set j ob ++ [.gone] } : St).put d (refOb b j)) := fun C hd a w hr => by
  have hjl := (List.getElem?_eq_some_iff.1 hj).1
  have hh : ∀ (hp : List Ob) (x : SV), (({ s with heap := hp } : St).put d x).heap = hp := fun hp x => put_heap _ _ _
  have hlen : hd.length = s.heap.length + 1 := by rw [hr.hl, hh]; simp
  obtain ⟨g, hg⟩ : ∃ g, hd[s.heap.length]? = some g := ⟨hd[s.heap.length]'(by omega), List.getElem?_eq_getElem _⟩
  have hog := hr.ob s.heap.length ob g (by rw [hh]; simp) hg
  have hjg : hd[j]? = some .no := by
    have e : hd[j]? = some (hd[j]'(by omega)) := List.getElem?_eq_getElem _
    have := hr.ob j .hole _ (by rw [hh, List.getElem?_append_left hjl]; exact hj) e
    generalize hd[j]'(by omega) = q at e this
    cases q <;> simp only [ObR] at this
    exact e
  have hgo : ∀ c, g.off.own ≠ some c := fun c => by
    cases ob <;> cases g <;> simp only [ObR] at hog <;> simp [isRB] at hob <;> simp [Hd.off, Hd.own]
  have hne : j ≠ s.heap.length := by omega
  have look1 : ∀ i x, ((hd.set j g).set s.heap.length g.off)[i]? = some x → (i = s.heap.length ∧ x = g.off) ∨ (i = j ∧ x = g) ∨ (i ≠ j ∧ i ≠ s.heap.length ∧ hd[i]? = some x) := fun i x e => by
    rw [List.getElem?_set] at e
    split at e
    · rename_i e0; subst e0
      rw [if_pos (by simp; omega)] at e
      exact .inl ⟨rfl, by cases e; rfl⟩
    · rw [List.getElem?_set] at e
      split at e
      · rename_i e0; subst e0
        rw [if_pos (by omega)] at e
        exact .inr (.inl ⟨rfl, by cases e; rfl⟩)
      · exact .inr (.inr ⟨by omega, by omega, e⟩)
  have mem1 : ∀ x, x ∈ ((hd.set j g).set s.heap.length g.off) → x = g.off ∨ x ∈ hd := fun x hx => by
    obtain ⟨i, hi⟩ := List.mem_iff_getElem?.1 hx
    rcases look1 i x hi with ⟨_, e⟩ | ⟨_, e⟩ | ⟨_, _, e⟩
    · exact .inl e
    · subst e; exact .inr (List.mem_of_getElem? hg)
    · exact .inr (List.mem_of_getElem? e)
  have hst : Stay (vis C hd) (vis C ((hd.set j g).set s.heap.length g.off)) w w := ⟨Nat.le_refl _, fun c hc _ => ⟨rfl, hc.1, fun x hx => by
    rcases mem1 x hx with rfl | h
    · exact hgo c
    · exact hc.2 x h⟩⟩
  have hkp : ∀ (i : Nat) (h : Hd), hd[i]? = some h → h ≠ .no → ∃ h', ((hd.set j g).set s.heap.length g.off)[i]? = some h' ∧ (h' = h ∨ h' = h.off) := fun i h e hn => by
    by_cases e1 : i = s.heap.length
    · subst e1
      rw [hg] at e
      cases e
      exact ⟨g.off, List.getElem?_set_self (by simp; omega), .inr rfl⟩
    · by_cases e2 : i = j
      · subst e2; rw [hjg] at e; cases e; exact (hn rfl).elim
      · exact ⟨h, by rw [List.getElem?_set_ne (by omega), List.getElem?_set_ne (by omega)]; exact e, .inl rfl⟩
  refine ⟨(hd.set j g).set s.heap.length g.off, hr.below, hr.df, by have := hr.nt; rw [put_nt] at this ⊢; exact this, by rw [hh]; simp [hlen], fun i o x h1 h2 => ?_, fun x c hx hc => ?_, fun i k hi hk c e1 e2 e3 e4 => ?_, fun t x hx => ?_, ?_⟩
  · rw [hh] at h1
    rcases look1 i x h2 with ⟨rfl, rfl⟩ | ⟨rfl, rfl⟩ | ⟨n1, n2, e⟩
    · rw [List.getElem?_append_right (by simp)] at h1
      simp at h1; subst h1
      simp only [ObR]
    · rw [List.getElem?_append_left (by simpa using hjl), List.getElem?_set_self hjl] at h1
      cases h1
      exact hog.same hst hkp
    · have hi := (List.getElem?_eq_some_iff.1 e).1
      have hi2 : i < s.heap.length := by omega
      rw [List.getElem?_append_left (by simpa using hi2), List.getElem?_set_ne (by omega)] at h1
      exact (hr.ob i o x (by rw [hh, List.getElem?_append_left hi2]; exact h1) e).same hst hkp
  · rcases mem1 x hx with rfl | h
    · exact (hgo c hc).elim
    · exact hr.own x c h hc
  · rcases look1 i hi e1 with ⟨a1, b1⟩ | ⟨a1, b1⟩ | ⟨a1, a2, b1⟩ <;> rcases look1 k hk e2 with ⟨c1, d1⟩ | ⟨c1, d1⟩ | ⟨c1, c2, d1⟩
    · omega
    · subst b1; exact (hgo c e3).elim
    · subst b1; exact (hgo c e3).elim
    · subst d1; exact (hgo c e4).elim
    · omega
    · subst b1
      exact (c2 (hr.dist k s.heap.length hk _ c d1 hg e4 e3)).elim
    · subst d1; exact (hgo c e4).elim
    · subst d1
      exact (a2 (hr.dist i s.heap.length hi _ c b1 hg e3 e4)).elim
    · exact hr.dist i k hi hk c b1 d1 e3 e4
  · cases d with
    | none => exact (hr.sl t x hx).same hst hkp
    | some d =>
      simp only [St.put, look] at hx
      by_cases e : d = t
      · subst e
        rw [if_pos rfl] at hx
        cases hx
        have := hr.sl d (refOb b s.heap.length) (by simp [St.put, look])
        have hat : ((hd.set j g).set s.heap.length g.off)[j]? = some g := by rw [List.getElem?_set_ne (by omega), List.getElem?_set_self (by omega)]
        cases b with
        | true =>
          simp only [refOb, if_true] at this ⊢
          generalize a.tmps.getD d undef = v at this
          cases this with
          | bptr _ _ b' o h =>
            rw [hg] at h
            cases h
            exact .bptr j 0 b' o hat
        | false =>
          simp only [refOb, Bool.false_eq_true, if_false] at this ⊢
          generalize a.tmps.getD d undef = v at this
          cases this with
          | sref _ ad n cap o h =>
            rw [hg] at h
            cases h
            exact .sref j ad n cap o hat
      · rw [if_neg e] at hx
        exact (hr.sl t x (by simp only [St.put, look]; rw [if_neg e]; exact hx)).same hst hkp
  · refine ⟨hr.ext.gro, hr.ext.stay, fun h c h1 h2 => ?_⟩
    rcases mem1 h h1 with rfl | h3
    · exact (hgo c h2).elim
    · exact hr.ext.lent h c h3 h2
/-- What a new variable or slice holds. -/
def newOb (tt : Nat → Option TI) (s : St) : Op → Option (Ob × Bool)
  | .alloc t => match tt t with
    | some i => some (.box i.zero, true)
    | none => none
  | .makeSlice t l c => match tt t, s.ev l, s.ev c with
    | some i, .t (.int _ n), .t (.int _ m) => match i.k with
      | .slice e => match tt e with
        | some ie => if n = m ∧ 0 ≤ n ∧ ie.by_ * n.toNat ≤ 140737488355328 ∧ n.toNat ≤ 9223372036854775807 then some (.row e ie.sz true (List.replicate n.toNat ie.zT), false) else none
        | none => none
      | _ => none
    | _, _, _ => none
  | _ => none
theorem newOb_rb {s : St} {op : Op} {ob : Ob} {b : Bool} (h : newOb tt s op = some (ob, b)) : isRB ob b = true := by
  unfold newOb at h
  split at h
  · split at h
    · cases h; rfl
    · cases h
  · split at h
    · split at h
      · split at h
        · split at h
          · cases h; rfl
          · cases h
        · cases h
      · cases h
    · cases h
  · cases h
theorem newOb_ev {s s' : St} {op : Op} (h : ∀ x ∈ op.operands, s.ev x = s'.ev x) : newOb tt s op = newOb tt s' op := by
  cases op <;> simp only [newOb]
  case makeSlice t l c =>
    rw [h l (by simp [Op.operands]), h c (by simp [Op.operands])]
theorem newOb_step {s : St} {k : Nat} {o : Oper} {ob : Ob} {b : Bool} (ho : ops[k]? = some o) (hg : o.guard = none) (hd : dstOk s.nt o.dst = true) (h : newOb tt s o.op = some (ob, b)) : stepI tt tb ops k s = some (({ s with heap := s.heap ++ [ob] } : St).put o.dst (refOb b s.heap.length)) := by
  obtain ⟨dst, op, ty, pos, after, guard⟩ := o
  simp only at hg hd h
  subst hg
  unfold stepI
  rw [ho]
  cases op <;> simp only [newOb] at h
  case alloc e =>
    have hq : quietOp (.alloc e) = false := rfl
    simp only [hq, Bool.false_eq_true, if_false]
    unfold stepX
    rw [if_pos hd]
    split at h
    · rename_i i hi
      cases h
      simp only [stepX0, evalX, evalOp, stepOp1, hi, refOb, if_true]
    · cases h
  case makeSlice t l c =>
    have hq : quietOp (.makeSlice t l c) = false := rfl
    simp only [hq, Bool.false_eq_true, if_false]
    unfold stepX
    rw [if_pos hd]
    split at h
    · rename_i i k1 n k2 m h1 h2 h3
      split at h
      · rename_i e hk
        split at h
        · rename_i ie he
          split at h
          · rename_i hc
            cases h
            simp only [stepX0, evalX, evalOp, stepOp1, h1, h2, h3, hk, he, refOb, Bool.false_eq_true, if_false]
            rw [if_pos hc]
          · cases h
        · cases h
      · cases h
    · cases h
  all_goals cases h
/-- It comes into its place. -/
def allocB (tt : Nat → Option TI) (s : St) (o : Oper) (j : Nat) : Option St := match newOb tt s o.op with
  | some (ob, b) => match s.heap[j]? with
    | some .hole => if dstOk s.nt o.dst = true ∧ o.guard = none then some (({ s with heap := s.heap.set j ob ++ [.gone] } : St).put o.dst (refOb b j)) else none
    | _ => none
  | none => none
theorem allocB_some {s t : St} {o : Oper} {j : Nat} (h : allocB tt s o j = some t) : ∃ ob b, newOb tt s o.op = some (ob, b) ∧ s.heap[j]? = some .hole ∧ dstOk s.nt o.dst = true ∧ o.guard = none ∧ t = ({ s with heap := s.heap.set j ob ++ [.gone] } : St).put o.dst (refOb b j) := by
  unfold allocB at h
  split at h
  · rename_i ob b he
    split at h
    · rename_i hj
      split at h
      · rename_i hc
        cases h
        exact ⟨ob, b, he, hj, hc.1, hc.2, rfl⟩
      · cases h
    · cases h
  · cases h
theorem allocB_of {s : St} {o : Oper} {j : Nat} {ob : Ob} {b : Bool} (h1 : newOb tt s o.op = some (ob, b)) (h3 : s.heap[j]? = some .hole) (h4 : dstOk s.nt o.dst = true) (h5 : o.guard = none) : allocB tt s o j = some (({ s with heap := s.heap.set j ob ++ [.gone] } : St).put o.dst (refOb b j)) := by
  unfold allocB
  simp only [h1, h3]
  rw [if_pos ⟨h4, h5⟩]
noncomputable def stepB (ps : List (Nat × Nat)) (tt : Nat → Option TI) (tb : Tab) (ops : Array Oper) (k : Nat) (s : St) : Option St := match ps.lookup k with
  | none => stepI tt tb ops k s
  | some j => match ops[k]? with
    | some o => allocB tt s o j
    | none => none
variable {ps : List (Nat × Nat)}
theorem stepB_I {k : Nat} {s s1 : St} (h : stepB ps tt tb ops k s = some s1) : ∃ s2, stepI tt tb ops k s = some s2 ∧ Norm s2 s1 := by
  unfold stepB at h
  split at h
  · exact ⟨s1, h, fun C hd a w hr => ⟨hd, hr⟩⟩
  · split at h
    · rename_i o ho
      obtain ⟨ob, b, h1, h3, h4, h5, rfl⟩ := allocB_some h
      exact ⟨_, newOb_step ho h5 h4 h1, Norm.placeO (newOb_rb h1) h3⟩
    · cases h
theorem allocB_congr {s s' t : St} (h : Eqv s s') {o : Oper} {j : Nat} (hs : allocB tt s o j = some t) : ∃ t', allocB tt s' o j = some t' ∧ Eqv t t' := by
  obtain ⟨ob, b, h1, h3, h4, h5, rfl⟩ := allocB_some hs
  refine ⟨_, allocB_of (by rw [← newOb_ev fun x _ => h.ev x]; exact h1) (by rw [← h.heap]; exact h3) (by rw [← h.nt]; exact h4) h5, ?_⟩
  rw [← h.heap]
  exact (h.withHeap _).put _ _
theorem stepB_congr (k : Nat) (s s' t : St) (h : Eqv s s') (hs : stepB ps tt tb ops k s = some t) : ∃ t', stepB ps tt tb ops k s' = some t' ∧ Eqv t t' := by
  unfold stepB at hs ⊢
  split at hs
  · exact stepI_congr h hs
  · split at hs
    · exact allocB_congr h hs
    · cases hs
def passB (ps : List (Nat × Nat)) (ops : Array Oper) (j k : Nat) : Bool := match ops[j]?, ops[k]? with
  | some x, some y => x.apart ops y && (match ps.lookup j, ps.lookup k with
    | none, none => quietOp x.op && quietOp y.op || mayPass x y
    | none, some _ => quietOp x.op && placeOp x.op
    | some _, some _ => true
    | some _, none => quietOp y.op && pureOp y.op)
  | _, _ => false
theorem mono_placeO {s : St} {j : Nat} {o : Ob} (h : s.heap[j]? = some .hole) : Mono s { s with heap := s.heap.set j o ++ [.gone] } := mono_place h
theorem swapB (j k : Nat) (s s1 s2 : St) (hp : passB ps ops j k = true) (h1 : stepB ps tt tb ops j s = some s1) (h2 : stepB ps tt tb ops k s1 = some s2) : ∃ u u', stepB ps tt tb ops k s = some u ∧ stepB ps tt tb ops j u = some u' ∧ Eqv s2 u' := by
  unfold passB at hp
  split at hp
  · rename_i x y hx hy
    rw [Bool.and_eq_true] at hp
    obtain ⟨hap, hp⟩ := hp
    obtain ⟨a1, a2, a3⟩ := Oper.apart_spec hap
    unfold stepB at h1 h2 ⊢
    cases lj : ps.lookup j <;> cases lk : ps.lookup k <;> simp only [lj, lk] at hp h1 h2 ⊢
    · rw [Bool.or_eq_true] at hp
      rcases hp with hp | hp
      · rw [Bool.and_eq_true] at hp
        exact swap_ok hx hy hap hp.1 hp.2 h1 h2
      · exact swap_any hx hy hap hp h1 h2
    · rename_i pk
      rw [Bool.and_eq_true] at hp
      obtain ⟨hqx, hpx⟩ := hp
      obtain ⟨p, hq, rfl⟩ := (quietStep_iff hx hqx).1 h1
      simp only [hy] at h2 ⊢
      obtain ⟨ob, b, g1, g3, g4, g5, rfl⟩ := allocB_some h2
      rw [put_heap] at g3
      rw [put_nt] at g4
      have g1' : newOb tt s y.op = some (ob, b) := by
        rw [← g1]
        exact newOb_ev fun z hz => (put_ev fun t e ez => a1 t e (looks_op (by rw [← ez]; exact hz))).symm
      refine ⟨_, _, allocB_of g1' g3 g4 g5, (quietStep_iff hx hqx).2 ⟨p, (quietStep_put a3).2 ?_, rfl⟩, ?_⟩
      · obtain ⟨q1, q2⟩ := hq
        refine ⟨q1, ?_⟩
        have hgr : ∀ z, evalX tt tb s x.op = some z → evalX tt tb ({ s with heap := s.heap.set pk ob ++ [.gone] } : St) x.op = some z := fun z hz => evalX_mono (mono_placeO g3) (fun _ => rfl) hpx hz
        rcases q2 with ⟨f1, f2⟩ | ⟨jj, want, dd, b, f1, f2, f3, f4⟩
        · exact .inl ⟨f1, hgr _ f2⟩
        · refine .inr ⟨jj, want, dd, b, f1, f2, f3, ?_⟩
          rcases f4 with ⟨f4, f5⟩ | f4
          · exact .inl ⟨f4, hgr _ f5⟩
          · exact .inr f4
      · rw [put_heap, put_with]
        exact put_comm _ p _ (fun t e => a2 t e)
    · rename_i pj
      rw [Bool.and_eq_true] at hp
      obtain ⟨hqy, hpy⟩ := hp
      simp only [hx] at h1 ⊢
      obtain ⟨ob, b, g1, g3, g4, g5, rfl⟩ := allocB_some h1
      obtain ⟨p, hq, rfl⟩ := (quietStep_iff hy hqy).1 h2
      have hq1 := (quietStep_put a1).1 hq
      have hgr : ∀ z, evalX tt tb ({ s with heap := s.heap.set pj ob ++ [.gone] } : St) y.op = some z → evalX tt tb s y.op = some z := fun z hz => by
        have hs : simpleOp y.op = true := by
          revert hpy
          cases y.op <;> simp [pureOp, simpleOp]
        rw [evalX_simple hs] at hz ⊢
        rw [← hz]
        exact evalOp_pure hpy fun x _ => rfl
      have hq2 : quietStep tt tb ops s y p := by
        obtain ⟨q1, q2⟩ := hq1
        refine ⟨q1, ?_⟩
        rcases q2 with ⟨f1, f2⟩ | ⟨jj, want, dd, b, f1, f2, f3, f4⟩
        · exact .inl ⟨f1, hgr _ f2⟩
        · refine .inr ⟨jj, want, dd, b, f1, f2, f3, ?_⟩
          rcases f4 with ⟨f4, f5⟩ | f4
          · exact .inl ⟨f4, hgr _ f5⟩
          · exact .inr f4
      have g1' : newOb tt (s.put y.dst p) x.op = some (ob, b) := by
        rw [← g1]
        exact newOb_ev fun z hz => put_ev fun t e ez => a3 t e (looks_op (by rw [← ez]; exact hz))
      refine ⟨_, _, (quietStep_iff hy hqy).2 ⟨p, hq2, rfl⟩, allocB_of g1' (by rw [put_heap]; exact g3) (by rw [put_nt]; exact g4) g5, ?_⟩
      rw [put_heap, put_with]
      exact put_comm _ _ _ (fun t e => a2 t e)
    · rename_i pj pk
      simp only [hx, hy] at h1 h2 ⊢
      obtain ⟨ob, b, g1, g3, g4, g5, rfl⟩ := allocB_some h1
      obtain ⟨ob', b', f1, f3, f4, f5, rfl⟩ := allocB_some h2
      have hjl := (List.getElem?_eq_some_iff.1 g3).1
      rw [put_heap] at f3
      rw [put_nt] at f4
      have hnh : ob ≠ .hole := fun e => by have := newOb_rb g1; rw [e] at this; cases b <;> cases this
      have hne : pj ≠ pk := fun e => by
        subst e
        simp only at f3
        rw [List.getElem?_append_left (by simpa using hjl), List.getElem?_set_self hjl] at f3
        exact hnh (Option.some.inj f3)
      have hkl : pk < s.heap.length := by
        rcases Nat.lt_or_ge pk s.heap.length with h | h
        · exact h
        · simp only at f3
          rw [List.getElem?_append_right (by simpa using h)] at f3
          have := (List.getElem?_eq_some_iff.1 f3).2
          simp at this
      have f3' : s.heap[pk]? = some .hole := by
        simp only at f3
        rw [List.getElem?_append_left (by simpa using hkl), List.getElem?_set_ne hne] at f3
        exact f3
      have f1' : newOb tt s y.op = some (ob', b') := by
        rw [← f1]
        exact newOb_ev fun z hz => (put_ev (s := { s with heap := s.heap.set pj ob ++ [.gone] }) fun t e ez => a1 t e (looks_op (by rw [← ez]; exact hz))).symm
      have g1' : newOb tt (({ s with heap := s.heap.set pk ob' ++ [.gone] } : St).put y.dst (refOb b' pk)) x.op = some (ob, b) := by
        rw [← g1]
        exact newOb_ev fun z hz => put_ev (s := { s with heap := s.heap.set pk ob' ++ [.gone] }) fun t e ez => a3 t e (looks_op (by rw [← ez]; exact hz))
      refine ⟨_, _, allocB_of f1' f3' f4 f5, allocB_of g1' (by rw [put_heap]; simp only; rw [List.getElem?_append_left (by simpa using hjl), List.getElem?_set_ne (Ne.symm hne)]; exact g3) (by rw [put_nt]; exact g4) g5, ?_⟩
      rw [put_heap, put_heap, put_with, put_with]
      have eh : ((s.heap.set pj ob ++ [Ob.gone]).set pk ob' ++ [Ob.gone]) = ((s.heap.set pk ob' ++ [Ob.gone]).set pj ob ++ [Ob.gone]) := by
        rw [List.set_append_left _ _ (by simpa using hkl), List.set_append_left _ _ (by simpa using hjl), List.set_comm _ _ hne]
      simp only [eh]
      exact put_comm _ _ _ (fun t e => a2 t e)
  · cases hp
def topoAB (ps : List (Nat × Nat)) (ops : Array Oper) : Bool := (List.range ops.size).all fun i => match ops[i]? with
  | some y => y.after.all (fun e => !Region.binds .any e || decide (e.on < i)) && (List.range i).all (fun j => ((ancs ops ops.size).getD i 0).testBit j || passB ps ops j i)
  | none => true
/-- A region that draws its order, with places for the variables and slices that it makes. -/
theorem SW_drawB (ps : List (Nat × Nat)) (hm : P.follows .mixedOrders = true) (hT : TTok P tt) (hGl : Lasting G) (htb : Tab.ok P G tb) {id : Nat} {ops : Array Oper} (htopo : topoAB ps ops = true) {Q : Exit → St → Prop} {s t : St} (h : runG (stepB ps tt tb ops) (List.range ops.size) s = some t) (hq : Q .normal t) : SW P G (.region id ops true) Q s := fun C hd a w hG hr => by
  refine wp_region_any hm ?_
  have htp : ∀ i y, ops[i]? = some y → (∀ e ∈ y.after, Region.binds .any e = true → e.on < i) ∧ ∀ j, j < i → ((ancs ops ops.size).getD i 0).testBit j = true ∨ passB ps ops j i = true := fun i y hy => by
    have hi := (Array.getElem?_eq_some_iff.1 hy).1
    have := List.all_eq_true.1 htopo i (List.mem_range.2 hi)
    rw [hy] at this
    simp only [Bool.and_eq_true] at this
    obtain ⟨h1, h2⟩ := this
    refine ⟨fun e he hb => ?_, fun j hj => by simpa using List.all_eq_true.1 h2 j (List.mem_range.2 hj)⟩
    have := (Array.all_eq_true_iff_forall_mem.1 h1) e he
    simpa [hb] using this
  exact wpAny_runG (stp := stepB ps tt tb ops) (pass := fun j k => passB ps ops j k = true) hT hGl htb hG (fun k s s' => stepB_I) stepB_congr swapB htp ops.size (Array.replicate ops.size false) s t hd a _ (by simp) (fun i y hi => by by_cases h : i < ops.size <;> simp [h] at hi) (by rw [left_all]; simp) (by rw [left_all]; exact h) hr.drawn (fun t' hd' a' w' h1 h2 => ⟨t, hd', hq, h1.symm.str h2⟩)
end
end Go.Proofs.Ythcclcbliedodaa
namespace Go.Proofs.Ythcclcbliedodaa
open Go.RowKit

def dsE : Op → Bool
  | .move _ | .load .. | .fieldAddr .. | .binOp .. => true
  | .slice _ _ _ _ none => true
  | _ => false
def opsE : Op → List Operand
  | .move x => [x]
  | .load _ p => [p]
  | .fieldAddr _ p _ => [p]
  | .binOp _ _ x y _ => [x, y]
  | .slice _ x lo hi none => x :: (lo.toList ++ hi.toList)
  | _ => []
section
variable {P : Program} {G : World → Prop} {tt : Nat → Option TI} {tb : Tab} {ops : Array Oper}
theorem append_data2 {s t : St} {e sz : Nat} {v y : SV} {xs : List T} (h : s.append e sz v xs = some (t, y)) : ∀ z, isT (s.ev z) = true → t.ev z = s.ev z := by
  have key : ∀ j hp, ∀ z, isT (s.ev z) = true → (({ nt := s.nt, tmps := s.tmps.map (fun p => (p.1, p.2.ren (scrub j))), heap := hp } : St)).ev z = s.ev z := by
    intro j hp z hz
    cases z with
    | tmp d =>
      simp only [St.ev, St.get] at hz ⊢
      rw [look_map]
      cases hl : look s.tmps d with
      | none => rfl
      | some x =>
        rw [hl] at hz
        simp only [Option.map_some, Option.getD_some] at hz ⊢
        obtain ⟨q, rfl⟩ := isT_some hz
        rfl
    | _ => rfl
  unfold St.append at h
  split at h
  · cases h; exact fun z _ => rfl
  · split at h
    · cases h; exact fun z _ => rfl
    · cases h
  · split at h
    · split at h
      · cases h; exact key _ _
      · cases h
    · cases h
  · split at h
    · split at h
      · cases h; exact key _ _
      · cases h
    · cases h
  · cases h
theorem appStep_unput {s s2 : St} {c : Call} {d d' : Option Nat} {p : T} (he : ∀ x ∈ c.args, (s.put d' (.t p)).ev x = s.ev x) (h : appStep tt (s.put d' (.t p)) c d = some s2) : ∃ (q : St) (y : SV), appStep tt s c d = some (q.put d y) ∧ s2 = (q.put d' (.t p)).put d y ∧ q.nt = s.nt ∧ ∀ z, isT (s.ev z) = true → q.ev z = s.ev z := by
  unfold appStep at h ⊢
  split at h
  · rename_i sx xx t t' ha ht
    have e1 : (s.put d' (.t p)).ev sx = s.ev sx := he sx (by rw [← Array.mem_toList_iff, ha]; simp)
    have e2 : (s.put d' (.t p)).ev xx = s.ev xx := he xx (by rw [← Array.mem_toList_iff, ha]; simp)
    have e3 : ∀ v, (s.put d' (.t p)).lst v = s.lst v := fun v => lst_congr (put_heap s d' _) v
    have e4 : ∀ v xs, (s.put d' (.t p)).appLen v xs = s.appLen v xs := fun v xs => by unfold St.appLen; cases v <;> simp only [e3]
    split at h
    · rename_i htt
      split at h
      · rename_i i hi
        split at h
        · rename_i e hk
          split at h
          · rename_i ie hie
            simp only [e1, e2, e3] at h
            split at h
            · rename_i xs hxs
              simp only [e4] at h
              split at h
              · rename_i hc
                rw [append_put, Option.map_map, Option.map_eq_some_iff] at h
                obtain ⟨⟨q, y⟩, hq, rfl⟩ := h
                refine ⟨q, y, ?_, rfl, (append_data hq).1, append_data2 hq⟩
                rw [if_pos htt, if_pos hc, hq]; rfl
              · cases h
            · cases h
          · cases h
        · cases h
      · cases h
    · cases h
  · cases h
theorem dataEvalE {s s' : St} {op : Op} (hd : dsE op = true) (ht : ∀ x ∈ opsE op, isT (s.ev x) = true) (h : ∀ x ∈ opsE op, s'.ev x = s.ev x) : evalX tt tb s' op = evalX tt tb s op := by
  cases op <;> simp only [dsE] at hd <;> try cases hd
  case move x => simp only [evalX, evalOp, h x (by simp [opsE])]
  case load t p =>
    obtain ⟨q, hq⟩ := isT_some (ht p (by simp [opsE]))
    have h1 : ∀ i, s'.load i (.t q) = s.load i (.t q) := fun i => by cases q <;> rfl
    simp only [evalX, evalOp, h p (by simp [opsE]), hq, h1]
  case fieldAddr t p k => simp only [evalX, evalOp, h p (by simp [opsE])]
  case binOp o t x y u => simp only [evalX, evalOp, h x (by simp [opsE]), h y (by simp [opsE])]
  case slice t x lo hi m =>
    cases m with
    | some m => simp at hd
    | none =>
      obtain ⟨q, hq⟩ := isT_some (ht x (by simp [opsE]))
      have h1 : ∀ sz a b, s'.sliceQ sz (.t q) a b = s.sliceQ sz (.t q) a b := fun sz a b => by cases q <;> rfl
      have h1' : ∀ n sz a b, s'.sliceA n sz (.t q) a b = s.sliceA n sz (.t q) a b := fun n sz a b => by cases q <;> rfl
      have h2 : s'.bd lo = s.bd lo := by
        cases lo with
        | none => rfl
        | some y => simp only [St.bd, h y (by simp [opsE])]
      have h3 : s'.bd hi = s.bd hi := by
        cases hi with
        | none => rfl
        | some y => simp only [St.bd, h y (by simp [opsE])]
      simp only [evalX, evalOp, h x (by simp [opsE]), hq, h1, h1', h2, h3]
def okE (tt : Nat → Option TI) (tb : Tab) (s : St) (o : Oper) : Prop := dsE o.op = true ∧ o.guard = none ∧ (opsE o.op).all (fun x => isT (s.ev x)) = true ∧ (evalX tt tb s o.op).all isT = true
open Classical in
noncomputable def stepL (ds : List Nat) (tt : Nat → Option TI) (tb : Tab) (ops : Array Oper) (k : Nat) (s : St) : Option St := if k ∈ ds then (match ops[k]? with
  | some o => if dsE o.op = true ∧ o.guard = none ∧ (opsE o.op).all (fun x => isT (s.ev x)) = true ∧ (evalX tt tb s o.op).all isT = true then stepI tt tb ops k s else none
  | none => none) else stepI tt tb ops k s
variable {ds : List Nat}
theorem stepL_I {k : Nat} {s s' : St} (h : stepL ds tt tb ops k s = some s') : stepI tt tb ops k s = some s' := by
  unfold stepL at h
  split at h
  · split at h
    · split at h
      · exact h
      · cases h
    · cases h
  · exact h
theorem stepL_in {k : Nat} {s s' : St} {o : Oper} (ho : ops[k]? = some o) (hk : k ∈ ds) : stepL ds tt tb ops k s = some s' ↔ okE tt tb s o ∧ stepI tt tb ops k s = some s' := by
  unfold stepL okE
  rw [if_pos hk, ho]
  simp only
  constructor
  · intro h
    split at h
    · rename_i hc; exact ⟨hc, h⟩
    · cases h
  · rintro ⟨h1, h2⟩
    rw [if_pos h1]; exact h2
theorem stepL_out {k : Nat} {s : St} (hk : k ∉ ds) : stepL ds tt tb ops k s = stepI tt tb ops k s := by unfold stepL; rw [if_neg hk]
theorem okE_eq {s s' : St} {o : Oper} (h : okE tt tb s o) (he : ∀ x ∈ opsE o.op, s'.ev x = s.ev x) : okE tt tb s' o ∧ evalX tt tb s' o.op = evalX tt tb s o.op := by
  obtain ⟨h1, h2, h3, h4⟩ := h
  have hv := dataEvalE (tt := tt) (tb := tb) h1 (fun x hx => List.all_eq_true.1 h3 x hx) he
  refine ⟨⟨h1, h2, List.all_eq_true.2 fun x hx => ?_, by rw [hv]; exact h4⟩, hv⟩
  rw [he x hx]; exact List.all_eq_true.1 h3 x hx
theorem opsE_sub {op : Op} (hd : dsE op = true) {x : Operand} (hx : x ∈ opsE op) : x ∈ op.operands := by
  cases op <;> simp only [dsE] at hd <;> try cases hd
  case move y => simpa [Op.operands, opsE] using hx
  case load t p => simpa [Op.operands, opsE] using hx
  case fieldAddr t p k => simpa [Op.operands, opsE] using hx
  case binOp o t x y u => simpa [Op.operands, opsE] using hx
  case slice t y lo hi m =>
    cases m with
    | some m => simp at hd
    | none =>
      cases lo <;> cases hi <;> simpa [Op.operands, opsE] using hx
theorem stepL_congr (k : Nat) (s s' t : St) (h : Eqv s s') (hs : stepL ds tt tb ops k s = some t) : ∃ t', stepL ds tt tb ops k s' = some t' ∧ Eqv t t' := by
  by_cases hk : k ∈ ds
  · cases ho : ops[k]? with
    | none => unfold stepL at hs; rw [if_pos hk, ho] at hs; cases hs
    | some o =>
      obtain ⟨h1, h2⟩ := (stepL_in ho hk).1 hs
      obtain ⟨t', h3, h4⟩ := stepI_congr h h2
      exact ⟨t', (stepL_in ho hk).2 ⟨(okE_eq h1 fun x _ => (h.ev x).symm).1, h3⟩, h4⟩
  · rw [stepL_out hk] at hs ⊢
    exact stepI_congr h hs
def passL (ds : List Nat) (ops : Array Oper) (j k : Nat) : Bool := match ops[j]?, ops[k]? with
  | some x, some y => x.apart ops y && (quietOp x.op && quietOp y.op || (!ds.contains j && !ds.contains k && mayPass x y) || (ds.contains k && !ds.contains j && quietOp y.op && appOp x.op && x.guard.isNone) || (ds.contains j && !ds.contains k && quietOp x.op && appOp y.op && y.guard.isNone))
  | _, _ => false
theorem swapL (j k : Nat) (s s1 s2 : St) (hp : passL ds ops j k = true) (h1 : stepL ds tt tb ops j s = some s1) (h2 : stepL ds tt tb ops k s1 = some s2) : ∃ u u', stepL ds tt tb ops k s = some u ∧ stepL ds tt tb ops j u = some u' ∧ Eqv s2 u' := by
  unfold passL at hp
  split at hp
  · rename_i x y hx hy
    rw [Bool.and_eq_true] at hp
    obtain ⟨hap, hp⟩ := hp
    obtain ⟨a1, a2, a3⟩ := Oper.apart_spec hap
    rw [Bool.or_eq_true, Bool.or_eq_true, Bool.or_eq_true] at hp
    rcases hp with ((hp | hp) | hp) | hp
    · rw [Bool.and_eq_true] at hp
      obtain ⟨u, u', f1, f2, f3⟩ := swap_ok hx hy hap hp.1 hp.2 (stepL_I h1) (stepL_I h2)
      obtain ⟨v, hv, rfl⟩ := (quietStep_iff hx hp.1).1 (stepL_I h1)
      obtain ⟨v', hv', rfl⟩ := (quietStep_iff hy hp.2).1 f1
      have ey : ∀ z ∈ y.op.operands, s.ev z = (s.put x.dst v).ev z := fun z hz => (put_ev fun t ht e => a1 t ht (looks_op (by subst e; exact hz))).symm
      have ex : ∀ z ∈ x.op.operands, (s.put y.dst v').ev z = s.ev z := fun z hz => put_ev fun t ht e => a3 t ht (looks_op (by subst e; exact hz))
      refine ⟨s.put y.dst v', u', ?_, ?_, f3⟩
      · by_cases hk : k ∈ ds
        · have ho := ((stepL_in hy hk).1 h2).1
          exact (stepL_in hy hk).2 ⟨(okE_eq ho fun z hz => ey z (opsE_sub ho.1 hz)).1, f1⟩
        · rw [stepL_out hk]; exact f1
      · by_cases hj : j ∈ ds
        · have ho := ((stepL_in hx hj).1 h1).1
          exact (stepL_in hx hj).2 ⟨(okE_eq ho fun z hz => ex z (opsE_sub ho.1 hz)).1, f2⟩
        · rw [stepL_out hj]; exact f2
    · rw [Bool.and_eq_true, Bool.and_eq_true] at hp
      have hj : j ∉ ds := by simpa using hp.1.1
      have hk : k ∉ ds := by simpa using hp.1.2
      rw [stepL_out hj] at h1
      rw [stepL_out hk] at h2
      obtain ⟨u, u', f1, f2, f3⟩ := swap_any hx hy hap hp.2 h1 h2
      exact ⟨u, u', by rw [stepL_out hk]; exact f1, by rw [stepL_out hj]; exact f2, f3⟩
    · simp only [Bool.and_eq_true] at hp
      obtain ⟨⟨⟨⟨hk, hj⟩, hq⟩, happ⟩, hg⟩ := hp
      have hk : k ∈ ds := by simpa using hk
      have hj : j ∉ ds := by simpa using hj
      have hg : x.guard = none := by simpa using hg
      obtain ⟨g1, g2⟩ := (stepL_in hy hk).1 h2
      obtain ⟨v, ⟨q1, q2⟩, rfl⟩ := (quietStep_iff hy hq).1 g2
      have hev : evalX tt tb s1 y.op = some v := by
        rcases q2 with ⟨_, q2⟩ | ⟨_, _, _, _, q2, _⟩
        · exact q2
        · rw [g1.2.1] at q2; cases q2
      have hT : isT v = true := by have := g1.2.2.2; rw [hev] at this; simpa using this
      obtain ⟨p, rfl⟩ := isT_some hT
      rw [stepL_out hj] at h1
      obtain ⟨dst, op, ty, pos, after, guard⟩ := x
      simp only at hg
      subst hg
      cases op <;> simp only [appOp] at happ <;> try cases happ
      rename_i c
      have hcal : c.callee = .builtin .append := by
        cases hc : c.callee with
        | builtin b => rw [hc] at happ; cases b <;> first | rfl | (simp at happ)
        | _ => rw [hc] at happ; simp at happ
      have hI : ∀ q : St, stepI tt tb ops j q = if dstOk q.nt dst = true then appStep tt q c dst else none := fun q => by
        unfold stepI
        rw [hx]
        have hqy : quietOp (.call c) = false := by simp only [quietOp, hcal]
        simp only [hqy, Bool.false_eq_true, if_false]
        unfold stepX
        simp only
        have hX : evalX tt tb q (.call c) = none := by simp only [evalX, evalOp, hcal]
        unfold stepX0
        simp only [hX, stepOp1, hcal]
        rfl
      rw [hI] at h1
      split at h1
      · rename_i hd
        have he : ∀ z ∈ c.args, (s.put y.dst (.t p)).ev z = s.ev z := fun z hz => put_ev fun t ht e => a3 t ht (looks_op (by subst e; simp [Op.operands, Call.operands, hz]))
        obtain ⟨q, y', rfl, f1, f3, f4⟩ := appStep_put (p := p) he h1
        have ey : ∀ z ∈ opsE y.op, s.ev z = (q.put dst y').ev z := fun z hz => by
          have e1 : (q.put dst y').ev z = q.ev z := put_ev fun t ht e => a1 t ht (looks_op (by subst e; exact opsE_sub g1.1 hz))
          rw [e1]
          refine f4 z ?_
          have := List.all_eq_true.1 g1.2.2.1 z hz
          rwa [e1] at this
        obtain ⟨k1, k2⟩ := okE_eq g1 ey
        refine ⟨s.put y.dst (.t p), (q.put y.dst (.t p)).put dst y', (stepL_in hy hk).2 ⟨k1, (quietStep_iff hy hq).2 ⟨_, ⟨by rw [put_nt, f3] at q1; exact q1, .inl ⟨g1.2.1, by rw [k2, hev]⟩⟩, rfl⟩⟩, by rw [stepL_out hj, hI, put_nt, if_pos hd, f1], ?_⟩
        exact (put_comm q (.t p) y' fun t e e2 => a2 t e2 e).symm
      · cases h1
    · simp only [Bool.and_eq_true] at hp
      obtain ⟨⟨⟨⟨hj, hk⟩, hq⟩, happ⟩, hg⟩ := hp
      have hj : j ∈ ds := by simpa using hj
      have hk : k ∉ ds := by simpa using hk
      have hg : y.guard = none := by simpa using hg
      obtain ⟨g1, g2⟩ := (stepL_in hx hj).1 h1
      obtain ⟨v, ⟨q1, q2⟩, rfl⟩ := (quietStep_iff hx hq).1 g2
      have hev : evalX tt tb s x.op = some v := by
        rcases q2 with ⟨_, q2⟩ | ⟨_, _, _, _, q2, _⟩
        · exact q2
        · rw [g1.2.1] at q2; cases q2
      have hT : isT v = true := by have := g1.2.2.2; rw [hev] at this; simpa using this
      obtain ⟨p, rfl⟩ := isT_some hT
      rw [stepL_out hk] at h2
      obtain ⟨dst, op, ty, pos, after, guard⟩ := y
      simp only at hg
      subst hg
      cases op <;> simp only [appOp] at happ <;> try cases happ
      rename_i c
      have hcal : c.callee = .builtin .append := by
        cases hc : c.callee with
        | builtin b => rw [hc] at happ; cases b <;> first | rfl | (simp at happ)
        | _ => rw [hc] at happ; simp at happ
      have hI : ∀ q : St, stepI tt tb ops k q = if dstOk q.nt dst = true then appStep tt q c dst else none := fun q => by
        unfold stepI
        rw [hy]
        have hqy : quietOp (.call c) = false := by simp only [quietOp, hcal]
        simp only [hqy, Bool.false_eq_true, if_false]
        unfold stepX
        simp only
        have hX : evalX tt tb q (.call c) = none := by simp only [evalX, evalOp, hcal]
        unfold stepX0
        simp only [hX, stepOp1, hcal]
        rfl
      rw [hI, put_nt] at h2
      split at h2
      · rename_i hd
        have he : ∀ z ∈ c.args, (s.put x.dst (.t p)).ev z = s.ev z := fun z hz => put_ev fun t ht e => a1 t ht (looks_op (by subst e; simp [Op.operands, Call.operands, hz]))
        obtain ⟨q, y', f1, rfl, f3, f4⟩ := appStep_unput (p := p) he h2
        have ex : ∀ z ∈ opsE x.op, (q.put dst y').ev z = s.ev z := fun z hz => by
          have e1 : (q.put dst y').ev z = q.ev z := put_ev fun t ht e => a3 t ht (looks_op (by subst e; exact opsE_sub g1.1 hz))
          rw [e1]
          exact f4 z (List.all_eq_true.1 g1.2.2.1 z hz)
        obtain ⟨k1, k2⟩ := okE_eq g1 ex
        refine ⟨q.put dst y', (q.put dst y').put x.dst (.t p), by rw [stepL_out hk, hI, if_pos hd, f1], (stepL_in hx hj).2 ⟨k1, (quietStep_iff hx hq).2 ⟨_, ⟨by rw [put_nt, f3]; exact q1, .inl ⟨g1.2.1, by rw [k2, hev]⟩⟩, rfl⟩⟩, ?_⟩
        exact put_comm q (.t p) y' fun t e e2 => a2 t e e2
      · cases h2
  · cases hp
def topoL (ds : List Nat) (ops : Array Oper) : Bool := (List.range ops.size).all fun i => match ops[i]? with
  | some y => y.after.all (fun e => !Region.binds .any e || decide (e.on < i)) && (List.range i).all (fun j => ((ancs ops ops.size).getD i 0).testBit j || passL ds ops j i)
  | none => true
/-- A region that draws its order, with reads of data that an append may come ahead of. -/
theorem SW_drawL (ds : List Nat) (hm : P.follows .mixedOrders = true) (hT : TTok P tt) (hGl : Lasting G) (htb : Tab.ok P G tb) {id : Nat} {ops : Array Oper} (htopo : topoL ds ops = true) {Q : Exit → St → Prop} {s t : St} (h : runG (stepL ds tt tb ops) (List.range ops.size) s = some t) (hq : Q .normal t) : SW P G (.region id ops true) Q s := fun C hd a w hG hr => by
  refine wp_region_any hm ?_
  have htp : ∀ i y, ops[i]? = some y → (∀ e ∈ y.after, Region.binds .any e = true → e.on < i) ∧ ∀ j, j < i → ((ancs ops ops.size).getD i 0).testBit j = true ∨ passL ds ops j i = true := fun i y hy => by
    have hi := (Array.getElem?_eq_some_iff.1 hy).1
    have := List.all_eq_true.1 htopo i (List.mem_range.2 hi)
    rw [hy] at this
    simp only [Bool.and_eq_true] at this
    obtain ⟨h1, h2⟩ := this
    refine ⟨fun e he hb => ?_, fun j hj => by simpa using List.all_eq_true.1 h2 j (List.mem_range.2 hj)⟩
    have := (Array.all_eq_true_iff_forall_mem.1 h1) e he
    simpa [hb] using this
  exact wpAny_runG (stp := stepL ds tt tb ops) (pass := fun j k => passL ds ops j k = true) hT hGl htb hG (fun k s s' h => ⟨s', stepL_I h, fun C hd a w hr => ⟨hd, hr⟩⟩) stepL_congr swapL htp ops.size (Array.replicate ops.size false) s t hd a _ (by simp) (fun i y hi => by by_cases h : i < ops.size <;> simp [h] at hi) (by rw [left_all]; simp) (by rw [left_all]; exact h) hr.drawn (fun t' hd' a' w' h1 h2 => ⟨t, hd', hq, h1.symm.str h2⟩)
end
end Go.Proofs.Ythcclcbliedodaa
