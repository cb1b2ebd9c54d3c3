/- Plain laws, data behind worlds, and contracts of functions, for the last text. No conditions. -/
import Derived.Test.YtgglhdbhemcijaaDoorM2
set_option linter.unusedSimpArgs false
set_option linter.unusedVariables false
set_option linter.unnecessarySimpa false
namespace Go.Proofs.YtgglhdbhemcijaaDoor

def Pl (next : List (List Int)) (n : Nat) (out : List Int) (s : Int) (j l : Nat) : Prop := l < n ∧ ∃ r, out[j]? = some r ∧ nx next r l = s
def IsFst (next : List (List Int)) (n : Nat) (out : List Int) (s : Int) (j l : Nat) : Prop := Pl next n out s j l ∧ ∀ j' l', Pl next n out s j' l' → ¬ Before j' l' j l
/-- What is written down of the places ahead of one. -/
structure FH (next : List (List Int)) (n m : Nat) (out frm hw : List Int) (i l : Nat) : Prop where
  fl : frm.length = m
  hl : hw.length = m
  st : ∀ s : Nat, s < m → s ≠ 0 → (frm[s]! = -1 ∧ ∀ j l', Before j l' i l → ¬ Pl next n out (s : Int) j l') ∨ ∃ j l' r, Before j l' i l ∧ IsFst next n out (s : Int) j l' ∧ out[j]? = some r ∧ frm[s]! = r ∧ hw[s]! = (l' : Int)
section
variable {next : List (List Int)} {n m : Nat} {out frm hw : List Int} {i l : Nat}
theorem not_before_zero {j l' : Nat} : ¬ Before j l' 0 0 := by rintro (h | ⟨_, h⟩) <;> omega
theorem FH.start (hf : frm = List.replicate m (-1)) (hh : hw.length = m) : FH next n m out frm hw 0 0 := by
  refine ⟨by rw [hf]; simp, hh, fun s hs _ => .inl ⟨?_, fun j l' hb => (not_before_zero hb).elim⟩⟩
  rw [hf, getElem!_pos _ s (by simpa using hs)]; simp
theorem before_asymm {a b c d : Nat} (h : Before a b c d) (h' : Before c d a b) : False := by
  rcases h with h | ⟨_, h⟩ <;> rcases h' with h' | ⟨_, h'⟩ <;> omega
theorem before_tri (a b c d : Nat) : Before a b c d ∨ (a = c ∧ b = d) ∨ Before c d a b := by
  unfold Before; omega
theorem FH.skip (h : FH next n m out frm hw i l) {r u : Int} (hr : out[i]? = some r) (hu : nx next r l = u) (hk : u = 0 ∨ ∃ k : Nat, u = k ∧ ¬ frm[k]! < 0) (hpos : ∀ s ∈ out, 0 ≤ s) : FH next n m out frm hw i (l + 1) := by
  refine ⟨h.fl, h.hl, fun s hs h0 => ?_⟩
  rcases h.st s hs h0 with ⟨h1, h2⟩ | ⟨j, l', r', h1, h2⟩
  · refine .inl ⟨h1, fun j l' hb hp => ?_⟩
    rcases before_succ hb with hb | ⟨rfl, rfl⟩
    · exact h2 j l' hb hp
    · obtain ⟨_, q, hq, e⟩ := hp
      rw [hr] at hq; cases hq
      rw [hu] at e
      rcases hk with hk | ⟨k, hk, h3⟩
      · omega
      · obtain rfl : k = s := by omega
        exact h3 (by rw [h1]; decide)
  · exact .inr ⟨j, l', r', before_weak h1, h2⟩
theorem FH.set (h : FH next n m out frm hw i l) (hL : l < n) {r : Int} {u : Nat} (hr : out[i]? = some r) (hu : nx next r l = (u : Int)) (hum : u < m) (hu0 : u ≠ 0) (hneg : frm[u]! < 0) (hpos : ∀ s ∈ out, 0 ≤ s) : FH next n m out (frm.set u r) (hw.set u (l : Int)) i (l + 1) := by
  refine ⟨by simp [h.fl], by simp [h.hl], fun s hs h0 => ?_⟩
  have hfl := h.fl
  have hhl := h.hl
  by_cases e : s = u
  · subst e
    refine .inr ⟨i, l, r, .inr ⟨rfl, by omega⟩, ⟨⟨hL, r, hr, hu⟩, fun j' l' hp hb => ?_⟩, hr, ?_, ?_⟩
    · rcases h.st s hs h0 with ⟨_, h2⟩ | ⟨j, l2, r', h1, h2, h3, h4, _⟩
      · exact h2 j' l' hb hp
      · have := hpos r' (List.mem_of_getElem? h3)
        omega
    · rw [getElem!_pos _ s (by simp; omega)]; simp
    · rw [getElem!_pos _ s (by simp; omega)]; simp
  · have e1 : (frm.set u r)[s]! = frm[s]! := by rw [getElem!_pos _ s (by simp; omega), getElem!_pos _ s (by omega), List.getElem_set_ne (by omega)]
    have e2 : (hw.set u (l : Int))[s]! = hw[s]! := by rw [getElem!_pos _ s (by simp; omega), getElem!_pos _ s (by omega), List.getElem_set_ne (by omega)]
    rw [e1, e2]
    rcases h.st s hs h0 with ⟨h1, h2⟩ | ⟨j, l', r', h1, h2⟩
    · refine .inl ⟨h1, fun j l' hb hp => ?_⟩
      rcases before_succ hb with hb | ⟨rfl, rfl⟩
      · exact h2 j l' hb hp
      · obtain ⟨_, q, hq, e⟩ := hp
        rw [hr] at hq; cases hq
        omega
    · exact .inr ⟨j, l', r', before_weak h1, h2⟩
theorem FH.line (h : FH next n m out frm hw i n) : FH next n m out frm hw (i + 1) 0 := by
  have key : ∀ {j l' : Nat}, l' < n → Before j l' (i + 1) 0 → Before j l' i n := fun {j l'} hl hb => by
    rcases hb with hb | ⟨_, hb⟩
    · by_cases e : j = i
      · exact .inr ⟨e, hl⟩
      · exact .inl (by omega)
    · omega
  refine ⟨h.fl, h.hl, fun s hs h0 => ?_⟩
  rcases h.st s hs h0 with ⟨h1, h2⟩ | ⟨j, l', r', h1, h2⟩
  · exact .inl ⟨h1, fun j l' hb hp => h2 j l' (key hp.1 hb) hp⟩
  · refine .inr ⟨j, l', r', ?_, h2⟩
    rcases h1 with h1 | ⟨h1, _⟩
    · exact .inl (by omega)
    · exact .inl (by omega)
/-- The way back, by what is written down. -/
def parOf (out frm hw : List Int) (k : Nat) : Nat × Nat := (out.idxOf (frm[(out.getD k 0).toNat]!), (hw[(out.getD k 0).toNat]!).toNat)
theorem idxOf_at {out : List Int} (hn : out.Nodup) {j : Nat} {r : Int} (h : out[j]? = some r) : out.idxOf r = j := by
  obtain ⟨hj, e⟩ := List.getElem?_eq_some_iff.1 h
  have hm : r ∈ out := List.mem_of_getElem? h
  have h1 := List.idxOf_lt_length_of_mem hm
  have h2 := List.getElem_idxOf h1
  exact nodup_inj hn h1 hj (h2.trans e.symm)
/-- What is known of a state that was met: its first place. -/
theorem FH.at (h : FH next n m out frm hw out.length 0) (ho : MetOk m out) (hb : Bfs next n out out.length 0) {k : Nat} {s : Int} (hk : out[k]? = some s) (h0 : 0 < k) : s ≠ 0 ∧ ∃ j l r, parOf out frm hw k = (j, l) ∧ j < k ∧ l < n ∧ out[j]? = some r ∧ nx next r l = s ∧ IsFst next n out s j l ∧ frm[s.toNat]! = r ∧ hw[s.toNat]! = (l : Int) := by
  have hs := ho.ok s (List.mem_of_getElem? hk)
  have hs0 : s ≠ 0 := fun e => by
    have h1 := (List.getElem?_eq_some_iff.1 hk)
    have h2 := (List.getElem?_eq_some_iff.1 hb.zero)
    have := nodup_inj ho.nd h1.1 h2.1 (by rw [h1.2, h2.2, e])
    omega
  refine ⟨hs0, ?_⟩
  obtain ⟨j1, l1, r1, b1, b2, b3, b4, b5⟩ := hb.src k s h0 hk
  have hp1 : Pl next n out s j1 l1 := ⟨b3, r1, b4, b5⟩
  have es : ((s.toNat : Nat) : Int) = s := by omega
  rcases h.st s.toNat (by omega) (by omega) with ⟨_, h2⟩ | ⟨j, l, r, h1, h2, h3, h4, h5⟩
  · rw [es] at h2
    exact (h2 j1 l1 b1 hp1).elim
  · rw [es] at h2
    have hjk : j < k := by
      have := h2.2 j1 l1 hp1
      rcases before_tri j1 l1 j l with q | ⟨q, _⟩ | q
      · exact (this q).elim
      · omega
      · rcases q with q | ⟨q, _⟩ <;> omega
    obtain ⟨q1, r', q2, q3⟩ := h2.1
    rw [h3] at q2; cases q2
    refine ⟨j, l, r, ?_, hjk, q1, h3, q3, h2, h4, h5⟩
    unfold parOf
    have hd : out.getD k 0 = s := by rw [List.getD_eq_getElem?_getD, hk]; rfl
    rw [hd, h4, h5, idxOf_at ho.nd h3, Int.toNat_natCast]
theorem FH.tree (h : FH next n m out frm hw out.length 0) (ho : MetOk m out) (hb : Bfs next n out out.length 0) : Tree (nx next) n 0 out (parOf out frm hw) out.length 0 := by
  refine ⟨hb.zero, fun i h0 hi => ?_, fun i i' h0 hii hi' => ?_, fun j l s hbf hl hs => ?_⟩
  · obtain ⟨_, j, l, r, e, h1, h2, h3, h4, _⟩ := h.at ho hb (List.getElem?_eq_getElem hi) h0
    rw [e]
    exact ⟨h1, h2, .inl (by omega), r, h3, by rw [h4]; exact List.getElem?_eq_getElem hi⟩
  · obtain ⟨_, j, l, r, e, h1, h2, h3, h4, hF, _⟩ := h.at ho hb (List.getElem?_eq_getElem (show i < out.length by omega)) h0
    obtain ⟨_, j', l', r', e', h1', h2', h3', h4', hF', _⟩ := h.at ho hb (List.getElem?_eq_getElem hi') (by omega)
    rw [e, e']
    obtain ⟨i2, q1, q2⟩ := hb.rg j' l' r' (.inl (by omega)) h2' h3'
    rw [h4'] at q1
    have hq := List.getElem?_eq_some_iff.1 q1
    obtain rfl := nodup_inj ho.nd hq.1 hi' hq.2
    obtain ⟨j0, l0, r0, b1, b2, b3, b4, b5⟩ := q2 i out[i] h0 hii (List.getElem?_eq_getElem (by omega))
    have := hF.2 j0 l0 ⟨b3, r0, b4, b5⟩
    rcases before_tri j0 l0 j l with q | ⟨rfl, rfl⟩ | q
    · exact (this q).elim
    · exact b1
    · exact q.trans b1
  · obtain ⟨i', q1, q2⟩ := hb.rg j l s hbf hl hs
    refine ⟨i', q1, ?_⟩
    by_cases h0 : i' = 0
    · exact .inl h0
    · obtain ⟨_, j1, l1, r1, e, h1, h2, h3, h4, hF, _⟩ := h.at ho hb q1 (by omega)
      rw [e]
      have := hF.2 j l ⟨hl, s, hs, rfl⟩
      rcases before_tri j l j1 l1 with q | ⟨rfl, rfl⟩ | q
      · exact (this q).elim
      · exact .inr (.inl rfl)
      · exact .inr (.inr q)
end
end Go.Proofs.YtgglhdbhemcijaaDoor
