/- The law TapeReads returns true at every input whose reading is of bulk at most 1048576, and leaves its arguments as they read; the card ties the variables of the library that it lists. No other conditions. -/
import Derived.Test.YtpgkpbfefnpagaaGreatDoorM4
import Derived.Test.YtpgkpbfefnpagaaGreatDoorCards
import Derived.Test.YtpgkpbfefnpagaaGreatDoorTie
import Derived.ChangeSame
import Derived.RowKit
import Derived.LaidLaws
import Derived.LaidHandle
import Derived.Stop.Joined
import Derived.Stop.LaidErr
import Derived.SevenTiedAt
import Derived.JoinedCond
import Derived.Lib.LaidTab
import Derived.Lib.LaidIn
import Derived.Deep.DeepHandedRow
import Derived.Deep.DeepWitnessRowRef
set_option linter.unusedSimpArgs false
set_option linter.unusedVariables false
set_option linter.unnecessarySimpa false
set_option linter.unusedSectionVars false
namespace Go.Proofs
open Go.Shelf
def Tryz.layString_ren : Go.Shelf.Ren := ⟨fun | 169 => 18 | n => n, fun | 70 => 45 | 9 => 9 | 0 => 0 | 72 => 48 | 37 => 46 | 127 => 66 | 3 => 3 | 5 => 5 | n => n, fun | n => n⟩
theorem Tryz.layString : Go.Proofs.Lays.n169 Tryz.prog Tryz.layString_ren := {
  mixed := by kernel_rfl
  f169 := Tryz.func18.trans (congrArg some (by kernel_rfl))
  t0 := Tryz.underlying0
  a0 := Tryz.isAgg0
  z0 := Tryz.sizeOf0
  v0 := Tryz.zeroValue0
  t3 := Tryz.underlying3
  a3 := Tryz.isAgg3
  z3 := Tryz.sizeOf3
  v3 := Tryz.zeroValue3
  t9 := Tryz.underlying9
  a9 := Tryz.isAgg9
  z9 := Tryz.sizeOf9
  v9 := Tryz.zeroValue9
  t37 := Tryz.underlying46
  a37 := Tryz.isAgg46
  z37 := Tryz.sizeOf46
  v37 := Tryz.zeroValue46
  t70 := Tryz.underlying45
  a70 := Tryz.isAgg45
  z70 := Tryz.sizeOf45
  v70 := Tryz.zeroValue45
  t72 := Tryz.underlying48
  a72 := Tryz.isAgg48
  z72 := Tryz.sizeOf48
  v72 := Tryz.zeroValue48
  t127 := Tryz.underlying66
  a127 := Tryz.isAgg66
  z127 := Tryz.sizeOf66
  v127 := Tryz.zeroValue66 }
theorem Tryz.bldString : Builder.Extra Tryz.prog Tryz.layString_ren where
  sizeBuilder := by kernel_rfl
  liesBuilder := by kernel_rfl
  t5 := Tryz.underlying5
  a5 := Tryz.isAgg5
  z5 := Tryz.sizeOf5
  v5 := Tryz.zeroValue5
  infoByte := by kernel_rfl
  cellsByte := by kernel_rfl
  sizeByte := by kernel_rfl
  neB5 := by decide
end Go.Proofs
namespace Go.Proofs.YtpgkpbfefnpagaaGreatDoor
open Go.RowKit Go.Shelf Go.Lib

/-- The builder in block b holds these bytes; its blocks are hidden. -/
def HB : Option (Nat × List UInt8) → Ctx → Prop
  | none, _ => True
  | some (b, bs), C => ∃ p vb, BF C.w0.heap.size b bs p vb C.w1 ∧ (p = .pointer none ∨ p = selfP b) ∧ C.K b ∧ ∀ g, vb.ownBlock = some g → C.K g
section
variable {C : Ctx} {st : St} {hd : List Hd} {a : Act} {w : World}
theorem StR.hidden {w' : World} (hr : StR C st hd a w) (M K' : Nat → Prop) (hos : w'.os = w.os) (htp : w'.tape = w.tape) (hou : w'.output = w.output) (hsz : w.heap.size ≤ w'.heap.size) (hfr : ∀ k, k < w.heap.size → ¬ M k → w'.heap[k]? = w.heap[k]?)
    (hM : ∀ k, M k → C.K k ∧ C.w0.heap.size ≤ k) (hK1 : ∀ k, C.K k → K' k) (hK2 : ∀ k, K' k → C.K k ∨ (w.heap.size ≤ k ∧ k < w'.heap.size)) :
    ∃ C', C'.w0 = C.w0 ∧ C'.S0 = C.S0 ∧ C'.w1 = w' ∧ C'.K = K' ∧ StR C' st hd a w' := by
  have h2 : ∀ b, K' b → b < w'.heap.size ∧ ¬ ∃ h ∈ hd, h.own = some b := fun b hb => by
    rcases hK2 b hb with q | ⟨q1, q2⟩
    · obtain ⟨e1, _, e3⟩ := hid_free hr q
      exact ⟨Nat.lt_of_lt_of_le e1 hsz, fun ⟨h, h1, h2⟩ => e3 h h1 h2⟩
    · exact ⟨q2, fun ⟨h, h1, h2⟩ => by have := (hr.own h b h1 h2).2; omega⟩
  have hlow : ∀ k, k < C.w0.heap.size → ¬ M k := fun k hk hm => by have := (hM k hm).2; omega
  have hbel : Below C.w0.heap.size C.w0 w' := ⟨hos.trans hr.below.os, htp.trans hr.below.tape, hou.trans hr.below.output, Nat.le_trans hr.below.size hsz, fun k hk => (hfr k (Nat.lt_of_lt_of_le hk hr.below.size) (hlow k hk)).trans (hr.below.block k hk)⟩
  let C' := reC C w' hd K' hbel.size h2
  have hst : Stay (vis C hd) (vis C' hd) w w' := ⟨hsz, fun b hb hlt => ⟨hfr b hlt fun hm => hb.1.2 (hM b hm).1, ⟨hb.1.1, fun k => by
    rcases hK2 b k with q | ⟨q, _⟩
    · exact hb.1.2 q
    · omega⟩, hb.2⟩⟩
  have hown : ∀ h b, h ∈ hd → h.own = some b → w'.heap[b]? = w.heap[b]? := fun h b h1 h2 => hfr b (hr.own h b h1 h2).2 fun hm => (hid_free hr (hM b hm).1).2.2 h h1 h2
  refine ⟨C', rfl, rfl, rfl, rfl, ⟨hbel, hr.df, hr.nt, hr.hl, fun i o h h1 h2 => (hr.ob i o h h1 h2).keep hst (Keeps.refl hd) fun b hb => hown h b (List.mem_of_getElem? h2) hb, fun h b h1 h2 => ⟨(hr.own h b h1 h2).1, Nat.lt_of_lt_of_le (hr.own h b h1 h2).2 hsz⟩, hr.dist, fun t x hx => (hr.sl t x hx).keep hst (Keeps.refl hd), ⟨Nat.le_refl _, fun _ _ _ => rfl, fun h b h1 h2 => .inl ⟨h, h1, h2⟩⟩⟩⟩
theorem HB.now {b : Nat} {bs : List UInt8} (hg : HB (some (b, bs)) C) (hr : StR C st hd a w) : ∃ p vb, BF C.w0.heap.size b bs p vb w ∧ (p = .pointer none ∨ p = selfP b) ∧ C.K b ∧ ∀ g, vb.ownBlock = some g → C.K g := by
  obtain ⟨p, vb, h1, h2, h3, h4⟩ := hg
  exact ⟨p, vb, ⟨h1.le, by rw [(hid_free hr h3).2.1]; exact h1.blk, ownsRow_same h1.own fun k hk => (hid_free hr (h4 k hk)).2.1, h1.ne⟩, h2, h3, h4⟩
/-- A line is written. -/
theorem line_wp {b : Nat} {bs : List UInt8} (hg : HB (some (b, bs)) C) (hr : StR C st hd a w) {o : Oper} {f x : Operand} {ats : Array TypeId} {j u : Nat} {v : List UInt8} {l : List (List UInt8)} (ho : o.op = .call ⟨.value f, #[x], ats⟩) (hd0 : dstOk st.nt o.dst = true)
    (hf : fnOf (st.ev f) = some (14, [.bptr j 0])) (hx : st.rd (st.ev x) = some (tStrs (v :: l))) (hu : look st.tmps u = some (.pin j b))
    (hlen : bs.length + (joinB 32 (v :: l)).length ≤ 1000000) (hl : l.length ≤ 1000000) {K : Act → World → Prop} {Q : Exit → Act → World → Prop}
    (h : ∀ C' hd' a' w', C'.w0 = C.w0 → C'.S0 = C.S0 → HB (some (b, bs ++ (joinB 32 (v :: l) ++ [10]))) C' → StR C' (st.put o.dst (.t (.tup []))) hd' a' w' → K a' w') : o.wp Tryz.prog a w K Q := by
  obtain ⟨p, vb, h1, h2, h3, h4⟩ := hg.now hr
  obtain ⟨capv, hv, hcl, hcx⟩ := fnOf_rep (hr.ev f) hf
  have hpin := hr.sl u _ hu
  generalize a.tmps.getD u undef = uu at hpin
  cases hpin
  rename_i ow hh
  obtain ⟨q, rfl⟩ := args1 (show capv.size = 1 by simpa using hcl)
  have hq := hcx 0 _ q rfl rfl
  cases hq
  rename_i b2 ow2 hh2
  rw [hh] at hh2
  injection hh2 with hh2
  injection hh2 with e1 e2
  subst e1 e2
  have hw := rd_ok hr (hr.ev x) hx
  unfold Oper.wp
  rw [run_call ho rfl hv (enter_of Tryz.func14 rfl rfl)]
  rw [Oper.upon_enter]
  have e0 : (Array.map a.eval (Call.args ⟨.value f, #[x], ats⟩) ++ #[Value.pointer (some { block := b, off := 0 })]) = #[a.eval x, selfP b] := by simp [selfP]
  rw [e0]
  have key := line_calls h1 h2 v l hw hlen hl hr.below.size
  refine key.mono fun e w' hq => ?_
  obtain ⟨rfl, vb', k1, k2, k3⟩ := hq
  obtain ⟨C', c1, c2, c3, c4, c5⟩ := hr.hidden (w' := w') (fun k => k = b ∨ vb.ownBlock = some k) (fun k => C.K k ∨ vb'.ownBlock = some k) k2.os k2.tape k2.output k2.size (fun k hk hm => k2.block k hk (fun e => hm (.inl e)) (fun e => hm (.inr e)))
    (fun k hk => by
      rcases hk with rfl | hk
      · exact ⟨h3, h1.le⟩
      · exact ⟨h4 k hk, (h1.own.lt k hk).1⟩) (fun k hk => .inl hk) (fun k hk => by
      rcases hk with hk | hk
      · exact .inl hk
      · rcases k3 with e | ⟨g, e1, e2⟩
        · rw [e] at hk; exact .inl (h4 k hk)
        · rw [e1] at hk; injection hk with hk; subst hk
          exact .inr ⟨e2, (k1.own.lt _ e1).2⟩)
  refine h C' hd _ w' c1 c2 ⟨selfP b, vb', by rw [c1, c3]; exact k1, .inr rfl, by rw [c4]; exact .inl h3, fun g hg => by rw [c4]; exact .inr hg⟩ (c5.put' rfl hd0 (.t _ _ (.tup [] #[] rfl fun k y v h => by simp at h)))
end
section
variable {G : World → Prop} {tt : Nat → Option TI} {tb : Tab} {Q : Exit → St → Option (Nat × List UInt8) → Prop} {st : St} {ops : Array Oper} {rest : List Oper} {o : Oper}
theorem BL_line {b : Nat} {bs : List UInt8} {f x : Operand} {ats : Array TypeId} {j u : Nat} {v : List UInt8} {l : List (List UInt8)} (ho : o.op = .call ⟨.value f, #[x], ats⟩) (hgd : guardOk ops st o = true) (hd0 : dstOk st.nt o.dst = true)
    (hf : fnOf (st.ev f) = some (14, [.bptr j 0])) (hx : st.rd (st.ev x) = some (tStrs (v :: l))) (hu : look st.tmps u = some (.pin j b))
    (hlen : bs.length + (joinB 32 (v :: l)).length ≤ 1000000) (hl : l.length ≤ 1000000) (h : BL Tryz.prog G HB ops rest Q (st.put o.dst (.t (.tup []))) (some (b, bs ++ (joinB 32 (v :: l) ++ [10])))) : BL Tryz.prog G HB ops (o :: rest) Q st (some (b, bs)) := fun C hd a w hG hg hr => by
  unfold wpList
  rw [if_pos (guardOk_wanted hr hgd)]
  left
  refine line_wp hg hr ho hd0 hf hx hu hlen hl fun C' hd' a' w' e1 e2 hg' hr' => ?_
  have := h C' hd' a' w' (by rw [e1]; exact hG) hg' hr'
  rwa [LiftB.eq e1 e2] at this
theorem BL_alloc (ho : o.op = .alloc 48) (hgd : guardOk ops st o = true) (hd0 : dstOk st.nt o.dst = true) (u : Nat) (hu : st.nt ≤ u)
    (h : ∀ b, BL Tryz.prog G HB ops rest Q (({ st with tmps := (u, .pin st.heap.length b) :: st.tmps, heap := st.heap ++ [.gone] } : St).put o.dst (.bptr st.heap.length 0)) (some (b, []))) : BL Tryz.prog G HB ops (o :: rest) Q st none := fun C hd a w hG hg hr => by
  unfold wpList
  rw [if_pos (guardOk_wanted hr hgd)]
  left
  unfold Oper.wp
  have hrun : (execOp a.eval o).run Tryz.prog w = .ok (.value (.pointer (some ⟨w.heap.size, 0, none⟩))) (w.alloc (.cells #[.pointer none, .slice none 0 0] 48)) := by
    unfold execOp
    rw [ho]
    simp [Instr.alloc, Tryz.zeroValue48, newVar, newRow, Value.cells]
  rw [hrun, Oper.upon_value]
  obtain ⟨C', c1, c2, c3, c4, c5⟩ := hr.hidden (w' := w.alloc (.cells #[.pointer none, .slice none 0 0] 48)) (fun _ => False) (fun k => C.K k ∨ k = w.heap.size) rfl rfl rfl (alloc_below w _).size (fun k hk _ => (alloc_below w _).block k hk) (fun k hk => hk.elim) (fun k hk => .inl hk) (fun k hk => by
    rcases hk with hk | rfl
    · exact .inl hk
    · exact .inr ⟨Nat.le_refl _, by simp⟩)
  have hr1 := c5.new (Below.refl _ _) .gone (.bx w.heap.size false) (fun b hb => by simp [Hd.own] at hb) trivial
  have hlast : (hd ++ [Hd.bx w.heap.size false])[st.heap.length]? = some (.bx w.heap.size false) := by rw [← hr.hl, List.getElem?_append_right (Nat.le_refl _), Nat.sub_self]; rfl
  have hr2 : StR C' { st with tmps := (u, .pin st.heap.length w.heap.size) :: st.tmps, heap := st.heap ++ [.gone] } (hd ++ [.bx w.heap.size false]) a (w.alloc (.cells #[.pointer none, .slice none 0 0] 48)) := ⟨hr1.below, hr1.df, hr1.nt, hr1.hl, hr1.ob, hr1.own, hr1.dist, fun s y hy => by
    rcases look_cons hy with ⟨rfl, rfl⟩ | hy
    · have e : a.tmps.getD s undef = undef := by
        rw [Array.getD_eq_getD_getElem?, Array.getElem?_eq_none (by rw [hr.nt]; exact hu)]; rfl
      rw [e]
      exact .pin _ _ _ hlast
    · exact hr1.sl s y hy, hr1.ext⟩
  have hr3 := hr2.put' rfl hd0 (.bptr st.heap.length 0 w.heap.size false hlast)
  have := h w.heap.size C' _ _ _ (by rw [c1]; exact hG) ?_ hr3
  · rwa [LiftB.eq c1 c2] at this
  · refine ⟨.pointer none, .slice none 0 0, ⟨by rw [c1]; exact hr.below.size, by rw [c3]; exact heap_alloc_new w _, by rw [c1, c3]; exact World.ownsRow_nil _ _ _ _, by simp [Value.ownBlock]⟩, .inl rfl, by rw [c4]; exact .inr rfl, fun g hg => by simp [Value.ownBlock] at hg⟩
theorem BL_string {b : Nat} {bs : List UInt8} {f x : Operand} {ats : Array TypeId} {j u : Nat} (ho : o.op = .call ⟨.value f, #[x], ats⟩) (hgd : guardOk ops st o = true) (hd0 : dstOk st.nt o.dst = true)
    (hf : fnOf (st.ev f) = some (18, [])) (hx : st.ev x = .bptr j 0) (hu : look st.tmps u = some (.pin j b))
    (h : BL Tryz.prog G HB ops rest Q ((⟨st.nt, [], []⟩ : St).put o.dst (.t (tStr bs))) none) : BL Tryz.prog G HB ops (o :: rest) Q st (some (b, bs)) := fun C hd a w hG hg hr => by
  obtain ⟨p, vb, h1, h2, h3, h4⟩ := hg.now hr
  obtain ⟨capv, hv, hcl, hcx⟩ := fnOf_rep (hr.ev f) hf
  obtain rfl : capv = #[] := Array.eq_empty_of_size_eq_zero (by simpa using hcl)
  have hpin := hr.sl u _ hu
  generalize a.tmps.getD u undef = uu at hpin
  cases hpin
  rename_i ow hh
  have hq := hr.ev x
  rw [hx] at hq
  generalize hqv : a.eval x = q at hq
  cases hq
  rename_i b2 ow2 hh2
  rw [hh] at hh2
  injection hh2 with hh2
  injection hh2 with e1 e2
  subst e1 e2
  have hB : IsBuilder 48 5 C.w0.heap.size b (byteCells bs) w := by
    have hbl : BuilderAt 48 5 C.w0.heap.size b p (byteCells bs) w := ⟨h1.le, vb, h1.blk, by rw [byteCells_length]; exact h1.own, h1.ne⟩
    rcases h2 with rfl | rfl
    · exact .inl hbl
    · exact .inr hbl
  unfold wpList
  rw [if_pos (guardOk_wanted hr hgd)]
  left
  unfold Oper.wp
  rw [run_call ho rfl hv (enter_of Tryz.func18 rfl rfl)]
  rw [Oper.upon_enter]
  have e0 : (Array.map a.eval (Call.args ⟨.value f, #[x], ats⟩) ++ #[]) = #[Value.pointer (some ⟨b, 0, none⟩)] := by simp [hqv]
  rw [e0]
  have key := Any.Builder_String_any Tryz.layString Tryz.bldString C.w0.heap.size b bs w hB hr.below.size
  refine Calls.mono key fun e w' hq => ?_
  obtain ⟨rfl, hb⟩ := hq
  let C' : Ctx := ⟨C.S0, C.w0, w', fun _ => False, fun _ => False, Nat.le_trans hr.below.size hb.size, fun _ h => h.elim⟩
  have hr1 : StR C' ⟨st.nt, [], []⟩ [] a w' := ⟨hr.below.trans hb, hr.df, hr.nt, rfl, fun i o g h => by simp at h, fun g b h => by simp at h, fun i j gi gj b h => by simp at h, fun t y hy => by simp [look] at hy, ⟨Nat.le_refl _, fun _ _ _ => rfl, fun h b h1 => by simp at h1⟩⟩
  have hr2 := hr1.put' rfl hd0 (x := .t (tStr bs)) (.t _ _ (.str _))
  have := h C' _ _ _ hG trivial hr2
  rwa [LiftB.eq (C := C) (C' := C') rfl rfl] at this
end
end Go.Proofs.YtpgkpbfefnpagaaGreatDoor
namespace Go.Proofs.YtpgkpbfefnpagaaGreatDoor
open Go.RowKit

theorem Itoa_dec {x : Int} (h0 : 0 ≤ x) (h1 : x < 1000) : Snd Tryz.prog GT 17 [tInt x] (tStr (decB x.toNat)) := by
  have c := Itoa_snd x (by unfold I64; omega)
  have e : Lib.itoa x = decB x.toNat := by
    unfold Lib.itoa
    rw [if_neg (by omega), dec_lib (by omega)]
  rwa [e] at c
theorem Print_bad {a : GAuto} (h : ¬ autoFault a = 0) : Snd Tryz.prog GT 6 [tAuto a] (.tup [tStr [], tErr (autoFault a)]) := by
  have hG := GT_lasting
  have c1 := Check_snd hG a
  generalize autoFault a = e at *
  refine snd_of_body (n := 64) (tm := [(0, .t (tAuto a))]) (rs := [.tmp 2, .tmp 3]) tt_ok Tryz.func6 rfl rfl rfl rfl rfl ?_
  have htb := Tab.cons c1 Tab.nil
  repeat' (first | (with_reducible first | apply w1 | apply w2 | apply w3 | apply w4 | apply w5 | apply w6 | apply w7 | apply w8 | apply w9 | apply wa | apply wb | apply wc) | ((with_reducible apply wd); focus decide) | ((with_reducible apply we); focus exact rfl) | ((with_reducible apply wf); focus exact rfl) | ((first | (with_reducible apply SW_run tt_ok hG htb) | ((with_reducible apply SW_draw rfl tt_ok hG htb); (focus kernel_rfl); focus simp only [List.range, List.range.loop, List.size_toArray, List.length_cons, List.length_nil, Nat.reduceAdd])); focus ((repeat' (first | (with_reducible first | exact wg | exact wh) | ((with_reducible first | apply wi | apply wj); focus (simp (discharger := omega) only [go_sem, tAuto, tErr, h, simprocAttr]; with_reducible rfl)))); done)))
  exact (by simp (discharger := omega) only [go_sem, tErr, tStr, h, simprocAttr])
theorem cells_len : ∀ row : List Int, (cellsB row).length ≤ 4 * row.length
  | [] => Nat.le_refl _
  | x :: t => by
    have ih := cells_len t
    have := dec_len x.toNat
    unfold cellsB at ih ⊢
    rw [List.flatMap_cons, List.length_append, List.length_cons, List.length_cons]
    omega
theorem join_row (sg : List UInt8) (row : List Int) : joinB 32 (sg :: row.map fun t => decB t.toNat) = sg ++ cellsB row := by
  rw [joinB_flat, List.flatMap_map]; rfl
theorem look_of_ev {s : St} {u i b : Nat} (h : s.ev (.tmp u) = .pin i b) : look s.tmps u = some (.pin i b) := by
  have h : s.get u = .pin i b := h
  unfold St.get at h
  cases e : look s.tmps u with
  | none => rw [e] at h; cases h
  | some x => rw [e] at h; simp only [Option.getD_some] at h; rw [h]
set_option maxHeartbeats 16000000 in
theorem Print_good {a : GAuto} (h : autoFault a = 0) : Snd Tryz.prog GT 6 [tAuto a] (.tup [tStr (tapeB a), tErr (autoFault a)]) := by
  have hG := GT_lasting
  have g' := good_of h
  have hfl := head_flat a
  have c1 := Check_snd hG a
  obtain ⟨b, t, nx, en⟩ := a
  obtain ⟨m, hm⟩ : ∃ m, (manyOf b t).toNat = m := ⟨_, rfl⟩
  simp only at g' hfl
  rw [hm] at g'
  have hmany := g'.many
  have h80 := g'.m80
  have h0 := g'.m0
  have h36 := g'.n36
  have hen := g'.ends
  simp only at hmany h80 h0 hen
  obtain ⟨hr, t0, t5, _, _⟩ := many_ok hmany
  have hb : 0 < b ∧ b ≤ 6 := by
    rcases radix_pos hr with ⟨h1, _⟩ | ⟨h1, h2, h3⟩ <;> omega
  obtain ⟨e, he⟩ : ∃ e, autoFault ⟨b, t, nx, en⟩ = e := ⟨_, rfl⟩
  rw [he] at h c1 ⊢
  have htb := Tab.cons c1 Tab.nil
  refine sndB_of_body (H := HB) (g0 := none) tt_ok (fun _ => trivial) Tryz.func6 rfl rfl (n := 64) rfl (tm := [(0, .t (tAuto ⟨b, t, nx, en⟩))]) rfl (rs := [.tmp 2, .tmp 3]) rfl ?_
  obtain ⟨R, hR⟩ : ∃ R, tapeB ⟨b, t, nx, en⟩ = R := ⟨_, rfl⟩
  rw [hR]
  unfold tapeB at hR
  rw [hfl] at hR
  simp only at hR
  repeat' (first | (with_reducible first | apply u1 | apply u2 | apply u3 | apply u4 | apply u5 | apply u6 | apply u7 | apply u8 | apply u9 | apply ua | apply ub | apply uc) | ((with_reducible apply ud); focus decide) | ((with_reducible apply ue); focus exact rfl) | ((with_reducible apply uf); focus exact rfl) | ((first | (with_reducible apply BW_run tt_ok hG htb) | ((with_reducible apply BW_draw rfl tt_ok hG htb); (focus kernel_rfl); focus simp only [List.range, List.range.loop, List.size_toArray, List.length_cons, List.length_nil, Nat.reduceAdd])); focus ((repeat' (first | (with_reducible first | exact wg | exact wh) | ((with_reducible first | apply wi | apply wj); focus (simp (discharger := omega) only [go_sem, tAuto, tErr_flat, simprocAttr]; with_reducible rfl)))); done)))
  subst h
  (with_reducible apply BW_run tt_ok hG htb); focus ((repeat' (first | (with_reducible first | exact wg | exact wh) | ((with_reducible first | apply wi | apply wj); focus (simp (discharger := omega) only [go_sem, tErr0, simprocAttr]; with_reducible rfl)))); done)
  repeat' (first | (with_reducible first | apply u1 | apply u2 | apply u3 | apply u4 | apply u5 | apply u6 | apply u7 | apply u8 | apply u9 | apply ua | apply ub | apply uc) | ((with_reducible apply ud); focus decide) | ((with_reducible apply ue); focus exact rfl) | ((with_reducible apply uf); focus exact rfl))
  refine BW_region (BL_alloc rfl rfl rfl 64 (Nat.le_refl 64) fun bb => BL_nil ?_)
  repeat' (first | (with_reducible first | apply u1 | apply u2 | apply u3 | apply u4 | apply u5 | apply u6 | apply u7 | apply u8 | apply u9 | apply ua | apply ub | apply uc) | ((with_reducible apply ud); focus decide) | ((with_reducible apply ue); focus exact rfl) | ((with_reducible apply uf); focus exact rfl) | ((first | (with_reducible apply BW_run tt_ok hG htb) | ((with_reducible apply BW_draw rfl tt_ok hG htb); (focus kernel_rfl); focus simp only [List.range, List.range.loop, List.size_toArray, List.length_cons, List.length_nil, Nat.reduceAdd])); focus ((repeat' (first | (with_reducible first | exact wg | exact wh) | ((with_reducible first | apply wi | apply wj); focus (simp (discharger := omega) only [go_sem, simprocAttr]; with_reducible rfl)))); done)))
  refine BW_norm (Norm.fixBox 0 rfl rfl) ?_
  refine BW_normE (⟨64, [(1, .bptr 0 0), (5, .bptr 1 0), (6, .fn 14 [.bptr 1 0]), (64, .pin 1 bb)], [.fbox [tInt b, tInt t, tIntss nx, tBools en], .gone]⟩) ⟨_, Norm.headS (own := []) (keep := [1, 5, 6, 64]) (by refine ⟨?_, ?_⟩; (simp (discharger := omega) only [go_sem, simprocAttr]; with_reducible rfl); refine ⟨?_, ?_, ?_, ?_⟩ <;> (simp only [go_sem, simprocAttr]; with_reducible rfl)), rfl⟩ ?_
  have cN := Itoa_dec (x := (nx.length : Int)) (by omega) (by omega)
  have cB := Itoa_dec (x := b) (by omega) (by omega)
  have cT := Itoa_dec (x := t) (by omega) (by omega)
  rw [Int.toNat_natCast] at cN
  obtain ⟨B, hB⟩ : ∃ B, decB b.toNat = B := ⟨_, rfl⟩
  obtain ⟨D, hD⟩ : ∃ D, decB t.toNat = D := ⟨_, rfl⟩
  obtain ⟨N, hN⟩ : ∃ N, decB nx.length = N := ⟨_, rfl⟩
  have l1 := dec_len b.toNat
  have l2 := dec_len t.toNat
  have l3 := dec_len nx.length
  rw [hB] at l1 cB
  rw [hD] at l2 cT
  rw [hN] at l3 cN
  rw [hB, hD, hN] at hR
  obtain ⟨n, hn⟩ : ∃ n : Int, ((nx.length : Nat) : Int) = n := ⟨_, rfl⟩
  rw [hn] at cN
  have dTB : (if b = t then some (T.str ⟨B.toArray⟩) else some (T.str ⟨D.toArray⟩)) = some (T.str ⟨D.toArray⟩) := by
    split
    · rename_i q; rw [← hB, ← hD, q]
    · rfl
  have dNT : (if t = n then some (T.str ⟨D.toArray⟩) else some (T.str ⟨N.toArray⟩)) = some (T.str ⟨N.toArray⟩) := by
    split
    · rename_i q; rw [← hN, ← hD, q, ← hn, Int.toNat_natCast]
    · rfl
  have dNB : (if b = n then some (T.str ⟨B.toArray⟩) else some (T.str ⟨N.toArray⟩)) = some (T.str ⟨N.toArray⟩) := by
    split
    · rename_i q; rw [← hN, ← hB, q, ← hn, Int.toNat_natCast]
    · rfl
  clear htb
  have htb := Tab.cons cB (Tab.cons cT (Tab.cons cN Tab.nil))
  (with_reducible apply BW_drawL (fun s => s.nt = 64 ∧ s.ev (.tmp 18) = .fn 14 [.bptr 1 0] ∧ s.ev (.tmp 29) = .lit [tStr B, tStr D, tStr N] ∧ s.ev (.tmp 64) = .pin 1 bb) (some (bb, [])) (some (bb, [] ++ (joinB 32 [B, D, N] ++ [10]))) 12 (fun s s' he q => ⟨by rw [← he.nt]; exact q.1, by rw [← he.ev]; exact q.2.1, by rw [← he.ev]; exact q.2.2.1, by rw [← he.ev]; exact q.2.2.2⟩) rfl tt_ok hG htb)
  · kernel_rfl
  · rintro C hd a w s o K Q ho ⟨q1, q2, q3, q4⟩ hg hr _ hK
    obtain rfl := Option.some.inj ho
    rw [if_pos (by simp [Region.wanted])]
    exact line_wp hg hr (v := B) (l := [D, N]) rfl (by rw [q1]; rfl) (by rw [q2]; rfl) (by rw [q3]; rfl) (look_of_ev q4) (by simp [joinB]; omega) (by simp) hK
  · simp only [List.range, List.range.loop, List.size_toArray, List.length_cons, List.length_nil, Nat.reduceAdd]
    repeat' (first | (with_reducible exact runA_nil) | ((with_reducible apply runA_cons); focus (first | (apply stepB_q rfl (by simp) rfl rfl; (focus (simp (discharger := omega) only [go_sem, tStr, hn, dTB, dNT, dNB, List.cons.injEq, T.int.injEq, simprocAttr]; with_reducible rfl)); (focus (simp only [go_sem, simprocAttr]; with_reducible rfl))) | (apply stepB_l rfl rfl ⟨rfl, rfl, rfl, rfl⟩; (focus (simp only [go_sem, simprocAttr]; with_reducible rfl))))))
  clear htb
  have htb : Tab.ok Tryz.prog GT [] := Tab.nil
  repeat' (first | (with_reducible first | apply u1 | apply u2 | apply u3 | apply u4 | apply u5 | apply u6 | apply u7 | apply u8 | apply u9 | apply ua | apply ub | apply uc) | ((with_reducible apply ud); focus decide) | ((with_reducible apply ue); focus exact rfl) | ((with_reducible apply uf); focus exact rfl) | ((first | (with_reducible apply BW_run tt_ok hG htb) | ((with_reducible apply BW_draw rfl tt_ok hG htb); (focus kernel_rfl); focus simp only [List.range, List.range.loop, List.size_toArray, List.length_cons, List.length_nil, Nat.reduceAdd])); focus ((repeat' (first | (with_reducible first | exact wg | exact wh) | ((with_reducible first | apply wi | apply wj); focus (simp (discharger := omega) only [go_sem, simprocAttr]; with_reducible rfl)))); done)))
  refine BW_loop (fun mm st g => ∃ (i : Nat) (bs : List UInt8), mm = nx.length - i ∧ st = ⟨64, [(1, .bptr 0 0), (5, .bptr 1 0), (6, .fn 14 [.bptr 1 0]), (64, .pin 1 bb), (32, .t (tIntss nx)), (33, .t (tNat nx.length)), (34, .t (tNat i))], [.fbox [tInt b, tInt t, tIntss nx, tBools en], .gone]⟩ ∧ g = some (bb, bs) ∧ i ≤ nx.length ∧ bs.length ≤ 20 + 200 * i ∧ R = bs ++ rowsB (en.drop i) (nx.drop i)) nx.length
    ⟨_, Norm.headS (own := []) (keep := [1, 5, 6, 64, 32, 33, 34]) (by refine ⟨?_, ?_⟩; (simp (discharger := omega) only [go_sem, simprocAttr]; with_reducible rfl); refine ⟨?_, ?_, ?_, ?_⟩ <;> (simp only [go_sem, simprocAttr]; with_reducible rfl)), 0, _, rfl, rfl, rfl, Nat.zero_le _, ?_, ?_⟩ ?_
  · simp [joinB]; omega
  · rw [← hR]; simp [joinB]
  clear hR hfl dTB dNT dNB
  rintro mm st g ⟨i, bs, rfl, rfl, rfl, hi, hbl, hR⟩
  by_cases hlt : i < nx.length
  · obtain ⟨row, hrow⟩ : ∃ row, nx[i]! = row := ⟨_, rfl⟩
    obtain ⟨e, he⟩ : ∃ e, en[i]! = e := ⟨_, rfl⟩
    have hrn := rows_next he hrow (by omega) hlt
    have hrl := g'.rows.row row (bang_mem hrow hlt)
    have hrv := g'.rows.ok row (bang_mem hrow hlt)
    rw [hrn] at hR
    obtain ⟨rest, hrest⟩ : ∃ rest, rowsB (en.drop (i + 1)) (nx.drop (i + 1)) = rest := ⟨_, rfl⟩
    rw [hrest] at hR
    obtain ⟨sg, hsg⟩ : ∃ sg : List UInt8, (if e then [43] else [45]) = sg := ⟨_, rfl⟩
    rw [hsg] at hR
    have hsl : sg.length = 1 := by rw [← hsg]; cases e <;> rfl
    have hcl := cells_len row
    repeat' (first | (with_reducible first | apply u1 | apply u2 | apply u3 | apply u4 | apply u5 | apply u6 | apply u7 | apply u8 | apply u9 | apply ua | apply ub | apply uc) | ((with_reducible apply ud); focus decide) | ((with_reducible apply ue); focus exact rfl) | ((with_reducible apply uf); focus exact rfl))
    (with_reducible apply BW_run tt_ok hG htb); focus ((repeat' (first | (with_reducible first | exact wg | exact wh) | ((with_reducible first | apply wi | apply wj); focus (simp (discharger := omega) only [go_sem, simprocAttr]; with_reducible rfl)))); done)
    repeat' (first | (with_reducible first | apply u1 | apply u2 | apply u3 | apply u4 | apply u5 | apply u6 | apply u7 | apply u8 | apply u9 | apply ua | apply ub | apply uc) | ((with_reducible apply ud); focus decide) | ((with_reducible apply ue); focus exact rfl) | ((with_reducible apply uf); focus exact rfl))
    (with_reducible apply BW_run tt_ok hG htb); focus ((repeat' (first | (with_reducible first | exact wg | exact wh) | ((with_reducible first | apply wi | apply wj); focus (simp (discharger := omega) only [go_sem, hrow, simprocAttr]; with_reducible rfl)))); done)
    repeat' (first | (with_reducible first | apply u1 | apply u2 | apply u3 | apply u4 | apply u5 | apply u6 | apply u7 | apply u8 | apply u9 | apply ua | apply ub | apply uc) | ((with_reducible apply ud); focus decide) | ((with_reducible apply ue); focus exact rfl) | ((with_reducible apply uf); focus exact rfl))
    refine BW_sw (SW_region (SL_litO tt_ok rfl rfl rfl rfl rfl rfl (ys := [tStr [45]]) (by simp only [go_sem, simprocAttr]; rfl) ?_))
    refine SL_done tt_ok hG htb (by (repeat' (first | (with_reducible exact runX_nil) | ((with_reducible apply runX_cons); focus (simp (discharger := omega) only [go_sem, simprocAttr]; with_reducible rfl))))) ?_
    repeat' (first | (with_reducible first | apply u1 | apply u2 | apply u3 | apply u4 | apply u5 | apply u6 | apply u7 | apply u8 | apply u9 | apply ua | apply ub | apply uc) | ((with_reducible apply ud); focus decide) | ((with_reducible apply ue); focus exact rfl) | ((with_reducible apply uf); focus exact rfl))
    (with_reducible apply BW_run tt_ok hG htb); focus ((repeat' (first | (with_reducible first | exact wg | exact wh) | ((with_reducible first | apply wi | apply wj); focus (simp (discharger := omega) only [go_sem, he, simprocAttr]; with_reducible rfl)))); done)
    repeat' (first | (with_reducible first | apply u1 | apply u2 | apply u3 | apply u4 | apply u5 | apply u6 | apply u7 | apply u8 | apply u9 | apply ua | apply ub | apply uc) | ((with_reducible apply ud); focus decide) | ((with_reducible apply ue); focus exact rfl) | ((with_reducible apply uf); focus exact rfl))
    refine BW_meet ⟨64, [(1, .bptr 0 0), (5, .bptr 1 0), (6, .fn 14 [.bptr 1 0]), (64, .pin 1 bb), (32, .t (tIntss nx)), (33, .t (tNat nx.length)), (34, .t (tNat i)), (8, .t (tInts row)), (9, .sref 2)], [.fbox [tInt b, tInt t, tIntss nx, tBools en], .gone, .row 9 1 true [tStr sg]]⟩ ?_ ?_
    · clear hR hrn
      cases e
      · have hsg : [45] = sg := hsg
        subst hsg
        repeat' (first | (with_reducible first | apply u1 | apply u2 | apply u3 | apply u4 | apply u5 | apply u6 | apply u7 | apply u8 | apply u9 | apply ua | apply ub | apply uc) | ((with_reducible apply ud); focus decide) | ((with_reducible apply ue); focus exact rfl) | ((with_reducible apply uf); focus exact rfl))
        exact ⟨rfl, rfl, _, Norm.headS (own := []) (keep := [1, 5, 6, 64, 32, 33, 34, 8, 9]) (by refine ⟨?_, ?_⟩; (simp (discharger := omega) only [go_sem, simprocAttr]; with_reducible rfl); refine ⟨?_, ?_, ?_, ?_⟩ <;> (simp only [go_sem, simprocAttr]; with_reducible rfl)), rfl⟩
      · have hsg : [43] = sg := hsg
        subst hsg
        repeat' (first | (with_reducible first | apply u1 | apply u2 | apply u3 | apply u4 | apply u5 | apply u6 | apply u7 | apply u8 | apply u9 | apply ua | apply ub | apply uc) | ((with_reducible apply ud); focus decide) | ((with_reducible apply ue); focus exact rfl) | ((with_reducible apply uf); focus exact rfl) | ((first | (with_reducible apply BW_run tt_ok hG htb) | ((with_reducible apply BW_draw rfl tt_ok hG htb); (focus kernel_rfl); focus simp only [List.range, List.range.loop, List.size_toArray, List.length_cons, List.length_nil, Nat.reduceAdd])); focus ((repeat' (first | (with_reducible first | exact wg | exact wh) | ((with_reducible first | apply wi | apply wj); focus (simp (discharger := omega) only [go_sem, tStr, simprocAttr]; with_reducible rfl)))); done)))
        exact ⟨rfl, rfl, _, Norm.headS (own := []) (keep := [1, 5, 6, 64, 32, 33, 34, 8, 9]) (by refine ⟨?_, ?_⟩; (simp (discharger := omega) only [go_sem, simprocAttr]; with_reducible rfl); refine ⟨?_, ?_, ?_, ?_⟩ <;> (simp only [go_sem, simprocAttr]; with_reducible rfl)), rfl⟩
    · refine BThen_norm ?_
      repeat' (first | (with_reducible first | apply u1 | apply u2 | apply u3 | apply u4 | apply u5 | apply u6 | apply u7 | apply u8 | apply u9 | apply ua | apply ub | apply uc) | ((with_reducible apply ud); focus decide) | ((with_reducible apply ue); focus exact rfl) | ((with_reducible apply uf); focus exact rfl) | ((first | (with_reducible apply BW_run tt_ok hG htb) | ((with_reducible apply BW_draw rfl tt_ok hG htb); (focus kernel_rfl); focus simp only [List.range, List.range.loop, List.size_toArray, List.length_cons, List.length_nil, Nat.reduceAdd])); focus ((repeat' (first | (with_reducible first | exact wg | exact wh) | ((with_reducible first | apply wi | apply wj); focus (simp (discharger := omega) only [go_sem, simprocAttr]; with_reducible rfl)))); done)))
      refine BW_loop (fun mm st g => ∃ (j : Nat) (wt : List T), mm = row.length - j ∧ st = ⟨64, [(1, .bptr 0 0), (5, .bptr 1 0), (6, .fn 14 [.bptr 1 0]), (64, .pin 1 bb), (32, .t (tIntss nx)), (33, .t (tNat nx.length)), (34, .t (tNat i)), (9, .sref 2), (47, .t (tInts row)), (48, .t (tNat row.length)), (49, .t (tNat j))], [.fbox [tInt b, tInt t, tIntss nx, tBools en], .gone, .row 9 1 true wt]⟩ ∧ g = some (bb, bs) ∧ j ≤ row.length ∧ wt = (sg :: (row.take j).map fun t => decB t.toNat).map tStr) row.length
        ⟨_, Norm.headS (own := []) (keep := [1, 5, 6, 64, 32, 33, 34, 9, 47, 48, 49]) (by refine ⟨?_, ?_⟩; (simp (discharger := omega) only [go_sem, simprocAttr]; with_reducible rfl); refine ⟨?_, ?_, ?_, ?_⟩ <;> (simp only [go_sem, simprocAttr]; with_reducible rfl)), 0, _, rfl, rfl, rfl, Nat.zero_le _, rfl⟩ ?_
      rintro mm st g ⟨j, wt, rfl, rfl, rfl, hj, hwt⟩
      have hwl : wt.length = j + 1 := by rw [hwt]; simp; omega
      by_cases hlt2 : j < row.length
      · obtain ⟨x, hx⟩ : ∃ x, row[j]! = x := ⟨_, rfl⟩
        have hxv := hrv x (bang_mem hx hlt2)
        have cX := Itoa_dec (x := x) (by omega) (by omega)
        have htb := Tab.cons cX Tab.nil
        repeat' (first | (with_reducible first | apply u1 | apply u2 | apply u3 | apply u4 | apply u5 | apply u6 | apply u7 | apply u8 | apply u9 | apply ua | apply ub | apply uc) | ((with_reducible apply ud); focus decide) | ((with_reducible apply ue); focus exact rfl) | ((with_reducible apply uf); focus exact rfl) | ((first | (with_reducible apply BW_run tt_ok hG htb) | ((with_reducible apply BW_draw rfl tt_ok hG htb); (focus kernel_rfl); focus simp only [List.range, List.range.loop, List.size_toArray, List.length_cons, List.length_nil, Nat.reduceAdd])); focus ((repeat' (first | (with_reducible first | exact wg | exact wh) | ((with_reducible first | apply wi | apply wj); focus (simp (discharger := omega) only [go_sem, hx, tStr, simprocAttr]; with_reducible rfl)))); done)))
        exact ⟨row.length - (j + 1), _, by omega, Norm.headS (own := []) (keep := [1, 5, 6, 64, 32, 33, 34, 9, 47, 48, 49]) (by refine ⟨?_, ?_⟩; (simp (discharger := omega) only [go_sem, simprocAttr]; with_reducible rfl); refine ⟨?_, ?_, ?_, ?_⟩ <;> (simp only [go_sem, simprocAttr]; with_reducible rfl)), j + 1, _, rfl, rfl, rfl, by omega, by rw [hwt, take_next hx hlt2]; simp [tStr]⟩
      · obtain rfl : j = row.length := by omega
        rw [List.take_length] at hwt
        have hjr := join_row sg row
        repeat' (first | (with_reducible first | apply u1 | apply u2 | apply u3 | apply u4 | apply u5 | apply u6 | apply u7 | apply u8 | apply u9 | apply ua | apply ub | apply uc) | ((with_reducible apply ud); focus decide) | ((with_reducible apply ue); focus exact rfl) | ((with_reducible apply uf); focus exact rfl) | ((first | (with_reducible apply BW_run tt_ok hG htb) | ((with_reducible apply BW_draw rfl tt_ok hG htb); (focus kernel_rfl); focus simp only [List.range, List.range.loop, List.size_toArray, List.length_cons, List.length_nil, Nat.reduceAdd])); focus ((repeat' (first | (with_reducible first | exact wg | exact wh) | ((with_reducible first | apply wi | apply wj); focus (simp (discharger := omega) only [go_sem, simprocAttr]; with_reducible rfl)))); done)))
        refine BW_region ?_
        refine BL_one tt_ok hG htb (by (repeat' (first | (with_reducible exact runX_nil) | ((with_reducible apply runX_cons); focus (simp (discharger := omega) only [go_sem, simprocAttr]; with_reducible rfl))))) ?_
        refine BL_one tt_ok hG htb (by (repeat' (first | (with_reducible exact runX_nil) | ((with_reducible apply runX_cons); focus (simp (discharger := omega) only [go_sem, simprocAttr]; with_reducible rfl))))) ?_
        refine BL_line (u := 64) (j := 1) (v := sg) (l := row.map fun t => decB t.toNat) rfl rfl rfl rfl (by rw [hwt]; rfl) rfl (by rw [hjr, List.length_append]; omega) (by rw [List.length_map]; omega) (BL_nil ?_)
        repeat' (first | (with_reducible first | apply u1 | apply u2 | apply u3 | apply u4 | apply u5 | apply u6 | apply u7 | apply u8 | apply u9 | apply ua | apply ub | apply uc) | ((with_reducible apply ud); focus decide) | ((with_reducible apply ue); focus exact rfl) | ((with_reducible apply uf); focus exact rfl) | ((first | (with_reducible apply BW_run tt_ok hG htb) | ((with_reducible apply BW_draw rfl tt_ok hG htb); (focus kernel_rfl); focus simp only [List.range, List.range.loop, List.size_toArray, List.length_cons, List.length_nil, Nat.reduceAdd])); focus ((repeat' (first | (with_reducible first | exact wg | exact wh) | ((with_reducible first | apply wi | apply wj); focus (simp (discharger := omega) only [go_sem, simprocAttr]; with_reducible rfl)))); done)))
        exact ⟨nx.length - (i + 1), _, by omega, Norm.headS (own := []) (keep := [1, 5, 6, 64, 32, 33, 34]) (by refine ⟨?_, ?_⟩; (simp (discharger := omega) only [go_sem, simprocAttr]; with_reducible rfl); refine ⟨?_, ?_, ?_, ?_⟩ <;> (simp only [go_sem, simprocAttr]; with_reducible rfl)), i + 1, _, rfl, rfl, rfl, by omega, by rw [hjr]; simp only [List.length_append, List.length_cons, List.length_nil]; omega, by rw [hR, hjr, hrest]; simp only [List.append_assoc, List.cons_append, List.nil_append]⟩
  · obtain rfl : i = nx.length := by omega
    rw [List.drop_length] at hR
    have hu : R = bs := by
      rw [hR]
      have : rowsB (en.drop nx.length) [] = [] := by cases en.drop nx.length <;> rfl
      rw [this, List.append_nil]
    rw [hu]
    repeat' (first | (with_reducible first | apply u1 | apply u2 | apply u3 | apply u4 | apply u5 | apply u6 | apply u7 | apply u8 | apply u9 | apply ua | apply ub | apply uc) | ((with_reducible apply ud); focus decide) | ((with_reducible apply ue); focus exact rfl) | ((with_reducible apply uf); focus exact rfl) | ((first | (with_reducible apply BW_run tt_ok hG htb) | ((with_reducible apply BW_draw rfl tt_ok hG htb); (focus kernel_rfl); focus simp only [List.range, List.range.loop, List.size_toArray, List.length_cons, List.length_nil, Nat.reduceAdd])); focus ((repeat' (first | (with_reducible first | exact wg | exact wh) | ((with_reducible first | apply wi | apply wj); focus (simp (discharger := omega) only [go_sem, simprocAttr]; with_reducible rfl)))); done)))
    refine BW_region ?_
    refine BL_string (u := 64) (j := 1) rfl rfl rfl rfl rfl rfl ?_
    refine BL_one tt_ok hG htb (by (repeat' (first | (with_reducible exact runX_nil) | ((with_reducible apply runX_cons); focus (simp (discharger := omega) only [go_sem, simprocAttr]; with_reducible rfl))))) ?_
    refine BL_one tt_ok hG htb (by (repeat' (first | (with_reducible exact runX_nil) | ((with_reducible apply runX_cons); focus (simp (discharger := omega) only [go_sem, simprocAttr]; with_reducible rfl))))) ?_
    refine BL_nil ?_
    repeat' (first | (with_reducible first | apply u1 | apply u2 | apply u3 | apply u4 | apply u5 | apply u6 | apply u7 | apply u8 | apply u9 | apply ua | apply ub | apply uc) | ((with_reducible apply ud); focus decide) | ((with_reducible apply ue); focus exact rfl) | ((with_reducible apply uf); focus exact rfl) | ((first | (with_reducible apply BW_run tt_ok hG htb) | ((with_reducible apply BW_draw rfl tt_ok hG htb); (focus kernel_rfl); focus simp only [List.range, List.range.loop, List.size_toArray, List.length_cons, List.length_nil, Nat.reduceAdd])); focus ((repeat' (first | (with_reducible first | exact wg | exact wh) | ((with_reducible first | apply wi | apply wj); focus (simp (discharger := omega) only [go_sem, simprocAttr]; with_reducible rfl)))); done)))
    exact (by simp (discharger := omega) only [go_sem, tStr, tErr, simprocAttr])
end Go.Proofs.YtpgkpbfefnpagaaGreatDoor
namespace Go.Proofs.YtpgkpbfefnpagaaGreatDoor
open Go.RowKit

section
variable {G : World → Prop} (hG : Lasting G)
include hG
end
end Go.Proofs.YtpgkpbfefnpagaaGreatDoor
namespace Go.Proofs.YtpgkpbfefnpagaaGreatDoor
open Go.RowKit
section
variable {G : World → Prop} (hG : Lasting G)
include hG
set_option maxHeartbeats 4000000 in
theorem Fault_snd (a : GAuto) : Snd Tryz.prog G 4 [tAuto a] (tInt (autoFault a)) := by
  have htb := Tab.cons (RLetters_snd hG a.base a.tracks) Tab.nil
  refine snd_of_body (n := 76) (tm := [(0, .t (tAuto a))]) (rs := [.tmp 2]) tt_ok Tryz.func4 rfl rfl rfl rfl rfl ?_
  unfold autoFault
  by_cases h0 : manyErr a.base a.tracks = 0
  · rw [if_neg (by omega)]
    rw [h0] at htb
    have h36 := (many_ok h0).2.2.2.1
    rw [← (many_ok h0).2.2.2.2] at h36
    generalize hmo : manyOf a.base a.tracks = mo at *
    by_cases h1 : a.next.length = 0
    · repeat' (first | (with_reducible first | apply w1 | apply w2 | apply w3 | apply w4 | apply w5 | apply w6 | apply w7 | apply w8 | apply w9 | apply wa | apply wb | apply wc) | ((with_reducible apply wd); focus decide) | ((with_reducible apply we); focus exact rfl) | ((with_reducible apply wf); focus exact rfl) | ((first | (with_reducible apply SW_run tt_ok hG htb) | ((with_reducible apply SW_draw rfl tt_ok hG htb); (focus kernel_rfl); focus simp only [List.range, List.range.loop, List.size_toArray, List.length_cons, List.length_nil, Nat.reduceAdd])); focus ((repeat' (first | (with_reducible first | exact wg | exact wh) | ((with_reducible first | apply wi | apply wj); focus (simp (discharger := omega) only [go_sem, tAuto, simprocAttr]; with_reducible rfl)))); done)))
      exact (by simp (discharger := omega) only [go_sem, simprocAttr])
    · by_cases h2 : 80 < a.next.length
      · repeat' (first | (with_reducible first | apply w1 | apply w2 | apply w3 | apply w4 | apply w5 | apply w6 | apply w7 | apply w8 | apply w9 | apply wa | apply wb | apply wc) | ((with_reducible apply wd); focus decide) | ((with_reducible apply we); focus exact rfl) | ((with_reducible apply wf); focus exact rfl) | ((first | (with_reducible apply SW_run tt_ok hG htb) | ((with_reducible apply SW_draw rfl tt_ok hG htb); (focus kernel_rfl); focus simp only [List.range, List.range.loop, List.size_toArray, List.length_cons, List.length_nil, Nat.reduceAdd])); focus ((repeat' (first | (with_reducible first | exact wg | exact wh) | ((with_reducible first | apply wi | apply wj); focus (simp (discharger := omega) only [go_sem, tAuto, simprocAttr]; with_reducible rfl)))); done)))
        exact (by simp (discharger := omega) only [go_sem, simprocAttr])
      · by_cases h3 : a.ends.length = a.next.length
        · rw [if_neg h1, if_neg h2, if_neg (by omega)]
          repeat' (first | (with_reducible first | apply w1 | apply w2 | apply w3 | apply w4 | apply w5 | apply w6 | apply w7 | apply w8 | apply w9 | apply wa | apply wb | apply wc) | ((with_reducible apply wd); focus decide) | ((with_reducible apply we); focus exact rfl) | ((with_reducible apply wf); focus exact rfl) | ((first | (with_reducible apply SW_run tt_ok hG htb) | ((with_reducible apply SW_draw rfl tt_ok hG htb); (focus kernel_rfl); focus simp only [List.range, List.range.loop, List.size_toArray, List.length_cons, List.length_nil, Nat.reduceAdd])); focus ((repeat' (first | (with_reducible first | exact wg | exact wh) | ((with_reducible first | apply wi | apply wj); focus (simp (discharger := omega) only [go_sem, tAuto, h3, simprocAttr]; with_reducible rfl)))); done)))
          refine SW_loop (fun m s => ∃ i : Nat, m = a.next.length - i ∧ s = ⟨76, [(1, .bptr 0 0), (3, .t (tInt mo)), (5, .t (tInt i))], [.box [.t (tInt a.base), .t (tInt a.tracks), .t (tIntss a.next), .t (tBools a.ends)]]⟩ ∧ i ≤ a.next.length ∧ ∀ j (hj : j < a.next.length), j < i → (a.next[j].length : Int) = mo ∧ ∀ s ∈ a.next[j], 0 ≤ s ∧ s < (a.next.length : Int)) a.next.length
            ⟨_, Norm.headS (own := []) (keep := [1, 3, 5]) (by refine ⟨?_, ?_⟩; (simp (discharger := omega) only [go_sem, simprocAttr]; with_reducible rfl); refine ⟨?_, ?_, ?_, ?_⟩ <;> (simp only [go_sem, simprocAttr]; with_reducible rfl)), 0, rfl, rfl, Nat.zero_le _, fun j hj h => by omega⟩ ?_
          rintro m s ⟨i, rfl, rfl, hi, hA⟩
          by_cases hlt : i < a.next.length
          · obtain ⟨row, hrow⟩ : ∃ row, a.next[i]! = row := ⟨_, rfl⟩
            have hat := bang_at hrow hlt
            obtain ⟨f1, f2⟩ := rowsFault_at hlt hA
            rw [hat] at f1 f2
            by_cases hrl : (row.length : Int) = mo
            · repeat' (first | (with_reducible first | apply w1 | apply w2 | apply w3 | apply w4 | apply w5 | apply w6 | apply w7 | apply w8 | apply w9 | apply wa | apply wb | apply wc) | ((with_reducible apply wd); focus decide) | ((with_reducible apply we); focus exact rfl) | ((with_reducible apply wf); focus exact rfl) | ((first | (with_reducible apply SW_run tt_ok hG htb) | ((with_reducible apply SW_draw rfl tt_ok hG htb); (focus kernel_rfl); focus simp only [List.range, List.range.loop, List.size_toArray, List.length_cons, List.length_nil, Nat.reduceAdd])); focus ((repeat' (first | (with_reducible first | exact wg | exact wh) | ((with_reducible first | apply wi | apply wj); focus (simp (discharger := omega) only [go_sem, hrow, simprocAttr]; with_reducible rfl)))); done)))
              refine SW_loop (fun m s => ∃ l : Nat, m = row.length - l ∧ s = ⟨76, [(1, .bptr 0 0), (3, .t (tInt mo)), (5, .t (tInt i)), (6, .t (tInt l))], [.box [.t (tInt a.base), .t (tInt a.tracks), .t (tIntss a.next), .t (tBools a.ends)]]⟩ ∧ l ≤ row.length ∧ ∀ x ∈ row.take l, 0 ≤ x ∧ x < (a.next.length : Int)) row.length
                ⟨_, Norm.headS (own := []) (keep := [1, 3, 5, 6]) (by refine ⟨?_, ?_⟩; (simp (discharger := omega) only [go_sem, simprocAttr]; with_reducible rfl); refine ⟨?_, ?_, ?_, ?_⟩ <;> (simp only [go_sem, simprocAttr]; with_reducible rfl)), 0, rfl, rfl, Nat.zero_le _, fun x hx => by simp at hx⟩ ?_
              rintro m s ⟨l, rfl, rfl, hl, hB⟩
              by_cases hlt2 : l < row.length
              · obtain ⟨x, hx⟩ : ∃ x, row[l]! = x := ⟨_, rfl⟩
                have htk := take_next hx hlt2
                have hxm := bang_mem hx hlt2
                by_cases hx0 : 0 ≤ x
                · by_cases hxm2 : x < (a.next.length : Int)
                  · repeat' (first | (with_reducible first | apply w1 | apply w2 | apply w3 | apply w4 | apply w5 | apply w6 | apply w7 | apply w8 | apply w9 | apply wa | apply wb | apply wc) | ((with_reducible apply wd); focus decide) | ((with_reducible apply we); focus exact rfl) | ((with_reducible apply wf); focus exact rfl) | ((first | (with_reducible apply SW_run tt_ok hG htb) | ((with_reducible apply SW_draw rfl tt_ok hG htb); (focus kernel_rfl); focus simp only [List.range, List.range.loop, List.size_toArray, List.length_cons, List.length_nil, Nat.reduceAdd])); focus ((repeat' (first | (with_reducible first | exact wg | exact wh) | ((with_reducible first | apply wi | apply wj); focus (simp (discharger := omega) only [go_sem, hrow, hx, simprocAttr]; with_reducible rfl)))); done)))
                    exact ⟨row.length - (l + 1), _, by omega, Norm.headS (own := []) (keep := [1, 3, 5, 6]) (by refine ⟨?_, ?_⟩; (simp (discharger := omega) only [go_sem, simprocAttr]; with_reducible rfl); refine ⟨?_, ?_, ?_, ?_⟩ <;> (simp only [go_sem, simprocAttr]; with_reducible rfl)), l + 1, rfl, rfl, by omega, fun y hy => by
                      rw [htk] at hy
                      rcases List.mem_append.1 hy with h | h
                      · exact hB y h
                      · simp at h; subst h; exact ⟨hx0, hxm2⟩⟩
                  · rw [f2 hrl ⟨x, hxm, by omega⟩]
                    repeat' (first | (with_reducible first | apply w1 | apply w2 | apply w3 | apply w4 | apply w5 | apply w6 | apply w7 | apply w8 | apply w9 | apply wa | apply wb | apply wc) | ((with_reducible apply wd); focus decide) | ((with_reducible apply we); focus exact rfl) | ((with_reducible apply wf); focus exact rfl) | ((first | (with_reducible apply SW_run tt_ok hG htb) | ((with_reducible apply SW_draw rfl tt_ok hG htb); (focus kernel_rfl); focus simp only [List.range, List.range.loop, List.size_toArray, List.length_cons, List.length_nil, Nat.reduceAdd])); focus ((repeat' (first | (with_reducible first | exact wg | exact wh) | ((with_reducible first | apply wi | apply wj); focus (simp (discharger := omega) only [go_sem, hrow, hx, simprocAttr]; with_reducible rfl)))); done)))
                    exact (by simp (discharger := omega) only [go_sem, simprocAttr])
                · rw [f2 hrl ⟨x, hxm, by omega⟩]
                  repeat' (first | (with_reducible first | apply w1 | apply w2 | apply w3 | apply w4 | apply w5 | apply w6 | apply w7 | apply w8 | apply w9 | apply wa | apply wb | apply wc) | ((with_reducible apply wd); focus decide) | ((with_reducible apply we); focus exact rfl) | ((with_reducible apply wf); focus exact rfl) | ((first | (with_reducible apply SW_run tt_ok hG htb) | ((with_reducible apply SW_draw rfl tt_ok hG htb); (focus kernel_rfl); focus simp only [List.range, List.range.loop, List.size_toArray, List.length_cons, List.length_nil, Nat.reduceAdd])); focus ((repeat' (first | (with_reducible first | exact wg | exact wh) | ((with_reducible first | apply wi | apply wj); focus (simp (discharger := omega) only [go_sem, hrow, hx, simprocAttr]; with_reducible rfl)))); done)))
                  exact (by simp (discharger := omega) only [go_sem, simprocAttr])
              · obtain rfl : l = row.length := by omega
                rw [List.take_length] at hB
                repeat' (first | (with_reducible first | apply w1 | apply w2 | apply w3 | apply w4 | apply w5 | apply w6 | apply w7 | apply w8 | apply w9 | apply wa | apply wb | apply wc) | ((with_reducible apply wd); focus decide) | ((with_reducible apply we); focus exact rfl) | ((with_reducible apply wf); focus exact rfl) | ((first | (with_reducible apply SW_run tt_ok hG htb) | ((with_reducible apply SW_draw rfl tt_ok hG htb); (focus kernel_rfl); focus simp only [List.range, List.range.loop, List.size_toArray, List.length_cons, List.length_nil, Nat.reduceAdd])); focus ((repeat' (first | (with_reducible first | exact wg | exact wh) | ((with_reducible first | apply wi | apply wj); focus (simp (discharger := omega) only [go_sem, simprocAttr]; with_reducible rfl)))); done)))
                exact ⟨a.next.length - (i + 1), _, by omega, Norm.headS (own := []) (keep := [1, 3, 5]) (by refine ⟨?_, ?_⟩; (simp (discharger := omega) only [go_sem, simprocAttr]; with_reducible rfl); refine ⟨?_, ?_, ?_, ?_⟩ <;> (simp only [go_sem, simprocAttr]; with_reducible rfl)), i + 1, rfl, rfl, by omega, fun j hj h => by
                  by_cases e : j = i
                  · subst e; rw [hat]; exact ⟨hrl, hB⟩
                  · exact hA j hj (by omega)⟩
            · rw [f1 hrl]
              repeat' (first | (with_reducible first | apply w1 | apply w2 | apply w3 | apply w4 | apply w5 | apply w6 | apply w7 | apply w8 | apply w9 | apply wa | apply wb | apply wc) | ((with_reducible apply wd); focus decide) | ((with_reducible apply we); focus exact rfl) | ((with_reducible apply wf); focus exact rfl) | ((first | (with_reducible apply SW_run tt_ok hG htb) | ((with_reducible apply SW_draw rfl tt_ok hG htb); (focus kernel_rfl); focus simp only [List.range, List.range.loop, List.size_toArray, List.length_cons, List.length_nil, Nat.reduceAdd])); focus ((repeat' (first | (with_reducible first | exact wg | exact wh) | ((with_reducible first | apply wi | apply wj); focus (simp (discharger := omega) only [go_sem, hrow, simprocAttr]; with_reducible rfl)))); done)))
              exact (by simp (discharger := omega) only [go_sem, simprocAttr])
          · obtain rfl : i = a.next.length := by omega
            rw [rowsFault_zero.2 fun r hr => by obtain ⟨j, hj, rfl⟩ := List.mem_iff_getElem.1 hr; exact hA j hj hj]
            repeat' (first | (with_reducible first | apply w1 | apply w2 | apply w3 | apply w4 | apply w5 | apply w6 | apply w7 | apply w8 | apply w9 | apply wa | apply wb | apply wc) | ((with_reducible apply wd); focus decide) | ((with_reducible apply we); focus exact rfl) | ((with_reducible apply wf); focus exact rfl) | ((first | (with_reducible apply SW_run tt_ok hG htb) | ((with_reducible apply SW_draw rfl tt_ok hG htb); (focus kernel_rfl); focus simp only [List.range, List.range.loop, List.size_toArray, List.length_cons, List.length_nil, Nat.reduceAdd])); focus ((repeat' (first | (with_reducible first | exact wg | exact wh) | ((with_reducible first | apply wi | apply wj); focus (simp (discharger := omega) only [go_sem, simprocAttr]; with_reducible rfl)))); done)))
            exact (by simp (discharger := omega) only [go_sem, simprocAttr])
        · repeat' (first | (with_reducible first | apply w1 | apply w2 | apply w3 | apply w4 | apply w5 | apply w6 | apply w7 | apply w8 | apply w9 | apply wa | apply wb | apply wc) | ((with_reducible apply wd); focus decide) | ((with_reducible apply we); focus exact rfl) | ((with_reducible apply wf); focus exact rfl) | ((first | (with_reducible apply SW_run tt_ok hG htb) | ((with_reducible apply SW_draw rfl tt_ok hG htb); (focus kernel_rfl); focus simp only [List.range, List.range.loop, List.size_toArray, List.length_cons, List.length_nil, Nat.reduceAdd])); focus ((repeat' (first | (with_reducible first | exact wg | exact wh) | ((with_reducible first | apply wi | apply wj); focus (simp (discharger := omega) only [go_sem, tAuto, h3, simprocAttr]; with_reducible rfl)))); done)))
          exact (by simp (discharger := omega) only [go_sem, h3, simprocAttr])
  · generalize manyErr a.base a.tracks = e at *
    repeat' (first | (with_reducible first | apply w1 | apply w2 | apply w3 | apply w4 | apply w5 | apply w6 | apply w7 | apply w8 | apply w9 | apply wa | apply wb | apply wc) | ((with_reducible apply wd); focus decide) | ((with_reducible apply we); focus exact rfl) | ((with_reducible apply wf); focus exact rfl) | ((first | (with_reducible apply SW_run tt_ok hG htb) | ((with_reducible apply SW_draw rfl tt_ok hG htb); (focus kernel_rfl); focus simp only [List.range, List.range.loop, List.size_toArray, List.length_cons, List.length_nil, Nat.reduceAdd])); focus ((repeat' (first | (with_reducible first | exact wg | exact wh) | ((with_reducible first | apply wi | apply wj); focus (simp (discharger := omega) only [go_sem, tAuto, h0, simprocAttr]; with_reducible rfl)))); done)))
    exact (by simp (discharger := omega) only [go_sem, h0, simprocAttr])
end
end Go.Proofs.YtpgkpbfefnpagaaGreatDoor
namespace Go.Proofs.YtpgkpbfefnpagaaGreatDoor
open Go.RowKit

theorem list_same {α : Type} [Inhabited α] {l l' : List α} (hl : l.length = l'.length) (h : ∀ j, j < l.length → l[j]! = l'[j]!) : l = l' := by
  refine List.ext_getElem hl fun i h1 h2 => ?_
  have := h i h1
  rwa [getElem!_pos l i h1, getElem!_pos l' i h2] at this
section
variable {G : World → Prop} (hG : Lasting G)
include hG
set_option maxHeartbeats 4000000 in
theorem SInts_snd (d d' : List Int) : Snd Tryz.prog G 37 [tInts d, tInts d'] (.bool (decide (d = d'))) := by
  have htb : Tab.ok Tryz.prog G [] := Tab.nil
  refine snd_of_body (n := 26) (tm := [(0, .t (tInts d)), (1, .t (tInts d'))]) (rs := [.tmp 4]) tt_ok Tryz.func37 rfl rfl rfl rfl rfl ?_
  refine SW_len (t := 0) (l := _) rfl fun hlen => ?_
  simp only [List.length_map] at hlen
  by_cases hl : d.length = d'.length
  · repeat' (first | (with_reducible first | apply w1 | apply w2 | apply w3 | apply w4 | apply w5 | apply w6 | apply w7 | apply w8 | apply w9 | apply wa | apply wb | apply wc) | ((with_reducible apply wd); focus decide) | ((with_reducible apply we); focus exact rfl) | ((with_reducible apply wf); focus exact rfl) | ((first | (with_reducible apply SW_run tt_ok hG htb) | ((with_reducible apply SW_draw rfl tt_ok hG htb); (focus kernel_rfl); focus simp only [List.range, List.range.loop, List.size_toArray, List.length_cons, List.length_nil, Nat.reduceAdd])); focus ((repeat' (first | (with_reducible first | exact wg | exact wh) | ((with_reducible first | apply wi | apply wj); focus (simp (discharger := omega) only [go_sem, hl, simprocAttr]; with_reducible rfl)))); done)))
    refine SW_loop (fun n s => ∃ k : Nat, n = d.length - k ∧ s = ⟨26, [(0, .t (tInts d)), (1, .t (tInts d')), (5, .t (tInt k))], []⟩ ∧ k ≤ d.length ∧ ∀ j, j < k → d[j]! = d'[j]!) d.length ⟨_, Norm.headS (own := []) (keep := [0, 1, 5]) (by refine ⟨?_, ?_⟩; (simp (discharger := omega) only [go_sem, simprocAttr]; with_reducible rfl); refine ⟨?_, ?_, ?_, ?_⟩ <;> (simp only [go_sem, simprocAttr]; with_reducible rfl)), 0, rfl, rfl, Nat.zero_le _, fun j hj => by omega⟩ ?_
    rintro n s ⟨k, rfl, rfl, hk, hA⟩
    by_cases hlt : k < d.length
    · by_cases h : d[k]! = d'[k]!
      · repeat' (first | (with_reducible first | apply w1 | apply w2 | apply w3 | apply w4 | apply w5 | apply w6 | apply w7 | apply w8 | apply w9 | apply wa | apply wb | apply wc) | ((with_reducible apply wd); focus decide) | ((with_reducible apply we); focus exact rfl) | ((with_reducible apply wf); focus exact rfl) | ((first | (with_reducible apply SW_run tt_ok hG htb) | ((with_reducible apply SW_draw rfl tt_ok hG htb); (focus kernel_rfl); focus simp only [List.range, List.range.loop, List.size_toArray, List.length_cons, List.length_nil, Nat.reduceAdd])); focus ((repeat' (first | (with_reducible first | exact wg | exact wh) | ((with_reducible first | apply wi | apply wj); focus (simp (discharger := omega) only [go_sem, h, simprocAttr]; with_reducible rfl)))); done)))
        exact ⟨d.length - (k + 1), _, by omega, Norm.headS (own := []) (keep := [0, 1, 5]) (by refine ⟨?_, ?_⟩; (simp (discharger := omega) only [go_sem, simprocAttr]; with_reducible rfl); refine ⟨?_, ?_, ?_, ?_⟩ <;> (simp only [go_sem, simprocAttr]; with_reducible rfl)), k + 1, rfl, rfl, by omega, fun j hj => by
          by_cases e : j = k
          · subst e; exact h
          · exact hA j (by omega)⟩
      · rw [decide_eq_false (fun e => h (by rw [e]))]
        repeat' (first | (with_reducible first | apply w1 | apply w2 | apply w3 | apply w4 | apply w5 | apply w6 | apply w7 | apply w8 | apply w9 | apply wa | apply wb | apply wc) | ((with_reducible apply wd); focus decide) | ((with_reducible apply we); focus exact rfl) | ((with_reducible apply wf); focus exact rfl) | ((first | (with_reducible apply SW_run tt_ok hG htb) | ((with_reducible apply SW_draw rfl tt_ok hG htb); (focus kernel_rfl); focus simp only [List.range, List.range.loop, List.size_toArray, List.length_cons, List.length_nil, Nat.reduceAdd])); focus ((repeat' (first | (with_reducible first | exact wg | exact wh) | ((with_reducible first | apply wi | apply wj); focus (simp (discharger := omega) only [go_sem, h, simprocAttr]; with_reducible rfl)))); done)))
        exact (by simp (discharger := omega) only [go_sem, simprocAttr])
    · rw [decide_eq_true (list_same hl fun j hj => hA j (by omega))]
      repeat' (first | (with_reducible first | apply w1 | apply w2 | apply w3 | apply w4 | apply w5 | apply w6 | apply w7 | apply w8 | apply w9 | apply wa | apply wb | apply wc) | ((with_reducible apply wd); focus decide) | ((with_reducible apply we); focus exact rfl) | ((with_reducible apply wf); focus exact rfl) | ((first | (with_reducible apply SW_run tt_ok hG htb) | ((with_reducible apply SW_draw rfl tt_ok hG htb); (focus kernel_rfl); focus simp only [List.range, List.range.loop, List.size_toArray, List.length_cons, List.length_nil, Nat.reduceAdd])); focus ((repeat' (first | (with_reducible first | exact wg | exact wh) | ((with_reducible first | apply wi | apply wj); focus (simp (discharger := omega) only [go_sem, simprocAttr]; with_reducible rfl)))); done)))
      exact (by simp (discharger := omega) only [go_sem, simprocAttr])
  · rw [decide_eq_false (fun e => hl (by rw [e]))]
    repeat' (first | (with_reducible first | apply w1 | apply w2 | apply w3 | apply w4 | apply w5 | apply w6 | apply w7 | apply w8 | apply w9 | apply wa | apply wb | apply wc) | ((with_reducible apply wd); focus decide) | ((with_reducible apply we); focus exact rfl) | ((with_reducible apply wf); focus exact rfl) | ((first | (with_reducible apply SW_run tt_ok hG htb) | ((with_reducible apply SW_draw rfl tt_ok hG htb); (focus kernel_rfl); focus simp only [List.range, List.range.loop, List.size_toArray, List.length_cons, List.length_nil, Nat.reduceAdd])); focus ((repeat' (first | (with_reducible first | exact wg | exact wh) | ((with_reducible first | apply wi | apply wj); focus (simp (discharger := omega) only [go_sem, hl, simprocAttr]; with_reducible rfl)))); done)))
    exact (by simp (discharger := omega) only [go_sem, simprocAttr])
set_option maxHeartbeats 4000000 in
theorem Lists_snd (d d' : List (List Int)) : Snd Tryz.prog G 26 [tIntss d, tIntss d'] (.bool (decide (d = d'))) := by
  have htb : Tab.ok Tryz.prog G [] := Tab.nil
  refine snd_of_body (n := 29) (tm := [(0, .t (tIntss d)), (1, .t (tIntss d'))]) (rs := [.tmp 4]) tt_ok Tryz.func26 rfl rfl rfl rfl rfl ?_
  refine SW_len (t := 0) (l := _) rfl fun hlen => ?_
  simp only [List.length_map] at hlen
  by_cases hl : d.length = d'.length
  · repeat' (first | (with_reducible first | apply w1 | apply w2 | apply w3 | apply w4 | apply w5 | apply w6 | apply w7 | apply w8 | apply w9 | apply wa | apply wb | apply wc) | ((with_reducible apply wd); focus decide) | ((with_reducible apply we); focus exact rfl) | ((with_reducible apply wf); focus exact rfl) | ((first | (with_reducible apply SW_run tt_ok hG htb) | ((with_reducible apply SW_draw rfl tt_ok hG htb); (focus kernel_rfl); focus simp only [List.range, List.range.loop, List.size_toArray, List.length_cons, List.length_nil, Nat.reduceAdd])); focus ((repeat' (first | (with_reducible first | exact wg | exact wh) | ((with_reducible first | apply wi | apply wj); focus (simp (discharger := omega) only [go_sem, hl, simprocAttr]; with_reducible rfl)))); done)))
    refine SW_loop (fun n s => ∃ k : Nat, n = d.length - k ∧ s = ⟨29, [(0, .t (tIntss d)), (1, .t (tIntss d')), (5, .t (tInt k))], []⟩ ∧ k ≤ d.length ∧ ∀ j, j < k → d[j]! = d'[j]!) d.length ⟨_, Norm.headS (own := []) (keep := [0, 1, 5]) (by refine ⟨?_, ?_⟩; (simp (discharger := omega) only [go_sem, simprocAttr]; with_reducible rfl); refine ⟨?_, ?_, ?_, ?_⟩ <;> (simp only [go_sem, simprocAttr]; with_reducible rfl)), 0, rfl, rfl, Nat.zero_le _, fun j hj => by omega⟩ ?_
    rintro n s ⟨k, rfl, rfl, hk, hA⟩
    by_cases hlt : k < d.length
    · have htb := Tab.cons (SInts_snd hG d[k]! d'[k]!) Tab.nil
      by_cases h : d[k]! = d'[k]!
      · rw [decide_eq_true h] at htb
        repeat' (first | (with_reducible first | apply w1 | apply w2 | apply w3 | apply w4 | apply w5 | apply w6 | apply w7 | apply w8 | apply w9 | apply wa | apply wb | apply wc) | ((with_reducible apply wd); focus decide) | ((with_reducible apply we); focus exact rfl) | ((with_reducible apply wf); focus exact rfl) | ((first | (with_reducible apply SW_run tt_ok hG htb) | ((with_reducible apply SW_draw rfl tt_ok hG htb); (focus kernel_rfl); focus simp only [List.range, List.range.loop, List.size_toArray, List.length_cons, List.length_nil, Nat.reduceAdd])); focus ((repeat' (first | (with_reducible first | exact wg | exact wh) | ((with_reducible first | apply wi | apply wj); focus (simp (discharger := omega) only [go_sem, simprocAttr]; with_reducible rfl)))); done)))
        exact ⟨d.length - (k + 1), _, by omega, Norm.headS (own := []) (keep := [0, 1, 5]) (by refine ⟨?_, ?_⟩; (simp (discharger := omega) only [go_sem, simprocAttr]; with_reducible rfl); refine ⟨?_, ?_, ?_, ?_⟩ <;> (simp only [go_sem, simprocAttr]; with_reducible rfl)), k + 1, rfl, rfl, by omega, fun j hj => by
          by_cases e : j = k
          · subst e; exact h
          · exact hA j (by omega)⟩
      · rw [decide_eq_false (fun e => h (by rw [e]))]
        rw [decide_eq_false h] at htb
        repeat' (first | (with_reducible first | apply w1 | apply w2 | apply w3 | apply w4 | apply w5 | apply w6 | apply w7 | apply w8 | apply w9 | apply wa | apply wb | apply wc) | ((with_reducible apply wd); focus decide) | ((with_reducible apply we); focus exact rfl) | ((with_reducible apply wf); focus exact rfl) | ((first | (with_reducible apply SW_run tt_ok hG htb) | ((with_reducible apply SW_draw rfl tt_ok hG htb); (focus kernel_rfl); focus simp only [List.range, List.range.loop, List.size_toArray, List.length_cons, List.length_nil, Nat.reduceAdd])); focus ((repeat' (first | (with_reducible first | exact wg | exact wh) | ((with_reducible first | apply wi | apply wj); focus (simp (discharger := omega) only [go_sem, simprocAttr]; with_reducible rfl)))); done)))
        exact (by simp (discharger := omega) only [go_sem, simprocAttr])
    · rw [decide_eq_true (list_same hl fun j hj => hA j (by omega))]
      repeat' (first | (with_reducible first | apply w1 | apply w2 | apply w3 | apply w4 | apply w5 | apply w6 | apply w7 | apply w8 | apply w9 | apply wa | apply wb | apply wc) | ((with_reducible apply wd); focus decide) | ((with_reducible apply we); focus exact rfl) | ((with_reducible apply wf); focus exact rfl) | ((first | (with_reducible apply SW_run tt_ok hG htb) | ((with_reducible apply SW_draw rfl tt_ok hG htb); (focus kernel_rfl); focus simp only [List.range, List.range.loop, List.size_toArray, List.length_cons, List.length_nil, Nat.reduceAdd])); focus ((repeat' (first | (with_reducible first | exact wg | exact wh) | ((with_reducible first | apply wi | apply wj); focus (simp (discharger := omega) only [go_sem, simprocAttr]; with_reducible rfl)))); done)))
      exact (by simp (discharger := omega) only [go_sem, simprocAttr])
  · rw [decide_eq_false (fun e => hl (by rw [e]))]
    repeat' (first | (with_reducible first | apply w1 | apply w2 | apply w3 | apply w4 | apply w5 | apply w6 | apply w7 | apply w8 | apply w9 | apply wa | apply wb | apply wc) | ((with_reducible apply wd); focus decide) | ((with_reducible apply we); focus exact rfl) | ((with_reducible apply wf); focus exact rfl) | ((first | (with_reducible apply SW_run tt_ok hG htb) | ((with_reducible apply SW_draw rfl tt_ok hG htb); (focus kernel_rfl); focus simp only [List.range, List.range.loop, List.size_toArray, List.length_cons, List.length_nil, Nat.reduceAdd])); focus ((repeat' (first | (with_reducible first | exact wg | exact wh) | ((with_reducible first | apply wi | apply wj); focus (simp (discharger := omega) only [go_sem, hl, simprocAttr]; with_reducible rfl)))); done)))
    exact (by simp (discharger := omega) only [go_sem, simprocAttr])
def autoSame (a b : GAuto) : Bool := decide (a.base = b.base ∧ a.tracks = b.tracks ∧ a.next = b.next ∧ a.ends = b.ends)
omit hG in
theorem autoSame_self (a : GAuto) : autoSame a a = true := by simp [autoSame]
set_option maxHeartbeats 4000000 in
theorem Autos_snd (a b : GAuto) : Snd Tryz.prog G 10 [tAuto a, tAuto b] (.bool (autoSame a b)) := by
  have htb := Tab.cons (Lists_snd hG a.next b.next) Tab.nil
  refine snd_of_body (n := 55) (tm := [(0, .t (tAuto a)), (1, .t (tAuto b))]) (rs := [.tmp 4]) tt_ok Tryz.func10 rfl rfl rfl rfl rfl ?_
  unfold autoSame
  refine SW_lenA (t := 0) (i := 3) (l := a.ends.map T.bool) rfl rfl fun hlen => ?_
  simp only [List.length_map] at hlen
  by_cases h1 : a.base = b.base
  · by_cases h2 : a.tracks = b.tracks
    · by_cases h3 : a.next = b.next
      · rw [decide_eq_true h3] at htb
        by_cases h4 : a.ends.length = b.ends.length
        · repeat' (first | (with_reducible first | apply w1 | apply w2 | apply w3 | apply w4 | apply w5 | apply w6 | apply w7 | apply w8 | apply w9 | apply wa | apply wb | apply wc) | ((with_reducible apply wd); focus decide) | ((with_reducible apply we); focus exact rfl) | ((with_reducible apply wf); focus exact rfl) | ((first | (with_reducible apply SW_run tt_ok hG htb) | ((with_reducible apply SW_draw rfl tt_ok hG htb); (focus kernel_rfl); focus simp only [List.range, List.range.loop, List.size_toArray, List.length_cons, List.length_nil, Nat.reduceAdd])); focus ((repeat' (first | (with_reducible first | exact wg | exact wh) | ((with_reducible first | apply wi | apply wj); focus (simp (discharger := omega) only [go_sem, tAuto, h1, h2, h4, simprocAttr]; with_reducible rfl)))); done)))
          refine SW_loop (fun n s => ∃ k : Nat, n = a.ends.length - k ∧ s = ⟨55, [(2, .bptr 0 0), (3, .bptr 1 0), (6, .t (tInt k))], [.box [.t (tInt a.base), .t (tInt a.tracks), .t (tIntss a.next), .t (tBools a.ends)], .box [.t (tInt b.base), .t (tInt b.tracks), .t (tIntss b.next), .t (tBools b.ends)]]⟩ ∧ k ≤ a.ends.length ∧ ∀ j, j < k → a.ends[j]! = b.ends[j]!) a.ends.length
            ⟨_, Norm.headS (own := []) (keep := [2, 3, 6]) (by refine ⟨?_, ?_⟩; (simp (discharger := omega) only [go_sem, simprocAttr]; with_reducible rfl); refine ⟨?_, ?_, ?_, ?_⟩ <;> (simp only [go_sem, simprocAttr]; with_reducible rfl)), 0, rfl, by rw [← h1, ← h2]; rfl, Nat.zero_le _, fun j hj => by omega⟩ ?_
          rintro n s ⟨k, rfl, rfl, hk, hA⟩
          by_cases hlt : k < a.ends.length
          · by_cases h : a.ends[k]! = b.ends[k]!
            · have hb : (a.ends[k]! == b.ends[k]!) = true := by rw [h]; simp
              repeat' (first | (with_reducible first | apply w1 | apply w2 | apply w3 | apply w4 | apply w5 | apply w6 | apply w7 | apply w8 | apply w9 | apply wa | apply wb | apply wc) | ((with_reducible apply wd); focus decide) | ((with_reducible apply we); focus exact rfl) | ((with_reducible apply wf); focus exact rfl) | ((first | (with_reducible apply SW_run tt_ok hG htb) | ((with_reducible apply SW_draw rfl tt_ok hG htb); (focus kernel_rfl); focus simp only [List.range, List.range.loop, List.size_toArray, List.length_cons, List.length_nil, Nat.reduceAdd])); focus ((repeat' (first | (with_reducible first | exact wg | exact wh) | ((with_reducible first | apply wi | apply wj); focus (simp (discharger := omega) only [go_sem, hb, simprocAttr]; with_reducible rfl)))); done)))
              exact ⟨a.ends.length - (k + 1), _, by omega, Norm.headS (own := []) (keep := [2, 3, 6]) (by refine ⟨?_, ?_⟩; (simp (discharger := omega) only [go_sem, simprocAttr]; with_reducible rfl); refine ⟨?_, ?_, ?_, ?_⟩ <;> (simp only [go_sem, simprocAttr]; with_reducible rfl)), k + 1, rfl, rfl, by omega, fun j hj => by
                by_cases e : j = k
                · subst e; exact h
                · exact hA j (by omega)⟩
            · have hb : (a.ends[k]! == b.ends[k]!) = false := by simpa using h
              rw [decide_eq_false (fun e => h (by rw [e.2.2.2]))]
              repeat' (first | (with_reducible first | apply w1 | apply w2 | apply w3 | apply w4 | apply w5 | apply w6 | apply w7 | apply w8 | apply w9 | apply wa | apply wb | apply wc) | ((with_reducible apply wd); focus decide) | ((with_reducible apply we); focus exact rfl) | ((with_reducible apply wf); focus exact rfl) | ((first | (with_reducible apply SW_run tt_ok hG htb) | ((with_reducible apply SW_draw rfl tt_ok hG htb); (focus kernel_rfl); focus simp only [List.range, List.range.loop, List.size_toArray, List.length_cons, List.length_nil, Nat.reduceAdd])); focus ((repeat' (first | (with_reducible first | exact wg | exact wh) | ((with_reducible first | apply wi | apply wj); focus (simp (discharger := omega) only [go_sem, hb, simprocAttr]; with_reducible rfl)))); done)))
              exact (by simp (discharger := omega) only [go_sem, simprocAttr])
          · rw [decide_eq_true ⟨h1, h2, h3, list_same h4 fun j hj => hA j (by omega)⟩]
            repeat' (first | (with_reducible first | apply w1 | apply w2 | apply w3 | apply w4 | apply w5 | apply w6 | apply w7 | apply w8 | apply w9 | apply wa | apply wb | apply wc) | ((with_reducible apply wd); focus decide) | ((with_reducible apply we); focus exact rfl) | ((with_reducible apply wf); focus exact rfl) | ((first | (with_reducible apply SW_run tt_ok hG htb) | ((with_reducible apply SW_draw rfl tt_ok hG htb); (focus kernel_rfl); focus simp only [List.range, List.range.loop, List.size_toArray, List.length_cons, List.length_nil, Nat.reduceAdd])); focus ((repeat' (first | (with_reducible first | exact wg | exact wh) | ((with_reducible first | apply wi | apply wj); focus (simp (discharger := omega) only [go_sem, simprocAttr]; with_reducible rfl)))); done)))
            exact (by simp (discharger := omega) only [go_sem, simprocAttr])
        · rw [decide_eq_false (fun e => h4 (by rw [e.2.2.2]))]
          repeat' (first | (with_reducible first | apply w1 | apply w2 | apply w3 | apply w4 | apply w5 | apply w6 | apply w7 | apply w8 | apply w9 | apply wa | apply wb | apply wc) | ((with_reducible apply wd); focus decide) | ((with_reducible apply we); focus exact rfl) | ((with_reducible apply wf); focus exact rfl) | ((first | (with_reducible apply SW_run tt_ok hG htb) | ((with_reducible apply SW_draw rfl tt_ok hG htb); (focus kernel_rfl); focus simp only [List.range, List.range.loop, List.size_toArray, List.length_cons, List.length_nil, Nat.reduceAdd])); focus ((repeat' (first | (with_reducible first | exact wg | exact wh) | ((with_reducible first | apply wi | apply wj); focus (simp (discharger := omega) only [go_sem, tAuto, h1, h2, h4, simprocAttr]; with_reducible rfl)))); done)))
          exact (by simp (discharger := omega) only [go_sem, simprocAttr])
      · rw [decide_eq_false h3] at htb
        rw [decide_eq_false (fun e => h3 e.2.2.1)]
        repeat' (first | (with_reducible first | apply w1 | apply w2 | apply w3 | apply w4 | apply w5 | apply w6 | apply w7 | apply w8 | apply w9 | apply wa | apply wb | apply wc) | ((with_reducible apply wd); focus decide) | ((with_reducible apply we); focus exact rfl) | ((with_reducible apply wf); focus exact rfl) | ((first | (with_reducible apply SW_run tt_ok hG htb) | ((with_reducible apply SW_draw rfl tt_ok hG htb); (focus kernel_rfl); focus simp only [List.range, List.range.loop, List.size_toArray, List.length_cons, List.length_nil, Nat.reduceAdd])); focus ((repeat' (first | (with_reducible first | exact wg | exact wh) | ((with_reducible first | apply wi | apply wj); focus (simp (discharger := omega) only [go_sem, tAuto, h1, h2, simprocAttr]; with_reducible rfl)))); done)))
        exact (by simp (discharger := omega) only [go_sem, simprocAttr])
    · rw [decide_eq_false (fun e => h2 e.2.1)]
      repeat' (first | (with_reducible first | apply w1 | apply w2 | apply w3 | apply w4 | apply w5 | apply w6 | apply w7 | apply w8 | apply w9 | apply wa | apply wb | apply wc) | ((with_reducible apply wd); focus decide) | ((with_reducible apply we); focus exact rfl) | ((with_reducible apply wf); focus exact rfl) | ((first | (with_reducible apply SW_run tt_ok hG htb) | ((with_reducible apply SW_draw rfl tt_ok hG htb); (focus kernel_rfl); focus simp only [List.range, List.range.loop, List.size_toArray, List.length_cons, List.length_nil, Nat.reduceAdd])); focus ((repeat' (first | (with_reducible first | exact wg | exact wh) | ((with_reducible first | apply wi | apply wj); focus (simp (discharger := omega) only [go_sem, tAuto, h1, h2, simprocAttr]; with_reducible rfl)))); done)))
      exact (by simp (discharger := omega) only [go_sem, simprocAttr])
  · rw [decide_eq_false (fun e => h1 e.1)]
    repeat' (first | (with_reducible first | apply w1 | apply w2 | apply w3 | apply w4 | apply w5 | apply w6 | apply w7 | apply w8 | apply w9 | apply wa | apply wb | apply wc) | ((with_reducible apply wd); focus decide) | ((with_reducible apply we); focus exact rfl) | ((with_reducible apply wf); focus exact rfl) | ((first | (with_reducible apply SW_run tt_ok hG htb) | ((with_reducible apply SW_draw rfl tt_ok hG htb); (focus kernel_rfl); focus simp only [List.range, List.range.loop, List.size_toArray, List.length_cons, List.length_nil, Nat.reduceAdd])); focus ((repeat' (first | (with_reducible first | exact wg | exact wh) | ((with_reducible first | apply wi | apply wj); focus (simp (discharger := omega) only [go_sem, tAuto, h1, simprocAttr]; with_reducible rfl)))); done)))
    exact (by simp (discharger := omega) only [go_sem, simprocAttr])
end
end Go.Proofs.YtpgkpbfefnpagaaGreatDoor
namespace Go.Proofs.YtpgkpbfefnpagaaGreatDoor
open Go.ChangeShapes Go.WideShapes Go.ChangeAt Go.RowKit Go.Joins Go.Deep

section
variable {H : Type} {enc : TypeId × Value → H} {w : World} {sp : Nat → Bool} {held : Bool}
/-- One cell that reads as a datum. -/
def OpensT (enc : TypeId × Value → H) (w : World) (sp : Nat → Bool) (held : Bool) (T : TypeId) (Q : Go.Proofs.YtpgkpbfefnpagaaGreatDoor.T → Prop) : Prop :=
  ∀ n v y, DataW.trod enc Tryz.prog w 0 sp held n T [v] = some y → v.oneCell' = true ∧ ∃ x, Q x ∧ x.cells = [x] ∧ RepT (· < w.heap.size) w x v
theorem flat_cells : ∀ {l : List Go.Proofs.YtpgkpbfefnpagaaGreatDoor.T}, (∀ x ∈ l, x.cells = [x]) → Go.Proofs.YtpgkpbfefnpagaaGreatDoor.flat l = l
  | [], _ => rfl
  | a :: t, h => by
    have := flat_cells fun x hx => h x (List.mem_cons_of_mem a hx)
    simp only [Go.Proofs.YtpgkpbfefnpagaaGreatDoor.flat, List.flatMap_cons] at this ⊢
    rw [this, h a List.mem_cons_self]; rfl
theorem opensT_int {T : TypeId} (ht : Tryz.prog.underlying T = some (.int .i64)) : OpensT enc w sp held T fun x => ∃ n, x = tInt n ∧ I64 n := by
  intro n v y h
  obtain ⟨a, rfl, h2⟩ := opens_int ht n v y h
  exact ⟨rfl, _, ⟨a, rfl, h2⟩, rfl, .int _ _⟩
theorem opensT_bool {T : TypeId} (ht : Tryz.prog.underlying T = some .bool) : OpensT enc w sp held T fun x => ∃ b, x = .bool b := by
  intro n v y h
  obtain ⟨a, rfl⟩ := opens_bool ht n v y h
  exact ⟨rfl, _, ⟨a, rfl⟩, rfl, .bool _⟩
theorem opensT_slice {T e : TypeId} {Q : Go.Proofs.YtpgkpbfefnpagaaGreatDoor.T → Prop} (ht : Tryz.prog.underlying T = some (.slice e)) (hc : Tryz.prog.cellsOf e = 1) (hE : OpensT enc w sp held e Q) :
    OpensT enc w sp held T fun x => ∃ l, x = .list l ∧ ∀ y ∈ l, Q y := by
  intro n v y h
  rcases open_slice1 ht hc h with ⟨hcs, _⟩ | ⟨a, len, cap, m, n', V, D, Pl, hcs, _, hl, hcap, hm, _, hx⟩
  · obtain rfl : v = .slice none 0 0 := by simpa using hcs
    exact ⟨rfl, _, ⟨[], rfl, fun y hy => by simp at hy⟩, rfl, .list [] none 0 1 (fun _ => undef) (Nat.zero_le _) Nat.one_pos (fun x hx => by simp at hx) (fun h => (h rfl).elim) (fun k hk => by simp at hk) (fun k y hy => by simp [Go.Proofs.YtpgkpbfefnpagaaGreatDoor.flat] at hy) (Nat.le_refl _)⟩
  · obtain rfl : v = .slice (some a) len cap := by simpa using hcs
    have hlm : len ≤ m := by rw [hm]; split <;> omega
    have hall : ∀ i, i < len → (V i).oneCell' = true ∧ ∃ b, Q b ∧ b.cells = [b] ∧ RepT (· < w.heap.size) w b (V i) := fun i hi => hE _ _ _ (hx i (by omega)).2
    have key : ∀ k, k ≤ len → ∃ l : List Go.Proofs.YtpgkpbfefnpagaaGreatDoor.T, l.length = k ∧ ∀ i (hi : i < l.length), Q l[i] ∧ l[i].cells = [l[i]] ∧ RepT (· < w.heap.size) w l[i] (V i) := by
      intro k
      induction k with
      | zero => intro _; exact ⟨[], rfl, fun i hi => absurd hi (by simp)⟩
      | succ k ih =>
        intro hk
        obtain ⟨l, hl1, hl2⟩ := ih (by omega)
        obtain ⟨_, b, hb⟩ := hall k (by omega)
        refine ⟨l ++ [b], by simp [hl1], fun i hi => ?_⟩
        rw [List.getElem_append]
        split
        · exact hl2 i ‹_›
        · obtain rfl : i = k := by simp at hi; omega
          simpa using hb
    obtain ⟨l, hl1, hl2⟩ := key len (Nat.le_refl _)
    subst hl1
    have hcells : ∀ x ∈ l, x.cells = [x] := fun x hx => by obtain ⟨i, hi, rfl⟩ := List.mem_iff_getElem.1 hx; exact (hl2 i hi).2.1
    have hfl := flat_cells hcells
    refine ⟨rfl, _, ⟨l, rfl, fun y hy => by obtain ⟨i, hi, rfl⟩ := List.mem_iff_getElem.1 hy; exact (hl2 i hi).1⟩, rfl, ?_⟩
    refine .list l (some a) cap 1 V (by simp only [maxLen] at hcap ⊢; omega) Nat.one_pos (fun x hx => by rw [hcells x hx]; rfl) (fun hne => ?_) (fun k hk => (hall k (by omega)).1) (fun k y hy => ?_) (by omega)
    · obtain ⟨b, off, spot⟩ := a
      have hpos : 0 < l.length := List.length_pos_iff.2 hne
      have hc1 := (hx 0 (by omega)).1
      have hspot : spot = none := by simpa [Addr.add] using World.cell?_spot hc1
      subst hspot
      have hadd : ∀ i, (⟨b, off, none⟩ : Addr).add i = ⟨b, off + i, none⟩ := fun i => by unfold Addr.add; split <;> simp_all
      refine ⟨b, off, rfl, ?_, fun k hk => ?_⟩
      · rw [hadd] at hc1; exact cell_lt hc1
      · have := (hx k (by omega)).1
        rw [hadd] at this; exact this
    · rw [hfl] at hy
      obtain ⟨hk, rfl⟩ := List.getElem?_eq_some_iff.1 hy
      exact (hl2 k hk).2.2
theorem allMap {α : Type} {f : α → Go.Proofs.YtpgkpbfefnpagaaGreatDoor.T} {Q : α → Prop} : ∀ {l : List Go.Proofs.YtpgkpbfefnpagaaGreatDoor.T}, (∀ y ∈ l, ∃ a, y = f a ∧ Q a) → ∃ q : List α, l = q.map f ∧ ∀ a ∈ q, Q a
  | [], _ => ⟨[], rfl, fun a ha => by simp at ha⟩
  | x :: t, h => by
    obtain ⟨a, rfl, ha⟩ := h x List.mem_cons_self
    obtain ⟨q, rfl, hq⟩ := allMap fun y hy => h y (List.mem_cons_of_mem _ hy)
    exact ⟨a :: q, rfl, fun b hb => by
      rcases List.mem_cons.1 hb with rfl | hb
      · exact ha
      · exact hq b hb⟩
theorem opensT_ints {T : TypeId} (h : OpensT enc w sp held T fun x => ∃ l, x = .list l ∧ ∀ y ∈ l, ∃ n, y = tInt n ∧ I64 n) : OpensT enc w sp held T fun x => ∃ l, x = tInts l ∧ I64s l := fun n v y hy => by
  obtain ⟨h1, x, ⟨l, rfl, hl⟩, h2, h3⟩ := h n v y hy
  obtain ⟨q, rfl, hq⟩ := allMap hl
  exact ⟨h1, _, ⟨q, rfl, hq⟩, rfl, h3⟩
theorem opensIntsT : OpensT enc w sp held 42 fun x => ∃ l, x = tInts l ∧ I64s l := opensT_ints (opensT_slice Tryz.underlying42 (by kernel_rfl) (opensT_int Tryz.underlying3))
theorem opensIntssT : OpensT enc w sp held 22 fun x => ∃ l, x = tIntss l ∧ ∀ r ∈ l, I64s r := fun n v y hy => by
  obtain ⟨h1, x, ⟨l, rfl, hl⟩, h2, h3⟩ := opensT_slice Tryz.underlying22 (by kernel_rfl) opensIntsT n v y hy
  obtain ⟨q, rfl, hq⟩ := allMap hl
  exact ⟨h1, _, ⟨q, rfl, hq⟩, rfl, h3⟩
theorem opensBoolsT : OpensT enc w sp held 23 fun x => ∃ l, x = tBools l := fun n v y hy => by
  obtain ⟨h1, x, ⟨l, rfl, hl⟩, h2, h3⟩ := opensT_slice Tryz.underlying23 (by kernel_rfl) (opensT_bool Tryz.underlying4) n v y hy
  obtain ⟨q, rfl, hq⟩ := allMap (Q := fun _ => True) fun y hy => by obtain ⟨b, hb⟩ := hl y hy; exact ⟨b, hb, trivial⟩
  exact ⟨h1, _, ⟨q, rfl⟩, rfl, h3⟩
def ReadsAuto (w : World) (v : Value) (a : GAuto) : Prop := I64A a ∧ RepT (· < w.heap.size) w (tAuto a) v
set_option maxRecDepth 100000 in
theorem openAutoT {base : Nat} {v : Value} {d : DataW H} {p : List MemPlace} (hv : Value.okWide Tryz.prog w .any base 25 v) (h : DataW.Trod enc Tryz.prog w 0 sp held 25 v d p) :
    ∃ a : GAuto, ReadsAuto w v a := by
  obtain ⟨v0, v1, v2, v3, y0, y1, y2, y3, n, rfl, _, _, h0, h1, h2, h3⟩ := open_agg4 Tryz.underlying25 (by kernel_rfl) (by kernel_rfl) hv h
  obtain ⟨a0, rfl, i0⟩ := opens_int Tryz.underlying3 _ _ _ h0
  obtain ⟨a1, rfl, i1⟩ := opens_int Tryz.underlying3 _ _ _ h1
  obtain ⟨o2, x2, ⟨a2, rfl, i2⟩, _, hn⟩ := opensIntssT _ _ _ h2
  obtain ⟨o3, x3, ⟨a3, rfl⟩, _, he⟩ := opensBoolsT _ _ _ h3
  refine ⟨⟨a0, a1, a2, a3⟩, ⟨i0, i1, i2⟩, .agg _ _ rfl (fun k v hk => ?_) fun k y v hy hk => ?_⟩
  · match k, hk with
    | 0, hk => cases hk; rfl
    | 1, hk => cases hk; rfl
    | 2, hk => cases hk; exact o2
    | 3, hk => cases hk; exact o3
  · match k, hy, hk with
    | 0, hy, hk => cases hy; cases hk; exact .int _ _
    | 1, hy, hk => cases hy; cases hk; exact .int _ _
    | 2, hy, hk => cases hy; cases hk; exact hn
    | 3, hy, hk => cases hy; cases hk; exact he
end
theorem walkN {P : Program} {G : World → Prop} {f : Nat} {xs : List T} {w : World} {vs : Array Value} (h : Snd P G f xs (.bool true)) (hG : G w) (hl : vs.size = xs.length) (hx : ∀ (k : Nat) (y : T) (v : Value), xs[k]? = some y → vs[k]? = some v → RepT (· < w.heap.size) w y v) : Calls P f vs w (Ret (.bool true) w) :=
  (h.calls (· < w.heap.size) w vs hG hl hx).mono fun e w' hq => by obtain ⟨u, h1, h2, h3⟩ := hq; cases h2; exact ⟨h1, h3⟩
end Go.Proofs.YtpgkpbfefnpagaaGreatDoor
namespace Go.Proofs.YtpgkpbfefnpagaaGreatDoor
open Go.RowKit

theorem rows_len : ∀ (en : List Bool) (nx : List (List Int)), (∀ r ∈ nx, r.length ≤ 36) → (rowsB en nx).length ≤ 200 * nx.length
  | [], nx, _ => by cases nx <;> simp [rowsB]
  | e :: en, [], _ => by simp [rowsB]
  | e :: en, r :: nx, h => by
    have ih := rows_len en nx fun r hr => h r (List.mem_cons_of_mem _ hr)
    have h1 := h r List.mem_cons_self
    have h2 := cells_len r
    have h3 : (rowB e r).length ≤ 1 + 4 * r.length := by
      rw [rowB_flat, List.length_append]
      have : (if e then [43] else [45] : List UInt8).length = 1 := by cases e <;> rfl
      omega
    show (rowB e r ++ 10 :: rowsB en nx).length ≤ _
    rw [List.length_append, List.length_cons, List.length_cons]
    omega
theorem tape_len {a : GAuto} (h : autoFault a = 0) : (tapeB a).length ≤ 1500000 := by
  have g := good_of h
  have h1 := rows_len a.ends a.next fun r hr => by
    have := g.rows.row r hr
    have := g.n36
    omega
  have h80 := g.m80
  unfold tapeB
  rw [head_flat]
  have := dec_len a.base.toNat
  have := dec_len a.tracks.toNat
  have := dec_len a.next.length
  simp only [List.length_append, List.length_cons, List.length_nil]
  omega
set_option maxHeartbeats 8000000 in
theorem TapeReads_snd (a : GAuto) (s : List UInt8) (hs : s.length ≤ 1500000) : Snd Tryz.prog GT 3 [tAuto a, tStr s] (.bool true) := by
  have hG := GT_lasting
  have cF := Fault_snd hG a
  have cR := ReadTape_snd hG s hs
  have cS := Parse_snd s hs
  obtain ⟨⟨x, k, f⟩, hx⟩ : ∃ r, readTape s = r := ⟨_, rfl⟩
  rw [hx] at cR cS
  simp only at cR cS
  have cA := Autos_snd (G := GT) hG x x
  rw [autoSame_self] at cA
  have E2 : Snd Tryz.prog GT 7 [tErr f, tInt f] (.bool true) := by
    have := (Error_snd f f).of (G' := GT) fun w h => h.err
    rwa [beq_self_eq_true] at this
  have E1 : Snd Tryz.prog GT 7 [tErr (autoFault a), tInt (autoFault a)] (.bool true) := by
    have := (Error_snd (autoFault a) (autoFault a)).of (G' := GT) fun w h => h.err
    rwa [beq_self_eq_true] at this
  refine snd_of_body (n := 82) (tm := [(0, .t (tAuto a)), (1, .t (tStr s))]) (rs := [.tmp 4]) tt_ok Tryz.func3 rfl rfl rfl rfl rfl ?_
  by_cases h : autoFault a = 0
  · have cT := TapeOf_snd (G := GT) hG h
    have cP := Print_good h
    have cS2 := Parse_snd (tapeB a) (tape_len h)
    rw [tape_read h] at cS2
    simp only at cS2
    have cA2 := Autos_snd (G := GT) hG a a
    rw [autoSame_self] at cA2
    rw [h] at cF cP E1
    obtain ⟨u, hu⟩ : ∃ u, tapeB a = u := ⟨_, rfl⟩
    rw [hu] at cT cP cS2
    have hq : (u == u) = true := by simp
    have htb := Tab.cons cF (Tab.cons cT (Tab.cons cP (Tab.cons E1 Tab.nil)))
    repeat' (first | (with_reducible first | apply w1 | apply w2 | apply w3 | apply w4 | apply w5 | apply w6 | apply w7 | apply w8 | apply w9 | apply wa | apply wb | apply wc) | ((with_reducible apply wd); focus decide) | ((with_reducible apply we); focus exact rfl) | ((with_reducible apply wf); focus exact rfl) | ((first | (with_reducible apply SW_run tt_ok hG htb) | ((with_reducible apply SW_draw rfl tt_ok hG htb); (focus kernel_rfl); focus simp only [List.range, List.range.loop, List.size_toArray, List.length_cons, List.length_nil, Nat.reduceAdd])); focus ((repeat' (first | (with_reducible first | exact wg | exact wh) | ((with_reducible first | apply wi | apply wj); focus (simp (discharger := omega) only [go_sem, tAuto, tStr, tErr_flat, str_list, hq, simprocAttr]; with_reducible rfl)))); done)))
    clear htb
    have htb := Tab.cons cR (Tab.cons cS (Tab.cons E2 (Tab.cons cA Tab.nil)))
    repeat' (first | (with_reducible first | apply w1 | apply w2 | apply w3 | apply w4 | apply w5 | apply w6 | apply w7 | apply w8 | apply w9 | apply wa | apply wb | apply wc) | ((with_reducible apply wd); focus decide) | ((with_reducible apply we); focus exact rfl) | ((with_reducible apply wf); focus exact rfl) | ((first | (with_reducible apply SW_run tt_ok hG htb) | ((with_reducible apply SW_draw rfl tt_ok hG htb); (focus kernel_rfl); focus simp only [List.range, List.range.loop, List.size_toArray, List.length_cons, List.length_nil, Nat.reduceAdd])); focus ((repeat' (first | (with_reducible first | exact wg | exact wh) | ((with_reducible first | apply wi | apply wj); focus (simp (discharger := omega) only [go_sem, tAuto, tStr, tErr_flat, simprocAttr]; with_reducible rfl)))); done)))
    clear htb
    have htb := Tab.cons cS2 (Tab.cons cA2 Tab.nil)
    repeat' (first | (with_reducible first | apply w1 | apply w2 | apply w3 | apply w4 | apply w5 | apply w6 | apply w7 | apply w8 | apply w9 | apply wa | apply wb | apply wc) | ((with_reducible apply wd); focus decide) | ((with_reducible apply we); focus exact rfl) | ((with_reducible apply wf); focus exact rfl) | ((first | (with_reducible apply SW_run tt_ok hG htb) | ((with_reducible apply SW_draw rfl tt_ok hG htb); (focus kernel_rfl); focus simp only [List.range, List.range.loop, List.size_toArray, List.length_cons, List.length_nil, Nat.reduceAdd])); focus ((repeat' (first | (with_reducible first | exact wg | exact wh) | ((with_reducible first | apply wi | apply wj); focus (simp (discharger := omega) only [go_sem, tAuto, tStr, tErr0, simprocAttr]; with_reducible rfl)))); done)))
    exact (by simp (discharger := omega) only [go_sem, simprocAttr])
  · have cP := Print_bad h
    obtain ⟨e, he⟩ : ∃ e, autoFault a = e := ⟨_, rfl⟩
    rw [he] at cF cP E1 h
    have hq : (([] : List UInt8) == []) = true := rfl
    have htb := Tab.cons cF (Tab.cons cP (Tab.cons E1 Tab.nil))
    repeat' (first | (with_reducible first | apply w1 | apply w2 | apply w3 | apply w4 | apply w5 | apply w6 | apply w7 | apply w8 | apply w9 | apply wa | apply wb | apply wc) | ((with_reducible apply wd); focus decide) | ((with_reducible apply we); focus exact rfl) | ((with_reducible apply wf); focus exact rfl) | ((first | (with_reducible apply SW_run tt_ok hG htb) | ((with_reducible apply SW_draw rfl tt_ok hG htb); (focus kernel_rfl); focus simp only [List.range, List.range.loop, List.size_toArray, List.length_cons, List.length_nil, Nat.reduceAdd])); focus ((repeat' (first | (with_reducible first | exact wg | exact wh) | ((with_reducible first | apply wi | apply wj); focus (simp (discharger := omega) only [go_sem, tAuto, tStr, tErr_flat, str_list, hq, h, simprocAttr]; with_reducible rfl)))); done)))
    clear htb
    have htb := Tab.cons cR (Tab.cons cS (Tab.cons E2 (Tab.cons cA Tab.nil)))
    repeat' (first | (with_reducible first | apply w1 | apply w2 | apply w3 | apply w4 | apply w5 | apply w6 | apply w7 | apply w8 | apply w9 | apply wa | apply wb | apply wc) | ((with_reducible apply wd); focus decide) | ((with_reducible apply we); focus exact rfl) | ((with_reducible apply wf); focus exact rfl) | ((first | (with_reducible apply SW_run tt_ok hG htb) | ((with_reducible apply SW_draw rfl tt_ok hG htb); (focus kernel_rfl); focus simp only [List.range, List.range.loop, List.size_toArray, List.length_cons, List.length_nil, Nat.reduceAdd])); focus ((repeat' (first | (with_reducible first | exact wg | exact wh) | ((with_reducible first | apply wi | apply wj); focus (simp (discharger := omega) only [go_sem, tAuto, tStr, tErr_flat, h, simprocAttr]; with_reducible rfl)))); done)))
    exact (by simp (discharger := omega) only [go_sem, simprocAttr])
theorem TapeReads_walk (v : Value) (a : GAuto) (s : List UInt8) (w : World) (h : ReadsAuto w v a) (hs : s.length ≤ 1500000) (hg : GT w) : Calls Tryz.prog 3 #[v, .string ⟨s.toArray⟩] w (Ret (.bool true) w) :=
  walkN (TapeReads_snd a s hs) hg rfl fun k y z p q => by
    match k, p, q with
    | 0, p, q => cases p; cases q; exact h.2
    | 1, p, q => cases p; cases q; exact .str _
end Go.Proofs.YtpgkpbfefnpagaaGreatDoor
namespace Go.Proofs.YtpgkpbfefnpagaaGreatDoor.tapeReads
open Go.ChangeShapes Go.WideShapes Go.ChangeAt Go.RowKit Go.Joins Go.Deep
open Go.ChangeMaps (open_string shut_string)

theorem et : Tryz.prog.globalNamed "errors.errorType" = some 0 := by kernel_rfl
theorem rt : (Tryz.prog.cutTypes.find? (·.1 == "internal/reflectlite.rtype")).map (·.2) = some 100 := by kernel_rfl
theorem oneRow : ((List.range 177).filter fun t => Tryz.prog.rowNamed t [101, 114, 114, 111, 114]) = [30] := by kernel_rfl
theorem typesSize : Tryz.prog.types.size = 177 := by kernel_rfl
theorem star : "*" ++ "errors.errorString" = "*errors.errorString" := by decide
theorem rowES (u : TypeId) (h : Tryz.prog.typeName? 3 u = some "*errors.errorString") : u = 147 :=
  typeName_ptr_named (nm := "errors.errorString") (by rw [star]; kernel_rfl) (by kernel_rfl) (by decide) u (by rw [star]; exact h)
/-- What the row lists, but for the handle. -/
def laid7 : List (String × DataW Unit) := [("math/bits.deBruijn32tab", Rows.laid_math_bits_deBruijn32tab), ("math/bits.deBruijn64tab", Rows.laid_math_bits_deBruijn64tab), ("internal/strconv.uint64pow10", Rows.laid_internal_strconv_uint64pow10), ("unicode/utf8.acceptRanges", Rows.laid_unicode_utf8_acceptRanges), ("strconv.ErrRange", Rows.laid_strconv_ErrRange), ("strconv.ErrSyntax", Rows.laid_strconv_ErrSyntax), ("unicode/utf8.first", Rows.laid_unicode_utf8_first)]
def laid1 : List (String × DataW Unit) := [("errors.errorType", Rows.laid_errors_errorType)]
theorem laid_parts (W : World) : laidMetH Tryz.prog Rows.tapeReadsUptoRow.laid W = (laidMet Tryz.prog laid7 W ∧ handlesMet Tryz.prog laid1 W) := by kernel_rfl
theorem GT_of {W : World} (h : laidMetH Tryz.prog Rows.tapeReadsUptoRow.laid W) (hsh : W.ShapedOpen Tryz.prog) : GT W := by
  rw [laid_parts] at h
  obtain ⟨hl, hh⟩ := h
  refine ⟨?_, Tryz.laySplit.s1_3 W hsh, ?_, ?_, ?_⟩
  · obtain ⟨name, u, ty, e1, e2, e3, e4, e5⟩ := hh _ (List.mem_singleton.2 rfl)
    have en : name = [101, 114, 114, 111, 114] := (Option.some.inj e1).symm
    subst en
    obtain rfl := Option.some.inj (rt.symm.trans e2)
    have hm : ty ∈ (List.range 177).filter fun t => Tryz.prog.rowNamed t [101, 114, 114, 111, 114] := List.mem_filter.2 ⟨List.mem_range.2 (by rw [← typesSize]; exact e3), e4⟩
    rw [oneRow] at hm
    obtain rfl := List.mem_singleton.1 hm
    have hh : typeHandle Tryz.prog 30 = .pointer (some ⟨9, 30, none⟩) := by kernel_rfl
    rw [hh] at e5
    unfold errCell
    simpa using World.var?_cell et e5 0
  · have h3 : laidMet Tryz.prog (("internal/strconv.uint64pow10", Lib.tabData .u64 Lib.pow10Tab) :: laid7.drop 3) W := hl.tail.tail
    exact Lib.tabIs_of_head (g := 2) (t := 119) (n := 20) (by kernel_rfl) (by kernel_rfl) (by kernel_rfl) Tryz.underlying94 (by kernel_rfl) (by kernel_rfl) h3
  · obtain ⟨a, t, hv, _⟩ := laid_sentinel (g := 3) hl.tail.tail.tail.tail.tail (by kernel_rfl) (by kernel_rfl) Tryz.underlying30 rowES Tryz.underlying147 Tryz.underlying149 rfl rfl Tryz.underlying9 (by kernel_rfl) (by kernel_rfl)
    have hg : Tryz.prog.globalNamed "strconv.ErrSyntax" = some 3 := by kernel_rfl
    exact ⟨_, by simpa using World.var?_cell hg hv 0, .inr ⟨_, _, rfl⟩⟩
  · obtain ⟨a, t, hv, _⟩ := laid_sentinel (g := 4) hl.tail.tail.tail.tail (by kernel_rfl) (by kernel_rfl) Tryz.underlying30 rowES Tryz.underlying147 Tryz.underlying149 rfl rfl Tryz.underlying9 (by kernel_rfl) (by kernel_rfl)
    have hg : Tryz.prog.globalNamed "strconv.ErrRange" = some 4 := by kernel_rfl
    exact ⟨_, by simpa using World.var?_cell hg hv 0, .inr ⟨_, _, rfl⟩⟩
/-- A world that meets the list. -/
def cells1 : DataW Unit → List Value
  | .lit (.int k n) => [.int k n]
  | _ => []
def cells2 : DataW Unit → List Value
  | .agg l => l.flatMap cells1
  | d => cells1 d
def cells3 : DataW Unit → Array Value
  | .agg l => (l.flatMap cells2).toArray
  | _ => #[]
noncomputable def laidWorld (os : Os) : World :=
  let N := (World.settled Tryz.prog os).heap.size
  let w0 := World.holding Tryz.prog os ⟨#[.cells #[.string ⟨#[118, 97, 108, 117, 101, 32, 111, 117, 116, 32, 111, 102, 32, 114, 97, 110, 103, 101]⟩] 149, .cells #[.string ⟨#[105, 110, 118, 97, 108, 105, 100, 32, 115, 121, 110, 116, 97, 120]⟩] 149], #[], []⟩
  let put (h : Array Obj) (g : Nat) (cs : Array Value) : Array Obj := h.modify g fun
    | .cells _ t frozen => .cells cs t frozen
    | o => o
  let h0 := put (put w0.heap 4 #[.iface 147 (.pointer (some ⟨N, 0, none⟩))]) 3 #[.iface 147 (.pointer (some ⟨N + 1, 0, none⟩))]
  let h1 := put h0 0 #[.iface 100 (.agg #[.pointer (some ⟨9, 30, none⟩)])]
  let h2 := put h1 7 (cells3 Rows.laid_math_bits_deBruijn32tab)
  let h3 := put h2 8 (cells3 Rows.laid_math_bits_deBruijn64tab)
  let h4 := put h3 2 (cells3 Rows.laid_internal_strconv_uint64pow10)
  let h5 := put h4 6 (cells3 Rows.laid_unicode_utf8_acceptRanges)
  let h6 := put h5 5 (cells3 Rows.laid_unicode_utf8_first)
  { w0 with heap := h6 }
noncomputable abbrev N0 : Nat := (World.settled Tryz.prog default).heap.size
def args0 : Array Value := #[.agg #[.int .i64 0, .int .i64 0, .slice none 0 0, .slice none 0 0], .string ⟨#[]⟩]
theorem piece (os : Os) : LaidIn Tryz.prog ((laidWorld os).forCall (fun _ _ => 0) ⟨#[], args0, []⟩).memory laid7 [7, 8, 2, 6, 4, 3, 5, N0, N0 + 1] :=
  LaidIn.of_run _ 8 (by kernel_rfl) (by kernel_rfl) (by kernel_rfl) (by kernel_rfl)
theorem laid_filter : (Rows.tapeReadsUptoRow.laid.filter fun x => x.2.handleName?.isNone) = laid7 := by kernel_rfl
theorem laid_met (os : Os) : laidMetH Tryz.prog Rows.tapeReadsUptoRow.laid ((laidWorld os).forCall (fun _ _ => 0) ⟨#[], args0, []⟩).memory :=
  laidMetH_of_parts (by rw [laid_filter]; exact (piece os).met) (by kernel_rfl)
theorem witness_row (os : Os) {H : Type} (enc : TypeId × Value → H) :
    (Rows.OpenSpec.upto Rows.tapeReadsSpec).preRow enc Tryz.prog Tryz.f3 Rows.tapeReadsUptoRow.domain false Rows.tapeReadsUptoRow.laid ((laidWorld os).forCall (fun _ _ => 0) ⟨#[], args0, []⟩).memory args0 := by
  have hw : (DataW.whole enc Tryz.prog ((laidWorld os).forCall (fun _ _ => 0) ⟨#[], args0, []⟩).memory Tryz.f3.params.toList (Rows.OpenSpec.upto Rows.tapeReadsSpec).vars false args0.toList 8).map (fun x => (x.1, x.2.1)) =
      some ([.agg [.lit (.int .i64 0), .lit (.int .i64 0), .nil, .nil], .lit (.string [])], []) := by kernel_rfl
  obtain ⟨⟨x1, x2, x3⟩, hx, hx1⟩ := Option.map_eq_some_iff.1 hw
  simp only [Prod.mk.injEq] at hx1
  obtain ⟨rfl, rfl⟩ := hx1
  exact OpenSpec.preRow_of_cond 8 hx (by kernel_rfl) (fun k hk => by cases hk; kernel_rfl) (by kernel_rfl) (laid_met os)
set_option maxRecDepth 100000 in
theorem lifted (os : Os) (started : os.Started) (H : Type) (enc : TypeId × Value → H) (F : Stop.Interp) :
    ReturnsInHanded {} Tryz.checked os 3 .any ((Rows.OpenSpec.upto Rows.tapeReadsSpec).preRow enc Tryz.prog Tryz.f3 Rows.tapeReadsUptoRow.domain false Rows.tapeReadsUptoRow.laid) (((Rows.OpenSpec.upto Rows.tapeReadsSpec).at F).post enc Tryz.prog Tryz.f3 false true false false) := by
  refine returnsInHanded_of_row (C := Tryz.checked) (s := Rows.OpenSpec.upto Rows.tapeReadsSpec) own started (by kernel_rfl) Tryz.func3
    (witness_row_atRef (enc := enc) (C := Tryz.checked) false (laidWorld os) args0 rfl (by kernel_rfl) (by kernel_rfl) (by kernel_rfl) (witness_row os enc)) ?_
  intro W base args ds gs before hval0 hW _ hk0 _ hL hsh _
  have hval : ∀ (j : Nat) t v, Tryz.f3.params[j]? = some t → args[j]? = some v → Value.okWide Tryz.prog W .any base t v := hval0
  have hW' := hW
  obtain ⟨p, q, hA0, hV, rfl, hfz, hnd⟩ := hW
  have hA : DataW.TrodAll enc Tryz.prog W 0 (fun _ => true) true Tryz.f3.params.toList args.toList ds p := hA0
  rw [Tryz.params3] at hA hval
  obtain ⟨v0, vs0, d0, ds0, p0, q0, hargs, rfl, rfl, h0, r0⟩ := trodAll_cons hA
  obtain ⟨v1, vs1, d1, ds1, p1, q1, rfl, rfl, rfl, h1, r1⟩ := trodAll_cons r0
  obtain ⟨rfl, rfl, rfl⟩ := trodAll_nil r1
  obtain rfl : args = #[v0, v1] := by cases args; simp_all
  obtain ⟨rfl, rfl⟩ := trodVars_none hV
  have k0 := h0
  have lt0 : ∀ x ∈ p0, x.block < W.heap.size := by obtain ⟨m, hm⟩ := k0; exact DataW.trod_lt m _ _ _ hm
  obtain ⟨a0, w0⟩ := openAutoT (hval 0 25 v0 rfl rfl) h0
  obtain ⟨s, rfl, rfl, rfl, ws⟩ := open_string Tryz.underlying9 (hval 1 9 v1 rfl rfl) h1
  have hk : Rows.uptoBulkAll [d0, .lit (.string s.data.toList)] ≤ 1048576 := of_decide_eq_true (hk0 _ rfl)
  simp only [Rows.uptoBulkAll, Rows.uptoBulk] at hk
  have hG := GT_of hL hsh
  have es : (⟨s.data.toList.toArray⟩ : ByteArray) = s := by cases s; simp
  clear hA0 hval0
  have walk := TapeReads_walk v0 a0 s.data.toList W w0 (by omega) hG
  rw [es] at walk
  refine walk.mono fun e W' ⟨he, bel⟩ => ?_
  subst he
  exact ⟨_, rfl, _, _, _, [], _, [], hW', trodAll_mk1 (shut_bool Tryz.underlying4 _), (trodAll_cons_mk (Below.trod laidOut (by kernel_rfl) (of_decide_eq_true (by kernel_rfl)) k0 bel lt0) (trodAll_cons_mk (shut_string Tryz.underlying9 ws) trodAll_mk0)), rfl, bel.frame _, fun h => by cases h⟩
theorem said : Rows.TapeReadsUptoSaid :=
  OpenClaim.holds_of_cond 3 Tryz.f3 rfl rfl rfl rfl rfl rfl rfl ⟨rfl, rfl, rfl, rfl, rfl⟩ rfl rfl rfl rfl rfl (by kernel_rfl) Tryz.func3 (by kernel_rfl)
    (of_decide_eq_true (by kernel_rfl)) (by unfold Func.isWrapper; first | (rw [if_pos (by decide +kernel)]; kernel_rfl) | (rw [if_neg (by decide +kernel)]; exact ⟨rfl, rfl⟩))
    (fun os started H enc _ F => by rw [OpenClaim.pre_eq_preRow]; exact lifted os started H enc F)
theorem plain (f : FuncId) (fn : Func) (hf : Tryz.pinned.checked.prog.funcNamed "filbert/filbertlaw4.TapeReads" = some f) (hfn : Tryz.pinned.checked.prog.funcs[f]? = some fn) :
    true = Tryz.pinned.checked.prog.looks [] ∧ ∀ (j : Nat) t, fn.params[j]? = some t → Tryz.pinned.checked.prog.wantsStandIn t = false := by
  obtain rfl : f = 3 := Option.some.inj ((show Tryz.prog.funcNamed "filbert/filbertlaw4.TapeReads" = some 3 by kernel_rfl).symm.trans hf) |>.symm
  obtain rfl : fn = Tryz.f3 := (Option.some.inj (Tryz.func3.symm.trans hfn)).symm
  refine ⟨by kernel_rfl, fun j t ht => ?_⟩
  have hall : (Tryz.f3.params.toList.all fun t => !(Tryz.prog.wantsStandIn t)) = true := by kernel_rfl
  have := List.all_eq_true.1 hall t (Array.mem_toList_iff.2 (Array.mem_of_getElem? ht))
  exact (show Tryz.prog.wantsStandIn t = false by simpa using this)

/-- THE STATEMENT: THE CARD. -/
theorem proved : Rows.TapeReadsUptoCardSaid :=
  Claim7.holds_tied_plain_at .later [] _ _ _ _ said (fun _ h => by cases h) (by kernel_rfl) (fun _ h => by cases h) tapeReadsUpto_row_tie rfl ⟨rfl, rfl⟩ (by kernel_rfl) rfl plain (by kernel_rfl)
#print axioms proved
end Go.Proofs.YtpgkpbfefnpagaaGreatDoor.tapeReads
