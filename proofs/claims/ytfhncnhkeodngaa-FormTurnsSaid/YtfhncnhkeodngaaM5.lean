/- Plain laws, data behind worlds, and contracts of functions, for the last text. No conditions. -/
import Derived.Test.YtfhncnhkeodngaaM4
set_option linter.unusedSimpArgs false
set_option linter.unusedVariables false
set_option linter.unnecessarySimpa false
set_option linter.unusedSectionVars false
namespace Go.Proofs.Ytfhncnhkeodngaa
open Go.RowKit

def evCap : List SV := [.bptr 0 0, .bptr 1 0, .bptr 2 0, .bptr 3 0]
def evObs (f : List GNode) (ws : List GOut) (ns : List Int) : List Ob := [.box [.t (tForm f)], .box [.t (tInts ns)], .box [.t (tOutL ws)], .box [.fn 33 evCap]]
/-- What the closure gives of the part at a place. -/
def EvC (G : World → Prop) (f : List GNode) (ws : List GOut) (ns : List Int) (i e : Nat) : Prop :=
  SndC Try.prog G 33 (.t (tNat i) :: evCap) (evObs f ws ns) (.tup [.bool (evalP f ws ns i), tNat e]) (evObs f ws ns)
theorem ev_pins {f : List GNode} {ws : List GOut} {ns : List Int} (i : Nat) (l : List SV) (h : (evObs f ws ns)[i]? = some (.box l)) : i ∈ [0, 1, 2, 3] ∧ ∃ l', (evObs f ws ns)[i]? = some (.box l') := by
  have := (List.getElem?_eq_some_iff.1 h).1
  have hi : i < 4 := this
  exact ⟨by simp; omega, l, h⟩
theorem ev_pins2 {f : List GNode} {ws : List GOut} {ns : List Int} : ∀ i ∈ [0, 1, 2, 3], ∃ l, (evObs f ws ns)[i]? = some (.box l) := fun i hi => by
  simp only [List.mem_cons, List.not_mem_nil, or_false] at hi
  rcases hi with rfl | rfl | rfl | rfl <;> exact ⟨_, rfl⟩
theorem ev_boxes {f : List GNode} {ws : List GOut} {ns : List Int} : ∀ x ∈ evObs f ws ns, ∃ l, x = .box l := fun x hx => by
  simp only [evObs, List.mem_cons, List.not_mem_nil, or_false] at hx
  rcases hx with rfl | rfl | rfl | rfl <;> exact ⟨_, rfl⟩
theorem ev_ren (f : List GNode) (ws : List GOut) (ns : List Int) : (evObs f ws ns).map (Ob.ren (upto (evObs f ws ns).length)) = evObs f ws ns := rfl
theorem ev_xren (k : T) : ((SV.t k) :: evCap).map (SV.ren (upto 4)) = (SV.t k) :: evCap := rfl
theorem four_pins {s' : St} {bs : Nat → Nat} (h0 : look s'.tmps 157 = some (.pin 0 (bs 0))) (h1 : look s'.tmps 158 = some (.pin 1 (bs 1))) (h2 : look s'.tmps 159 = some (.pin 2 (bs 2))) (h3 : look s'.tmps 160 = some (.pin 3 (bs 3))) : ∀ i ∈ [0, 1, 2, 3], look s'.tmps (157 + i) = some (.pin i (bs i)) := fun i hi => by
  simp only [List.mem_cons, List.not_mem_nil, or_false] at hi
  rcases hi with rfl | rfl | rfl | rfl
  · exact h0
  · exact h1
  · exact h2
  · exact h3
section
variable {G : World → Prop} (hG : Lasting G)
include hG
set_option maxHeartbeats 16000000 in
set_option maxRecDepth 100000 in
theorem ev_leaf {f : List GNode} {ws : List GOut} {ns : List Int} {i : Nat} {n : GNode} (hl : f.length ≤ 40) (hn : f[i]? = some n) (hg : GoodN n) (hp : partsOf n.op = 0) (hB : numsBad ns = false) (hw : wordNeed n ws.length = false) (hv : ∀ v : Int, 0 ≤ v → v < 5 → usesN n v = true → v < ns.length) : EvC G f ws ns i (i + 1) := by
  have hil := (List.getElem?_eq_some_iff.1 hn).1
  have hn1 : f[i]! = n := by rw [getElem!_pos f i hil]; exact (List.getElem?_eq_some_iff.1 hn).2
  unfold EvC
  rw [evalP_leaf hn hp]
  show SndC _ _ _ _ _ (.tup [.bool _, tInt ((i : Int) + 1)]) _
  have hnb : ∀ j (hj : j < ns.length), 0 ≤ ns[j] ∧ ns[j] ≤ 1099511627776 := fun j hj => by
    unfold numsBad at hB
    have := List.any_eq_false.1 hB ns[j] (List.getElem_mem _)
    simp only [Bool.or_eq_true, decide_eq_true_eq] at this; omega
  obtain ⟨op, var, other, word, word2, num, coefs⟩ := n
  refine sndC_of_body tt_ok Try.func33 rfl rfl (n := 157) rfl (tm := []) (rs := [.tmp 6, .tmp 7]) rfl rfl rfl [0, 1, 2, 3] ev_pins ev_pins2 fun bs => ?_
  show SW Try.prog G _ _ ⟨157, [(0, .t (tNat i)), (1, .bptr 0 0), (2, .bptr 1 0), (3, .bptr 2 0), (4, .bptr 3 0), (157, .pin 0 (bs 0)), (158, .pin 1 (bs 1)), (159, .pin 2 (bs 2)), (160, .pin 3 (bs 3))], [.box [.t (tForm f)], .box [.t (tInts ns)], .box [.t (tOutL ws)], .box [.fn 33 [.bptr 0 0, .bptr 1 0, .bptr 2 0, .bptr 3 0]]]⟩
  unfold tForm tOutL
  have htb : Tab.ok Try.prog G [] := Tab.nil
  unfold GoodN at hg
  simp only at hg
  rcases hg with ⟨ho, rfl, rfl, rfl, rfl, h1, h2, h3, h4⟩ | ⟨rfl, h1, rfl, h2, rfl, h3, h4, rfl⟩ | ⟨rfl, h1, h2, h3, h4, rfl, rfl⟩ | ⟨ho, h1, rfl, rfl, rfl, rfl, rfl⟩ | ⟨ho, rfl, rfl, rfl, rfl, rfl, rfl⟩
  · have hus : ∀ j, j < coefs.length → coefs.getD j 0 ≠ 0 → j < ns.length := fun j hj hc => by
      have := hv j (by omega) (by have := h4.1; omega) (by unfold usesN; rw [if_pos ho]; simp only [Int.toNat_natCast]; rw [decide_eq_true (by omega), decide_eq_true hc]; rfl)
      omega
    have hl5 : coefs.length ≤ 5 := h4.1
    rcases ho with rfl | rfl
    · repeat' (first | (with_reducible first | refine SW_seq ?_ | refine SW_block ?_ | refine SThen_n ?_ | refine SThen_r ?_ | refine SThen_e ?_ | refine SIn_n ?_ | refine SIn_r ?_ | refine SIn_eq ?_ | refine SW_skip ?_ | refine SW_exit ?_ | refine SW_ret ?_ | refine SPost_r ?_) | ((with_reducible refine SIn_ne ?_ ?_); focus decide) | ((with_reducible refine SW_true ?_ ?_); focus exact rfl) | ((with_reducible refine SW_false ?_ ?_); focus exact rfl) | ((first | (with_reducible apply SW_run tt_ok hG htb) | ((with_reducible apply SW_draw rfl tt_ok hG htb); (focus kernel_rfl); (focus (simp only [List.range, List.range.loop, List.size_toArray, List.length_cons, List.length_nil, Nat.reduceAdd])))); focus ((repeat' (first | (with_reducible exact runX_nil) | (with_reducible exact runI_nil) | ((first | (with_reducible apply runX_cons) | (with_reducible apply runI_cons)); focus (simp (discharger := omega) only [go_sem, hn1, tNode, simprocAttr]; with_reducible rfl)))); done)))
      refine SW_loop (fun mm s => ∃ (j : Nat) (q : Int), mm = coefs.length - j ∧ s = ⟨157, [(157, .pin 0 (bs 0)), (158, .pin 1 (bs 1)), (159, .pin 2 (bs 2)), (160, .pin 3 (bs 3)), (0, .t (tNat i)), (2, .bptr 1 0), (8, .bptr 4 0), (9, .t (tInt q)), (32, .t (tInts coefs)), (33, .t (tInt coefs.length)), (34, .t (tNat j))], [.box [.t (.list (f.map tNode))], .box [.t (tInts ns)], .box [.t (.list (ws.map tOut))], .box [.fn 33 [.bptr 0 0, .bptr 1 0, .bptr 2 0, .bptr 3 0]], .box [.t (tInt 1), .t (tInt 0), .t (tInt 0), .t (tInt 0), .t (tInt 0), .t (tInt num), .t (tInts coefs)]]⟩ ∧ j ≤ coefs.length ∧ q = num + dotN coefs (fun v => ns.getD v 0) j) coefs.length
        ⟨_, Norm.headS (own := []) (keep := [157, 158, 159, 160, 0, 2, 8, 9, 32, 33, 34]) (by refine ⟨?_, ?_⟩; (simp (discharger := omega) only [go_sem, simprocAttr]; with_reducible rfl); refine ⟨?_, ?_, ?_, ?_⟩ <;> (simp only [go_sem, simprocAttr]; with_reducible rfl)), 0, _, rfl, rfl, Nat.zero_le _, (Int.add_zero num).symm⟩ ?_
      rintro mm s ⟨j, q, rfl, rfl, hj, hq⟩
      have hbd := dotN_num (coefs := coefs) (nums := ns) h1 hnb (i := j) hj
      by_cases hlt : j < coefs.length
      · obtain ⟨c, hc⟩ : ∃ c, coefs[j]! = c := ⟨_, rfl⟩
        have hcD : coefs.getD j 0 = c := bang_D hc hlt
        have hge := absN_ge coefs hlt
        rw [hcD] at hge
        unfold sizeA at h1
        by_cases h0 : c = 0
        · repeat' (first | (with_reducible first | refine SW_seq ?_ | refine SW_block ?_ | refine SThen_n ?_ | refine SThen_r ?_ | refine SThen_e ?_ | refine SIn_n ?_ | refine SIn_r ?_ | refine SIn_eq ?_ | refine SW_skip ?_ | refine SW_exit ?_ | refine SW_ret ?_ | refine SPost_r ?_) | ((with_reducible refine SIn_ne ?_ ?_); focus decide) | ((with_reducible refine SW_true ?_ ?_); focus exact rfl) | ((with_reducible refine SW_false ?_ ?_); focus exact rfl) | ((first | (with_reducible apply SW_run tt_ok hG htb) | ((with_reducible apply SW_draw rfl tt_ok hG htb); (focus kernel_rfl); (focus (simp only [List.range, List.range.loop, List.size_toArray, List.length_cons, List.length_nil, Nat.reduceAdd])))); focus ((repeat' (first | (with_reducible exact runX_nil) | (with_reducible exact runI_nil) | ((first | (with_reducible apply runX_cons) | (with_reducible apply runI_cons)); focus (simp (discharger := omega) only [go_sem, hc, h0, simprocAttr]; with_reducible rfl)))); done)))
          exact ⟨coefs.length - (j + 1), _, by omega, Norm.headS (own := []) (keep := [157, 158, 159, 160, 0, 2, 8, 9, 32, 33, 34]) (by refine ⟨?_, ?_⟩; (simp (discharger := omega) only [go_sem, simprocAttr]; with_reducible rfl); refine ⟨?_, ?_, ?_, ?_⟩ <;> (simp only [go_sem, simprocAttr]; with_reducible rfl)), j + 1, q, rfl, rfl, by omega, by rw [dotN, hcD, h0, Int.zero_mul, Int.add_zero]; exact hq⟩
        · have hjn := hus j hlt (by rw [hcD]; exact h0)
          obtain ⟨y, hy⟩ : ∃ y, ns[j]! = y := ⟨_, rfl⟩
          have hyb := hnb j hjn
          rw [bang_at hy hjn] at hyb
          have hyx : -13194139533312 ≤ c * y ∧ c * y ≤ 13194139533312 := by
            have m1 : c * y ≤ 12 * y := Int.mul_le_mul_of_nonneg_right (by omega) (by omega)
            have m2 : (-12) * y ≤ c * y := Int.mul_le_mul_of_nonneg_right (by omega) (by omega)
            omega
          repeat' (first | (with_reducible first | refine SW_seq ?_ | refine SW_block ?_ | refine SThen_n ?_ | refine SThen_r ?_ | refine SThen_e ?_ | refine SIn_n ?_ | refine SIn_r ?_ | refine SIn_eq ?_ | refine SW_skip ?_ | refine SW_exit ?_ | refine SW_ret ?_ | refine SPost_r ?_) | ((with_reducible refine SIn_ne ?_ ?_); focus decide) | ((with_reducible refine SW_true ?_ ?_); focus exact rfl) | ((with_reducible refine SW_false ?_ ?_); focus exact rfl) | ((first | (with_reducible apply SW_run tt_ok hG htb) | ((with_reducible apply SW_draw rfl tt_ok hG htb); (focus kernel_rfl); (focus (simp only [List.range, List.range.loop, List.size_toArray, List.length_cons, List.length_nil, Nat.reduceAdd])))); focus ((repeat' (first | (with_reducible exact runX_nil) | (with_reducible exact runI_nil) | ((first | (with_reducible apply runX_cons) | (with_reducible apply runI_cons)); focus (simp (discharger := omega) only [go_sem, hc, h0, hy, simprocAttr]; with_reducible rfl)))); done)))
          exact ⟨coefs.length - (j + 1), _, by omega, Norm.headS (own := []) (keep := [157, 158, 159, 160, 0, 2, 8, 9, 32, 33, 34]) (by refine ⟨?_, ?_⟩; (simp (discharger := omega) only [go_sem, simprocAttr]; with_reducible rfl); refine ⟨?_, ?_, ?_, ?_⟩ <;> (simp only [go_sem, simprocAttr]; with_reducible rfl)), j + 1, q + c * y, rfl, rfl, by omega, by rw [dotN, hcD, bang_D hy hjn, ← Int.add_assoc, ← hq]⟩
      · obtain rfl : j = coefs.length := by omega
        have key : leafV ws ns ⟨1, 0, 0, 0, 0, num, coefs⟩ = decide (q = 0) := by
          unfold leafV lineSum
          simp only [if_true]
          rw [hq]
        rw [key]
        clear hq hbd key
        by_cases h0 : q = 0
        · rw [decide_eq_true h0]
          repeat' (first | (with_reducible first | refine SW_seq ?_ | refine SW_block ?_ | refine SThen_n ?_ | refine SThen_r ?_ | refine SThen_e ?_ | refine SIn_n ?_ | refine SIn_r ?_ | refine SIn_eq ?_ | refine SW_skip ?_ | refine SW_exit ?_ | refine SW_ret ?_ | refine SPost_r ?_) | ((with_reducible refine SIn_ne ?_ ?_); focus decide) | ((with_reducible refine SW_true ?_ ?_); focus exact rfl) | ((with_reducible refine SW_false ?_ ?_); focus exact rfl) | ((first | (with_reducible apply SW_run tt_ok hG htb) | ((with_reducible apply SW_draw rfl tt_ok hG htb); (focus kernel_rfl); (focus (simp only [List.range, List.range.loop, List.size_toArray, List.length_cons, List.length_nil, Nat.reduceAdd])))); focus ((repeat' (first | (with_reducible exact runX_nil) | (with_reducible exact runI_nil) | ((first | (with_reducible apply runX_cons) | (with_reducible apply runI_cons)); focus (simp (discharger := omega) only [go_sem, h0, simprocAttr]; with_reducible rfl)))); done)))
          refine SPostC_r ?_ (Norm.headS (own := []) (keep := [157, 158, 159, 160]) (by refine ⟨?_, ?_⟩; (simp (discharger := omega) only [go_sem, simprocAttr]; with_reducible rfl); refine ⟨?_, ?_, ?_, ?_⟩ <;> (simp only [go_sem, simprocAttr]; with_reducible rfl))) ?_ ?_
          · exact (by simp (discharger := omega) only [go_sem, simprocAttr])
          · rfl
          · exact four_pins rfl rfl rfl rfl
        · rw [decide_eq_false h0]
          repeat' (first | (with_reducible first | refine SW_seq ?_ | refine SW_block ?_ | refine SThen_n ?_ | refine SThen_r ?_ | refine SThen_e ?_ | refine SIn_n ?_ | refine SIn_r ?_ | refine SIn_eq ?_ | refine SW_skip ?_ | refine SW_exit ?_ | refine SW_ret ?_ | refine SPost_r ?_) | ((with_reducible refine SIn_ne ?_ ?_); focus decide) | ((with_reducible refine SW_true ?_ ?_); focus exact rfl) | ((with_reducible refine SW_false ?_ ?_); focus exact rfl) | ((first | (with_reducible apply SW_run tt_ok hG htb) | ((with_reducible apply SW_draw rfl tt_ok hG htb); (focus kernel_rfl); (focus (simp only [List.range, List.range.loop, List.size_toArray, List.length_cons, List.length_nil, Nat.reduceAdd])))); focus ((repeat' (first | (with_reducible exact runX_nil) | (with_reducible exact runI_nil) | ((first | (with_reducible apply runX_cons) | (with_reducible apply runI_cons)); focus (simp (discharger := omega) only [go_sem, h0, simprocAttr]; with_reducible rfl)))); done)))
          refine SPostC_r ?_ (Norm.headS (own := []) (keep := [157, 158, 159, 160]) (by refine ⟨?_, ?_⟩; (simp (discharger := omega) only [go_sem, simprocAttr]; with_reducible rfl); refine ⟨?_, ?_, ?_, ?_⟩ <;> (simp only [go_sem, simprocAttr]; with_reducible rfl))) ?_ ?_
          · exact (by simp (discharger := omega) only [go_sem, simprocAttr])
          · rfl
          · exact four_pins rfl rfl rfl rfl
    · repeat' (first | (with_reducible first | refine SW_seq ?_ | refine SW_block ?_ | refine SThen_n ?_ | refine SThen_r ?_ | refine SThen_e ?_ | refine SIn_n ?_ | refine SIn_r ?_ | refine SIn_eq ?_ | refine SW_skip ?_ | refine SW_exit ?_ | refine SW_ret ?_ | refine SPost_r ?_) | ((with_reducible refine SIn_ne ?_ ?_); focus decide) | ((with_reducible refine SW_true ?_ ?_); focus exact rfl) | ((with_reducible refine SW_false ?_ ?_); focus exact rfl) | ((first | (with_reducible apply SW_run tt_ok hG htb) | ((with_reducible apply SW_draw rfl tt_ok hG htb); (focus kernel_rfl); (focus (simp only [List.range, List.range.loop, List.size_toArray, List.length_cons, List.length_nil, Nat.reduceAdd])))); focus ((repeat' (first | (with_reducible exact runX_nil) | (with_reducible exact runI_nil) | ((first | (with_reducible apply runX_cons) | (with_reducible apply runI_cons)); focus (simp (discharger := omega) only [go_sem, hn1, tNode, simprocAttr]; with_reducible rfl)))); done)))
      refine SW_loop (fun mm s => ∃ (j : Nat) (q : Int), mm = coefs.length - j ∧ s = ⟨157, [(157, .pin 0 (bs 0)), (158, .pin 1 (bs 1)), (159, .pin 2 (bs 2)), (160, .pin 3 (bs 3)), (0, .t (tNat i)), (2, .bptr 1 0), (8, .bptr 4 0), (9, .t (tInt q)), (32, .t (tInts coefs)), (33, .t (tInt coefs.length)), (34, .t (tNat j))], [.box [.t (.list (f.map tNode))], .box [.t (tInts ns)], .box [.t (.list (ws.map tOut))], .box [.fn 33 [.bptr 0 0, .bptr 1 0, .bptr 2 0, .bptr 3 0]], .box [.t (tInt 2), .t (tInt 0), .t (tInt 0), .t (tInt 0), .t (tInt 0), .t (tInt num), .t (tInts coefs)]]⟩ ∧ j ≤ coefs.length ∧ q = num + dotN coefs (fun v => ns.getD v 0) j) coefs.length
        ⟨_, Norm.headS (own := []) (keep := [157, 158, 159, 160, 0, 2, 8, 9, 32, 33, 34]) (by refine ⟨?_, ?_⟩; (simp (discharger := omega) only [go_sem, simprocAttr]; with_reducible rfl); refine ⟨?_, ?_, ?_, ?_⟩ <;> (simp only [go_sem, simprocAttr]; with_reducible rfl)), 0, _, rfl, rfl, Nat.zero_le _, (Int.add_zero num).symm⟩ ?_
      rintro mm s ⟨j, q, rfl, rfl, hj, hq⟩
      have hbd := dotN_num (coefs := coefs) (nums := ns) h1 hnb (i := j) hj
      by_cases hlt : j < coefs.length
      · obtain ⟨c, hc⟩ : ∃ c, coefs[j]! = c := ⟨_, rfl⟩
        have hcD : coefs.getD j 0 = c := bang_D hc hlt
        have hge := absN_ge coefs hlt
        rw [hcD] at hge
        unfold sizeA at h1
        by_cases h0 : c = 0
        · repeat' (first | (with_reducible first | refine SW_seq ?_ | refine SW_block ?_ | refine SThen_n ?_ | refine SThen_r ?_ | refine SThen_e ?_ | refine SIn_n ?_ | refine SIn_r ?_ | refine SIn_eq ?_ | refine SW_skip ?_ | refine SW_exit ?_ | refine SW_ret ?_ | refine SPost_r ?_) | ((with_reducible refine SIn_ne ?_ ?_); focus decide) | ((with_reducible refine SW_true ?_ ?_); focus exact rfl) | ((with_reducible refine SW_false ?_ ?_); focus exact rfl) | ((first | (with_reducible apply SW_run tt_ok hG htb) | ((with_reducible apply SW_draw rfl tt_ok hG htb); (focus kernel_rfl); (focus (simp only [List.range, List.range.loop, List.size_toArray, List.length_cons, List.length_nil, Nat.reduceAdd])))); focus ((repeat' (first | (with_reducible exact runX_nil) | (with_reducible exact runI_nil) | ((first | (with_reducible apply runX_cons) | (with_reducible apply runI_cons)); focus (simp (discharger := omega) only [go_sem, hc, h0, simprocAttr]; with_reducible rfl)))); done)))
          exact ⟨coefs.length - (j + 1), _, by omega, Norm.headS (own := []) (keep := [157, 158, 159, 160, 0, 2, 8, 9, 32, 33, 34]) (by refine ⟨?_, ?_⟩; (simp (discharger := omega) only [go_sem, simprocAttr]; with_reducible rfl); refine ⟨?_, ?_, ?_, ?_⟩ <;> (simp only [go_sem, simprocAttr]; with_reducible rfl)), j + 1, q, rfl, rfl, by omega, by rw [dotN, hcD, h0, Int.zero_mul, Int.add_zero]; exact hq⟩
        · have hjn := hus j hlt (by rw [hcD]; exact h0)
          obtain ⟨y, hy⟩ : ∃ y, ns[j]! = y := ⟨_, rfl⟩
          have hyb := hnb j hjn
          rw [bang_at hy hjn] at hyb
          have hyx : -13194139533312 ≤ c * y ∧ c * y ≤ 13194139533312 := by
            have m1 : c * y ≤ 12 * y := Int.mul_le_mul_of_nonneg_right (by omega) (by omega)
            have m2 : (-12) * y ≤ c * y := Int.mul_le_mul_of_nonneg_right (by omega) (by omega)
            omega
          repeat' (first | (with_reducible first | refine SW_seq ?_ | refine SW_block ?_ | refine SThen_n ?_ | refine SThen_r ?_ | refine SThen_e ?_ | refine SIn_n ?_ | refine SIn_r ?_ | refine SIn_eq ?_ | refine SW_skip ?_ | refine SW_exit ?_ | refine SW_ret ?_ | refine SPost_r ?_) | ((with_reducible refine SIn_ne ?_ ?_); focus decide) | ((with_reducible refine SW_true ?_ ?_); focus exact rfl) | ((with_reducible refine SW_false ?_ ?_); focus exact rfl) | ((first | (with_reducible apply SW_run tt_ok hG htb) | ((with_reducible apply SW_draw rfl tt_ok hG htb); (focus kernel_rfl); (focus (simp only [List.range, List.range.loop, List.size_toArray, List.length_cons, List.length_nil, Nat.reduceAdd])))); focus ((repeat' (first | (with_reducible exact runX_nil) | (with_reducible exact runI_nil) | ((first | (with_reducible apply runX_cons) | (with_reducible apply runI_cons)); focus (simp (discharger := omega) only [go_sem, hc, h0, hy, simprocAttr]; with_reducible rfl)))); done)))
          exact ⟨coefs.length - (j + 1), _, by omega, Norm.headS (own := []) (keep := [157, 158, 159, 160, 0, 2, 8, 9, 32, 33, 34]) (by refine ⟨?_, ?_⟩; (simp (discharger := omega) only [go_sem, simprocAttr]; with_reducible rfl); refine ⟨?_, ?_, ?_, ?_⟩ <;> (simp only [go_sem, simprocAttr]; with_reducible rfl)), j + 1, q + c * y, rfl, rfl, by omega, by rw [dotN, hcD, bang_D hy hjn, ← Int.add_assoc, ← hq]⟩
      · obtain rfl : j = coefs.length := by omega
        have key : leafV ws ns ⟨2, 0, 0, 0, 0, num, coefs⟩ = decide (q < 0) := by
          unfold leafV lineSum
          simp only [show ((2 : Int) = 1) = False by decide, if_false, if_true]
          rw [hq]
        rw [key]
        clear hq hbd key
        by_cases h0 : q < 0
        · rw [decide_eq_true h0]
          repeat' (first | (with_reducible first | refine SW_seq ?_ | refine SW_block ?_ | refine SThen_n ?_ | refine SThen_r ?_ | refine SThen_e ?_ | refine SIn_n ?_ | refine SIn_r ?_ | refine SIn_eq ?_ | refine SW_skip ?_ | refine SW_exit ?_ | refine SW_ret ?_ | refine SPost_r ?_) | ((with_reducible refine SIn_ne ?_ ?_); focus decide) | ((with_reducible refine SW_true ?_ ?_); focus exact rfl) | ((with_reducible refine SW_false ?_ ?_); focus exact rfl) | ((first | (with_reducible apply SW_run tt_ok hG htb) | ((with_reducible apply SW_draw rfl tt_ok hG htb); (focus kernel_rfl); (focus (simp only [List.range, List.range.loop, List.size_toArray, List.length_cons, List.length_nil, Nat.reduceAdd])))); focus ((repeat' (first | (with_reducible exact runX_nil) | (with_reducible exact runI_nil) | ((first | (with_reducible apply runX_cons) | (with_reducible apply runI_cons)); focus (simp (discharger := omega) only [go_sem, h0, simprocAttr]; with_reducible rfl)))); done)))
          refine SPostC_r ?_ (Norm.headS (own := []) (keep := [157, 158, 159, 160]) (by refine ⟨?_, ?_⟩; (simp (discharger := omega) only [go_sem, simprocAttr]; with_reducible rfl); refine ⟨?_, ?_, ?_, ?_⟩ <;> (simp only [go_sem, simprocAttr]; with_reducible rfl))) ?_ ?_
          · exact (by simp (discharger := omega) only [go_sem, simprocAttr])
          · rfl
          · exact four_pins rfl rfl rfl rfl
        · rw [decide_eq_false h0]
          repeat' (first | (with_reducible first | refine SW_seq ?_ | refine SW_block ?_ | refine SThen_n ?_ | refine SThen_r ?_ | refine SThen_e ?_ | refine SIn_n ?_ | refine SIn_r ?_ | refine SIn_eq ?_ | refine SW_skip ?_ | refine SW_exit ?_ | refine SW_ret ?_ | refine SPost_r ?_) | ((with_reducible refine SIn_ne ?_ ?_); focus decide) | ((with_reducible refine SW_true ?_ ?_); focus exact rfl) | ((with_reducible refine SW_false ?_ ?_); focus exact rfl) | ((first | (with_reducible apply SW_run tt_ok hG htb) | ((with_reducible apply SW_draw rfl tt_ok hG htb); (focus kernel_rfl); (focus (simp only [List.range, List.range.loop, List.size_toArray, List.length_cons, List.length_nil, Nat.reduceAdd])))); focus ((repeat' (first | (with_reducible exact runX_nil) | (with_reducible exact runI_nil) | ((first | (with_reducible apply runX_cons) | (with_reducible apply runI_cons)); focus (simp (discharger := omega) only [go_sem, h0, simprocAttr]; with_reducible rfl)))); done)))
          refine SPostC_r ?_ (Norm.headS (own := []) (keep := [157, 158, 159, 160]) (by refine ⟨?_, ?_⟩; (simp (discharger := omega) only [go_sem, simprocAttr]; with_reducible rfl); refine ⟨?_, ?_, ?_, ?_⟩ <;> (simp only [go_sem, simprocAttr]; with_reducible rfl))) ?_ ?_
          · exact (by simp (discharger := omega) only [go_sem, simprocAttr])
          · rfl
          · exact four_pins rfl rfl rfl rfl
  · have hwl : word.toNat < ws.length := by
      simp [wordNeed] at hw; omega
    have hvl : var.toNat < ns.length := by
      have := hv var h1.1 h1.2 (by simp [usesN])
      omega
    obtain ⟨g, hgE⟩ : ∃ g, ws[word.toNat]! = g := ⟨_, rfl⟩
    obtain ⟨x, hx⟩ : ∃ x, ns[var.toNat]! = x := ⟨_, rfl⟩
    have hA : wordAt ws ns word var = atOf g x := by unfold wordAt; rw [bang_D hgE hwl, bang_D hx hvl]
    have c1 := At_snd hG g x
    generalize atOf g x = a at *
    generalize atErr g x = e at *
    have key : leafV ws ns ⟨3, var, 0, word, 0, num, []⟩ = decide (a = num) := by simp [leafV, hA]
    rw [key]
    clear htb
    have htb := Tab.cons c1 Tab.nil
    by_cases h0 : a = num
    · rw [decide_eq_true h0]
      subst h0
      repeat' (first | (with_reducible first | refine SW_seq ?_ | refine SW_block ?_ | refine SThen_n ?_ | refine SThen_r ?_ | refine SThen_e ?_ | refine SIn_n ?_ | refine SIn_r ?_ | refine SIn_eq ?_ | refine SW_skip ?_ | refine SW_exit ?_ | refine SW_ret ?_ | refine SPost_r ?_) | ((with_reducible refine SIn_ne ?_ ?_); focus decide) | ((with_reducible refine SW_true ?_ ?_); focus exact rfl) | ((with_reducible refine SW_false ?_ ?_); focus exact rfl) | ((first | (with_reducible apply SW_run tt_ok hG htb) | ((with_reducible apply SW_draw rfl tt_ok hG htb); (focus kernel_rfl); (focus (simp only [List.range, List.range.loop, List.size_toArray, List.length_cons, List.length_nil, Nat.reduceAdd])))); focus ((repeat' (first | (with_reducible exact runX_nil) | (with_reducible exact runI_nil) | ((first | (with_reducible apply runX_cons) | (with_reducible apply runI_cons)); focus (simp (discharger := omega) only [go_sem, hn1, tNode, hgE, hx, tOut, tErr_flat, simprocAttr]; with_reducible rfl)))); done)))
      refine SPostC_r ?_ (Norm.headS (own := []) (keep := [157, 158, 159, 160]) (by refine ⟨?_, ?_⟩; (simp (discharger := omega) only [go_sem, simprocAttr]; with_reducible rfl); refine ⟨?_, ?_, ?_, ?_⟩ <;> (simp only [go_sem, simprocAttr]; with_reducible rfl))) ?_ ?_
      · exact (by simp (discharger := omega) only [go_sem, simprocAttr])
      · rfl
      · exact four_pins rfl rfl rfl rfl
    · rw [decide_eq_false h0]
      repeat' (first | (with_reducible first | refine SW_seq ?_ | refine SW_block ?_ | refine SThen_n ?_ | refine SThen_r ?_ | refine SThen_e ?_ | refine SIn_n ?_ | refine SIn_r ?_ | refine SIn_eq ?_ | refine SW_skip ?_ | refine SW_exit ?_ | refine SW_ret ?_ | refine SPost_r ?_) | ((with_reducible refine SIn_ne ?_ ?_); focus decide) | ((with_reducible refine SW_true ?_ ?_); focus exact rfl) | ((with_reducible refine SW_false ?_ ?_); focus exact rfl) | ((first | (with_reducible apply SW_run tt_ok hG htb) | ((with_reducible apply SW_draw rfl tt_ok hG htb); (focus kernel_rfl); (focus (simp only [List.range, List.range.loop, List.size_toArray, List.length_cons, List.length_nil, Nat.reduceAdd])))); focus ((repeat' (first | (with_reducible exact runX_nil) | (with_reducible exact runI_nil) | ((first | (with_reducible apply runX_cons) | (with_reducible apply runI_cons)); focus (simp (discharger := omega) only [go_sem, hn1, tNode, hgE, hx, tOut, tErr_flat, h0, simprocAttr]; with_reducible rfl)))); done)))
      refine SPostC_r ?_ (Norm.headS (own := []) (keep := [157, 158, 159, 160]) (by refine ⟨?_, ?_⟩; (simp (discharger := omega) only [go_sem, simprocAttr]; with_reducible rfl); refine ⟨?_, ?_, ?_, ?_⟩ <;> (simp only [go_sem, simprocAttr]; with_reducible rfl))) ?_ ?_
      · exact (by simp (discharger := omega) only [go_sem, simprocAttr])
      · rfl
      · exact four_pins rfl rfl rfl rfl
  · have hw2 : word.toNat < ws.length ∧ word2.toNat < ws.length := by
      simp [wordNeed] at hw; omega
    have hvl : var.toNat < ns.length := by
      have := hv var h1.1 h1.2 (by simp [usesN])
      omega
    have hol : other.toNat < ns.length := by
      have := hv other h2.1 h2.2 (by simp [usesN])
      omega
    obtain ⟨g, hgE⟩ : ∃ g, ws[word.toNat]! = g := ⟨_, rfl⟩
    obtain ⟨x, hx⟩ : ∃ x, ns[var.toNat]! = x := ⟨_, rfl⟩
    obtain ⟨g2, hgE2⟩ : ∃ g, ws[word2.toNat]! = g := ⟨_, rfl⟩
    obtain ⟨x2, hx2⟩ : ∃ x, ns[other.toNat]! = x := ⟨_, rfl⟩
    have hA : wordAt ws ns word var = atOf g x := by unfold wordAt; rw [bang_D hgE hw2.1, bang_D hx hvl]
    have hA2 : wordAt ws ns word2 other = atOf g2 x2 := by unfold wordAt; rw [bang_D hgE2 hw2.2, bang_D hx2 hol]
    have c1 := At_snd hG g x
    have c2 := At_snd hG g2 x2
    generalize atOf g x = a at *
    generalize atErr g x = e at *
    generalize atOf g2 x2 = a2 at *
    generalize atErr g2 x2 = e2 at *
    have key : leafV ws ns ⟨4, var, other, word, word2, 0, []⟩ = decide (a = a2) := by simp [leafV, hA, hA2]
    rw [key]
    clear htb
    have htb := Tab.cons c1 Tab.nil
    repeat' (first | (with_reducible first | refine SW_seq ?_ | refine SW_block ?_ | refine SThen_n ?_ | refine SThen_r ?_ | refine SThen_e ?_ | refine SIn_n ?_ | refine SIn_r ?_ | refine SIn_eq ?_ | refine SW_skip ?_ | refine SW_exit ?_ | refine SW_ret ?_ | refine SPost_r ?_) | ((with_reducible refine SIn_ne ?_ ?_); focus decide) | ((with_reducible refine SW_true ?_ ?_); focus exact rfl) | ((with_reducible refine SW_false ?_ ?_); focus exact rfl) | ((first | (with_reducible apply SW_run tt_ok hG htb) | ((with_reducible apply SW_draw rfl tt_ok hG htb); (focus kernel_rfl); (focus (simp only [List.range, List.range.loop, List.size_toArray, List.length_cons, List.length_nil, Nat.reduceAdd])))); focus ((repeat' (first | (with_reducible exact runX_nil) | (with_reducible exact runI_nil) | ((first | (with_reducible apply runX_cons) | (with_reducible apply runI_cons)); focus (simp (discharger := omega) only [go_sem, hn1, tNode, hgE, hx, tOut, tErr_flat, simprocAttr]; with_reducible rfl)))); done)))
    clear htb
    have htb := Tab.cons c2 Tab.nil
    repeat' (first | (with_reducible first | refine SW_seq ?_ | refine SW_block ?_ | refine SThen_n ?_ | refine SThen_r ?_ | refine SThen_e ?_ | refine SIn_n ?_ | refine SIn_r ?_ | refine SIn_eq ?_ | refine SW_skip ?_ | refine SW_exit ?_ | refine SW_ret ?_ | refine SPost_r ?_) | ((with_reducible refine SIn_ne ?_ ?_); focus decide) | ((with_reducible refine SW_true ?_ ?_); focus exact rfl) | ((with_reducible refine SW_false ?_ ?_); focus exact rfl) | ((first | (with_reducible apply SW_run tt_ok hG htb) | ((with_reducible apply SW_draw rfl tt_ok hG htb); (focus kernel_rfl); (focus (simp only [List.range, List.range.loop, List.size_toArray, List.length_cons, List.length_nil, Nat.reduceAdd])))); focus ((repeat' (first | (with_reducible exact runX_nil) | (with_reducible exact runI_nil) | ((first | (with_reducible apply runX_cons) | (with_reducible apply runI_cons)); focus (simp (discharger := omega) only [go_sem, hgE2, hx2, tOut, tErr_flat, simprocAttr]; with_reducible rfl)))); done)))
    by_cases h0 : a = a2
    · rw [decide_eq_true h0]
      subst h0
      repeat' (first | (with_reducible first | refine SW_seq ?_ | refine SW_block ?_ | refine SThen_n ?_ | refine SThen_r ?_ | refine SThen_e ?_ | refine SIn_n ?_ | refine SIn_r ?_ | refine SIn_eq ?_ | refine SW_skip ?_ | refine SW_exit ?_ | refine SW_ret ?_ | refine SPost_r ?_) | ((with_reducible refine SIn_ne ?_ ?_); focus decide) | ((with_reducible refine SW_true ?_ ?_); focus exact rfl) | ((with_reducible refine SW_false ?_ ?_); focus exact rfl) | ((first | (with_reducible apply SW_run tt_ok hG htb) | ((with_reducible apply SW_draw rfl tt_ok hG htb); (focus kernel_rfl); (focus (simp only [List.range, List.range.loop, List.size_toArray, List.length_cons, List.length_nil, Nat.reduceAdd])))); focus ((repeat' (first | (with_reducible exact runX_nil) | (with_reducible exact runI_nil) | ((first | (with_reducible apply runX_cons) | (with_reducible apply runI_cons)); focus (simp (discharger := omega) only [go_sem, simprocAttr]; with_reducible rfl)))); done)))
      refine SPostC_r ?_ (Norm.headS (own := []) (keep := [157, 158, 159, 160]) (by refine ⟨?_, ?_⟩; (simp (discharger := omega) only [go_sem, simprocAttr]; with_reducible rfl); refine ⟨?_, ?_, ?_, ?_⟩ <;> (simp only [go_sem, simprocAttr]; with_reducible rfl))) ?_ ?_
      · exact (by simp (discharger := omega) only [go_sem, simprocAttr])
      · rfl
      · exact four_pins rfl rfl rfl rfl
    · rw [decide_eq_false h0]
      repeat' (first | (with_reducible first | refine SW_seq ?_ | refine SW_block ?_ | refine SThen_n ?_ | refine SThen_r ?_ | refine SThen_e ?_ | refine SIn_n ?_ | refine SIn_r ?_ | refine SIn_eq ?_ | refine SW_skip ?_ | refine SW_exit ?_ | refine SW_ret ?_ | refine SPost_r ?_) | ((with_reducible refine SIn_ne ?_ ?_); focus decide) | ((with_reducible refine SW_true ?_ ?_); focus exact rfl) | ((with_reducible refine SW_false ?_ ?_); focus exact rfl) | ((first | (with_reducible apply SW_run tt_ok hG htb) | ((with_reducible apply SW_draw rfl tt_ok hG htb); (focus kernel_rfl); (focus (simp only [List.range, List.range.loop, List.size_toArray, List.length_cons, List.length_nil, Nat.reduceAdd])))); focus ((repeat' (first | (with_reducible exact runX_nil) | (with_reducible exact runI_nil) | ((first | (with_reducible apply runX_cons) | (with_reducible apply runI_cons)); focus (simp (discharger := omega) only [go_sem, h0, simprocAttr]; with_reducible rfl)))); done)))
      refine SPostC_r ?_ (Norm.headS (own := []) (keep := [157, 158, 159, 160]) (by refine ⟨?_, ?_⟩; (simp (discharger := omega) only [go_sem, simprocAttr]; with_reducible rfl); refine ⟨?_, ?_, ?_, ?_⟩ <;> (simp only [go_sem, simprocAttr]; with_reducible rfl))) ?_ ?_
      · exact (by simp (discharger := omega) only [go_sem, simprocAttr])
      · rfl
      · exact four_pins rfl rfl rfl rfl
  · rcases ho with rfl | rfl <;> exact absurd hp (by simp [partsOf])
  · rcases ho with rfl | rfl | rfl <;> exact absurd hp (by simp [partsOf])
set_option maxHeartbeats 16000000 in
set_option maxRecDepth 100000 in
theorem ev_one {f : List GNode} {ws : List GOut} {ns : List Int} {i e : Nat} {n : GNode} (hl : f.length ≤ 40) (hn : f[i]? = some n) (ho : n.op = 5) (hq : Part f (i + 1) e) (h1 : EvC G f ws ns (i + 1) e) : EvC G f ws ns i e := by
  have hil := (List.getElem?_eq_some_iff.1 hn).1
  have hn1 : f[i]! = n := by rw [getElem!_pos f i hil]; exact (List.getElem?_eq_some_iff.1 hn).2
  unfold EvC
  rw [evalP_one hn (by rw [ho]; rfl) hq]
  unfold EvC at h1
  have hlt := hq.lt
  generalize evalP f ws ns (i + 1) = b at *
  obtain ⟨op, var, other, word, word2, num, coefs⟩ := n
  simp only at ho
  subst ho
  refine sndC_of_body tt_ok Try.func33 rfl rfl (n := 157) rfl (tm := []) (rs := [.tmp 6, .tmp 7]) rfl rfl rfl [0, 1, 2, 3] ev_pins ev_pins2 fun bs => ?_
  show SW Try.prog G _ _ ⟨157, [(0, .t (tNat i)), (1, .bptr 0 0), (2, .bptr 1 0), (3, .bptr 2 0), (4, .bptr 3 0), (157, .pin 0 (bs 0)), (158, .pin 1 (bs 1)), (159, .pin 2 (bs 2)), (160, .pin 3 (bs 3))], [.box [.t (tForm f)], .box [.t (tInts ns)], .box [.t (tOutL ws)], .box [.fn 33 [.bptr 0 0, .bptr 1 0, .bptr 2 0, .bptr 3 0]]]⟩
  unfold tForm tOutL
  have htb : Tab.ok Try.prog G [] := Tab.nil
  repeat' (first | (with_reducible first | refine SW_seq ?_ | refine SW_block ?_ | refine SThen_n ?_ | refine SThen_r ?_ | refine SThen_e ?_ | refine SIn_n ?_ | refine SIn_r ?_ | refine SIn_eq ?_ | refine SW_skip ?_ | refine SW_exit ?_ | refine SW_ret ?_ | refine SPost_r ?_) | ((with_reducible refine SIn_ne ?_ ?_); focus decide) | ((with_reducible refine SW_true ?_ ?_); focus exact rfl) | ((with_reducible refine SW_false ?_ ?_); focus exact rfl) | ((first | (with_reducible apply SW_run tt_ok hG htb) | ((with_reducible apply SW_draw rfl tt_ok hG htb); (focus kernel_rfl); (focus (simp only [List.range, List.range.loop, List.size_toArray, List.length_cons, List.length_nil, Nat.reduceAdd])))); focus ((repeat' (first | (with_reducible exact runX_nil) | (with_reducible exact runI_nil) | ((first | (with_reducible apply runX_cons) | (with_reducible apply runI_cons)); focus (simp (discharger := omega) only [go_sem, hn1, tNode, simprocAttr]; with_reducible rfl)))); done)))
  refine SW_runCB tt_ok hG htb 3 rfl (by simp only [List.take_succ_cons, List.take_zero]; rfl) (by simp only [List.drop_succ_cons, List.drop_zero, Nat.reduceAdd]; rfl) (by (repeat' (first | (with_reducible exact runX_nil) | ((with_reducible apply runX_cons); focus (simp (discharger := omega) only [go_sem, simprocAttr]; with_reducible rfl))))) rfl rfl (g := 33) (cap := evCap) (obs := evObs f ws ns) (rst := ?zzr1) (r := ?zzt1) (s2 := ?zzs1) ?g11 ?g12 ?g13 ?g14 ev_boxes ?g15 ?g16 ?g17 ?g18 ?g19
  case g11 => rfl
  case g12 => rfl
  case g13 => rfl
  case g14 => rfl
  case g15 => exact h1
  case g16 => exact ev_ren f ws ns
  case g17 => exact ev_xren _
  case g18 => (repeat' (first | (with_reducible exact runX_nil) | ((with_reducible apply runX_cons); focus (simp (discharger := omega) only [go_sem, simprocAttr]; with_reducible rfl))))
  cases b
  · repeat' (first | (with_reducible first | refine SW_seq ?_ | refine SW_block ?_ | refine SThen_n ?_ | refine SThen_r ?_ | refine SThen_e ?_ | refine SIn_n ?_ | refine SIn_r ?_ | refine SIn_eq ?_ | refine SW_skip ?_ | refine SW_exit ?_ | refine SW_ret ?_ | refine SPost_r ?_) | ((with_reducible refine SIn_ne ?_ ?_); focus decide) | ((with_reducible refine SW_true ?_ ?_); focus exact rfl) | ((with_reducible refine SW_false ?_ ?_); focus exact rfl) | ((first | (with_reducible apply SW_run tt_ok hG htb) | ((with_reducible apply SW_draw rfl tt_ok hG htb); (focus kernel_rfl); (focus (simp only [List.range, List.range.loop, List.size_toArray, List.length_cons, List.length_nil, Nat.reduceAdd])))); focus ((repeat' (first | (with_reducible exact runX_nil) | (with_reducible exact runI_nil) | ((first | (with_reducible apply runX_cons) | (with_reducible apply runI_cons)); focus (simp (discharger := omega) only [go_sem, simprocAttr]; with_reducible rfl)))); done)))
    refine SPostC_r ?_ (Norm.headS (own := []) (keep := [157, 158, 159, 160]) (by refine ⟨?_, ?_⟩; (simp (discharger := omega) only [go_sem, simprocAttr]; with_reducible rfl); refine ⟨?_, ?_, ?_, ?_⟩ <;> (simp only [go_sem, simprocAttr]; with_reducible rfl))) ?_ ?_
    · exact (by simp (discharger := omega) only [go_sem, simprocAttr])
    · rfl
    · exact four_pins rfl rfl rfl rfl
  · repeat' (first | (with_reducible first | refine SW_seq ?_ | refine SW_block ?_ | refine SThen_n ?_ | refine SThen_r ?_ | refine SThen_e ?_ | refine SIn_n ?_ | refine SIn_r ?_ | refine SIn_eq ?_ | refine SW_skip ?_ | refine SW_exit ?_ | refine SW_ret ?_ | refine SPost_r ?_) | ((with_reducible refine SIn_ne ?_ ?_); focus decide) | ((with_reducible refine SW_true ?_ ?_); focus exact rfl) | ((with_reducible refine SW_false ?_ ?_); focus exact rfl) | ((first | (with_reducible apply SW_run tt_ok hG htb) | ((with_reducible apply SW_draw rfl tt_ok hG htb); (focus kernel_rfl); (focus (simp only [List.range, List.range.loop, List.size_toArray, List.length_cons, List.length_nil, Nat.reduceAdd])))); focus ((repeat' (first | (with_reducible exact runX_nil) | (with_reducible exact runI_nil) | ((first | (with_reducible apply runX_cons) | (with_reducible apply runI_cons)); focus (simp (discharger := omega) only [go_sem, simprocAttr]; with_reducible rfl)))); done)))
    refine SPostC_r ?_ (Norm.headS (own := []) (keep := [157, 158, 159, 160]) (by refine ⟨?_, ?_⟩; (simp (discharger := omega) only [go_sem, simprocAttr]; with_reducible rfl); refine ⟨?_, ?_, ?_, ?_⟩ <;> (simp only [go_sem, simprocAttr]; with_reducible rfl))) ?_ ?_
    · exact (by simp (discharger := omega) only [go_sem, simprocAttr])
    · rfl
    · exact four_pins rfl rfl rfl rfl
set_option maxHeartbeats 16000000 in
set_option maxRecDepth 100000 in
theorem ev_two {f : List GNode} {ws : List GOut} {ns : List Int} {i m e : Nat} {n : GNode} (hl : f.length ≤ 40) (hn : f[i]? = some n) (ho : n.op = 6 ∨ n.op = 7) (hq : Part f (i + 1) m) (hq2 : Part f m e) (h1 : EvC G f ws ns (i + 1) m) (h2 : EvC G f ws ns m e) : EvC G f ws ns i e := by
  have hil := (List.getElem?_eq_some_iff.1 hn).1
  have hn1 : f[i]! = n := by rw [getElem!_pos f i hil]; exact (List.getElem?_eq_some_iff.1 hn).2
  unfold EvC
  rw [evalP_two hn (by unfold partsOf; rw [if_neg (by omega), if_pos ho]) hq hq2]
  unfold EvC at h1 h2
  have hlt := hq.lt
  have hlt2 := hq2.lt
  generalize evalP f ws ns (i + 1) = b at *
  generalize evalP f ws ns m = d at *
  obtain ⟨op, var, other, word, word2, num, coefs⟩ := n
  simp only at ho ⊢
  rcases ho with rfl | rfl
  · refine sndC_of_body tt_ok Try.func33 rfl rfl (n := 157) rfl (tm := []) (rs := [.tmp 6, .tmp 7]) rfl rfl rfl [0, 1, 2, 3] ev_pins ev_pins2 fun bs => ?_
    show SW Try.prog G _ _ ⟨157, [(0, .t (tNat i)), (1, .bptr 0 0), (2, .bptr 1 0), (3, .bptr 2 0), (4, .bptr 3 0), (157, .pin 0 (bs 0)), (158, .pin 1 (bs 1)), (159, .pin 2 (bs 2)), (160, .pin 3 (bs 3))], [.box [.t (tForm f)], .box [.t (tInts ns)], .box [.t (tOutL ws)], .box [.fn 33 [.bptr 0 0, .bptr 1 0, .bptr 2 0, .bptr 3 0]]]⟩
    unfold tForm tOutL
    have htb : Tab.ok Try.prog G [] := Tab.nil
    repeat' (first | (with_reducible first | refine SW_seq ?_ | refine SW_block ?_ | refine SThen_n ?_ | refine SThen_r ?_ | refine SThen_e ?_ | refine SIn_n ?_ | refine SIn_r ?_ | refine SIn_eq ?_ | refine SW_skip ?_ | refine SW_exit ?_ | refine SW_ret ?_ | refine SPost_r ?_) | ((with_reducible refine SIn_ne ?_ ?_); focus decide) | ((with_reducible refine SW_true ?_ ?_); focus exact rfl) | ((with_reducible refine SW_false ?_ ?_); focus exact rfl) | ((first | (with_reducible apply SW_run tt_ok hG htb) | ((with_reducible apply SW_draw rfl tt_ok hG htb); (focus kernel_rfl); (focus (simp only [List.range, List.range.loop, List.size_toArray, List.length_cons, List.length_nil, Nat.reduceAdd])))); focus ((repeat' (first | (with_reducible exact runX_nil) | (with_reducible exact runI_nil) | ((first | (with_reducible apply runX_cons) | (with_reducible apply runI_cons)); focus (simp (discharger := omega) only [go_sem, hn1, tNode, simprocAttr]; with_reducible rfl)))); done)))
    refine SW_runCB tt_ok hG htb 3 rfl (by simp only [List.take_succ_cons, List.take_zero]; rfl) (by simp only [List.drop_succ_cons, List.drop_zero, Nat.reduceAdd]; rfl) (by (repeat' (first | (with_reducible exact runX_nil) | ((with_reducible apply runX_cons); focus (simp (discharger := omega) only [go_sem, simprocAttr]; with_reducible rfl))))) rfl rfl (g := 33) (cap := evCap) (obs := evObs f ws ns) (rst := ?zzr2) (r := ?zzt2) (s2 := ?zzs2) ?g21 ?g22 ?g23 ?g24 ev_boxes ?g25 ?g26 ?g27 ?g28 ?g29
    case g21 => rfl
    case g22 => rfl
    case g23 => rfl
    case g24 => rfl
    case g25 => exact h1
    case g26 => exact ev_ren f ws ns
    case g27 => exact ev_xren _
    case g28 => (repeat' (first | (with_reducible exact runX_nil) | ((with_reducible apply runX_cons); focus (simp (discharger := omega) only [go_sem, simprocAttr]; with_reducible rfl))))
    repeat' (first | (with_reducible first | refine SW_seq ?_ | refine SW_block ?_ | refine SThen_n ?_ | refine SThen_r ?_ | refine SThen_e ?_ | refine SIn_n ?_ | refine SIn_r ?_ | refine SIn_eq ?_ | refine SW_skip ?_ | refine SW_exit ?_ | refine SW_ret ?_ | refine SPost_r ?_) | ((with_reducible refine SIn_ne ?_ ?_); focus decide) | ((with_reducible refine SW_true ?_ ?_); focus exact rfl) | ((with_reducible refine SW_false ?_ ?_); focus exact rfl) | ((first | (with_reducible apply SW_run tt_ok hG htb) | ((with_reducible apply SW_draw rfl tt_ok hG htb); (focus kernel_rfl); (focus (simp only [List.range, List.range.loop, List.size_toArray, List.length_cons, List.length_nil, Nat.reduceAdd])))); focus ((repeat' (first | (with_reducible exact runX_nil) | (with_reducible exact runI_nil) | ((first | (with_reducible apply runX_cons) | (with_reducible apply runI_cons)); focus (simp (discharger := omega) only [go_sem, simprocAttr]; with_reducible rfl)))); done)))
    refine SW_norm (Norm.headS (own := []) (keep := [157, 158, 159, 160, 1, 2, 3, 4, 6, 7, 8]) (by refine ⟨?_, ?_⟩; (simp (discharger := omega) only [go_sem, simprocAttr]; with_reducible rfl); refine ⟨?_, ?_, ?_, ?_⟩ <;> (simp only [go_sem, simprocAttr]; with_reducible rfl))) ?_
    refine SW_runCB tt_ok hG htb 2 rfl (by simp only [List.take_succ_cons, List.take_zero]; rfl) (by simp only [List.drop_succ_cons, List.drop_zero, Nat.reduceAdd]; rfl) (by (repeat' (first | (with_reducible exact runX_nil) | ((with_reducible apply runX_cons); focus (simp (discharger := omega) only [go_sem, simprocAttr]; with_reducible rfl))))) rfl rfl (g := 33) (cap := evCap) (obs := evObs f ws ns) (rst := ?zzr3) (r := ?zzt3) (s2 := ?zzs3) ?g31 ?g32 ?g33 ?g34 ev_boxes ?g35 ?g36 ?g37 ?g38 ?g39
    case g31 => rfl
    case g32 => rfl
    case g33 => rfl
    case g34 => rfl
    case g35 => exact h2
    case g36 => exact ev_ren f ws ns
    case g37 => exact ev_xren _
    case g38 => (repeat' (first | (with_reducible exact runX_nil) | ((with_reducible apply runX_cons); focus (simp (discharger := omega) only [go_sem, simprocAttr]; with_reducible rfl))))
    rw [if_pos rfl]
    cases b <;> cases d
    · repeat' (first | (with_reducible first | refine SW_seq ?_ | refine SW_block ?_ | refine SThen_n ?_ | refine SThen_r ?_ | refine SThen_e ?_ | refine SIn_n ?_ | refine SIn_r ?_ | refine SIn_eq ?_ | refine SW_skip ?_ | refine SW_exit ?_ | refine SW_ret ?_ | refine SPost_r ?_) | ((with_reducible refine SIn_ne ?_ ?_); focus decide) | ((with_reducible refine SW_true ?_ ?_); focus exact rfl) | ((with_reducible refine SW_false ?_ ?_); focus exact rfl) | ((first | (with_reducible apply SW_run tt_ok hG htb) | ((with_reducible apply SW_draw rfl tt_ok hG htb); (focus kernel_rfl); (focus (simp only [List.range, List.range.loop, List.size_toArray, List.length_cons, List.length_nil, Nat.reduceAdd])))); focus ((repeat' (first | (with_reducible exact runX_nil) | (with_reducible exact runI_nil) | ((first | (with_reducible apply runX_cons) | (with_reducible apply runI_cons)); focus (simp (discharger := omega) only [go_sem, simprocAttr]; with_reducible rfl)))); done)))
      refine SPostC_r ?_ (Norm.headS (own := []) (keep := [157, 158, 159, 160]) (by refine ⟨?_, ?_⟩; (simp (discharger := omega) only [go_sem, simprocAttr]; with_reducible rfl); refine ⟨?_, ?_, ?_, ?_⟩ <;> (simp only [go_sem, simprocAttr]; with_reducible rfl))) ?_ ?_
      · exact (by simp (discharger := omega) only [go_sem, simprocAttr])
      · rfl
      · exact four_pins rfl rfl rfl rfl
    · repeat' (first | (with_reducible first | refine SW_seq ?_ | refine SW_block ?_ | refine SThen_n ?_ | refine SThen_r ?_ | refine SThen_e ?_ | refine SIn_n ?_ | refine SIn_r ?_ | refine SIn_eq ?_ | refine SW_skip ?_ | refine SW_exit ?_ | refine SW_ret ?_ | refine SPost_r ?_) | ((with_reducible refine SIn_ne ?_ ?_); focus decide) | ((with_reducible refine SW_true ?_ ?_); focus exact rfl) | ((with_reducible refine SW_false ?_ ?_); focus exact rfl) | ((first | (with_reducible apply SW_run tt_ok hG htb) | ((with_reducible apply SW_draw rfl tt_ok hG htb); (focus kernel_rfl); (focus (simp only [List.range, List.range.loop, List.size_toArray, List.length_cons, List.length_nil, Nat.reduceAdd])))); focus ((repeat' (first | (with_reducible exact runX_nil) | (with_reducible exact runI_nil) | ((first | (with_reducible apply runX_cons) | (with_reducible apply runI_cons)); focus (simp (discharger := omega) only [go_sem, simprocAttr]; with_reducible rfl)))); done)))
      refine SPostC_r ?_ (Norm.headS (own := []) (keep := [157, 158, 159, 160]) (by refine ⟨?_, ?_⟩; (simp (discharger := omega) only [go_sem, simprocAttr]; with_reducible rfl); refine ⟨?_, ?_, ?_, ?_⟩ <;> (simp only [go_sem, simprocAttr]; with_reducible rfl))) ?_ ?_
      · exact (by simp (discharger := omega) only [go_sem, simprocAttr])
      · rfl
      · exact four_pins rfl rfl rfl rfl
    · repeat' (first | (with_reducible first | refine SW_seq ?_ | refine SW_block ?_ | refine SThen_n ?_ | refine SThen_r ?_ | refine SThen_e ?_ | refine SIn_n ?_ | refine SIn_r ?_ | refine SIn_eq ?_ | refine SW_skip ?_ | refine SW_exit ?_ | refine SW_ret ?_ | refine SPost_r ?_) | ((with_reducible refine SIn_ne ?_ ?_); focus decide) | ((with_reducible refine SW_true ?_ ?_); focus exact rfl) | ((with_reducible refine SW_false ?_ ?_); focus exact rfl) | ((first | (with_reducible apply SW_run tt_ok hG htb) | ((with_reducible apply SW_draw rfl tt_ok hG htb); (focus kernel_rfl); (focus (simp only [List.range, List.range.loop, List.size_toArray, List.length_cons, List.length_nil, Nat.reduceAdd])))); focus ((repeat' (first | (with_reducible exact runX_nil) | (with_reducible exact runI_nil) | ((first | (with_reducible apply runX_cons) | (with_reducible apply runI_cons)); focus (simp (discharger := omega) only [go_sem, simprocAttr]; with_reducible rfl)))); done)))
      refine SPostC_r ?_ (Norm.headS (own := []) (keep := [157, 158, 159, 160]) (by refine ⟨?_, ?_⟩; (simp (discharger := omega) only [go_sem, simprocAttr]; with_reducible rfl); refine ⟨?_, ?_, ?_, ?_⟩ <;> (simp only [go_sem, simprocAttr]; with_reducible rfl))) ?_ ?_
      · exact (by simp (discharger := omega) only [go_sem, simprocAttr])
      · rfl
      · exact four_pins rfl rfl rfl rfl
    · repeat' (first | (with_reducible first | refine SW_seq ?_ | refine SW_block ?_ | refine SThen_n ?_ | refine SThen_r ?_ | refine SThen_e ?_ | refine SIn_n ?_ | refine SIn_r ?_ | refine SIn_eq ?_ | refine SW_skip ?_ | refine SW_exit ?_ | refine SW_ret ?_ | refine SPost_r ?_) | ((with_reducible refine SIn_ne ?_ ?_); focus decide) | ((with_reducible refine SW_true ?_ ?_); focus exact rfl) | ((with_reducible refine SW_false ?_ ?_); focus exact rfl) | ((first | (with_reducible apply SW_run tt_ok hG htb) | ((with_reducible apply SW_draw rfl tt_ok hG htb); (focus kernel_rfl); (focus (simp only [List.range, List.range.loop, List.size_toArray, List.length_cons, List.length_nil, Nat.reduceAdd])))); focus ((repeat' (first | (with_reducible exact runX_nil) | (with_reducible exact runI_nil) | ((first | (with_reducible apply runX_cons) | (with_reducible apply runI_cons)); focus (simp (discharger := omega) only [go_sem, simprocAttr]; with_reducible rfl)))); done)))
      refine SPostC_r ?_ (Norm.headS (own := []) (keep := [157, 158, 159, 160]) (by refine ⟨?_, ?_⟩; (simp (discharger := omega) only [go_sem, simprocAttr]; with_reducible rfl); refine ⟨?_, ?_, ?_, ?_⟩ <;> (simp only [go_sem, simprocAttr]; with_reducible rfl))) ?_ ?_
      · exact (by simp (discharger := omega) only [go_sem, simprocAttr])
      · rfl
      · exact four_pins rfl rfl rfl rfl
  · refine sndC_of_body tt_ok Try.func33 rfl rfl (n := 157) rfl (tm := []) (rs := [.tmp 6, .tmp 7]) rfl rfl rfl [0, 1, 2, 3] ev_pins ev_pins2 fun bs => ?_
    show SW Try.prog G _ _ ⟨157, [(0, .t (tNat i)), (1, .bptr 0 0), (2, .bptr 1 0), (3, .bptr 2 0), (4, .bptr 3 0), (157, .pin 0 (bs 0)), (158, .pin 1 (bs 1)), (159, .pin 2 (bs 2)), (160, .pin 3 (bs 3))], [.box [.t (tForm f)], .box [.t (tInts ns)], .box [.t (tOutL ws)], .box [.fn 33 [.bptr 0 0, .bptr 1 0, .bptr 2 0, .bptr 3 0]]]⟩
    unfold tForm tOutL
    have htb : Tab.ok Try.prog G [] := Tab.nil
    repeat' (first | (with_reducible first | refine SW_seq ?_ | refine SW_block ?_ | refine SThen_n ?_ | refine SThen_r ?_ | refine SThen_e ?_ | refine SIn_n ?_ | refine SIn_r ?_ | refine SIn_eq ?_ | refine SW_skip ?_ | refine SW_exit ?_ | refine SW_ret ?_ | refine SPost_r ?_) | ((with_reducible refine SIn_ne ?_ ?_); focus decide) | ((with_reducible refine SW_true ?_ ?_); focus exact rfl) | ((with_reducible refine SW_false ?_ ?_); focus exact rfl) | ((first | (with_reducible apply SW_run tt_ok hG htb) | ((with_reducible apply SW_draw rfl tt_ok hG htb); (focus kernel_rfl); (focus (simp only [List.range, List.range.loop, List.size_toArray, List.length_cons, List.length_nil, Nat.reduceAdd])))); focus ((repeat' (first | (with_reducible exact runX_nil) | (with_reducible exact runI_nil) | ((first | (with_reducible apply runX_cons) | (with_reducible apply runI_cons)); focus (simp (discharger := omega) only [go_sem, hn1, tNode, simprocAttr]; with_reducible rfl)))); done)))
    refine SW_runCB tt_ok hG htb 3 rfl (by simp only [List.take_succ_cons, List.take_zero]; rfl) (by simp only [List.drop_succ_cons, List.drop_zero, Nat.reduceAdd]; rfl) (by (repeat' (first | (with_reducible exact runX_nil) | ((with_reducible apply runX_cons); focus (simp (discharger := omega) only [go_sem, simprocAttr]; with_reducible rfl))))) rfl rfl (g := 33) (cap := evCap) (obs := evObs f ws ns) (rst := ?zzr4) (r := ?zzt4) (s2 := ?zzs4) ?g41 ?g42 ?g43 ?g44 ev_boxes ?g45 ?g46 ?g47 ?g48 ?g49
    case g41 => rfl
    case g42 => rfl
    case g43 => rfl
    case g44 => rfl
    case g45 => exact h1
    case g46 => exact ev_ren f ws ns
    case g47 => exact ev_xren _
    case g48 => (repeat' (first | (with_reducible exact runX_nil) | ((with_reducible apply runX_cons); focus (simp (discharger := omega) only [go_sem, simprocAttr]; with_reducible rfl))))
    repeat' (first | (with_reducible first | refine SW_seq ?_ | refine SW_block ?_ | refine SThen_n ?_ | refine SThen_r ?_ | refine SThen_e ?_ | refine SIn_n ?_ | refine SIn_r ?_ | refine SIn_eq ?_ | refine SW_skip ?_ | refine SW_exit ?_ | refine SW_ret ?_ | refine SPost_r ?_) | ((with_reducible refine SIn_ne ?_ ?_); focus decide) | ((with_reducible refine SW_true ?_ ?_); focus exact rfl) | ((with_reducible refine SW_false ?_ ?_); focus exact rfl) | ((first | (with_reducible apply SW_run tt_ok hG htb) | ((with_reducible apply SW_draw rfl tt_ok hG htb); (focus kernel_rfl); (focus (simp only [List.range, List.range.loop, List.size_toArray, List.length_cons, List.length_nil, Nat.reduceAdd])))); focus ((repeat' (first | (with_reducible exact runX_nil) | (with_reducible exact runI_nil) | ((first | (with_reducible apply runX_cons) | (with_reducible apply runI_cons)); focus (simp (discharger := omega) only [go_sem, simprocAttr]; with_reducible rfl)))); done)))
    refine SW_norm (Norm.headS (own := []) (keep := [157, 158, 159, 160, 1, 2, 3, 4, 6, 7, 8]) (by refine ⟨?_, ?_⟩; (simp (discharger := omega) only [go_sem, simprocAttr]; with_reducible rfl); refine ⟨?_, ?_, ?_, ?_⟩ <;> (simp only [go_sem, simprocAttr]; with_reducible rfl))) ?_
    refine SW_runCB tt_ok hG htb 2 rfl (by simp only [List.take_succ_cons, List.take_zero]; rfl) (by simp only [List.drop_succ_cons, List.drop_zero, Nat.reduceAdd]; rfl) (by (repeat' (first | (with_reducible exact runX_nil) | ((with_reducible apply runX_cons); focus (simp (discharger := omega) only [go_sem, simprocAttr]; with_reducible rfl))))) rfl rfl (g := 33) (cap := evCap) (obs := evObs f ws ns) (rst := ?zzr5) (r := ?zzt5) (s2 := ?zzs5) ?g51 ?g52 ?g53 ?g54 ev_boxes ?g55 ?g56 ?g57 ?g58 ?g59
    case g51 => rfl
    case g52 => rfl
    case g53 => rfl
    case g54 => rfl
    case g55 => exact h2
    case g56 => exact ev_ren f ws ns
    case g57 => exact ev_xren _
    case g58 => (repeat' (first | (with_reducible exact runX_nil) | ((with_reducible apply runX_cons); focus (simp (discharger := omega) only [go_sem, simprocAttr]; with_reducible rfl))))
    rw [if_neg (by decide)]
    cases b <;> cases d
    · repeat' (first | (with_reducible first | refine SW_seq ?_ | refine SW_block ?_ | refine SThen_n ?_ | refine SThen_r ?_ | refine SThen_e ?_ | refine SIn_n ?_ | refine SIn_r ?_ | refine SIn_eq ?_ | refine SW_skip ?_ | refine SW_exit ?_ | refine SW_ret ?_ | refine SPost_r ?_) | ((with_reducible refine SIn_ne ?_ ?_); focus decide) | ((with_reducible refine SW_true ?_ ?_); focus exact rfl) | ((with_reducible refine SW_false ?_ ?_); focus exact rfl) | ((first | (with_reducible apply SW_run tt_ok hG htb) | ((with_reducible apply SW_draw rfl tt_ok hG htb); (focus kernel_rfl); (focus (simp only [List.range, List.range.loop, List.size_toArray, List.length_cons, List.length_nil, Nat.reduceAdd])))); focus ((repeat' (first | (with_reducible exact runX_nil) | (with_reducible exact runI_nil) | ((first | (with_reducible apply runX_cons) | (with_reducible apply runI_cons)); focus (simp (discharger := omega) only [go_sem, simprocAttr]; with_reducible rfl)))); done)))
      refine SPostC_r ?_ (Norm.headS (own := []) (keep := [157, 158, 159, 160]) (by refine ⟨?_, ?_⟩; (simp (discharger := omega) only [go_sem, simprocAttr]; with_reducible rfl); refine ⟨?_, ?_, ?_, ?_⟩ <;> (simp only [go_sem, simprocAttr]; with_reducible rfl))) ?_ ?_
      · exact (by simp (discharger := omega) only [go_sem, simprocAttr])
      · rfl
      · exact four_pins rfl rfl rfl rfl
    · repeat' (first | (with_reducible first | refine SW_seq ?_ | refine SW_block ?_ | refine SThen_n ?_ | refine SThen_r ?_ | refine SThen_e ?_ | refine SIn_n ?_ | refine SIn_r ?_ | refine SIn_eq ?_ | refine SW_skip ?_ | refine SW_exit ?_ | refine SW_ret ?_ | refine SPost_r ?_) | ((with_reducible refine SIn_ne ?_ ?_); focus decide) | ((with_reducible refine SW_true ?_ ?_); focus exact rfl) | ((with_reducible refine SW_false ?_ ?_); focus exact rfl) | ((first | (with_reducible apply SW_run tt_ok hG htb) | ((with_reducible apply SW_draw rfl tt_ok hG htb); (focus kernel_rfl); (focus (simp only [List.range, List.range.loop, List.size_toArray, List.length_cons, List.length_nil, Nat.reduceAdd])))); focus ((repeat' (first | (with_reducible exact runX_nil) | (with_reducible exact runI_nil) | ((first | (with_reducible apply runX_cons) | (with_reducible apply runI_cons)); focus (simp (discharger := omega) only [go_sem, simprocAttr]; with_reducible rfl)))); done)))
      refine SPostC_r ?_ (Norm.headS (own := []) (keep := [157, 158, 159, 160]) (by refine ⟨?_, ?_⟩; (simp (discharger := omega) only [go_sem, simprocAttr]; with_reducible rfl); refine ⟨?_, ?_, ?_, ?_⟩ <;> (simp only [go_sem, simprocAttr]; with_reducible rfl))) ?_ ?_
      · exact (by simp (discharger := omega) only [go_sem, simprocAttr])
      · rfl
      · exact four_pins rfl rfl rfl rfl
    · repeat' (first | (with_reducible first | refine SW_seq ?_ | refine SW_block ?_ | refine SThen_n ?_ | refine SThen_r ?_ | refine SThen_e ?_ | refine SIn_n ?_ | refine SIn_r ?_ | refine SIn_eq ?_ | refine SW_skip ?_ | refine SW_exit ?_ | refine SW_ret ?_ | refine SPost_r ?_) | ((with_reducible refine SIn_ne ?_ ?_); focus decide) | ((with_reducible refine SW_true ?_ ?_); focus exact rfl) | ((with_reducible refine SW_false ?_ ?_); focus exact rfl) | ((first | (with_reducible apply SW_run tt_ok hG htb) | ((with_reducible apply SW_draw rfl tt_ok hG htb); (focus kernel_rfl); (focus (simp only [List.range, List.range.loop, List.size_toArray, List.length_cons, List.length_nil, Nat.reduceAdd])))); focus ((repeat' (first | (with_reducible exact runX_nil) | (with_reducible exact runI_nil) | ((first | (with_reducible apply runX_cons) | (with_reducible apply runI_cons)); focus (simp (discharger := omega) only [go_sem, simprocAttr]; with_reducible rfl)))); done)))
      refine SPostC_r ?_ (Norm.headS (own := []) (keep := [157, 158, 159, 160]) (by refine ⟨?_, ?_⟩; (simp (discharger := omega) only [go_sem, simprocAttr]; with_reducible rfl); refine ⟨?_, ?_, ?_, ?_⟩ <;> (simp only [go_sem, simprocAttr]; with_reducible rfl))) ?_ ?_
      · exact (by simp (discharger := omega) only [go_sem, simprocAttr])
      · rfl
      · exact four_pins rfl rfl rfl rfl
    · repeat' (first | (with_reducible first | refine SW_seq ?_ | refine SW_block ?_ | refine SThen_n ?_ | refine SThen_r ?_ | refine SThen_e ?_ | refine SIn_n ?_ | refine SIn_r ?_ | refine SIn_eq ?_ | refine SW_skip ?_ | refine SW_exit ?_ | refine SW_ret ?_ | refine SPost_r ?_) | ((with_reducible refine SIn_ne ?_ ?_); focus decide) | ((with_reducible refine SW_true ?_ ?_); focus exact rfl) | ((with_reducible refine SW_false ?_ ?_); focus exact rfl) | ((first | (with_reducible apply SW_run tt_ok hG htb) | ((with_reducible apply SW_draw rfl tt_ok hG htb); (focus kernel_rfl); (focus (simp only [List.range, List.range.loop, List.size_toArray, List.length_cons, List.length_nil, Nat.reduceAdd])))); focus ((repeat' (first | (with_reducible exact runX_nil) | (with_reducible exact runI_nil) | ((first | (with_reducible apply runX_cons) | (with_reducible apply runI_cons)); focus (simp (discharger := omega) only [go_sem, simprocAttr]; with_reducible rfl)))); done)))
      refine SPostC_r ?_ (Norm.headS (own := []) (keep := [157, 158, 159, 160]) (by refine ⟨?_, ?_⟩; (simp (discharger := omega) only [go_sem, simprocAttr]; with_reducible rfl); refine ⟨?_, ?_, ?_, ?_⟩ <;> (simp only [go_sem, simprocAttr]; with_reducible rfl))) ?_ ?_
      · exact (by simp (discharger := omega) only [go_sem, simprocAttr])
      · rfl
      · exact four_pins rfl rfl rfl rfl
theorem ev_all {f : List GNode} {ws : List GOut} {ns : List Int} (hl : f.length ≤ 40) (hne : ∀ n ∈ f, nodeErr n = 0) (hq : ∀ n ∈ f, quantN n = false) (hB : numsBad ns = false) (hw : ∀ n ∈ f, wordNeed n ws.length = false) {i e : Nat} (hp : Part f i e) :
    (∀ v : Int, 0 ≤ v → v < 5 → freeP f i v = true → v < ns.length) → EvC G f ws ns i e := by
  have hop : ∀ {i : Nat} {n : GNode}, f[i]? = some n → ¬ (n.op = 8 ∨ n.op = 9) := fun {i n} h ho => by
    have := hq n (List.mem_of_getElem? h)
    unfold quantN at this
    simp only [Bool.or_eq_false_iff, decide_eq_false_iff_not] at this
    omega
  induction hp with
  | leaf h hp => exact fun hv => ev_leaf hG hl h (goodN (hne _ (List.mem_of_getElem? h))) hp hB (hw _ (List.mem_of_getElem? h)) fun v h0 h5 hu => hv v h0 h5 (by rw [freeP_leaf h hp]; exact hu)
  | one h hp h1 ih =>
    intro hv
    have hno := hop h
    refine ev_one hG hl h ?_ h1 (ih fun v h0 h5 hu => hv v h0 h5 (by rw [freeP_one h hp h1, if_neg (by omega)]; exact hu))
    unfold partsOf at hp
    split at hp
    · omega
    · split at hp <;> omega
  | two h hp h1 h2 ih1 ih2 =>
    intro hv
    refine ev_two hG hl h ?_ h1 h2 (ih1 fun v h0 h5 hu => hv v h0 h5 (by rw [freeP_two h hp h1 h2, hu]; rfl)) (ih2 fun v h0 h5 hu => hv v h0 h5 (by rw [freeP_two h hp h1 h2, hu, Bool.or_true]))
    unfold partsOf at hp
    split at hp
    · omega
    · split at hp
      · assumption
      · omega
end
end Go.Proofs.Ytfhncnhkeodngaa
namespace Go.Proofs.Ytfhncnhkeodngaa
open Go.RowKit

section
variable {G : World → Prop} (hG : Lasting G)
include hG
set_option maxHeartbeats 8000000 in
set_option maxRecDepth 100000 in
theorem wrong_snd (n : GNode) : Snd Try.prog G 58 [tNode n] (tErr (nodeErr n)) := by
  obtain ⟨op, var, other, word, word2, num, coefs⟩ := n
  have cV := variable_snd hG var
  have cO := variable_snd hG other
  have c1 := Size_snd hG coefs
  refine snd_of_body (n := 196) (tm := [(0, .t (tNode ⟨op, var, other, word, word2, num, coefs⟩))]) (rs := [.tmp 2]) tt_ok Try.func58 rfl rfl rfl rfl rfl ?_
  have htb : Tab.ok Try.prog G [] := Tab.nil
  refine SW_lenA (t := 0) (i := 6) rfl rfl fun hcl => ?_
  rw [List.length_map] at hcl
  have hcl : coefs.length ≤ 9223372036854775807 := hcl
  by_cases hop : 1 ≤ op ∧ op ≤ 9
  · repeat' (first | (with_reducible first | refine SW_seq ?_ | refine SThen_n ?_ | refine SThen_r ?_ | refine SThen_e ?_ | refine SIn_n ?_ | refine SIn_r ?_ | refine SIn_eq ?_ | refine SW_skip ?_ | refine SW_exit ?_ | refine SW_ret ?_ | refine SPost_r ?_) | ((with_reducible refine SIn_ne ?_ ?_); focus decide) | ((with_reducible refine SW_true ?_ ?_); focus exact rfl) | ((with_reducible refine SW_false ?_ ?_); focus exact rfl) | ((first | (with_reducible apply SW_run tt_ok hG htb) | ((with_reducible apply SW_draw rfl tt_ok hG htb); (focus kernel_rfl); (focus (simp only [List.range, List.range.loop, List.size_toArray, List.length_cons, List.length_nil, Nat.reduceAdd])))); focus ((repeat' (first | (with_reducible exact runX_nil) | (with_reducible exact runI_nil) | ((first | (with_reducible apply runX_cons) | (with_reducible apply runI_cons)); focus (simp (discharger := omega) only [go_sem, tNode, simprocAttr]; with_reducible rfl)))); done)))
    refine SW_norm (Norm.fixBox 0 rfl rfl) ?_
    by_cases hl : op = 1 ∨ op = 2
    · have e1 : nodeOk ⟨op, var, other, word, word2, num, coefs⟩ = (decide (coefs.length ≤ 5) && decide (sizeA coefs ≤ 12) && decide (-60 ≤ num) && decide (num ≤ 60)) := by unfold nodeOk; rw [if_pos hl]
      have e2 : usedN ⟨op, var, other, word, word2, num, coefs⟩ = ⟨op, 0, 0, 0, 0, num, coefs⟩ := by unfold usedN; rw [if_pos hl]
      have e3 : nodeErr ⟨op, var, other, word, word2, num, coefs⟩ = if nodeOk ⟨op, var, other, word, word2, num, coefs⟩ = false then 1 else if nodeMore ⟨op, var, other, word, word2, num, coefs⟩ = true then 2 else if 0 < coefs.length ∧ coefs[coefs.length - 1]! = 0 then 2 else 0 := by unfold nodeErr; rw [if_neg (by simp only; omega)]
      have e4 : nodeMore ⟨op, var, other, word, word2, num, coefs⟩ = (decide (var ≠ 0) || decide (other ≠ 0) || decide (word ≠ 0) || decide (word2 ≠ 0)) := by unfold nodeMore; rw [e2]; simp
      rw [e3]
      refine SW_meetG ⟨196, [(1, .bptr 0 0), (3, .bptr 1 0), (4, .t (.bool (nodeOk ⟨op, var, other, word, word2, num, coefs⟩)))], [.fbox [tInt op, tInt var, tInt other, tInt word, tInt word2, tInt num, tInts coefs], .box [.t (tInt op), .t (tInt 0), .t (tInt 0), .t (tInt 0), .t (tInt 0), .t (tInt num), .t (tInts coefs)]]⟩ Weak.sw (SW_block ?_) ?_
      · rw [e1]
        clear e1 e2 e3 e4
        unfold sizeT at c1
        rcases hl with rfl | rfl
        · skip
          repeat' (first | (with_reducible first | refine SW_seq ?_ | refine SW_block ?_ | refine SThen_n ?_ | refine SThen_r ?_ | refine SThen_e ?_ | refine SIn_n ?_ | refine SIn_r ?_ | refine SIn_eq ?_ | refine SW_skip ?_ | refine SW_exit ?_ | refine SW_ret ?_ | refine SPost_r ?_) | ((with_reducible refine SIn_ne ?_ ?_); focus decide) | ((with_reducible refine SW_true ?_ ?_); focus exact rfl) | ((with_reducible refine SW_false ?_ ?_); focus exact rfl) | ((with_reducible apply SW_run tt_ok hG htb); focus ((repeat' (first | (with_reducible exact runX_nil) | ((with_reducible apply runX_cons); focus (simp (discharger := omega) only [go_sem, simprocAttr]; with_reducible rfl)))); done)))
          (with_reducible apply SW_drawF [0, 1, 2, 3, 4, 6] [] rfl tt_ok hG htb)
          · kernel_rfl
          · simp only [List.range, List.range.loop, List.size_toArray, List.length_cons, List.length_nil, Nat.reduceAdd]
            repeat' (first | (with_reducible exact runG_nil) | ((with_reducible apply runF_of); (focus rfl); focus (simp (discharger := omega) only [go_sem, simprocAttr]; with_reducible rfl)) | ((apply runF_fix rfl rfl rfl rfl); focus (simp (discharger := omega) only [go_sem, simprocAttr]; with_reducible rfl)) | ((apply runF_fa rfl rfl); focus (simp (discharger := omega) only [go_sem, simprocAttr]; with_reducible rfl)))
          by_cases h5 : 5 < coefs.length
          · rw [decide_eq_false (show ¬ coefs.length ≤ 5 by omega)]
            try simp only [Bool.false_and]
            cases hz : szAll coefs with
            | true =>
              rw [if_pos hz] at c1
              have htb := Tab.cons c1 Tab.nil
              repeat' (first | (with_reducible first | refine SW_seq ?_ | refine SW_block ?_ | refine SThen_n ?_ | refine SThen_r ?_ | refine SThen_e ?_ | refine SIn_n ?_ | refine SIn_r ?_ | refine SIn_eq ?_ | refine SW_skip ?_ | refine SW_exit ?_ | refine SW_ret ?_ | refine SPost_r ?_) | ((with_reducible refine SIn_ne ?_ ?_); focus decide) | ((with_reducible refine SW_true ?_ ?_); focus exact rfl) | ((with_reducible refine SW_false ?_ ?_); focus exact rfl) | ((first | (with_reducible apply SW_run tt_ok hG htb) | ((with_reducible apply SW_draw rfl tt_ok hG htb); (focus kernel_rfl); (focus (simp only [List.range, List.range.loop, List.size_toArray, List.length_cons, List.length_nil, Nat.reduceAdd])))); focus ((repeat' (first | (with_reducible exact runX_nil) | (with_reducible exact runI_nil) | ((first | (with_reducible apply runX_cons) | (with_reducible apply runI_cons)); focus (simp (discharger := omega) only [go_sem, simprocAttr]; with_reducible rfl)))); done)))
              exact Meet.h ⟨_, Norm.headS (own := []) (keep := [1, 3, 4]) (by refine ⟨?_, ?_⟩; (simp (discharger := omega) only [go_sem, simprocAttr]; with_reducible rfl); refine ⟨?_, ?_, ?_, ?_⟩ <;> (simp only [go_sem, simprocAttr]; with_reducible rfl)), rfl⟩
            | false =>
              rw [if_neg (by rw [hz]; decide)] at c1
              have htb := Tab.cons c1 Tab.nil
              repeat' (first | (with_reducible first | refine SW_seq ?_ | refine SW_block ?_ | refine SThen_n ?_ | refine SThen_r ?_ | refine SThen_e ?_ | refine SIn_n ?_ | refine SIn_r ?_ | refine SIn_eq ?_ | refine SW_skip ?_ | refine SW_exit ?_ | refine SW_ret ?_ | refine SPost_r ?_) | ((with_reducible refine SIn_ne ?_ ?_); focus decide) | ((with_reducible refine SW_true ?_ ?_); focus exact rfl) | ((with_reducible refine SW_false ?_ ?_); focus exact rfl) | ((first | (with_reducible apply SW_run tt_ok hG htb) | ((with_reducible apply SW_draw rfl tt_ok hG htb); (focus kernel_rfl); (focus (simp only [List.range, List.range.loop, List.size_toArray, List.length_cons, List.length_nil, Nat.reduceAdd])))); focus ((repeat' (first | (with_reducible exact runX_nil) | (with_reducible exact runI_nil) | ((first | (with_reducible apply runX_cons) | (with_reducible apply runI_cons)); focus (simp (discharger := omega) only [go_sem, simprocAttr]; with_reducible rfl)))); done)))
              exact Meet.h ⟨_, Norm.headS (own := []) (keep := [1, 3, 4]) (by refine ⟨?_, ?_⟩; (simp (discharger := omega) only [go_sem, simprocAttr]; with_reducible rfl); refine ⟨?_, ?_, ?_, ?_⟩ <;> (simp only [go_sem, simprocAttr]; with_reducible rfl)), rfl⟩
          · rw [decide_eq_true (show coefs.length ≤ 5 by omega)]
            have hc2 : ∃ q, Snd Try.prog G 45 [tInts coefs] (.tup [tInt q, .bool (decide (sizeA coefs ≤ 12))]) := by
              cases hz : szAll coefs with
              | true => rw [if_pos hz, szW_eq hz (by omega)] at c1; exact ⟨_, c1⟩
              | false =>
                rw [if_neg (by rw [hz]; decide)] at c1
                have := szAll_not hz
                rw [decide_eq_false (by omega)]
                exact ⟨_, c1⟩
            obtain ⟨q, c2⟩ := hc2
            have htb := Tab.cons c2 Tab.nil
            by_cases h12 : sizeA coefs ≤ 12
            · rw [decide_eq_true h12] at htb ⊢
              by_cases h1 : -60 ≤ num
              · rw [decide_eq_true h1]
                by_cases h2 : num ≤ 60
                · rw [decide_eq_true h2]
                  simp only [Bool.true_and]
                  repeat' (first | (with_reducible first | refine SW_seq ?_ | refine SW_block ?_ | refine SThen_n ?_ | refine SThen_r ?_ | refine SThen_e ?_ | refine SIn_n ?_ | refine SIn_r ?_ | refine SIn_eq ?_ | refine SW_skip ?_ | refine SW_exit ?_ | refine SW_ret ?_ | refine SPost_r ?_) | ((with_reducible refine SIn_ne ?_ ?_); focus decide) | ((with_reducible refine SW_true ?_ ?_); focus exact rfl) | ((with_reducible refine SW_false ?_ ?_); focus exact rfl) | ((first | (with_reducible apply SW_run tt_ok hG htb) | ((with_reducible apply SW_draw rfl tt_ok hG htb); (focus kernel_rfl); (focus (simp only [List.range, List.range.loop, List.size_toArray, List.length_cons, List.length_nil, Nat.reduceAdd])))); focus ((repeat' (first | (with_reducible exact runX_nil) | (with_reducible exact runI_nil) | ((first | (with_reducible apply runX_cons) | (with_reducible apply runI_cons)); focus (simp (discharger := omega) only [go_sem, simprocAttr]; with_reducible rfl)))); done)))
                  exact Meet.h ⟨_, Norm.headS (own := []) (keep := [1, 3, 4]) (by refine ⟨?_, ?_⟩; (simp (discharger := omega) only [go_sem, simprocAttr]; with_reducible rfl); refine ⟨?_, ?_, ?_, ?_⟩ <;> (simp only [go_sem, simprocAttr]; with_reducible rfl)), rfl⟩
                · rw [decide_eq_false h2]
                  simp only [Bool.true_and]
                  repeat' (first | (with_reducible first | refine SW_seq ?_ | refine SW_block ?_ | refine SThen_n ?_ | refine SThen_r ?_ | refine SThen_e ?_ | refine SIn_n ?_ | refine SIn_r ?_ | refine SIn_eq ?_ | refine SW_skip ?_ | refine SW_exit ?_ | refine SW_ret ?_ | refine SPost_r ?_) | ((with_reducible refine SIn_ne ?_ ?_); focus decide) | ((with_reducible refine SW_true ?_ ?_); focus exact rfl) | ((with_reducible refine SW_false ?_ ?_); focus exact rfl) | ((first | (with_reducible apply SW_run tt_ok hG htb) | ((with_reducible apply SW_draw rfl tt_ok hG htb); (focus kernel_rfl); (focus (simp only [List.range, List.range.loop, List.size_toArray, List.length_cons, List.length_nil, Nat.reduceAdd])))); focus ((repeat' (first | (with_reducible exact runX_nil) | (with_reducible exact runI_nil) | ((first | (with_reducible apply runX_cons) | (with_reducible apply runI_cons)); focus (simp (discharger := omega) only [go_sem, simprocAttr]; with_reducible rfl)))); done)))
                  exact Meet.h ⟨_, Norm.headS (own := []) (keep := [1, 3, 4]) (by refine ⟨?_, ?_⟩; (simp (discharger := omega) only [go_sem, simprocAttr]; with_reducible rfl); refine ⟨?_, ?_, ?_, ?_⟩ <;> (simp only [go_sem, simprocAttr]; with_reducible rfl)), rfl⟩
              · rw [decide_eq_false h1]
                simp only [Bool.true_and, Bool.false_and]
                repeat' (first | (with_reducible first | refine SW_seq ?_ | refine SW_block ?_ | refine SThen_n ?_ | refine SThen_r ?_ | refine SThen_e ?_ | refine SIn_n ?_ | refine SIn_r ?_ | refine SIn_eq ?_ | refine SW_skip ?_ | refine SW_exit ?_ | refine SW_ret ?_ | refine SPost_r ?_) | ((with_reducible refine SIn_ne ?_ ?_); focus decide) | ((with_reducible refine SW_true ?_ ?_); focus exact rfl) | ((with_reducible refine SW_false ?_ ?_); focus exact rfl) | ((first | (with_reducible apply SW_run tt_ok hG htb) | ((with_reducible apply SW_draw rfl tt_ok hG htb); (focus kernel_rfl); (focus (simp only [List.range, List.range.loop, List.size_toArray, List.length_cons, List.length_nil, Nat.reduceAdd])))); focus ((repeat' (first | (with_reducible exact runX_nil) | (with_reducible exact runI_nil) | ((first | (with_reducible apply runX_cons) | (with_reducible apply runI_cons)); focus (simp (discharger := omega) only [go_sem, simprocAttr]; with_reducible rfl)))); done)))
                exact Meet.h ⟨_, Norm.headS (own := []) (keep := [1, 3, 4]) (by refine ⟨?_, ?_⟩; (simp (discharger := omega) only [go_sem, simprocAttr]; with_reducible rfl); refine ⟨?_, ?_, ?_, ?_⟩ <;> (simp only [go_sem, simprocAttr]; with_reducible rfl)), rfl⟩
            · rw [decide_eq_false h12] at htb ⊢
              simp only [Bool.true_and, Bool.false_and]
              repeat' (first | (with_reducible first | refine SW_seq ?_ | refine SW_block ?_ | refine SThen_n ?_ | refine SThen_r ?_ | refine SThen_e ?_ | refine SIn_n ?_ | refine SIn_r ?_ | refine SIn_eq ?_ | refine SW_skip ?_ | refine SW_exit ?_ | refine SW_ret ?_ | refine SPost_r ?_) | ((with_reducible refine SIn_ne ?_ ?_); focus decide) | ((with_reducible refine SW_true ?_ ?_); focus exact rfl) | ((with_reducible refine SW_false ?_ ?_); focus exact rfl) | ((first | (with_reducible apply SW_run tt_ok hG htb) | ((with_reducible apply SW_draw rfl tt_ok hG htb); (focus kernel_rfl); (focus (simp only [List.range, List.range.loop, List.size_toArray, List.length_cons, List.length_nil, Nat.reduceAdd])))); focus ((repeat' (first | (with_reducible exact runX_nil) | (with_reducible exact runI_nil) | ((first | (with_reducible apply runX_cons) | (with_reducible apply runI_cons)); focus (simp (discharger := omega) only [go_sem, simprocAttr]; with_reducible rfl)))); done)))
              exact Meet.h ⟨_, Norm.headS (own := []) (keep := [1, 3, 4]) (by refine ⟨?_, ?_⟩; (simp (discharger := omega) only [go_sem, simprocAttr]; with_reducible rfl); refine ⟨?_, ?_, ?_, ?_⟩ <;> (simp only [go_sem, simprocAttr]; with_reducible rfl)), rfl⟩
        · skip
          repeat' (first | (with_reducible first | refine SW_seq ?_ | refine SW_block ?_ | refine SThen_n ?_ | refine SThen_r ?_ | refine SThen_e ?_ | refine SIn_n ?_ | refine SIn_r ?_ | refine SIn_eq ?_ | refine SW_skip ?_ | refine SW_exit ?_ | refine SW_ret ?_ | refine SPost_r ?_) | ((with_reducible refine SIn_ne ?_ ?_); focus decide) | ((with_reducible refine SW_true ?_ ?_); focus exact rfl) | ((with_reducible refine SW_false ?_ ?_); focus exact rfl) | ((with_reducible apply SW_run tt_ok hG htb); focus ((repeat' (first | (with_reducible exact runX_nil) | ((with_reducible apply runX_cons); focus (simp (discharger := omega) only [go_sem, simprocAttr]; with_reducible rfl)))); done)))
          (with_reducible apply SW_drawF [0, 1, 2, 3, 4, 6] [] rfl tt_ok hG htb)
          · kernel_rfl
          · simp only [List.range, List.range.loop, List.size_toArray, List.length_cons, List.length_nil, Nat.reduceAdd]
            repeat' (first | (with_reducible exact runG_nil) | ((with_reducible apply runF_of); (focus rfl); focus (simp (discharger := omega) only [go_sem, simprocAttr]; with_reducible rfl)) | ((apply runF_fix rfl rfl rfl rfl); focus (simp (discharger := omega) only [go_sem, simprocAttr]; with_reducible rfl)) | ((apply runF_fa rfl rfl); focus (simp (discharger := omega) only [go_sem, simprocAttr]; with_reducible rfl)))
          by_cases h5 : 5 < coefs.length
          · rw [decide_eq_false (show ¬ coefs.length ≤ 5 by omega)]
            try simp only [Bool.false_and]
            cases hz : szAll coefs with
            | true =>
              rw [if_pos hz] at c1
              have htb := Tab.cons c1 Tab.nil
              repeat' (first | (with_reducible first | refine SW_seq ?_ | refine SW_block ?_ | refine SThen_n ?_ | refine SThen_r ?_ | refine SThen_e ?_ | refine SIn_n ?_ | refine SIn_r ?_ | refine SIn_eq ?_ | refine SW_skip ?_ | refine SW_exit ?_ | refine SW_ret ?_ | refine SPost_r ?_) | ((with_reducible refine SIn_ne ?_ ?_); focus decide) | ((with_reducible refine SW_true ?_ ?_); focus exact rfl) | ((with_reducible refine SW_false ?_ ?_); focus exact rfl) | ((first | (with_reducible apply SW_run tt_ok hG htb) | ((with_reducible apply SW_draw rfl tt_ok hG htb); (focus kernel_rfl); (focus (simp only [List.range, List.range.loop, List.size_toArray, List.length_cons, List.length_nil, Nat.reduceAdd])))); focus ((repeat' (first | (with_reducible exact runX_nil) | (with_reducible exact runI_nil) | ((first | (with_reducible apply runX_cons) | (with_reducible apply runI_cons)); focus (simp (discharger := omega) only [go_sem, simprocAttr]; with_reducible rfl)))); done)))
              exact Meet.h ⟨_, Norm.headS (own := []) (keep := [1, 3, 4]) (by refine ⟨?_, ?_⟩; (simp (discharger := omega) only [go_sem, simprocAttr]; with_reducible rfl); refine ⟨?_, ?_, ?_, ?_⟩ <;> (simp only [go_sem, simprocAttr]; with_reducible rfl)), rfl⟩
            | false =>
              rw [if_neg (by rw [hz]; decide)] at c1
              have htb := Tab.cons c1 Tab.nil
              repeat' (first | (with_reducible first | refine SW_seq ?_ | refine SW_block ?_ | refine SThen_n ?_ | refine SThen_r ?_ | refine SThen_e ?_ | refine SIn_n ?_ | refine SIn_r ?_ | refine SIn_eq ?_ | refine SW_skip ?_ | refine SW_exit ?_ | refine SW_ret ?_ | refine SPost_r ?_) | ((with_reducible refine SIn_ne ?_ ?_); focus decide) | ((with_reducible refine SW_true ?_ ?_); focus exact rfl) | ((with_reducible refine SW_false ?_ ?_); focus exact rfl) | ((first | (with_reducible apply SW_run tt_ok hG htb) | ((with_reducible apply SW_draw rfl tt_ok hG htb); (focus kernel_rfl); (focus (simp only [List.range, List.range.loop, List.size_toArray, List.length_cons, List.length_nil, Nat.reduceAdd])))); focus ((repeat' (first | (with_reducible exact runX_nil) | (with_reducible exact runI_nil) | ((first | (with_reducible apply runX_cons) | (with_reducible apply runI_cons)); focus (simp (discharger := omega) only [go_sem, simprocAttr]; with_reducible rfl)))); done)))
              exact Meet.h ⟨_, Norm.headS (own := []) (keep := [1, 3, 4]) (by refine ⟨?_, ?_⟩; (simp (discharger := omega) only [go_sem, simprocAttr]; with_reducible rfl); refine ⟨?_, ?_, ?_, ?_⟩ <;> (simp only [go_sem, simprocAttr]; with_reducible rfl)), rfl⟩
          · rw [decide_eq_true (show coefs.length ≤ 5 by omega)]
            have hc2 : ∃ q, Snd Try.prog G 45 [tInts coefs] (.tup [tInt q, .bool (decide (sizeA coefs ≤ 12))]) := by
              cases hz : szAll coefs with
              | true => rw [if_pos hz, szW_eq hz (by omega)] at c1; exact ⟨_, c1⟩
              | false =>
                rw [if_neg (by rw [hz]; decide)] at c1
                have := szAll_not hz
                rw [decide_eq_false (by omega)]
                exact ⟨_, c1⟩
            obtain ⟨q, c2⟩ := hc2
            have htb := Tab.cons c2 Tab.nil
            by_cases h12 : sizeA coefs ≤ 12
            · rw [decide_eq_true h12] at htb ⊢
              by_cases h1 : -60 ≤ num
              · rw [decide_eq_true h1]
                by_cases h2 : num ≤ 60
                · rw [decide_eq_true h2]
                  simp only [Bool.true_and]
                  repeat' (first | (with_reducible first | refine SW_seq ?_ | refine SW_block ?_ | refine SThen_n ?_ | refine SThen_r ?_ | refine SThen_e ?_ | refine SIn_n ?_ | refine SIn_r ?_ | refine SIn_eq ?_ | refine SW_skip ?_ | refine SW_exit ?_ | refine SW_ret ?_ | refine SPost_r ?_) | ((with_reducible refine SIn_ne ?_ ?_); focus decide) | ((with_reducible refine SW_true ?_ ?_); focus exact rfl) | ((with_reducible refine SW_false ?_ ?_); focus exact rfl) | ((first | (with_reducible apply SW_run tt_ok hG htb) | ((with_reducible apply SW_draw rfl tt_ok hG htb); (focus kernel_rfl); (focus (simp only [List.range, List.range.loop, List.size_toArray, List.length_cons, List.length_nil, Nat.reduceAdd])))); focus ((repeat' (first | (with_reducible exact runX_nil) | (with_reducible exact runI_nil) | ((first | (with_reducible apply runX_cons) | (with_reducible apply runI_cons)); focus (simp (discharger := omega) only [go_sem, simprocAttr]; with_reducible rfl)))); done)))
                  exact Meet.h ⟨_, Norm.headS (own := []) (keep := [1, 3, 4]) (by refine ⟨?_, ?_⟩; (simp (discharger := omega) only [go_sem, simprocAttr]; with_reducible rfl); refine ⟨?_, ?_, ?_, ?_⟩ <;> (simp only [go_sem, simprocAttr]; with_reducible rfl)), rfl⟩
                · rw [decide_eq_false h2]
                  simp only [Bool.true_and]
                  repeat' (first | (with_reducible first | refine SW_seq ?_ | refine SW_block ?_ | refine SThen_n ?_ | refine SThen_r ?_ | refine SThen_e ?_ | refine SIn_n ?_ | refine SIn_r ?_ | refine SIn_eq ?_ | refine SW_skip ?_ | refine SW_exit ?_ | refine SW_ret ?_ | refine SPost_r ?_) | ((with_reducible refine SIn_ne ?_ ?_); focus decide) | ((with_reducible refine SW_true ?_ ?_); focus exact rfl) | ((with_reducible refine SW_false ?_ ?_); focus exact rfl) | ((first | (with_reducible apply SW_run tt_ok hG htb) | ((with_reducible apply SW_draw rfl tt_ok hG htb); (focus kernel_rfl); (focus (simp only [List.range, List.range.loop, List.size_toArray, List.length_cons, List.length_nil, Nat.reduceAdd])))); focus ((repeat' (first | (with_reducible exact runX_nil) | (with_reducible exact runI_nil) | ((first | (with_reducible apply runX_cons) | (with_reducible apply runI_cons)); focus (simp (discharger := omega) only [go_sem, simprocAttr]; with_reducible rfl)))); done)))
                  exact Meet.h ⟨_, Norm.headS (own := []) (keep := [1, 3, 4]) (by refine ⟨?_, ?_⟩; (simp (discharger := omega) only [go_sem, simprocAttr]; with_reducible rfl); refine ⟨?_, ?_, ?_, ?_⟩ <;> (simp only [go_sem, simprocAttr]; with_reducible rfl)), rfl⟩
              · rw [decide_eq_false h1]
                simp only [Bool.true_and, Bool.false_and]
                repeat' (first | (with_reducible first | refine SW_seq ?_ | refine SW_block ?_ | refine SThen_n ?_ | refine SThen_r ?_ | refine SThen_e ?_ | refine SIn_n ?_ | refine SIn_r ?_ | refine SIn_eq ?_ | refine SW_skip ?_ | refine SW_exit ?_ | refine SW_ret ?_ | refine SPost_r ?_) | ((with_reducible refine SIn_ne ?_ ?_); focus decide) | ((with_reducible refine SW_true ?_ ?_); focus exact rfl) | ((with_reducible refine SW_false ?_ ?_); focus exact rfl) | ((first | (with_reducible apply SW_run tt_ok hG htb) | ((with_reducible apply SW_draw rfl tt_ok hG htb); (focus kernel_rfl); (focus (simp only [List.range, List.range.loop, List.size_toArray, List.length_cons, List.length_nil, Nat.reduceAdd])))); focus ((repeat' (first | (with_reducible exact runX_nil) | (with_reducible exact runI_nil) | ((first | (with_reducible apply runX_cons) | (with_reducible apply runI_cons)); focus (simp (discharger := omega) only [go_sem, simprocAttr]; with_reducible rfl)))); done)))
                exact Meet.h ⟨_, Norm.headS (own := []) (keep := [1, 3, 4]) (by refine ⟨?_, ?_⟩; (simp (discharger := omega) only [go_sem, simprocAttr]; with_reducible rfl); refine ⟨?_, ?_, ?_, ?_⟩ <;> (simp only [go_sem, simprocAttr]; with_reducible rfl)), rfl⟩
            · rw [decide_eq_false h12] at htb ⊢
              simp only [Bool.true_and, Bool.false_and]
              repeat' (first | (with_reducible first | refine SW_seq ?_ | refine SW_block ?_ | refine SThen_n ?_ | refine SThen_r ?_ | refine SThen_e ?_ | refine SIn_n ?_ | refine SIn_r ?_ | refine SIn_eq ?_ | refine SW_skip ?_ | refine SW_exit ?_ | refine SW_ret ?_ | refine SPost_r ?_) | ((with_reducible refine SIn_ne ?_ ?_); focus decide) | ((with_reducible refine SW_true ?_ ?_); focus exact rfl) | ((with_reducible refine SW_false ?_ ?_); focus exact rfl) | ((first | (with_reducible apply SW_run tt_ok hG htb) | ((with_reducible apply SW_draw rfl tt_ok hG htb); (focus kernel_rfl); (focus (simp only [List.range, List.range.loop, List.size_toArray, List.length_cons, List.length_nil, Nat.reduceAdd])))); focus ((repeat' (first | (with_reducible exact runX_nil) | (with_reducible exact runI_nil) | ((first | (with_reducible apply runX_cons) | (with_reducible apply runI_cons)); focus (simp (discharger := omega) only [go_sem, simprocAttr]; with_reducible rfl)))); done)))
              exact Meet.h ⟨_, Norm.headS (own := []) (keep := [1, 3, 4]) (by refine ⟨?_, ?_⟩; (simp (discharger := omega) only [go_sem, simprocAttr]; with_reducible rfl); refine ⟨?_, ?_, ?_, ?_⟩ <;> (simp only [go_sem, simprocAttr]; with_reducible rfl)), rfl⟩
      · generalize nodeOk ⟨op, var, other, word, word2, num, coefs⟩ = ok at *
        cases ok with
        | false =>
          rw [if_pos rfl]
          repeat' (first | (with_reducible first | refine SW_seq ?_ | refine SW_block ?_ | refine SThen_n ?_ | refine SThen_r ?_ | refine SThen_e ?_ | refine SIn_n ?_ | refine SIn_r ?_ | refine SIn_eq ?_ | refine SW_skip ?_ | refine SW_exit ?_ | refine SW_ret ?_ | refine SPost_r ?_) | ((with_reducible refine SIn_ne ?_ ?_); focus decide) | ((with_reducible refine SW_true ?_ ?_); focus exact rfl) | ((with_reducible refine SW_false ?_ ?_); focus exact rfl) | ((first | (with_reducible apply SW_run tt_ok hG htb) | ((with_reducible apply SW_draw rfl tt_ok hG htb); (focus kernel_rfl); (focus (simp only [List.range, List.range.loop, List.size_toArray, List.length_cons, List.length_nil, Nat.reduceAdd])))); focus ((repeat' (first | (with_reducible exact runX_nil) | (with_reducible exact runI_nil) | ((first | (with_reducible apply runX_cons) | (with_reducible apply runI_cons)); focus (simp (discharger := omega) only [go_sem, simprocAttr]; with_reducible rfl)))); done)))
          exact (by simp (discharger := omega) only [go_sem, tErr, simprocAttr])
        | true =>
          rw [if_neg (by decide)]
          repeat' (first | (with_reducible first | refine SW_seq ?_ | refine SW_block ?_ | refine SThen_n ?_ | refine SThen_r ?_ | refine SThen_e ?_ | refine SIn_n ?_ | refine SIn_r ?_ | refine SIn_eq ?_ | refine SW_skip ?_ | refine SW_exit ?_ | refine SW_ret ?_ | refine SPost_r ?_) | ((with_reducible refine SIn_ne ?_ ?_); focus decide) | ((with_reducible refine SW_true ?_ ?_); focus exact rfl) | ((with_reducible refine SW_false ?_ ?_); focus exact rfl) | ((first | (with_reducible apply SW_run tt_ok hG htb) | ((with_reducible apply SW_draw rfl tt_ok hG htb); (focus kernel_rfl); (focus (simp only [List.range, List.range.loop, List.size_toArray, List.length_cons, List.length_nil, Nat.reduceAdd])))); focus ((repeat' (first | (with_reducible exact runX_nil) | (with_reducible exact runI_nil) | ((first | (with_reducible apply runX_cons) | (with_reducible apply runI_cons)); focus (simp (discharger := omega) only [go_sem, simprocAttr]; with_reducible rfl)))); done)))
          refine SW_meetG ⟨196, [(1, .bptr 0 0), (179, .t (.bool (nodeMore ⟨op, var, other, word, word2, num, coefs⟩)))], [.fbox [tInt op, tInt var, tInt other, tInt word, tInt word2, tInt num, tInts coefs]]⟩ Weak.sw ?_ ?_
          · rw [e4]
            clear e1 e2 e3 e4
            by_cases mvar : var = 0
            · subst mvar
              rw [decide_eq_false (show ¬ (0 : Int) ≠ 0 by decide)]
              by_cases mother : other = 0
              · subst mother
                rw [decide_eq_false (show ¬ (0 : Int) ≠ 0 by decide)]
                by_cases mword : word = 0
                · subst mword
                  rw [decide_eq_false (show ¬ (0 : Int) ≠ 0 by decide)]
                  by_cases mword2 : word2 = 0
                  · subst mword2
                    rw [decide_eq_false (show ¬ (0 : Int) ≠ 0 by decide)]
                    try simp only [Bool.false_or, Bool.or_false]
                    repeat' (first | (with_reducible first | refine SW_seq ?_ | refine SW_block ?_ | refine SThen_n ?_ | refine SThen_r ?_ | refine SThen_e ?_ | refine SIn_n ?_ | refine SIn_r ?_ | refine SIn_eq ?_ | refine SW_skip ?_ | refine SW_exit ?_ | refine SW_ret ?_ | refine SPost_r ?_) | ((with_reducible refine SIn_ne ?_ ?_); focus decide) | ((with_reducible refine SW_true ?_ ?_); focus exact rfl) | ((with_reducible refine SW_false ?_ ?_); focus exact rfl) | ((first | (with_reducible apply SW_run tt_ok hG htb) | ((with_reducible apply SW_draw rfl tt_ok hG htb); (focus kernel_rfl); (focus (simp only [List.range, List.range.loop, List.size_toArray, List.length_cons, List.length_nil, Nat.reduceAdd])))); focus ((repeat' (first | (with_reducible exact runX_nil) | (with_reducible exact runI_nil) | ((first | (with_reducible apply runX_cons) | (with_reducible apply runI_cons)); focus (simp (discharger := omega) only [go_sem, simprocAttr]; with_reducible rfl)))); done)))
                    exact Meet.h ⟨_, Norm.headS (own := []) (keep := [1, 179]) (by refine ⟨?_, ?_⟩; (simp (discharger := omega) only [go_sem, simprocAttr]; with_reducible rfl); refine ⟨?_, ?_, ?_, ?_⟩ <;> (simp only [go_sem, simprocAttr]; with_reducible rfl)), rfl⟩
                  · rw [decide_eq_true (show word2 ≠ 0 by omega)]
                    try simp only [Bool.false_or, Bool.true_or, Bool.or_true]
                    repeat' (first | (with_reducible first | refine SW_seq ?_ | refine SW_block ?_ | refine SThen_n ?_ | refine SThen_r ?_ | refine SThen_e ?_ | refine SIn_n ?_ | refine SIn_r ?_ | refine SIn_eq ?_ | refine SW_skip ?_ | refine SW_exit ?_ | refine SW_ret ?_ | refine SPost_r ?_) | ((with_reducible refine SIn_ne ?_ ?_); focus decide) | ((with_reducible refine SW_true ?_ ?_); focus exact rfl) | ((with_reducible refine SW_false ?_ ?_); focus exact rfl) | ((first | (with_reducible apply SW_run tt_ok hG htb) | ((with_reducible apply SW_draw rfl tt_ok hG htb); (focus kernel_rfl); (focus (simp only [List.range, List.range.loop, List.size_toArray, List.length_cons, List.length_nil, Nat.reduceAdd])))); focus ((repeat' (first | (with_reducible exact runX_nil) | (with_reducible exact runI_nil) | ((first | (with_reducible apply runX_cons) | (with_reducible apply runI_cons)); focus (simp (discharger := omega) only [go_sem, mword2, simprocAttr]; with_reducible rfl)))); done)))
                    exact Meet.h ⟨_, Norm.headS (own := []) (keep := [1, 179]) (by refine ⟨?_, ?_⟩; (simp (discharger := omega) only [go_sem, simprocAttr]; with_reducible rfl); refine ⟨?_, ?_, ?_, ?_⟩ <;> (simp only [go_sem, simprocAttr]; with_reducible rfl)), rfl⟩
                · rw [decide_eq_true (show word ≠ 0 by omega)]
                  try simp only [Bool.false_or, Bool.true_or, Bool.or_true]
                  repeat' (first | (with_reducible first | refine SW_seq ?_ | refine SW_block ?_ | refine SThen_n ?_ | refine SThen_r ?_ | refine SThen_e ?_ | refine SIn_n ?_ | refine SIn_r ?_ | refine SIn_eq ?_ | refine SW_skip ?_ | refine SW_exit ?_ | refine SW_ret ?_ | refine SPost_r ?_) | ((with_reducible refine SIn_ne ?_ ?_); focus decide) | ((with_reducible refine SW_true ?_ ?_); focus exact rfl) | ((with_reducible refine SW_false ?_ ?_); focus exact rfl) | ((first | (with_reducible apply SW_run tt_ok hG htb) | ((with_reducible apply SW_draw rfl tt_ok hG htb); (focus kernel_rfl); (focus (simp only [List.range, List.range.loop, List.size_toArray, List.length_cons, List.length_nil, Nat.reduceAdd])))); focus ((repeat' (first | (with_reducible exact runX_nil) | (with_reducible exact runI_nil) | ((first | (with_reducible apply runX_cons) | (with_reducible apply runI_cons)); focus (simp (discharger := omega) only [go_sem, mword, simprocAttr]; with_reducible rfl)))); done)))
                  exact Meet.h ⟨_, Norm.headS (own := []) (keep := [1, 179]) (by refine ⟨?_, ?_⟩; (simp (discharger := omega) only [go_sem, simprocAttr]; with_reducible rfl); refine ⟨?_, ?_, ?_, ?_⟩ <;> (simp only [go_sem, simprocAttr]; with_reducible rfl)), rfl⟩
              · rw [decide_eq_true (show other ≠ 0 by omega)]
                try simp only [Bool.false_or, Bool.true_or, Bool.or_true]
                repeat' (first | (with_reducible first | refine SW_seq ?_ | refine SW_block ?_ | refine SThen_n ?_ | refine SThen_r ?_ | refine SThen_e ?_ | refine SIn_n ?_ | refine SIn_r ?_ | refine SIn_eq ?_ | refine SW_skip ?_ | refine SW_exit ?_ | refine SW_ret ?_ | refine SPost_r ?_) | ((with_reducible refine SIn_ne ?_ ?_); focus decide) | ((with_reducible refine SW_true ?_ ?_); focus exact rfl) | ((with_reducible refine SW_false ?_ ?_); focus exact rfl) | ((first | (with_reducible apply SW_run tt_ok hG htb) | ((with_reducible apply SW_draw rfl tt_ok hG htb); (focus kernel_rfl); (focus (simp only [List.range, List.range.loop, List.size_toArray, List.length_cons, List.length_nil, Nat.reduceAdd])))); focus ((repeat' (first | (with_reducible exact runX_nil) | (with_reducible exact runI_nil) | ((first | (with_reducible apply runX_cons) | (with_reducible apply runI_cons)); focus (simp (discharger := omega) only [go_sem, mother, simprocAttr]; with_reducible rfl)))); done)))
                exact Meet.h ⟨_, Norm.headS (own := []) (keep := [1, 179]) (by refine ⟨?_, ?_⟩; (simp (discharger := omega) only [go_sem, simprocAttr]; with_reducible rfl); refine ⟨?_, ?_, ?_, ?_⟩ <;> (simp only [go_sem, simprocAttr]; with_reducible rfl)), rfl⟩
            · rw [decide_eq_true (show var ≠ 0 by omega)]
              try simp only [Bool.false_or, Bool.true_or, Bool.or_true]
              repeat' (first | (with_reducible first | refine SW_seq ?_ | refine SW_block ?_ | refine SThen_n ?_ | refine SThen_r ?_ | refine SThen_e ?_ | refine SIn_n ?_ | refine SIn_r ?_ | refine SIn_eq ?_ | refine SW_skip ?_ | refine SW_exit ?_ | refine SW_ret ?_ | refine SPost_r ?_) | ((with_reducible refine SIn_ne ?_ ?_); focus decide) | ((with_reducible refine SW_true ?_ ?_); focus exact rfl) | ((with_reducible refine SW_false ?_ ?_); focus exact rfl) | ((first | (with_reducible apply SW_run tt_ok hG htb) | ((with_reducible apply SW_draw rfl tt_ok hG htb); (focus kernel_rfl); (focus (simp only [List.range, List.range.loop, List.size_toArray, List.length_cons, List.length_nil, Nat.reduceAdd])))); focus ((repeat' (first | (with_reducible exact runX_nil) | (with_reducible exact runI_nil) | ((first | (with_reducible apply runX_cons) | (with_reducible apply runI_cons)); focus (simp (discharger := omega) only [go_sem, mvar, simprocAttr]; with_reducible rfl)))); done)))
              exact Meet.h ⟨_, Norm.headS (own := []) (keep := [1, 179]) (by refine ⟨?_, ?_⟩; (simp (discharger := omega) only [go_sem, simprocAttr]; with_reducible rfl); refine ⟨?_, ?_, ?_, ?_⟩ <;> (simp only [go_sem, simprocAttr]; with_reducible rfl)), rfl⟩
          · generalize nodeMore ⟨op, var, other, word, word2, num, coefs⟩ = mo at *
            cases mo with
            | true =>
              rw [if_pos rfl]
              repeat' (first | (with_reducible first | refine SW_seq ?_ | refine SW_block ?_ | refine SThen_n ?_ | refine SThen_r ?_ | refine SThen_e ?_ | refine SIn_n ?_ | refine SIn_r ?_ | refine SIn_eq ?_ | refine SW_skip ?_ | refine SW_exit ?_ | refine SW_ret ?_ | refine SPost_r ?_) | ((with_reducible refine SIn_ne ?_ ?_); focus decide) | ((with_reducible refine SW_true ?_ ?_); focus exact rfl) | ((with_reducible refine SW_false ?_ ?_); focus exact rfl) | ((first | (with_reducible apply SW_run tt_ok hG htb) | ((with_reducible apply SW_draw rfl tt_ok hG htb); (focus kernel_rfl); (focus (simp only [List.range, List.range.loop, List.size_toArray, List.length_cons, List.length_nil, Nat.reduceAdd])))); focus ((repeat' (first | (with_reducible exact runX_nil) | (with_reducible exact runI_nil) | ((first | (with_reducible apply runX_cons) | (with_reducible apply runI_cons)); focus (simp (discharger := omega) only [go_sem, simprocAttr]; with_reducible rfl)))); done)))
              exact (by simp (discharger := omega) only [go_sem, tErr, simprocAttr])
            | false =>
              rw [if_neg (by decide)]
              clear e1 e2 e3 e4 cV cO c1
              by_cases hc : 0 < coefs.length
              · obtain ⟨x, hx⟩ : ∃ x, coefs[coefs.length - 1]! = x := ⟨_, rfl⟩
                have hxe : (coefs.length : Int) - 1 = ((coefs.length - 1 : Nat) : Int) := by omega
                have hkk : coefs.length - 1 < coefs.length := by omega
                rw [hx]
                generalize coefs.length - 1 = kk at *
                by_cases h0 : x = 0
                · rw [if_pos ⟨hc, h0⟩]
                  repeat' (first | (with_reducible first | refine SW_seq ?_ | refine SW_block ?_ | refine SThen_n ?_ | refine SThen_r ?_ | refine SThen_e ?_ | refine SIn_n ?_ | refine SIn_r ?_ | refine SIn_eq ?_ | refine SW_skip ?_ | refine SW_exit ?_ | refine SW_ret ?_ | refine SPost_r ?_) | ((with_reducible refine SIn_ne ?_ ?_); focus decide) | ((with_reducible refine SW_true ?_ ?_); focus exact rfl) | ((with_reducible refine SW_false ?_ ?_); focus exact rfl) | ((first | (with_reducible apply SW_run tt_ok hG htb) | ((with_reducible apply SW_draw rfl tt_ok hG htb); (focus kernel_rfl); (focus (simp only [List.range, List.range.loop, List.size_toArray, List.length_cons, List.length_nil, Nat.reduceAdd])))); focus ((repeat' (first | (with_reducible exact runX_nil) | (with_reducible exact runI_nil) | ((first | (with_reducible apply runX_cons) | (with_reducible apply runI_cons)); focus (simp (discharger := omega) only [go_sem, hxe, hx, h0, simprocAttr]; with_reducible rfl)))); done)))
                  exact (by simp (discharger := omega) only [go_sem, tErr, simprocAttr])
                · rw [if_neg (by rintro ⟨_, e⟩; exact h0 e)]
                  repeat' (first | (with_reducible first | refine SW_seq ?_ | refine SW_block ?_ | refine SThen_n ?_ | refine SThen_r ?_ | refine SThen_e ?_ | refine SIn_n ?_ | refine SIn_r ?_ | refine SIn_eq ?_ | refine SW_skip ?_ | refine SW_exit ?_ | refine SW_ret ?_ | refine SPost_r ?_) | ((with_reducible refine SIn_ne ?_ ?_); focus decide) | ((with_reducible refine SW_true ?_ ?_); focus exact rfl) | ((with_reducible refine SW_false ?_ ?_); focus exact rfl) | ((first | (with_reducible apply SW_run tt_ok hG htb) | ((with_reducible apply SW_draw rfl tt_ok hG htb); (focus kernel_rfl); (focus (simp only [List.range, List.range.loop, List.size_toArray, List.length_cons, List.length_nil, Nat.reduceAdd])))); focus ((repeat' (first | (with_reducible exact runX_nil) | (with_reducible exact runI_nil) | ((first | (with_reducible apply runX_cons) | (with_reducible apply runI_cons)); focus (simp (discharger := omega) only [go_sem, hxe, hx, h0, simprocAttr]; with_reducible rfl)))); done)))
                  exact (by simp (discharger := omega) only [go_sem, tErr, simprocAttr])
              · rw [if_neg (by rintro ⟨e, _⟩; exact hc e)]
                have hc0 : coefs.length = 0 := by omega
                repeat' (first | (with_reducible first | refine SW_seq ?_ | refine SW_block ?_ | refine SThen_n ?_ | refine SThen_r ?_ | refine SThen_e ?_ | refine SIn_n ?_ | refine SIn_r ?_ | refine SIn_eq ?_ | refine SW_skip ?_ | refine SW_exit ?_ | refine SW_ret ?_ | refine SPost_r ?_) | ((with_reducible refine SIn_ne ?_ ?_); focus decide) | ((with_reducible refine SW_true ?_ ?_); focus exact rfl) | ((with_reducible refine SW_false ?_ ?_); focus exact rfl) | ((first | (with_reducible apply SW_run tt_ok hG htb) | ((with_reducible apply SW_draw rfl tt_ok hG htb); (focus kernel_rfl); (focus (simp only [List.range, List.range.loop, List.size_toArray, List.length_cons, List.length_nil, Nat.reduceAdd])))); focus ((repeat' (first | (with_reducible exact runX_nil) | (with_reducible exact runI_nil) | ((first | (with_reducible apply runX_cons) | (with_reducible apply runI_cons)); focus (simp (discharger := omega) only [go_sem, hc0, simprocAttr]; with_reducible rfl)))); done)))
                exact (by simp (discharger := omega) only [go_sem, tErr, simprocAttr])
    · have e3 : nodeErr ⟨op, var, other, word, word2, num, coefs⟩ = if nodeOk ⟨op, var, other, word, word2, num, coefs⟩ = false then 1 else if nodeMore ⟨op, var, other, word, word2, num, coefs⟩ = true then 2 else if 0 < coefs.length ∧ coefs[coefs.length - 1]! = 0 then 2 else 0 := by unfold nodeErr; rw [if_neg (by simp only; omega)]
      rw [e3]
      have hop3 : op = 3 ∨ op = 4 ∨ op = 5 ∨ op = 6 ∨ op = 7 ∨ op = 8 ∨ op = 9 := by omega
      clear hl hop
      rcases hop3 with h | h | h | h | h | h | h <;> subst h
      · have e1 : nodeOk ⟨3, var, other, word, word2, num, coefs⟩ = (isVar var && decide (0 ≤ word) && decide (word < 3) && decide (0 ≤ num) && decide (num ≤ 9)) := by unfold nodeOk; simp
        have e2 : usedN ⟨3, var, other, word, word2, num, coefs⟩ = ⟨3, var, 0, word, 0, num, []⟩ := by unfold usedN; simp
        have e4 : nodeMore ⟨3, var, other, word, word2, num, coefs⟩ = (decide (other ≠ 0) || decide (word2 ≠ 0) || decide (coefs.length ≠ 0)) := by unfold nodeMore; rw [e2]; simp
        refine SW_meetG ⟨196, [(1, .bptr 0 0), (3, .bptr 1 0), (4, .t (.bool (nodeOk ⟨3, var, other, word, word2, num, coefs⟩)))], [.fbox [tInt 3, tInt var, tInt other, tInt word, tInt word2, tInt num, tInts coefs], .box [.t (tInt 3), .t (tInt var), .t (tInt 0), .t (tInt word), .t (tInt 0), .t (tInt num), .nil]]⟩ Weak.sw (SW_block ?_) ?_
        · rw [e1]
          clear e1 e2 e3 e4
          repeat' (first | (with_reducible first | refine SW_seq ?_ | refine SW_block ?_ | refine SThen_n ?_ | refine SThen_r ?_ | refine SThen_e ?_ | refine SIn_n ?_ | refine SIn_r ?_ | refine SIn_eq ?_ | refine SW_skip ?_ | refine SW_exit ?_ | refine SW_ret ?_ | refine SPost_r ?_) | ((with_reducible refine SIn_ne ?_ ?_); focus decide) | ((with_reducible refine SW_true ?_ ?_); focus exact rfl) | ((with_reducible refine SW_false ?_ ?_); focus exact rfl) | ((with_reducible apply SW_run tt_ok hG htb); focus ((repeat' (first | (with_reducible exact runX_nil) | ((with_reducible apply runX_cons); focus (simp (discharger := omega) only [go_sem, simprocAttr]; with_reducible rfl)))); done)))
          (with_reducible apply SW_drawF [0, 1, 2, 3, 4, 5, 6, 8, 10] [] rfl tt_ok hG htb)
          · kernel_rfl
          · simp only [List.range, List.range.loop, List.size_toArray, List.length_cons, List.length_nil, Nat.reduceAdd]
            repeat' (first | (with_reducible exact runG_nil) | ((with_reducible apply runF_of); (focus rfl); focus (simp (discharger := omega) only [go_sem, simprocAttr]; with_reducible rfl)) | ((apply runF_fix rfl rfl rfl rfl); focus (simp (discharger := omega) only [go_sem, simprocAttr]; with_reducible rfl)) | ((apply runF_fa rfl rfl); focus (simp (discharger := omega) only [go_sem, simprocAttr]; with_reducible rfl)))
          cases hb0 : isVar var with
          | false =>
            rw [hb0] at cV
            try simp only [Bool.true_and, Bool.false_and, Bool.and_true, Bool.and_false]
            have htb := Tab.cons cV Tab.nil
            repeat' (first | (with_reducible first | refine SW_seq ?_ | refine SW_block ?_ | refine SThen_n ?_ | refine SThen_r ?_ | refine SThen_e ?_ | refine SIn_n ?_ | refine SIn_r ?_ | refine SIn_eq ?_ | refine SW_skip ?_ | refine SW_exit ?_ | refine SW_ret ?_ | refine SPost_r ?_) | ((with_reducible refine SIn_ne ?_ ?_); focus decide) | ((with_reducible refine SW_true ?_ ?_); focus exact rfl) | ((with_reducible refine SW_false ?_ ?_); focus exact rfl) | ((first | (with_reducible apply SW_run tt_ok hG htb) | ((with_reducible apply SW_draw rfl tt_ok hG htb); (focus kernel_rfl); (focus (simp only [List.range, List.range.loop, List.size_toArray, List.length_cons, List.length_nil, Nat.reduceAdd])))); focus ((repeat' (first | (with_reducible exact runX_nil) | (with_reducible exact runI_nil) | ((first | (with_reducible apply runX_cons) | (with_reducible apply runI_cons)); focus (simp (discharger := omega) only [go_sem, simprocAttr]; with_reducible rfl)))); done)))
            exact Meet.h ⟨_, Norm.headS (own := []) (keep := [1, 3, 4]) (by refine ⟨?_, ?_⟩; (simp (discharger := omega) only [go_sem, simprocAttr]; with_reducible rfl); refine ⟨?_, ?_, ?_, ?_⟩ <;> (simp only [go_sem, simprocAttr]; with_reducible rfl)), rfl⟩
          | true =>
            rw [hb0] at cV
            by_cases q1 : 0 ≤ word
            · rw [decide_eq_true q1]
              by_cases q2 : word < 3
              · rw [decide_eq_true q2]
                by_cases q3 : 0 ≤ num
                · rw [decide_eq_true q3]
                  by_cases q4 : num ≤ 9
                  · rw [decide_eq_true q4]
                    try simp only [Bool.true_and, Bool.false_and, Bool.and_true, Bool.and_false]
                    have htb := Tab.cons cV Tab.nil
                    repeat' (first | (with_reducible first | refine SW_seq ?_ | refine SW_block ?_ | refine SThen_n ?_ | refine SThen_r ?_ | refine SThen_e ?_ | refine SIn_n ?_ | refine SIn_r ?_ | refine SIn_eq ?_ | refine SW_skip ?_ | refine SW_exit ?_ | refine SW_ret ?_ | refine SPost_r ?_) | ((with_reducible refine SIn_ne ?_ ?_); focus decide) | ((with_reducible refine SW_true ?_ ?_); focus exact rfl) | ((with_reducible refine SW_false ?_ ?_); focus exact rfl) | ((first | (with_reducible apply SW_run tt_ok hG htb) | ((with_reducible apply SW_draw rfl tt_ok hG htb); (focus kernel_rfl); (focus (simp only [List.range, List.range.loop, List.size_toArray, List.length_cons, List.length_nil, Nat.reduceAdd])))); focus ((repeat' (first | (with_reducible exact runX_nil) | (with_reducible exact runI_nil) | ((first | (with_reducible apply runX_cons) | (with_reducible apply runI_cons)); focus (simp (discharger := omega) only [go_sem, simprocAttr]; with_reducible rfl)))); done)))
                    exact Meet.h ⟨_, Norm.headS (own := []) (keep := [1, 3, 4]) (by refine ⟨?_, ?_⟩; (simp (discharger := omega) only [go_sem, simprocAttr]; with_reducible rfl); refine ⟨?_, ?_, ?_, ?_⟩ <;> (simp only [go_sem, simprocAttr]; with_reducible rfl)), rfl⟩
                  · rw [decide_eq_false q4]
                    try simp only [Bool.true_and, Bool.false_and, Bool.and_true, Bool.and_false]
                    have htb := Tab.cons cV Tab.nil
                    repeat' (first | (with_reducible first | refine SW_seq ?_ | refine SW_block ?_ | refine SThen_n ?_ | refine SThen_r ?_ | refine SThen_e ?_ | refine SIn_n ?_ | refine SIn_r ?_ | refine SIn_eq ?_ | refine SW_skip ?_ | refine SW_exit ?_ | refine SW_ret ?_ | refine SPost_r ?_) | ((with_reducible refine SIn_ne ?_ ?_); focus decide) | ((with_reducible refine SW_true ?_ ?_); focus exact rfl) | ((with_reducible refine SW_false ?_ ?_); focus exact rfl) | ((first | (with_reducible apply SW_run tt_ok hG htb) | ((with_reducible apply SW_draw rfl tt_ok hG htb); (focus kernel_rfl); (focus (simp only [List.range, List.range.loop, List.size_toArray, List.length_cons, List.length_nil, Nat.reduceAdd])))); focus ((repeat' (first | (with_reducible exact runX_nil) | (with_reducible exact runI_nil) | ((first | (with_reducible apply runX_cons) | (with_reducible apply runI_cons)); focus (simp (discharger := omega) only [go_sem, simprocAttr]; with_reducible rfl)))); done)))
                    exact Meet.h ⟨_, Norm.headS (own := []) (keep := [1, 3, 4]) (by refine ⟨?_, ?_⟩; (simp (discharger := omega) only [go_sem, simprocAttr]; with_reducible rfl); refine ⟨?_, ?_, ?_, ?_⟩ <;> (simp only [go_sem, simprocAttr]; with_reducible rfl)), rfl⟩
                · rw [decide_eq_false q3]
                  try simp only [Bool.true_and, Bool.false_and, Bool.and_true, Bool.and_false]
                  have htb := Tab.cons cV Tab.nil
                  repeat' (first | (with_reducible first | refine SW_seq ?_ | refine SW_block ?_ | refine SThen_n ?_ | refine SThen_r ?_ | refine SThen_e ?_ | refine SIn_n ?_ | refine SIn_r ?_ | refine SIn_eq ?_ | refine SW_skip ?_ | refine SW_exit ?_ | refine SW_ret ?_ | refine SPost_r ?_) | ((with_reducible refine SIn_ne ?_ ?_); focus decide) | ((with_reducible refine SW_true ?_ ?_); focus exact rfl) | ((with_reducible refine SW_false ?_ ?_); focus exact rfl) | ((first | (with_reducible apply SW_run tt_ok hG htb) | ((with_reducible apply SW_draw rfl tt_ok hG htb); (focus kernel_rfl); (focus (simp only [List.range, List.range.loop, List.size_toArray, List.length_cons, List.length_nil, Nat.reduceAdd])))); focus ((repeat' (first | (with_reducible exact runX_nil) | (with_reducible exact runI_nil) | ((first | (with_reducible apply runX_cons) | (with_reducible apply runI_cons)); focus (simp (discharger := omega) only [go_sem, simprocAttr]; with_reducible rfl)))); done)))
                  exact Meet.h ⟨_, Norm.headS (own := []) (keep := [1, 3, 4]) (by refine ⟨?_, ?_⟩; (simp (discharger := omega) only [go_sem, simprocAttr]; with_reducible rfl); refine ⟨?_, ?_, ?_, ?_⟩ <;> (simp only [go_sem, simprocAttr]; with_reducible rfl)), rfl⟩
              · rw [decide_eq_false q2]
                try simp only [Bool.true_and, Bool.false_and, Bool.and_true, Bool.and_false]
                have htb := Tab.cons cV Tab.nil
                repeat' (first | (with_reducible first | refine SW_seq ?_ | refine SW_block ?_ | refine SThen_n ?_ | refine SThen_r ?_ | refine SThen_e ?_ | refine SIn_n ?_ | refine SIn_r ?_ | refine SIn_eq ?_ | refine SW_skip ?_ | refine SW_exit ?_ | refine SW_ret ?_ | refine SPost_r ?_) | ((with_reducible refine SIn_ne ?_ ?_); focus decide) | ((with_reducible refine SW_true ?_ ?_); focus exact rfl) | ((with_reducible refine SW_false ?_ ?_); focus exact rfl) | ((first | (with_reducible apply SW_run tt_ok hG htb) | ((with_reducible apply SW_draw rfl tt_ok hG htb); (focus kernel_rfl); (focus (simp only [List.range, List.range.loop, List.size_toArray, List.length_cons, List.length_nil, Nat.reduceAdd])))); focus ((repeat' (first | (with_reducible exact runX_nil) | (with_reducible exact runI_nil) | ((first | (with_reducible apply runX_cons) | (with_reducible apply runI_cons)); focus (simp (discharger := omega) only [go_sem, simprocAttr]; with_reducible rfl)))); done)))
                exact Meet.h ⟨_, Norm.headS (own := []) (keep := [1, 3, 4]) (by refine ⟨?_, ?_⟩; (simp (discharger := omega) only [go_sem, simprocAttr]; with_reducible rfl); refine ⟨?_, ?_, ?_, ?_⟩ <;> (simp only [go_sem, simprocAttr]; with_reducible rfl)), rfl⟩
            · rw [decide_eq_false q1]
              try simp only [Bool.true_and, Bool.false_and, Bool.and_true, Bool.and_false]
              have htb := Tab.cons cV Tab.nil
              repeat' (first | (with_reducible first | refine SW_seq ?_ | refine SW_block ?_ | refine SThen_n ?_ | refine SThen_r ?_ | refine SThen_e ?_ | refine SIn_n ?_ | refine SIn_r ?_ | refine SIn_eq ?_ | refine SW_skip ?_ | refine SW_exit ?_ | refine SW_ret ?_ | refine SPost_r ?_) | ((with_reducible refine SIn_ne ?_ ?_); focus decide) | ((with_reducible refine SW_true ?_ ?_); focus exact rfl) | ((with_reducible refine SW_false ?_ ?_); focus exact rfl) | ((first | (with_reducible apply SW_run tt_ok hG htb) | ((with_reducible apply SW_draw rfl tt_ok hG htb); (focus kernel_rfl); (focus (simp only [List.range, List.range.loop, List.size_toArray, List.length_cons, List.length_nil, Nat.reduceAdd])))); focus ((repeat' (first | (with_reducible exact runX_nil) | (with_reducible exact runI_nil) | ((first | (with_reducible apply runX_cons) | (with_reducible apply runI_cons)); focus (simp (discharger := omega) only [go_sem, simprocAttr]; with_reducible rfl)))); done)))
              exact Meet.h ⟨_, Norm.headS (own := []) (keep := [1, 3, 4]) (by refine ⟨?_, ?_⟩; (simp (discharger := omega) only [go_sem, simprocAttr]; with_reducible rfl); refine ⟨?_, ?_, ?_, ?_⟩ <;> (simp only [go_sem, simprocAttr]; with_reducible rfl)), rfl⟩
        · generalize nodeOk ⟨3, var, other, word, word2, num, coefs⟩ = ok at *
          cases ok with
          | false =>
            rw [if_pos rfl]
            repeat' (first | (with_reducible first | refine SW_seq ?_ | refine SW_block ?_ | refine SThen_n ?_ | refine SThen_r ?_ | refine SThen_e ?_ | refine SIn_n ?_ | refine SIn_r ?_ | refine SIn_eq ?_ | refine SW_skip ?_ | refine SW_exit ?_ | refine SW_ret ?_ | refine SPost_r ?_) | ((with_reducible refine SIn_ne ?_ ?_); focus decide) | ((with_reducible refine SW_true ?_ ?_); focus exact rfl) | ((with_reducible refine SW_false ?_ ?_); focus exact rfl) | ((first | (with_reducible apply SW_run tt_ok hG htb) | ((with_reducible apply SW_draw rfl tt_ok hG htb); (focus kernel_rfl); (focus (simp only [List.range, List.range.loop, List.size_toArray, List.length_cons, List.length_nil, Nat.reduceAdd])))); focus ((repeat' (first | (with_reducible exact runX_nil) | (with_reducible exact runI_nil) | ((first | (with_reducible apply runX_cons) | (with_reducible apply runI_cons)); focus (simp (discharger := omega) only [go_sem, simprocAttr]; with_reducible rfl)))); done)))
            exact (by simp (discharger := omega) only [go_sem, tErr, simprocAttr])
          | true =>
            rw [if_neg (by decide)]
            repeat' (first | (with_reducible first | refine SW_seq ?_ | refine SW_block ?_ | refine SThen_n ?_ | refine SThen_r ?_ | refine SThen_e ?_ | refine SIn_n ?_ | refine SIn_r ?_ | refine SIn_eq ?_ | refine SW_skip ?_ | refine SW_exit ?_ | refine SW_ret ?_ | refine SPost_r ?_) | ((with_reducible refine SIn_ne ?_ ?_); focus decide) | ((with_reducible refine SW_true ?_ ?_); focus exact rfl) | ((with_reducible refine SW_false ?_ ?_); focus exact rfl) | ((first | (with_reducible apply SW_run tt_ok hG htb) | ((with_reducible apply SW_draw rfl tt_ok hG htb); (focus kernel_rfl); (focus (simp only [List.range, List.range.loop, List.size_toArray, List.length_cons, List.length_nil, Nat.reduceAdd])))); focus ((repeat' (first | (with_reducible exact runX_nil) | (with_reducible exact runI_nil) | ((first | (with_reducible apply runX_cons) | (with_reducible apply runI_cons)); focus (simp (discharger := omega) only [go_sem, simprocAttr]; with_reducible rfl)))); done)))
            refine SW_meetG ⟨196, [(1, .bptr 0 0), (179, .t (.bool (nodeMore ⟨3, var, other, word, word2, num, coefs⟩)))], [.fbox [tInt 3, tInt var, tInt other, tInt word, tInt word2, tInt num, tInts coefs]]⟩ Weak.sw ?_ ?_
            · rw [e4]
              clear e1 e2 e3 e4
              by_cases mother : other = 0
              · subst mother
                rw [decide_eq_false (show ¬ (0 : Int) ≠ 0 by decide)]
                by_cases mword2 : word2 = 0
                · subst mword2
                  rw [decide_eq_false (show ¬ (0 : Int) ≠ 0 by decide)]
                  by_cases mc : coefs.length = 0
                  · rw [decide_eq_false (show ¬ coefs.length ≠ 0 by omega)]
                    try simp only [Bool.false_or, Bool.or_false]
                    repeat' (first | (with_reducible first | refine SW_seq ?_ | refine SW_block ?_ | refine SThen_n ?_ | refine SThen_r ?_ | refine SThen_e ?_ | refine SIn_n ?_ | refine SIn_r ?_ | refine SIn_eq ?_ | refine SW_skip ?_ | refine SW_exit ?_ | refine SW_ret ?_ | refine SPost_r ?_) | ((with_reducible refine SIn_ne ?_ ?_); focus decide) | ((with_reducible refine SW_true ?_ ?_); focus exact rfl) | ((with_reducible refine SW_false ?_ ?_); focus exact rfl) | ((first | (with_reducible apply SW_run tt_ok hG htb) | ((with_reducible apply SW_draw rfl tt_ok hG htb); (focus kernel_rfl); (focus (simp only [List.range, List.range.loop, List.size_toArray, List.length_cons, List.length_nil, Nat.reduceAdd])))); focus ((repeat' (first | (with_reducible exact runX_nil) | (with_reducible exact runI_nil) | ((first | (with_reducible apply runX_cons) | (with_reducible apply runI_cons)); focus (simp (discharger := omega) only [go_sem, mc, simprocAttr]; with_reducible rfl)))); done)))
                    exact Meet.h ⟨_, Norm.headS (own := []) (keep := [1, 179]) (by refine ⟨?_, ?_⟩; (simp (discharger := omega) only [go_sem, simprocAttr]; with_reducible rfl); refine ⟨?_, ?_, ?_, ?_⟩ <;> (simp only [go_sem, simprocAttr]; with_reducible rfl)), rfl⟩
                  · rw [decide_eq_true (show coefs.length ≠ 0 by omega)]
                    try simp only [Bool.false_or, Bool.true_or, Bool.or_true]
                    repeat' (first | (with_reducible first | refine SW_seq ?_ | refine SW_block ?_ | refine SThen_n ?_ | refine SThen_r ?_ | refine SThen_e ?_ | refine SIn_n ?_ | refine SIn_r ?_ | refine SIn_eq ?_ | refine SW_skip ?_ | refine SW_exit ?_ | refine SW_ret ?_ | refine SPost_r ?_) | ((with_reducible refine SIn_ne ?_ ?_); focus decide) | ((with_reducible refine SW_true ?_ ?_); focus exact rfl) | ((with_reducible refine SW_false ?_ ?_); focus exact rfl) | ((first | (with_reducible apply SW_run tt_ok hG htb) | ((with_reducible apply SW_draw rfl tt_ok hG htb); (focus kernel_rfl); (focus (simp only [List.range, List.range.loop, List.size_toArray, List.length_cons, List.length_nil, Nat.reduceAdd])))); focus ((repeat' (first | (with_reducible exact runX_nil) | (with_reducible exact runI_nil) | ((first | (with_reducible apply runX_cons) | (with_reducible apply runI_cons)); focus (simp (discharger := omega) only [go_sem, mc, simprocAttr]; with_reducible rfl)))); done)))
                    exact Meet.h ⟨_, Norm.headS (own := []) (keep := [1, 179]) (by refine ⟨?_, ?_⟩; (simp (discharger := omega) only [go_sem, simprocAttr]; with_reducible rfl); refine ⟨?_, ?_, ?_, ?_⟩ <;> (simp only [go_sem, simprocAttr]; with_reducible rfl)), rfl⟩
                · rw [decide_eq_true (show word2 ≠ 0 by omega)]
                  try simp only [Bool.false_or, Bool.true_or, Bool.or_true]
                  repeat' (first | (with_reducible first | refine SW_seq ?_ | refine SW_block ?_ | refine SThen_n ?_ | refine SThen_r ?_ | refine SThen_e ?_ | refine SIn_n ?_ | refine SIn_r ?_ | refine SIn_eq ?_ | refine SW_skip ?_ | refine SW_exit ?_ | refine SW_ret ?_ | refine SPost_r ?_) | ((with_reducible refine SIn_ne ?_ ?_); focus decide) | ((with_reducible refine SW_true ?_ ?_); focus exact rfl) | ((with_reducible refine SW_false ?_ ?_); focus exact rfl) | ((first | (with_reducible apply SW_run tt_ok hG htb) | ((with_reducible apply SW_draw rfl tt_ok hG htb); (focus kernel_rfl); (focus (simp only [List.range, List.range.loop, List.size_toArray, List.length_cons, List.length_nil, Nat.reduceAdd])))); focus ((repeat' (first | (with_reducible exact runX_nil) | (with_reducible exact runI_nil) | ((first | (with_reducible apply runX_cons) | (with_reducible apply runI_cons)); focus (simp (discharger := omega) only [go_sem, mword2, simprocAttr]; with_reducible rfl)))); done)))
                  exact Meet.h ⟨_, Norm.headS (own := []) (keep := [1, 179]) (by refine ⟨?_, ?_⟩; (simp (discharger := omega) only [go_sem, simprocAttr]; with_reducible rfl); refine ⟨?_, ?_, ?_, ?_⟩ <;> (simp only [go_sem, simprocAttr]; with_reducible rfl)), rfl⟩
              · rw [decide_eq_true (show other ≠ 0 by omega)]
                try simp only [Bool.false_or, Bool.true_or, Bool.or_true]
                repeat' (first | (with_reducible first | refine SW_seq ?_ | refine SW_block ?_ | refine SThen_n ?_ | refine SThen_r ?_ | refine SThen_e ?_ | refine SIn_n ?_ | refine SIn_r ?_ | refine SIn_eq ?_ | refine SW_skip ?_ | refine SW_exit ?_ | refine SW_ret ?_ | refine SPost_r ?_) | ((with_reducible refine SIn_ne ?_ ?_); focus decide) | ((with_reducible refine SW_true ?_ ?_); focus exact rfl) | ((with_reducible refine SW_false ?_ ?_); focus exact rfl) | ((first | (with_reducible apply SW_run tt_ok hG htb) | ((with_reducible apply SW_draw rfl tt_ok hG htb); (focus kernel_rfl); (focus (simp only [List.range, List.range.loop, List.size_toArray, List.length_cons, List.length_nil, Nat.reduceAdd])))); focus ((repeat' (first | (with_reducible exact runX_nil) | (with_reducible exact runI_nil) | ((first | (with_reducible apply runX_cons) | (with_reducible apply runI_cons)); focus (simp (discharger := omega) only [go_sem, mother, simprocAttr]; with_reducible rfl)))); done)))
                exact Meet.h ⟨_, Norm.headS (own := []) (keep := [1, 179]) (by refine ⟨?_, ?_⟩; (simp (discharger := omega) only [go_sem, simprocAttr]; with_reducible rfl); refine ⟨?_, ?_, ?_, ?_⟩ <;> (simp only [go_sem, simprocAttr]; with_reducible rfl)), rfl⟩
            · generalize nodeMore ⟨3, var, other, word, word2, num, coefs⟩ = mo at *
              cases mo with
              | true =>
                rw [if_pos rfl]
                repeat' (first | (with_reducible first | refine SW_seq ?_ | refine SW_block ?_ | refine SThen_n ?_ | refine SThen_r ?_ | refine SThen_e ?_ | refine SIn_n ?_ | refine SIn_r ?_ | refine SIn_eq ?_ | refine SW_skip ?_ | refine SW_exit ?_ | refine SW_ret ?_ | refine SPost_r ?_) | ((with_reducible refine SIn_ne ?_ ?_); focus decide) | ((with_reducible refine SW_true ?_ ?_); focus exact rfl) | ((with_reducible refine SW_false ?_ ?_); focus exact rfl) | ((first | (with_reducible apply SW_run tt_ok hG htb) | ((with_reducible apply SW_draw rfl tt_ok hG htb); (focus kernel_rfl); (focus (simp only [List.range, List.range.loop, List.size_toArray, List.length_cons, List.length_nil, Nat.reduceAdd])))); focus ((repeat' (first | (with_reducible exact runX_nil) | (with_reducible exact runI_nil) | ((first | (with_reducible apply runX_cons) | (with_reducible apply runI_cons)); focus (simp (discharger := omega) only [go_sem, simprocAttr]; with_reducible rfl)))); done)))
                exact (by simp (discharger := omega) only [go_sem, tErr, simprocAttr])
              | false =>
                rw [if_neg (by decide)]
                clear e1 e2 e3 e4 cV cO c1
                by_cases hc : 0 < coefs.length
                · obtain ⟨x, hx⟩ : ∃ x, coefs[coefs.length - 1]! = x := ⟨_, rfl⟩
                  have hxe : (coefs.length : Int) - 1 = ((coefs.length - 1 : Nat) : Int) := by omega
                  have hkk : coefs.length - 1 < coefs.length := by omega
                  rw [hx]
                  generalize coefs.length - 1 = kk at *
                  by_cases h0 : x = 0
                  · rw [if_pos ⟨hc, h0⟩]
                    repeat' (first | (with_reducible first | refine SW_seq ?_ | refine SW_block ?_ | refine SThen_n ?_ | refine SThen_r ?_ | refine SThen_e ?_ | refine SIn_n ?_ | refine SIn_r ?_ | refine SIn_eq ?_ | refine SW_skip ?_ | refine SW_exit ?_ | refine SW_ret ?_ | refine SPost_r ?_) | ((with_reducible refine SIn_ne ?_ ?_); focus decide) | ((with_reducible refine SW_true ?_ ?_); focus exact rfl) | ((with_reducible refine SW_false ?_ ?_); focus exact rfl) | ((first | (with_reducible apply SW_run tt_ok hG htb) | ((with_reducible apply SW_draw rfl tt_ok hG htb); (focus kernel_rfl); (focus (simp only [List.range, List.range.loop, List.size_toArray, List.length_cons, List.length_nil, Nat.reduceAdd])))); focus ((repeat' (first | (with_reducible exact runX_nil) | (with_reducible exact runI_nil) | ((first | (with_reducible apply runX_cons) | (with_reducible apply runI_cons)); focus (simp (discharger := omega) only [go_sem, hxe, hx, h0, simprocAttr]; with_reducible rfl)))); done)))
                    exact (by simp (discharger := omega) only [go_sem, tErr, simprocAttr])
                  · rw [if_neg (by rintro ⟨_, e⟩; exact h0 e)]
                    repeat' (first | (with_reducible first | refine SW_seq ?_ | refine SW_block ?_ | refine SThen_n ?_ | refine SThen_r ?_ | refine SThen_e ?_ | refine SIn_n ?_ | refine SIn_r ?_ | refine SIn_eq ?_ | refine SW_skip ?_ | refine SW_exit ?_ | refine SW_ret ?_ | refine SPost_r ?_) | ((with_reducible refine SIn_ne ?_ ?_); focus decide) | ((with_reducible refine SW_true ?_ ?_); focus exact rfl) | ((with_reducible refine SW_false ?_ ?_); focus exact rfl) | ((first | (with_reducible apply SW_run tt_ok hG htb) | ((with_reducible apply SW_draw rfl tt_ok hG htb); (focus kernel_rfl); (focus (simp only [List.range, List.range.loop, List.size_toArray, List.length_cons, List.length_nil, Nat.reduceAdd])))); focus ((repeat' (first | (with_reducible exact runX_nil) | (with_reducible exact runI_nil) | ((first | (with_reducible apply runX_cons) | (with_reducible apply runI_cons)); focus (simp (discharger := omega) only [go_sem, hxe, hx, h0, simprocAttr]; with_reducible rfl)))); done)))
                    exact (by simp (discharger := omega) only [go_sem, tErr, simprocAttr])
                · rw [if_neg (by rintro ⟨e, _⟩; exact hc e)]
                  have hc0 : coefs.length = 0 := by omega
                  repeat' (first | (with_reducible first | refine SW_seq ?_ | refine SW_block ?_ | refine SThen_n ?_ | refine SThen_r ?_ | refine SThen_e ?_ | refine SIn_n ?_ | refine SIn_r ?_ | refine SIn_eq ?_ | refine SW_skip ?_ | refine SW_exit ?_ | refine SW_ret ?_ | refine SPost_r ?_) | ((with_reducible refine SIn_ne ?_ ?_); focus decide) | ((with_reducible refine SW_true ?_ ?_); focus exact rfl) | ((with_reducible refine SW_false ?_ ?_); focus exact rfl) | ((first | (with_reducible apply SW_run tt_ok hG htb) | ((with_reducible apply SW_draw rfl tt_ok hG htb); (focus kernel_rfl); (focus (simp only [List.range, List.range.loop, List.size_toArray, List.length_cons, List.length_nil, Nat.reduceAdd])))); focus ((repeat' (first | (with_reducible exact runX_nil) | (with_reducible exact runI_nil) | ((first | (with_reducible apply runX_cons) | (with_reducible apply runI_cons)); focus (simp (discharger := omega) only [go_sem, hc0, simprocAttr]; with_reducible rfl)))); done)))
                  exact (by simp (discharger := omega) only [go_sem, tErr, simprocAttr])
      · have e1 : nodeOk ⟨4, var, other, word, word2, num, coefs⟩ = (isVar var && isVar other && decide (0 ≤ word) && decide (word < 3) && decide (0 ≤ word2) && decide (word2 < 3)) := by unfold nodeOk; simp
        have e2 : usedN ⟨4, var, other, word, word2, num, coefs⟩ = ⟨4, var, other, word, word2, 0, []⟩ := by unfold usedN; simp
        have e4 : nodeMore ⟨4, var, other, word, word2, num, coefs⟩ = (decide (num ≠ 0) || decide (coefs.length ≠ 0)) := by unfold nodeMore; rw [e2]; simp
        refine SW_meetG ⟨196, [(1, .bptr 0 0), (3, .bptr 1 0), (4, .t (.bool (nodeOk ⟨4, var, other, word, word2, num, coefs⟩)))], [.fbox [tInt 4, tInt var, tInt other, tInt word, tInt word2, tInt num, tInts coefs], .box [.t (tInt 4), .t (tInt var), .t (tInt other), .t (tInt word), .t (tInt word2), .t (tInt 0), .nil]]⟩ Weak.sw (SW_block ?_) ?_
        · rw [e1]
          clear e1 e2 e3 e4
          repeat' (first | (with_reducible first | refine SW_seq ?_ | refine SW_block ?_ | refine SThen_n ?_ | refine SThen_r ?_ | refine SThen_e ?_ | refine SIn_n ?_ | refine SIn_r ?_ | refine SIn_eq ?_ | refine SW_skip ?_ | refine SW_exit ?_ | refine SW_ret ?_ | refine SPost_r ?_) | ((with_reducible refine SIn_ne ?_ ?_); focus decide) | ((with_reducible refine SW_true ?_ ?_); focus exact rfl) | ((with_reducible refine SW_false ?_ ?_); focus exact rfl) | ((with_reducible apply SW_run tt_ok hG htb); focus ((repeat' (first | (with_reducible exact runX_nil) | ((with_reducible apply runX_cons); focus (simp (discharger := omega) only [go_sem, simprocAttr]; with_reducible rfl)))); done)))
          (with_reducible apply SW_drawF [0, 1, 2, 3, 4, 5, 6, 7, 8, 10, 12, 14] [] rfl tt_ok hG htb)
          · kernel_rfl
          · simp only [List.range, List.range.loop, List.size_toArray, List.length_cons, List.length_nil, Nat.reduceAdd]
            repeat' (first | (with_reducible exact runG_nil) | ((with_reducible apply runF_of); (focus rfl); focus (simp (discharger := omega) only [go_sem, simprocAttr]; with_reducible rfl)) | ((apply runF_fix rfl rfl rfl rfl); focus (simp (discharger := omega) only [go_sem, simprocAttr]; with_reducible rfl)) | ((apply runF_fa rfl rfl); focus (simp (discharger := omega) only [go_sem, simprocAttr]; with_reducible rfl)))
          by_cases hvo : var = other
          · subst hvo
            rw [Bool.and_self]
            cases hb0 : isVar var with
            | false =>
              rw [hb0] at cV
              try simp only [Bool.true_and, Bool.false_and, Bool.and_true, Bool.and_false]
              have htb := Tab.cons cV Tab.nil
              repeat' (first | (with_reducible first | refine SW_seq ?_ | refine SW_block ?_ | refine SThen_n ?_ | refine SThen_r ?_ | refine SThen_e ?_ | refine SIn_n ?_ | refine SIn_r ?_ | refine SIn_eq ?_ | refine SW_skip ?_ | refine SW_exit ?_ | refine SW_ret ?_ | refine SPost_r ?_) | ((with_reducible refine SIn_ne ?_ ?_); focus decide) | ((with_reducible refine SW_true ?_ ?_); focus exact rfl) | ((with_reducible refine SW_false ?_ ?_); focus exact rfl) | ((first | (with_reducible apply SW_run tt_ok hG htb) | ((with_reducible apply SW_draw rfl tt_ok hG htb); (focus kernel_rfl); (focus (simp only [List.range, List.range.loop, List.size_toArray, List.length_cons, List.length_nil, Nat.reduceAdd])))); focus ((repeat' (first | (with_reducible exact runX_nil) | (with_reducible exact runI_nil) | ((first | (with_reducible apply runX_cons) | (with_reducible apply runI_cons)); focus (simp (discharger := omega) only [go_sem, simprocAttr]; with_reducible rfl)))); done)))
              exact Meet.h ⟨_, Norm.headS (own := []) (keep := [1, 3, 4]) (by refine ⟨?_, ?_⟩; (simp (discharger := omega) only [go_sem, simprocAttr]; with_reducible rfl); refine ⟨?_, ?_, ?_, ?_⟩ <;> (simp only [go_sem, simprocAttr]; with_reducible rfl)), rfl⟩
            | true =>
              rw [hb0] at cV
              by_cases q1 : 0 ≤ word
              · rw [decide_eq_true q1]
                by_cases q2 : word < 3
                · rw [decide_eq_true q2]
                  by_cases q3 : 0 ≤ word2
                  · rw [decide_eq_true q3]
                    by_cases q4 : word2 < 3
                    · rw [decide_eq_true q4]
                      try simp only [Bool.true_and, Bool.false_and, Bool.and_true, Bool.and_false]
                      have htb := Tab.cons cV Tab.nil
                      repeat' (first | (with_reducible first | refine SW_seq ?_ | refine SW_block ?_ | refine SThen_n ?_ | refine SThen_r ?_ | refine SThen_e ?_ | refine SIn_n ?_ | refine SIn_r ?_ | refine SIn_eq ?_ | refine SW_skip ?_ | refine SW_exit ?_ | refine SW_ret ?_ | refine SPost_r ?_) | ((with_reducible refine SIn_ne ?_ ?_); focus decide) | ((with_reducible refine SW_true ?_ ?_); focus exact rfl) | ((with_reducible refine SW_false ?_ ?_); focus exact rfl) | ((first | (with_reducible apply SW_run tt_ok hG htb) | ((with_reducible apply SW_draw rfl tt_ok hG htb); (focus kernel_rfl); (focus (simp only [List.range, List.range.loop, List.size_toArray, List.length_cons, List.length_nil, Nat.reduceAdd])))); focus ((repeat' (first | (with_reducible exact runX_nil) | (with_reducible exact runI_nil) | ((first | (with_reducible apply runX_cons) | (with_reducible apply runI_cons)); focus (simp (discharger := omega) only [go_sem, simprocAttr]; with_reducible rfl)))); done)))
                      exact Meet.h ⟨_, Norm.headS (own := []) (keep := [1, 3, 4]) (by refine ⟨?_, ?_⟩; (simp (discharger := omega) only [go_sem, simprocAttr]; with_reducible rfl); refine ⟨?_, ?_, ?_, ?_⟩ <;> (simp only [go_sem, simprocAttr]; with_reducible rfl)), rfl⟩
                    · rw [decide_eq_false q4]
                      try simp only [Bool.true_and, Bool.false_and, Bool.and_true, Bool.and_false]
                      have htb := Tab.cons cV Tab.nil
                      repeat' (first | (with_reducible first | refine SW_seq ?_ | refine SW_block ?_ | refine SThen_n ?_ | refine SThen_r ?_ | refine SThen_e ?_ | refine SIn_n ?_ | refine SIn_r ?_ | refine SIn_eq ?_ | refine SW_skip ?_ | refine SW_exit ?_ | refine SW_ret ?_ | refine SPost_r ?_) | ((with_reducible refine SIn_ne ?_ ?_); focus decide) | ((with_reducible refine SW_true ?_ ?_); focus exact rfl) | ((with_reducible refine SW_false ?_ ?_); focus exact rfl) | ((first | (with_reducible apply SW_run tt_ok hG htb) | ((with_reducible apply SW_draw rfl tt_ok hG htb); (focus kernel_rfl); (focus (simp only [List.range, List.range.loop, List.size_toArray, List.length_cons, List.length_nil, Nat.reduceAdd])))); focus ((repeat' (first | (with_reducible exact runX_nil) | (with_reducible exact runI_nil) | ((first | (with_reducible apply runX_cons) | (with_reducible apply runI_cons)); focus (simp (discharger := omega) only [go_sem, simprocAttr]; with_reducible rfl)))); done)))
                      exact Meet.h ⟨_, Norm.headS (own := []) (keep := [1, 3, 4]) (by refine ⟨?_, ?_⟩; (simp (discharger := omega) only [go_sem, simprocAttr]; with_reducible rfl); refine ⟨?_, ?_, ?_, ?_⟩ <;> (simp only [go_sem, simprocAttr]; with_reducible rfl)), rfl⟩
                  · rw [decide_eq_false q3]
                    try simp only [Bool.true_and, Bool.false_and, Bool.and_true, Bool.and_false]
                    have htb := Tab.cons cV Tab.nil
                    repeat' (first | (with_reducible first | refine SW_seq ?_ | refine SW_block ?_ | refine SThen_n ?_ | refine SThen_r ?_ | refine SThen_e ?_ | refine SIn_n ?_ | refine SIn_r ?_ | refine SIn_eq ?_ | refine SW_skip ?_ | refine SW_exit ?_ | refine SW_ret ?_ | refine SPost_r ?_) | ((with_reducible refine SIn_ne ?_ ?_); focus decide) | ((with_reducible refine SW_true ?_ ?_); focus exact rfl) | ((with_reducible refine SW_false ?_ ?_); focus exact rfl) | ((first | (with_reducible apply SW_run tt_ok hG htb) | ((with_reducible apply SW_draw rfl tt_ok hG htb); (focus kernel_rfl); (focus (simp only [List.range, List.range.loop, List.size_toArray, List.length_cons, List.length_nil, Nat.reduceAdd])))); focus ((repeat' (first | (with_reducible exact runX_nil) | (with_reducible exact runI_nil) | ((first | (with_reducible apply runX_cons) | (with_reducible apply runI_cons)); focus (simp (discharger := omega) only [go_sem, simprocAttr]; with_reducible rfl)))); done)))
                    exact Meet.h ⟨_, Norm.headS (own := []) (keep := [1, 3, 4]) (by refine ⟨?_, ?_⟩; (simp (discharger := omega) only [go_sem, simprocAttr]; with_reducible rfl); refine ⟨?_, ?_, ?_, ?_⟩ <;> (simp only [go_sem, simprocAttr]; with_reducible rfl)), rfl⟩
                · rw [decide_eq_false q2]
                  try simp only [Bool.true_and, Bool.false_and, Bool.and_true, Bool.and_false]
                  have htb := Tab.cons cV Tab.nil
                  repeat' (first | (with_reducible first | refine SW_seq ?_ | refine SW_block ?_ | refine SThen_n ?_ | refine SThen_r ?_ | refine SThen_e ?_ | refine SIn_n ?_ | refine SIn_r ?_ | refine SIn_eq ?_ | refine SW_skip ?_ | refine SW_exit ?_ | refine SW_ret ?_ | refine SPost_r ?_) | ((with_reducible refine SIn_ne ?_ ?_); focus decide) | ((with_reducible refine SW_true ?_ ?_); focus exact rfl) | ((with_reducible refine SW_false ?_ ?_); focus exact rfl) | ((first | (with_reducible apply SW_run tt_ok hG htb) | ((with_reducible apply SW_draw rfl tt_ok hG htb); (focus kernel_rfl); (focus (simp only [List.range, List.range.loop, List.size_toArray, List.length_cons, List.length_nil, Nat.reduceAdd])))); focus ((repeat' (first | (with_reducible exact runX_nil) | (with_reducible exact runI_nil) | ((first | (with_reducible apply runX_cons) | (with_reducible apply runI_cons)); focus (simp (discharger := omega) only [go_sem, simprocAttr]; with_reducible rfl)))); done)))
                  exact Meet.h ⟨_, Norm.headS (own := []) (keep := [1, 3, 4]) (by refine ⟨?_, ?_⟩; (simp (discharger := omega) only [go_sem, simprocAttr]; with_reducible rfl); refine ⟨?_, ?_, ?_, ?_⟩ <;> (simp only [go_sem, simprocAttr]; with_reducible rfl)), rfl⟩
              · rw [decide_eq_false q1]
                try simp only [Bool.true_and, Bool.false_and, Bool.and_true, Bool.and_false]
                have htb := Tab.cons cV Tab.nil
                repeat' (first | (with_reducible first | refine SW_seq ?_ | refine SW_block ?_ | refine SThen_n ?_ | refine SThen_r ?_ | refine SThen_e ?_ | refine SIn_n ?_ | refine SIn_r ?_ | refine SIn_eq ?_ | refine SW_skip ?_ | refine SW_exit ?_ | refine SW_ret ?_ | refine SPost_r ?_) | ((with_reducible refine SIn_ne ?_ ?_); focus decide) | ((with_reducible refine SW_true ?_ ?_); focus exact rfl) | ((with_reducible refine SW_false ?_ ?_); focus exact rfl) | ((first | (with_reducible apply SW_run tt_ok hG htb) | ((with_reducible apply SW_draw rfl tt_ok hG htb); (focus kernel_rfl); (focus (simp only [List.range, List.range.loop, List.size_toArray, List.length_cons, List.length_nil, Nat.reduceAdd])))); focus ((repeat' (first | (with_reducible exact runX_nil) | (with_reducible exact runI_nil) | ((first | (with_reducible apply runX_cons) | (with_reducible apply runI_cons)); focus (simp (discharger := omega) only [go_sem, simprocAttr]; with_reducible rfl)))); done)))
                exact Meet.h ⟨_, Norm.headS (own := []) (keep := [1, 3, 4]) (by refine ⟨?_, ?_⟩; (simp (discharger := omega) only [go_sem, simprocAttr]; with_reducible rfl); refine ⟨?_, ?_, ?_, ?_⟩ <;> (simp only [go_sem, simprocAttr]; with_reducible rfl)), rfl⟩
          · cases hb0 : isVar var with
            | false =>
              rw [hb0] at cV
              try simp only [Bool.true_and, Bool.false_and, Bool.and_true, Bool.and_false]
              have htb := Tab.cons cV (Tab.cons cO Tab.nil)
              repeat' (first | (with_reducible first | refine SW_seq ?_ | refine SW_block ?_ | refine SThen_n ?_ | refine SThen_r ?_ | refine SThen_e ?_ | refine SIn_n ?_ | refine SIn_r ?_ | refine SIn_eq ?_ | refine SW_skip ?_ | refine SW_exit ?_ | refine SW_ret ?_ | refine SPost_r ?_) | ((with_reducible refine SIn_ne ?_ ?_); focus decide) | ((with_reducible refine SW_true ?_ ?_); focus exact rfl) | ((with_reducible refine SW_false ?_ ?_); focus exact rfl) | ((first | (with_reducible apply SW_run tt_ok hG htb) | ((with_reducible apply SW_draw rfl tt_ok hG htb); (focus kernel_rfl); (focus (simp only [List.range, List.range.loop, List.size_toArray, List.length_cons, List.length_nil, Nat.reduceAdd])))); focus ((repeat' (first | (with_reducible exact runX_nil) | (with_reducible exact runI_nil) | ((first | (with_reducible apply runX_cons) | (with_reducible apply runI_cons)); focus (simp (discharger := omega) only [go_sem, List.cons.injEq, T.int.injEq, hvo, (fun e => hvo e.symm : ¬ other = var), simprocAttr]; with_reducible rfl)))); done)))
              exact Meet.h ⟨_, Norm.headS (own := []) (keep := [1, 3, 4]) (by refine ⟨?_, ?_⟩; (simp (discharger := omega) only [go_sem, simprocAttr]; with_reducible rfl); refine ⟨?_, ?_, ?_, ?_⟩ <;> (simp only [go_sem, simprocAttr]; with_reducible rfl)), rfl⟩
            | true =>
              rw [hb0] at cV
              cases hb1 : isVar other with
              | false =>
                rw [hb1] at cO
                try simp only [Bool.true_and, Bool.false_and, Bool.and_true, Bool.and_false]
                have htb := Tab.cons cV (Tab.cons cO Tab.nil)
                repeat' (first | (with_reducible first | refine SW_seq ?_ | refine SW_block ?_ | refine SThen_n ?_ | refine SThen_r ?_ | refine SThen_e ?_ | refine SIn_n ?_ | refine SIn_r ?_ | refine SIn_eq ?_ | refine SW_skip ?_ | refine SW_exit ?_ | refine SW_ret ?_ | refine SPost_r ?_) | ((with_reducible refine SIn_ne ?_ ?_); focus decide) | ((with_reducible refine SW_true ?_ ?_); focus exact rfl) | ((with_reducible refine SW_false ?_ ?_); focus exact rfl) | ((first | (with_reducible apply SW_run tt_ok hG htb) | ((with_reducible apply SW_draw rfl tt_ok hG htb); (focus kernel_rfl); (focus (simp only [List.range, List.range.loop, List.size_toArray, List.length_cons, List.length_nil, Nat.reduceAdd])))); focus ((repeat' (first | (with_reducible exact runX_nil) | (with_reducible exact runI_nil) | ((first | (with_reducible apply runX_cons) | (with_reducible apply runI_cons)); focus (simp (discharger := omega) only [go_sem, List.cons.injEq, T.int.injEq, hvo, (fun e => hvo e.symm : ¬ other = var), simprocAttr]; with_reducible rfl)))); done)))
                exact Meet.h ⟨_, Norm.headS (own := []) (keep := [1, 3, 4]) (by refine ⟨?_, ?_⟩; (simp (discharger := omega) only [go_sem, simprocAttr]; with_reducible rfl); refine ⟨?_, ?_, ?_, ?_⟩ <;> (simp only [go_sem, simprocAttr]; with_reducible rfl)), rfl⟩
              | true =>
                rw [hb1] at cO
                by_cases q2 : 0 ≤ word
                · rw [decide_eq_true q2]
                  by_cases q3 : word < 3
                  · rw [decide_eq_true q3]
                    by_cases q4 : 0 ≤ word2
                    · rw [decide_eq_true q4]
                      by_cases q5 : word2 < 3
                      · rw [decide_eq_true q5]
                        try simp only [Bool.true_and, Bool.false_and, Bool.and_true, Bool.and_false]
                        have htb := Tab.cons cV (Tab.cons cO Tab.nil)
                        repeat' (first | (with_reducible first | refine SW_seq ?_ | refine SW_block ?_ | refine SThen_n ?_ | refine SThen_r ?_ | refine SThen_e ?_ | refine SIn_n ?_ | refine SIn_r ?_ | refine SIn_eq ?_ | refine SW_skip ?_ | refine SW_exit ?_ | refine SW_ret ?_ | refine SPost_r ?_) | ((with_reducible refine SIn_ne ?_ ?_); focus decide) | ((with_reducible refine SW_true ?_ ?_); focus exact rfl) | ((with_reducible refine SW_false ?_ ?_); focus exact rfl) | ((first | (with_reducible apply SW_run tt_ok hG htb) | ((with_reducible apply SW_draw rfl tt_ok hG htb); (focus kernel_rfl); (focus (simp only [List.range, List.range.loop, List.size_toArray, List.length_cons, List.length_nil, Nat.reduceAdd])))); focus ((repeat' (first | (with_reducible exact runX_nil) | (with_reducible exact runI_nil) | ((first | (with_reducible apply runX_cons) | (with_reducible apply runI_cons)); focus (simp (discharger := omega) only [go_sem, List.cons.injEq, T.int.injEq, hvo, (fun e => hvo e.symm : ¬ other = var), simprocAttr]; with_reducible rfl)))); done)))
                        exact Meet.h ⟨_, Norm.headS (own := []) (keep := [1, 3, 4]) (by refine ⟨?_, ?_⟩; (simp (discharger := omega) only [go_sem, simprocAttr]; with_reducible rfl); refine ⟨?_, ?_, ?_, ?_⟩ <;> (simp only [go_sem, simprocAttr]; with_reducible rfl)), rfl⟩
                      · rw [decide_eq_false q5]
                        try simp only [Bool.true_and, Bool.false_and, Bool.and_true, Bool.and_false]
                        have htb := Tab.cons cV (Tab.cons cO Tab.nil)
                        repeat' (first | (with_reducible first | refine SW_seq ?_ | refine SW_block ?_ | refine SThen_n ?_ | refine SThen_r ?_ | refine SThen_e ?_ | refine SIn_n ?_ | refine SIn_r ?_ | refine SIn_eq ?_ | refine SW_skip ?_ | refine SW_exit ?_ | refine SW_ret ?_ | refine SPost_r ?_) | ((with_reducible refine SIn_ne ?_ ?_); focus decide) | ((with_reducible refine SW_true ?_ ?_); focus exact rfl) | ((with_reducible refine SW_false ?_ ?_); focus exact rfl) | ((first | (with_reducible apply SW_run tt_ok hG htb) | ((with_reducible apply SW_draw rfl tt_ok hG htb); (focus kernel_rfl); (focus (simp only [List.range, List.range.loop, List.size_toArray, List.length_cons, List.length_nil, Nat.reduceAdd])))); focus ((repeat' (first | (with_reducible exact runX_nil) | (with_reducible exact runI_nil) | ((first | (with_reducible apply runX_cons) | (with_reducible apply runI_cons)); focus (simp (discharger := omega) only [go_sem, List.cons.injEq, T.int.injEq, hvo, (fun e => hvo e.symm : ¬ other = var), simprocAttr]; with_reducible rfl)))); done)))
                        exact Meet.h ⟨_, Norm.headS (own := []) (keep := [1, 3, 4]) (by refine ⟨?_, ?_⟩; (simp (discharger := omega) only [go_sem, simprocAttr]; with_reducible rfl); refine ⟨?_, ?_, ?_, ?_⟩ <;> (simp only [go_sem, simprocAttr]; with_reducible rfl)), rfl⟩
                    · rw [decide_eq_false q4]
                      try simp only [Bool.true_and, Bool.false_and, Bool.and_true, Bool.and_false]
                      have htb := Tab.cons cV (Tab.cons cO Tab.nil)
                      repeat' (first | (with_reducible first | refine SW_seq ?_ | refine SW_block ?_ | refine SThen_n ?_ | refine SThen_r ?_ | refine SThen_e ?_ | refine SIn_n ?_ | refine SIn_r ?_ | refine SIn_eq ?_ | refine SW_skip ?_ | refine SW_exit ?_ | refine SW_ret ?_ | refine SPost_r ?_) | ((with_reducible refine SIn_ne ?_ ?_); focus decide) | ((with_reducible refine SW_true ?_ ?_); focus exact rfl) | ((with_reducible refine SW_false ?_ ?_); focus exact rfl) | ((first | (with_reducible apply SW_run tt_ok hG htb) | ((with_reducible apply SW_draw rfl tt_ok hG htb); (focus kernel_rfl); (focus (simp only [List.range, List.range.loop, List.size_toArray, List.length_cons, List.length_nil, Nat.reduceAdd])))); focus ((repeat' (first | (with_reducible exact runX_nil) | (with_reducible exact runI_nil) | ((first | (with_reducible apply runX_cons) | (with_reducible apply runI_cons)); focus (simp (discharger := omega) only [go_sem, List.cons.injEq, T.int.injEq, hvo, (fun e => hvo e.symm : ¬ other = var), simprocAttr]; with_reducible rfl)))); done)))
                      exact Meet.h ⟨_, Norm.headS (own := []) (keep := [1, 3, 4]) (by refine ⟨?_, ?_⟩; (simp (discharger := omega) only [go_sem, simprocAttr]; with_reducible rfl); refine ⟨?_, ?_, ?_, ?_⟩ <;> (simp only [go_sem, simprocAttr]; with_reducible rfl)), rfl⟩
                  · rw [decide_eq_false q3]
                    try simp only [Bool.true_and, Bool.false_and, Bool.and_true, Bool.and_false]
                    have htb := Tab.cons cV (Tab.cons cO Tab.nil)
                    repeat' (first | (with_reducible first | refine SW_seq ?_ | refine SW_block ?_ | refine SThen_n ?_ | refine SThen_r ?_ | refine SThen_e ?_ | refine SIn_n ?_ | refine SIn_r ?_ | refine SIn_eq ?_ | refine SW_skip ?_ | refine SW_exit ?_ | refine SW_ret ?_ | refine SPost_r ?_) | ((with_reducible refine SIn_ne ?_ ?_); focus decide) | ((with_reducible refine SW_true ?_ ?_); focus exact rfl) | ((with_reducible refine SW_false ?_ ?_); focus exact rfl) | ((first | (with_reducible apply SW_run tt_ok hG htb) | ((with_reducible apply SW_draw rfl tt_ok hG htb); (focus kernel_rfl); (focus (simp only [List.range, List.range.loop, List.size_toArray, List.length_cons, List.length_nil, Nat.reduceAdd])))); focus ((repeat' (first | (with_reducible exact runX_nil) | (with_reducible exact runI_nil) | ((first | (with_reducible apply runX_cons) | (with_reducible apply runI_cons)); focus (simp (discharger := omega) only [go_sem, List.cons.injEq, T.int.injEq, hvo, (fun e => hvo e.symm : ¬ other = var), simprocAttr]; with_reducible rfl)))); done)))
                    exact Meet.h ⟨_, Norm.headS (own := []) (keep := [1, 3, 4]) (by refine ⟨?_, ?_⟩; (simp (discharger := omega) only [go_sem, simprocAttr]; with_reducible rfl); refine ⟨?_, ?_, ?_, ?_⟩ <;> (simp only [go_sem, simprocAttr]; with_reducible rfl)), rfl⟩
                · rw [decide_eq_false q2]
                  try simp only [Bool.true_and, Bool.false_and, Bool.and_true, Bool.and_false]
                  have htb := Tab.cons cV (Tab.cons cO Tab.nil)
                  repeat' (first | (with_reducible first | refine SW_seq ?_ | refine SW_block ?_ | refine SThen_n ?_ | refine SThen_r ?_ | refine SThen_e ?_ | refine SIn_n ?_ | refine SIn_r ?_ | refine SIn_eq ?_ | refine SW_skip ?_ | refine SW_exit ?_ | refine SW_ret ?_ | refine SPost_r ?_) | ((with_reducible refine SIn_ne ?_ ?_); focus decide) | ((with_reducible refine SW_true ?_ ?_); focus exact rfl) | ((with_reducible refine SW_false ?_ ?_); focus exact rfl) | ((first | (with_reducible apply SW_run tt_ok hG htb) | ((with_reducible apply SW_draw rfl tt_ok hG htb); (focus kernel_rfl); (focus (simp only [List.range, List.range.loop, List.size_toArray, List.length_cons, List.length_nil, Nat.reduceAdd])))); focus ((repeat' (first | (with_reducible exact runX_nil) | (with_reducible exact runI_nil) | ((first | (with_reducible apply runX_cons) | (with_reducible apply runI_cons)); focus (simp (discharger := omega) only [go_sem, List.cons.injEq, T.int.injEq, hvo, (fun e => hvo e.symm : ¬ other = var), simprocAttr]; with_reducible rfl)))); done)))
                  exact Meet.h ⟨_, Norm.headS (own := []) (keep := [1, 3, 4]) (by refine ⟨?_, ?_⟩; (simp (discharger := omega) only [go_sem, simprocAttr]; with_reducible rfl); refine ⟨?_, ?_, ?_, ?_⟩ <;> (simp only [go_sem, simprocAttr]; with_reducible rfl)), rfl⟩
        · generalize nodeOk ⟨4, var, other, word, word2, num, coefs⟩ = ok at *
          cases ok with
          | false =>
            rw [if_pos rfl]
            repeat' (first | (with_reducible first | refine SW_seq ?_ | refine SW_block ?_ | refine SThen_n ?_ | refine SThen_r ?_ | refine SThen_e ?_ | refine SIn_n ?_ | refine SIn_r ?_ | refine SIn_eq ?_ | refine SW_skip ?_ | refine SW_exit ?_ | refine SW_ret ?_ | refine SPost_r ?_) | ((with_reducible refine SIn_ne ?_ ?_); focus decide) | ((with_reducible refine SW_true ?_ ?_); focus exact rfl) | ((with_reducible refine SW_false ?_ ?_); focus exact rfl) | ((first | (with_reducible apply SW_run tt_ok hG htb) | ((with_reducible apply SW_draw rfl tt_ok hG htb); (focus kernel_rfl); (focus (simp only [List.range, List.range.loop, List.size_toArray, List.length_cons, List.length_nil, Nat.reduceAdd])))); focus ((repeat' (first | (with_reducible exact runX_nil) | (with_reducible exact runI_nil) | ((first | (with_reducible apply runX_cons) | (with_reducible apply runI_cons)); focus (simp (discharger := omega) only [go_sem, simprocAttr]; with_reducible rfl)))); done)))
            exact (by simp (discharger := omega) only [go_sem, tErr, simprocAttr])
          | true =>
            rw [if_neg (by decide)]
            repeat' (first | (with_reducible first | refine SW_seq ?_ | refine SW_block ?_ | refine SThen_n ?_ | refine SThen_r ?_ | refine SThen_e ?_ | refine SIn_n ?_ | refine SIn_r ?_ | refine SIn_eq ?_ | refine SW_skip ?_ | refine SW_exit ?_ | refine SW_ret ?_ | refine SPost_r ?_) | ((with_reducible refine SIn_ne ?_ ?_); focus decide) | ((with_reducible refine SW_true ?_ ?_); focus exact rfl) | ((with_reducible refine SW_false ?_ ?_); focus exact rfl) | ((first | (with_reducible apply SW_run tt_ok hG htb) | ((with_reducible apply SW_draw rfl tt_ok hG htb); (focus kernel_rfl); (focus (simp only [List.range, List.range.loop, List.size_toArray, List.length_cons, List.length_nil, Nat.reduceAdd])))); focus ((repeat' (first | (with_reducible exact runX_nil) | (with_reducible exact runI_nil) | ((first | (with_reducible apply runX_cons) | (with_reducible apply runI_cons)); focus (simp (discharger := omega) only [go_sem, simprocAttr]; with_reducible rfl)))); done)))
            refine SW_meetG ⟨196, [(1, .bptr 0 0), (179, .t (.bool (nodeMore ⟨4, var, other, word, word2, num, coefs⟩)))], [.fbox [tInt 4, tInt var, tInt other, tInt word, tInt word2, tInt num, tInts coefs]]⟩ Weak.sw ?_ ?_
            · rw [e4]
              clear e1 e2 e3 e4
              by_cases mnum : num = 0
              · subst mnum
                rw [decide_eq_false (show ¬ (0 : Int) ≠ 0 by decide)]
                by_cases mc : coefs.length = 0
                · rw [decide_eq_false (show ¬ coefs.length ≠ 0 by omega)]
                  try simp only [Bool.false_or, Bool.or_false]
                  repeat' (first | (with_reducible first | refine SW_seq ?_ | refine SW_block ?_ | refine SThen_n ?_ | refine SThen_r ?_ | refine SThen_e ?_ | refine SIn_n ?_ | refine SIn_r ?_ | refine SIn_eq ?_ | refine SW_skip ?_ | refine SW_exit ?_ | refine SW_ret ?_ | refine SPost_r ?_) | ((with_reducible refine SIn_ne ?_ ?_); focus decide) | ((with_reducible refine SW_true ?_ ?_); focus exact rfl) | ((with_reducible refine SW_false ?_ ?_); focus exact rfl) | ((first | (with_reducible apply SW_run tt_ok hG htb) | ((with_reducible apply SW_draw rfl tt_ok hG htb); (focus kernel_rfl); (focus (simp only [List.range, List.range.loop, List.size_toArray, List.length_cons, List.length_nil, Nat.reduceAdd])))); focus ((repeat' (first | (with_reducible exact runX_nil) | (with_reducible exact runI_nil) | ((first | (with_reducible apply runX_cons) | (with_reducible apply runI_cons)); focus (simp (discharger := omega) only [go_sem, mc, simprocAttr]; with_reducible rfl)))); done)))
                  exact Meet.h ⟨_, Norm.headS (own := []) (keep := [1, 179]) (by refine ⟨?_, ?_⟩; (simp (discharger := omega) only [go_sem, simprocAttr]; with_reducible rfl); refine ⟨?_, ?_, ?_, ?_⟩ <;> (simp only [go_sem, simprocAttr]; with_reducible rfl)), rfl⟩
                · rw [decide_eq_true (show coefs.length ≠ 0 by omega)]
                  try simp only [Bool.false_or, Bool.true_or, Bool.or_true]
                  repeat' (first | (with_reducible first | refine SW_seq ?_ | refine SW_block ?_ | refine SThen_n ?_ | refine SThen_r ?_ | refine SThen_e ?_ | refine SIn_n ?_ | refine SIn_r ?_ | refine SIn_eq ?_ | refine SW_skip ?_ | refine SW_exit ?_ | refine SW_ret ?_ | refine SPost_r ?_) | ((with_reducible refine SIn_ne ?_ ?_); focus decide) | ((with_reducible refine SW_true ?_ ?_); focus exact rfl) | ((with_reducible refine SW_false ?_ ?_); focus exact rfl) | ((first | (with_reducible apply SW_run tt_ok hG htb) | ((with_reducible apply SW_draw rfl tt_ok hG htb); (focus kernel_rfl); (focus (simp only [List.range, List.range.loop, List.size_toArray, List.length_cons, List.length_nil, Nat.reduceAdd])))); focus ((repeat' (first | (with_reducible exact runX_nil) | (with_reducible exact runI_nil) | ((first | (with_reducible apply runX_cons) | (with_reducible apply runI_cons)); focus (simp (discharger := omega) only [go_sem, mc, simprocAttr]; with_reducible rfl)))); done)))
                  exact Meet.h ⟨_, Norm.headS (own := []) (keep := [1, 179]) (by refine ⟨?_, ?_⟩; (simp (discharger := omega) only [go_sem, simprocAttr]; with_reducible rfl); refine ⟨?_, ?_, ?_, ?_⟩ <;> (simp only [go_sem, simprocAttr]; with_reducible rfl)), rfl⟩
              · rw [decide_eq_true (show num ≠ 0 by omega)]
                try simp only [Bool.false_or, Bool.true_or, Bool.or_true]
                repeat' (first | (with_reducible first | refine SW_seq ?_ | refine SW_block ?_ | refine SThen_n ?_ | refine SThen_r ?_ | refine SThen_e ?_ | refine SIn_n ?_ | refine SIn_r ?_ | refine SIn_eq ?_ | refine SW_skip ?_ | refine SW_exit ?_ | refine SW_ret ?_ | refine SPost_r ?_) | ((with_reducible refine SIn_ne ?_ ?_); focus decide) | ((with_reducible refine SW_true ?_ ?_); focus exact rfl) | ((with_reducible refine SW_false ?_ ?_); focus exact rfl) | ((first | (with_reducible apply SW_run tt_ok hG htb) | ((with_reducible apply SW_draw rfl tt_ok hG htb); (focus kernel_rfl); (focus (simp only [List.range, List.range.loop, List.size_toArray, List.length_cons, List.length_nil, Nat.reduceAdd])))); focus ((repeat' (first | (with_reducible exact runX_nil) | (with_reducible exact runI_nil) | ((first | (with_reducible apply runX_cons) | (with_reducible apply runI_cons)); focus (simp (discharger := omega) only [go_sem, mnum, simprocAttr]; with_reducible rfl)))); done)))
                exact Meet.h ⟨_, Norm.headS (own := []) (keep := [1, 179]) (by refine ⟨?_, ?_⟩; (simp (discharger := omega) only [go_sem, simprocAttr]; with_reducible rfl); refine ⟨?_, ?_, ?_, ?_⟩ <;> (simp only [go_sem, simprocAttr]; with_reducible rfl)), rfl⟩
            · generalize nodeMore ⟨4, var, other, word, word2, num, coefs⟩ = mo at *
              cases mo with
              | true =>
                rw [if_pos rfl]
                repeat' (first | (with_reducible first | refine SW_seq ?_ | refine SW_block ?_ | refine SThen_n ?_ | refine SThen_r ?_ | refine SThen_e ?_ | refine SIn_n ?_ | refine SIn_r ?_ | refine SIn_eq ?_ | refine SW_skip ?_ | refine SW_exit ?_ | refine SW_ret ?_ | refine SPost_r ?_) | ((with_reducible refine SIn_ne ?_ ?_); focus decide) | ((with_reducible refine SW_true ?_ ?_); focus exact rfl) | ((with_reducible refine SW_false ?_ ?_); focus exact rfl) | ((first | (with_reducible apply SW_run tt_ok hG htb) | ((with_reducible apply SW_draw rfl tt_ok hG htb); (focus kernel_rfl); (focus (simp only [List.range, List.range.loop, List.size_toArray, List.length_cons, List.length_nil, Nat.reduceAdd])))); focus ((repeat' (first | (with_reducible exact runX_nil) | (with_reducible exact runI_nil) | ((first | (with_reducible apply runX_cons) | (with_reducible apply runI_cons)); focus (simp (discharger := omega) only [go_sem, simprocAttr]; with_reducible rfl)))); done)))
                exact (by simp (discharger := omega) only [go_sem, tErr, simprocAttr])
              | false =>
                rw [if_neg (by decide)]
                clear e1 e2 e3 e4 cV cO c1
                by_cases hc : 0 < coefs.length
                · obtain ⟨x, hx⟩ : ∃ x, coefs[coefs.length - 1]! = x := ⟨_, rfl⟩
                  have hxe : (coefs.length : Int) - 1 = ((coefs.length - 1 : Nat) : Int) := by omega
                  have hkk : coefs.length - 1 < coefs.length := by omega
                  rw [hx]
                  generalize coefs.length - 1 = kk at *
                  by_cases h0 : x = 0
                  · rw [if_pos ⟨hc, h0⟩]
                    repeat' (first | (with_reducible first | refine SW_seq ?_ | refine SW_block ?_ | refine SThen_n ?_ | refine SThen_r ?_ | refine SThen_e ?_ | refine SIn_n ?_ | refine SIn_r ?_ | refine SIn_eq ?_ | refine SW_skip ?_ | refine SW_exit ?_ | refine SW_ret ?_ | refine SPost_r ?_) | ((with_reducible refine SIn_ne ?_ ?_); focus decide) | ((with_reducible refine SW_true ?_ ?_); focus exact rfl) | ((with_reducible refine SW_false ?_ ?_); focus exact rfl) | ((first | (with_reducible apply SW_run tt_ok hG htb) | ((with_reducible apply SW_draw rfl tt_ok hG htb); (focus kernel_rfl); (focus (simp only [List.range, List.range.loop, List.size_toArray, List.length_cons, List.length_nil, Nat.reduceAdd])))); focus ((repeat' (first | (with_reducible exact runX_nil) | (with_reducible exact runI_nil) | ((first | (with_reducible apply runX_cons) | (with_reducible apply runI_cons)); focus (simp (discharger := omega) only [go_sem, hxe, hx, h0, simprocAttr]; with_reducible rfl)))); done)))
                    exact (by simp (discharger := omega) only [go_sem, tErr, simprocAttr])
                  · rw [if_neg (by rintro ⟨_, e⟩; exact h0 e)]
                    repeat' (first | (with_reducible first | refine SW_seq ?_ | refine SW_block ?_ | refine SThen_n ?_ | refine SThen_r ?_ | refine SThen_e ?_ | refine SIn_n ?_ | refine SIn_r ?_ | refine SIn_eq ?_ | refine SW_skip ?_ | refine SW_exit ?_ | refine SW_ret ?_ | refine SPost_r ?_) | ((with_reducible refine SIn_ne ?_ ?_); focus decide) | ((with_reducible refine SW_true ?_ ?_); focus exact rfl) | ((with_reducible refine SW_false ?_ ?_); focus exact rfl) | ((first | (with_reducible apply SW_run tt_ok hG htb) | ((with_reducible apply SW_draw rfl tt_ok hG htb); (focus kernel_rfl); (focus (simp only [List.range, List.range.loop, List.size_toArray, List.length_cons, List.length_nil, Nat.reduceAdd])))); focus ((repeat' (first | (with_reducible exact runX_nil) | (with_reducible exact runI_nil) | ((first | (with_reducible apply runX_cons) | (with_reducible apply runI_cons)); focus (simp (discharger := omega) only [go_sem, hxe, hx, h0, simprocAttr]; with_reducible rfl)))); done)))
                    exact (by simp (discharger := omega) only [go_sem, tErr, simprocAttr])
                · rw [if_neg (by rintro ⟨e, _⟩; exact hc e)]
                  have hc0 : coefs.length = 0 := by omega
                  repeat' (first | (with_reducible first | refine SW_seq ?_ | refine SW_block ?_ | refine SThen_n ?_ | refine SThen_r ?_ | refine SThen_e ?_ | refine SIn_n ?_ | refine SIn_r ?_ | refine SIn_eq ?_ | refine SW_skip ?_ | refine SW_exit ?_ | refine SW_ret ?_ | refine SPost_r ?_) | ((with_reducible refine SIn_ne ?_ ?_); focus decide) | ((with_reducible refine SW_true ?_ ?_); focus exact rfl) | ((with_reducible refine SW_false ?_ ?_); focus exact rfl) | ((first | (with_reducible apply SW_run tt_ok hG htb) | ((with_reducible apply SW_draw rfl tt_ok hG htb); (focus kernel_rfl); (focus (simp only [List.range, List.range.loop, List.size_toArray, List.length_cons, List.length_nil, Nat.reduceAdd])))); focus ((repeat' (first | (with_reducible exact runX_nil) | (with_reducible exact runI_nil) | ((first | (with_reducible apply runX_cons) | (with_reducible apply runI_cons)); focus (simp (discharger := omega) only [go_sem, hc0, simprocAttr]; with_reducible rfl)))); done)))
                  exact (by simp (discharger := omega) only [go_sem, tErr, simprocAttr])
      · have e1 : nodeOk ⟨5, var, other, word, word2, num, coefs⟩ = true := by unfold nodeOk; simp
        have e2 : usedN ⟨5, var, other, word, word2, num, coefs⟩ = ⟨5, 0, 0, 0, 0, 0, []⟩ := by unfold usedN; simp
        have e4 : nodeMore ⟨5, var, other, word, word2, num, coefs⟩ = (decide (var ≠ 0) || decide (other ≠ 0) || decide (word ≠ 0) || decide (word2 ≠ 0) || decide (num ≠ 0) || decide (coefs.length ≠ 0)) := by unfold nodeMore; rw [e2]; simp
        refine SW_meetG ⟨196, [(1, .bptr 0 0), (3, .bptr 1 0), (4, .t (.bool (nodeOk ⟨5, var, other, word, word2, num, coefs⟩)))], [.fbox [tInt 5, tInt var, tInt other, tInt word, tInt word2, tInt num, tInts coefs], .box [.t (tInt 5), .t (tInt 0), .t (tInt 0), .t (tInt 0), .t (tInt 0), .t (tInt 0), .nil]]⟩ Weak.sw (SW_block ?_) ?_
        · rw [e1]
          clear e1 e2 e3 e4
          try simp only [Bool.true_and, Bool.false_and, Bool.and_true, Bool.and_false]
          have htb := Tab.cons cV Tab.nil
          repeat' (first | (with_reducible first | refine SW_seq ?_ | refine SW_block ?_ | refine SThen_n ?_ | refine SThen_r ?_ | refine SThen_e ?_ | refine SIn_n ?_ | refine SIn_r ?_ | refine SIn_eq ?_ | refine SW_skip ?_ | refine SW_exit ?_ | refine SW_ret ?_ | refine SPost_r ?_) | ((with_reducible refine SIn_ne ?_ ?_); focus decide) | ((with_reducible refine SW_true ?_ ?_); focus exact rfl) | ((with_reducible refine SW_false ?_ ?_); focus exact rfl) | ((first | (with_reducible apply SW_run tt_ok hG htb) | ((with_reducible apply SW_draw rfl tt_ok hG htb); (focus kernel_rfl); (focus (simp only [List.range, List.range.loop, List.size_toArray, List.length_cons, List.length_nil, Nat.reduceAdd])))); focus ((repeat' (first | (with_reducible exact runX_nil) | (with_reducible exact runI_nil) | ((first | (with_reducible apply runX_cons) | (with_reducible apply runI_cons)); focus (simp (discharger := omega) only [go_sem, simprocAttr]; with_reducible rfl)))); done)))
          exact Meet.h ⟨_, Norm.headS (own := []) (keep := [1, 3, 4]) (by refine ⟨?_, ?_⟩; (simp (discharger := omega) only [go_sem, simprocAttr]; with_reducible rfl); refine ⟨?_, ?_, ?_, ?_⟩ <;> (simp only [go_sem, simprocAttr]; with_reducible rfl)), rfl⟩
        · generalize nodeOk ⟨5, var, other, word, word2, num, coefs⟩ = ok at *
          cases ok with
          | false =>
            rw [if_pos rfl]
            repeat' (first | (with_reducible first | refine SW_seq ?_ | refine SW_block ?_ | refine SThen_n ?_ | refine SThen_r ?_ | refine SThen_e ?_ | refine SIn_n ?_ | refine SIn_r ?_ | refine SIn_eq ?_ | refine SW_skip ?_ | refine SW_exit ?_ | refine SW_ret ?_ | refine SPost_r ?_) | ((with_reducible refine SIn_ne ?_ ?_); focus decide) | ((with_reducible refine SW_true ?_ ?_); focus exact rfl) | ((with_reducible refine SW_false ?_ ?_); focus exact rfl) | ((first | (with_reducible apply SW_run tt_ok hG htb) | ((with_reducible apply SW_draw rfl tt_ok hG htb); (focus kernel_rfl); (focus (simp only [List.range, List.range.loop, List.size_toArray, List.length_cons, List.length_nil, Nat.reduceAdd])))); focus ((repeat' (first | (with_reducible exact runX_nil) | (with_reducible exact runI_nil) | ((first | (with_reducible apply runX_cons) | (with_reducible apply runI_cons)); focus (simp (discharger := omega) only [go_sem, simprocAttr]; with_reducible rfl)))); done)))
            exact (by simp (discharger := omega) only [go_sem, tErr, simprocAttr])
          | true =>
            rw [if_neg (by decide)]
            repeat' (first | (with_reducible first | refine SW_seq ?_ | refine SW_block ?_ | refine SThen_n ?_ | refine SThen_r ?_ | refine SThen_e ?_ | refine SIn_n ?_ | refine SIn_r ?_ | refine SIn_eq ?_ | refine SW_skip ?_ | refine SW_exit ?_ | refine SW_ret ?_ | refine SPost_r ?_) | ((with_reducible refine SIn_ne ?_ ?_); focus decide) | ((with_reducible refine SW_true ?_ ?_); focus exact rfl) | ((with_reducible refine SW_false ?_ ?_); focus exact rfl) | ((first | (with_reducible apply SW_run tt_ok hG htb) | ((with_reducible apply SW_draw rfl tt_ok hG htb); (focus kernel_rfl); (focus (simp only [List.range, List.range.loop, List.size_toArray, List.length_cons, List.length_nil, Nat.reduceAdd])))); focus ((repeat' (first | (with_reducible exact runX_nil) | (with_reducible exact runI_nil) | ((first | (with_reducible apply runX_cons) | (with_reducible apply runI_cons)); focus (simp (discharger := omega) only [go_sem, simprocAttr]; with_reducible rfl)))); done)))
            refine SW_meetG ⟨196, [(1, .bptr 0 0), (179, .t (.bool (nodeMore ⟨5, var, other, word, word2, num, coefs⟩)))], [.fbox [tInt 5, tInt var, tInt other, tInt word, tInt word2, tInt num, tInts coefs]]⟩ Weak.sw ?_ ?_
            · rw [e4]
              clear e1 e2 e3 e4
              by_cases mvar : var = 0
              · subst mvar
                rw [decide_eq_false (show ¬ (0 : Int) ≠ 0 by decide)]
                by_cases mother : other = 0
                · subst mother
                  rw [decide_eq_false (show ¬ (0 : Int) ≠ 0 by decide)]
                  by_cases mword : word = 0
                  · subst mword
                    rw [decide_eq_false (show ¬ (0 : Int) ≠ 0 by decide)]
                    by_cases mword2 : word2 = 0
                    · subst mword2
                      rw [decide_eq_false (show ¬ (0 : Int) ≠ 0 by decide)]
                      by_cases mnum : num = 0
                      · subst mnum
                        rw [decide_eq_false (show ¬ (0 : Int) ≠ 0 by decide)]
                        by_cases mc : coefs.length = 0
                        · rw [decide_eq_false (show ¬ coefs.length ≠ 0 by omega)]
                          try simp only [Bool.false_or, Bool.or_false]
                          repeat' (first | (with_reducible first | refine SW_seq ?_ | refine SW_block ?_ | refine SThen_n ?_ | refine SThen_r ?_ | refine SThen_e ?_ | refine SIn_n ?_ | refine SIn_r ?_ | refine SIn_eq ?_ | refine SW_skip ?_ | refine SW_exit ?_ | refine SW_ret ?_ | refine SPost_r ?_) | ((with_reducible refine SIn_ne ?_ ?_); focus decide) | ((with_reducible refine SW_true ?_ ?_); focus exact rfl) | ((with_reducible refine SW_false ?_ ?_); focus exact rfl) | ((first | (with_reducible apply SW_run tt_ok hG htb) | ((with_reducible apply SW_draw rfl tt_ok hG htb); (focus kernel_rfl); (focus (simp only [List.range, List.range.loop, List.size_toArray, List.length_cons, List.length_nil, Nat.reduceAdd])))); focus ((repeat' (first | (with_reducible exact runX_nil) | (with_reducible exact runI_nil) | ((first | (with_reducible apply runX_cons) | (with_reducible apply runI_cons)); focus (simp (discharger := omega) only [go_sem, mc, simprocAttr]; with_reducible rfl)))); done)))
                          exact Meet.h ⟨_, Norm.headS (own := []) (keep := [1, 179]) (by refine ⟨?_, ?_⟩; (simp (discharger := omega) only [go_sem, simprocAttr]; with_reducible rfl); refine ⟨?_, ?_, ?_, ?_⟩ <;> (simp only [go_sem, simprocAttr]; with_reducible rfl)), rfl⟩
                        · rw [decide_eq_true (show coefs.length ≠ 0 by omega)]
                          try simp only [Bool.false_or, Bool.true_or, Bool.or_true]
                          repeat' (first | (with_reducible first | refine SW_seq ?_ | refine SW_block ?_ | refine SThen_n ?_ | refine SThen_r ?_ | refine SThen_e ?_ | refine SIn_n ?_ | refine SIn_r ?_ | refine SIn_eq ?_ | refine SW_skip ?_ | refine SW_exit ?_ | refine SW_ret ?_ | refine SPost_r ?_) | ((with_reducible refine SIn_ne ?_ ?_); focus decide) | ((with_reducible refine SW_true ?_ ?_); focus exact rfl) | ((with_reducible refine SW_false ?_ ?_); focus exact rfl) | ((first | (with_reducible apply SW_run tt_ok hG htb) | ((with_reducible apply SW_draw rfl tt_ok hG htb); (focus kernel_rfl); (focus (simp only [List.range, List.range.loop, List.size_toArray, List.length_cons, List.length_nil, Nat.reduceAdd])))); focus ((repeat' (first | (with_reducible exact runX_nil) | (with_reducible exact runI_nil) | ((first | (with_reducible apply runX_cons) | (with_reducible apply runI_cons)); focus (simp (discharger := omega) only [go_sem, mc, simprocAttr]; with_reducible rfl)))); done)))
                          exact Meet.h ⟨_, Norm.headS (own := []) (keep := [1, 179]) (by refine ⟨?_, ?_⟩; (simp (discharger := omega) only [go_sem, simprocAttr]; with_reducible rfl); refine ⟨?_, ?_, ?_, ?_⟩ <;> (simp only [go_sem, simprocAttr]; with_reducible rfl)), rfl⟩
                      · rw [decide_eq_true (show num ≠ 0 by omega)]
                        try simp only [Bool.false_or, Bool.true_or, Bool.or_true]
                        repeat' (first | (with_reducible first | refine SW_seq ?_ | refine SW_block ?_ | refine SThen_n ?_ | refine SThen_r ?_ | refine SThen_e ?_ | refine SIn_n ?_ | refine SIn_r ?_ | refine SIn_eq ?_ | refine SW_skip ?_ | refine SW_exit ?_ | refine SW_ret ?_ | refine SPost_r ?_) | ((with_reducible refine SIn_ne ?_ ?_); focus decide) | ((with_reducible refine SW_true ?_ ?_); focus exact rfl) | ((with_reducible refine SW_false ?_ ?_); focus exact rfl) | ((first | (with_reducible apply SW_run tt_ok hG htb) | ((with_reducible apply SW_draw rfl tt_ok hG htb); (focus kernel_rfl); (focus (simp only [List.range, List.range.loop, List.size_toArray, List.length_cons, List.length_nil, Nat.reduceAdd])))); focus ((repeat' (first | (with_reducible exact runX_nil) | (with_reducible exact runI_nil) | ((first | (with_reducible apply runX_cons) | (with_reducible apply runI_cons)); focus (simp (discharger := omega) only [go_sem, mnum, simprocAttr]; with_reducible rfl)))); done)))
                        exact Meet.h ⟨_, Norm.headS (own := []) (keep := [1, 179]) (by refine ⟨?_, ?_⟩; (simp (discharger := omega) only [go_sem, simprocAttr]; with_reducible rfl); refine ⟨?_, ?_, ?_, ?_⟩ <;> (simp only [go_sem, simprocAttr]; with_reducible rfl)), rfl⟩
                    · rw [decide_eq_true (show word2 ≠ 0 by omega)]
                      try simp only [Bool.false_or, Bool.true_or, Bool.or_true]
                      repeat' (first | (with_reducible first | refine SW_seq ?_ | refine SW_block ?_ | refine SThen_n ?_ | refine SThen_r ?_ | refine SThen_e ?_ | refine SIn_n ?_ | refine SIn_r ?_ | refine SIn_eq ?_ | refine SW_skip ?_ | refine SW_exit ?_ | refine SW_ret ?_ | refine SPost_r ?_) | ((with_reducible refine SIn_ne ?_ ?_); focus decide) | ((with_reducible refine SW_true ?_ ?_); focus exact rfl) | ((with_reducible refine SW_false ?_ ?_); focus exact rfl) | ((first | (with_reducible apply SW_run tt_ok hG htb) | ((with_reducible apply SW_draw rfl tt_ok hG htb); (focus kernel_rfl); (focus (simp only [List.range, List.range.loop, List.size_toArray, List.length_cons, List.length_nil, Nat.reduceAdd])))); focus ((repeat' (first | (with_reducible exact runX_nil) | (with_reducible exact runI_nil) | ((first | (with_reducible apply runX_cons) | (with_reducible apply runI_cons)); focus (simp (discharger := omega) only [go_sem, mword2, simprocAttr]; with_reducible rfl)))); done)))
                      exact Meet.h ⟨_, Norm.headS (own := []) (keep := [1, 179]) (by refine ⟨?_, ?_⟩; (simp (discharger := omega) only [go_sem, simprocAttr]; with_reducible rfl); refine ⟨?_, ?_, ?_, ?_⟩ <;> (simp only [go_sem, simprocAttr]; with_reducible rfl)), rfl⟩
                  · rw [decide_eq_true (show word ≠ 0 by omega)]
                    try simp only [Bool.false_or, Bool.true_or, Bool.or_true]
                    repeat' (first | (with_reducible first | refine SW_seq ?_ | refine SW_block ?_ | refine SThen_n ?_ | refine SThen_r ?_ | refine SThen_e ?_ | refine SIn_n ?_ | refine SIn_r ?_ | refine SIn_eq ?_ | refine SW_skip ?_ | refine SW_exit ?_ | refine SW_ret ?_ | refine SPost_r ?_) | ((with_reducible refine SIn_ne ?_ ?_); focus decide) | ((with_reducible refine SW_true ?_ ?_); focus exact rfl) | ((with_reducible refine SW_false ?_ ?_); focus exact rfl) | ((first | (with_reducible apply SW_run tt_ok hG htb) | ((with_reducible apply SW_draw rfl tt_ok hG htb); (focus kernel_rfl); (focus (simp only [List.range, List.range.loop, List.size_toArray, List.length_cons, List.length_nil, Nat.reduceAdd])))); focus ((repeat' (first | (with_reducible exact runX_nil) | (with_reducible exact runI_nil) | ((first | (with_reducible apply runX_cons) | (with_reducible apply runI_cons)); focus (simp (discharger := omega) only [go_sem, mword, simprocAttr]; with_reducible rfl)))); done)))
                    exact Meet.h ⟨_, Norm.headS (own := []) (keep := [1, 179]) (by refine ⟨?_, ?_⟩; (simp (discharger := omega) only [go_sem, simprocAttr]; with_reducible rfl); refine ⟨?_, ?_, ?_, ?_⟩ <;> (simp only [go_sem, simprocAttr]; with_reducible rfl)), rfl⟩
                · rw [decide_eq_true (show other ≠ 0 by omega)]
                  try simp only [Bool.false_or, Bool.true_or, Bool.or_true]
                  repeat' (first | (with_reducible first | refine SW_seq ?_ | refine SW_block ?_ | refine SThen_n ?_ | refine SThen_r ?_ | refine SThen_e ?_ | refine SIn_n ?_ | refine SIn_r ?_ | refine SIn_eq ?_ | refine SW_skip ?_ | refine SW_exit ?_ | refine SW_ret ?_ | refine SPost_r ?_) | ((with_reducible refine SIn_ne ?_ ?_); focus decide) | ((with_reducible refine SW_true ?_ ?_); focus exact rfl) | ((with_reducible refine SW_false ?_ ?_); focus exact rfl) | ((first | (with_reducible apply SW_run tt_ok hG htb) | ((with_reducible apply SW_draw rfl tt_ok hG htb); (focus kernel_rfl); (focus (simp only [List.range, List.range.loop, List.size_toArray, List.length_cons, List.length_nil, Nat.reduceAdd])))); focus ((repeat' (first | (with_reducible exact runX_nil) | (with_reducible exact runI_nil) | ((first | (with_reducible apply runX_cons) | (with_reducible apply runI_cons)); focus (simp (discharger := omega) only [go_sem, mother, simprocAttr]; with_reducible rfl)))); done)))
                  exact Meet.h ⟨_, Norm.headS (own := []) (keep := [1, 179]) (by refine ⟨?_, ?_⟩; (simp (discharger := omega) only [go_sem, simprocAttr]; with_reducible rfl); refine ⟨?_, ?_, ?_, ?_⟩ <;> (simp only [go_sem, simprocAttr]; with_reducible rfl)), rfl⟩
              · rw [decide_eq_true (show var ≠ 0 by omega)]
                try simp only [Bool.false_or, Bool.true_or, Bool.or_true]
                repeat' (first | (with_reducible first | refine SW_seq ?_ | refine SW_block ?_ | refine SThen_n ?_ | refine SThen_r ?_ | refine SThen_e ?_ | refine SIn_n ?_ | refine SIn_r ?_ | refine SIn_eq ?_ | refine SW_skip ?_ | refine SW_exit ?_ | refine SW_ret ?_ | refine SPost_r ?_) | ((with_reducible refine SIn_ne ?_ ?_); focus decide) | ((with_reducible refine SW_true ?_ ?_); focus exact rfl) | ((with_reducible refine SW_false ?_ ?_); focus exact rfl) | ((first | (with_reducible apply SW_run tt_ok hG htb) | ((with_reducible apply SW_draw rfl tt_ok hG htb); (focus kernel_rfl); (focus (simp only [List.range, List.range.loop, List.size_toArray, List.length_cons, List.length_nil, Nat.reduceAdd])))); focus ((repeat' (first | (with_reducible exact runX_nil) | (with_reducible exact runI_nil) | ((first | (with_reducible apply runX_cons) | (with_reducible apply runI_cons)); focus (simp (discharger := omega) only [go_sem, mvar, simprocAttr]; with_reducible rfl)))); done)))
                exact Meet.h ⟨_, Norm.headS (own := []) (keep := [1, 179]) (by refine ⟨?_, ?_⟩; (simp (discharger := omega) only [go_sem, simprocAttr]; with_reducible rfl); refine ⟨?_, ?_, ?_, ?_⟩ <;> (simp only [go_sem, simprocAttr]; with_reducible rfl)), rfl⟩
            · generalize nodeMore ⟨5, var, other, word, word2, num, coefs⟩ = mo at *
              cases mo with
              | true =>
                rw [if_pos rfl]
                repeat' (first | (with_reducible first | refine SW_seq ?_ | refine SW_block ?_ | refine SThen_n ?_ | refine SThen_r ?_ | refine SThen_e ?_ | refine SIn_n ?_ | refine SIn_r ?_ | refine SIn_eq ?_ | refine SW_skip ?_ | refine SW_exit ?_ | refine SW_ret ?_ | refine SPost_r ?_) | ((with_reducible refine SIn_ne ?_ ?_); focus decide) | ((with_reducible refine SW_true ?_ ?_); focus exact rfl) | ((with_reducible refine SW_false ?_ ?_); focus exact rfl) | ((first | (with_reducible apply SW_run tt_ok hG htb) | ((with_reducible apply SW_draw rfl tt_ok hG htb); (focus kernel_rfl); (focus (simp only [List.range, List.range.loop, List.size_toArray, List.length_cons, List.length_nil, Nat.reduceAdd])))); focus ((repeat' (first | (with_reducible exact runX_nil) | (with_reducible exact runI_nil) | ((first | (with_reducible apply runX_cons) | (with_reducible apply runI_cons)); focus (simp (discharger := omega) only [go_sem, simprocAttr]; with_reducible rfl)))); done)))
                exact (by simp (discharger := omega) only [go_sem, tErr, simprocAttr])
              | false =>
                rw [if_neg (by decide)]
                clear e1 e2 e3 e4 cV cO c1
                by_cases hc : 0 < coefs.length
                · obtain ⟨x, hx⟩ : ∃ x, coefs[coefs.length - 1]! = x := ⟨_, rfl⟩
                  have hxe : (coefs.length : Int) - 1 = ((coefs.length - 1 : Nat) : Int) := by omega
                  have hkk : coefs.length - 1 < coefs.length := by omega
                  rw [hx]
                  generalize coefs.length - 1 = kk at *
                  by_cases h0 : x = 0
                  · rw [if_pos ⟨hc, h0⟩]
                    repeat' (first | (with_reducible first | refine SW_seq ?_ | refine SW_block ?_ | refine SThen_n ?_ | refine SThen_r ?_ | refine SThen_e ?_ | refine SIn_n ?_ | refine SIn_r ?_ | refine SIn_eq ?_ | refine SW_skip ?_ | refine SW_exit ?_ | refine SW_ret ?_ | refine SPost_r ?_) | ((with_reducible refine SIn_ne ?_ ?_); focus decide) | ((with_reducible refine SW_true ?_ ?_); focus exact rfl) | ((with_reducible refine SW_false ?_ ?_); focus exact rfl) | ((first | (with_reducible apply SW_run tt_ok hG htb) | ((with_reducible apply SW_draw rfl tt_ok hG htb); (focus kernel_rfl); (focus (simp only [List.range, List.range.loop, List.size_toArray, List.length_cons, List.length_nil, Nat.reduceAdd])))); focus ((repeat' (first | (with_reducible exact runX_nil) | (with_reducible exact runI_nil) | ((first | (with_reducible apply runX_cons) | (with_reducible apply runI_cons)); focus (simp (discharger := omega) only [go_sem, hxe, hx, h0, simprocAttr]; with_reducible rfl)))); done)))
                    exact (by simp (discharger := omega) only [go_sem, tErr, simprocAttr])
                  · rw [if_neg (by rintro ⟨_, e⟩; exact h0 e)]
                    repeat' (first | (with_reducible first | refine SW_seq ?_ | refine SW_block ?_ | refine SThen_n ?_ | refine SThen_r ?_ | refine SThen_e ?_ | refine SIn_n ?_ | refine SIn_r ?_ | refine SIn_eq ?_ | refine SW_skip ?_ | refine SW_exit ?_ | refine SW_ret ?_ | refine SPost_r ?_) | ((with_reducible refine SIn_ne ?_ ?_); focus decide) | ((with_reducible refine SW_true ?_ ?_); focus exact rfl) | ((with_reducible refine SW_false ?_ ?_); focus exact rfl) | ((first | (with_reducible apply SW_run tt_ok hG htb) | ((with_reducible apply SW_draw rfl tt_ok hG htb); (focus kernel_rfl); (focus (simp only [List.range, List.range.loop, List.size_toArray, List.length_cons, List.length_nil, Nat.reduceAdd])))); focus ((repeat' (first | (with_reducible exact runX_nil) | (with_reducible exact runI_nil) | ((first | (with_reducible apply runX_cons) | (with_reducible apply runI_cons)); focus (simp (discharger := omega) only [go_sem, hxe, hx, h0, simprocAttr]; with_reducible rfl)))); done)))
                    exact (by simp (discharger := omega) only [go_sem, tErr, simprocAttr])
                · rw [if_neg (by rintro ⟨e, _⟩; exact hc e)]
                  have hc0 : coefs.length = 0 := by omega
                  repeat' (first | (with_reducible first | refine SW_seq ?_ | refine SW_block ?_ | refine SThen_n ?_ | refine SThen_r ?_ | refine SThen_e ?_ | refine SIn_n ?_ | refine SIn_r ?_ | refine SIn_eq ?_ | refine SW_skip ?_ | refine SW_exit ?_ | refine SW_ret ?_ | refine SPost_r ?_) | ((with_reducible refine SIn_ne ?_ ?_); focus decide) | ((with_reducible refine SW_true ?_ ?_); focus exact rfl) | ((with_reducible refine SW_false ?_ ?_); focus exact rfl) | ((first | (with_reducible apply SW_run tt_ok hG htb) | ((with_reducible apply SW_draw rfl tt_ok hG htb); (focus kernel_rfl); (focus (simp only [List.range, List.range.loop, List.size_toArray, List.length_cons, List.length_nil, Nat.reduceAdd])))); focus ((repeat' (first | (with_reducible exact runX_nil) | (with_reducible exact runI_nil) | ((first | (with_reducible apply runX_cons) | (with_reducible apply runI_cons)); focus (simp (discharger := omega) only [go_sem, hc0, simprocAttr]; with_reducible rfl)))); done)))
                  exact (by simp (discharger := omega) only [go_sem, tErr, simprocAttr])
      · have e1 : nodeOk ⟨6, var, other, word, word2, num, coefs⟩ = true := by unfold nodeOk; simp
        have e2 : usedN ⟨6, var, other, word, word2, num, coefs⟩ = ⟨6, 0, 0, 0, 0, 0, []⟩ := by unfold usedN; simp
        have e4 : nodeMore ⟨6, var, other, word, word2, num, coefs⟩ = (decide (var ≠ 0) || decide (other ≠ 0) || decide (word ≠ 0) || decide (word2 ≠ 0) || decide (num ≠ 0) || decide (coefs.length ≠ 0)) := by unfold nodeMore; rw [e2]; simp
        refine SW_meetG ⟨196, [(1, .bptr 0 0), (3, .bptr 1 0), (4, .t (.bool (nodeOk ⟨6, var, other, word, word2, num, coefs⟩)))], [.fbox [tInt 6, tInt var, tInt other, tInt word, tInt word2, tInt num, tInts coefs], .box [.t (tInt 6), .t (tInt 0), .t (tInt 0), .t (tInt 0), .t (tInt 0), .t (tInt 0), .nil]]⟩ Weak.sw (SW_block ?_) ?_
        · rw [e1]
          clear e1 e2 e3 e4
          try simp only [Bool.true_and, Bool.false_and, Bool.and_true, Bool.and_false]
          have htb := Tab.cons cV Tab.nil
          repeat' (first | (with_reducible first | refine SW_seq ?_ | refine SW_block ?_ | refine SThen_n ?_ | refine SThen_r ?_ | refine SThen_e ?_ | refine SIn_n ?_ | refine SIn_r ?_ | refine SIn_eq ?_ | refine SW_skip ?_ | refine SW_exit ?_ | refine SW_ret ?_ | refine SPost_r ?_) | ((with_reducible refine SIn_ne ?_ ?_); focus decide) | ((with_reducible refine SW_true ?_ ?_); focus exact rfl) | ((with_reducible refine SW_false ?_ ?_); focus exact rfl) | ((first | (with_reducible apply SW_run tt_ok hG htb) | ((with_reducible apply SW_draw rfl tt_ok hG htb); (focus kernel_rfl); (focus (simp only [List.range, List.range.loop, List.size_toArray, List.length_cons, List.length_nil, Nat.reduceAdd])))); focus ((repeat' (first | (with_reducible exact runX_nil) | (with_reducible exact runI_nil) | ((first | (with_reducible apply runX_cons) | (with_reducible apply runI_cons)); focus (simp (discharger := omega) only [go_sem, simprocAttr]; with_reducible rfl)))); done)))
          exact Meet.h ⟨_, Norm.headS (own := []) (keep := [1, 3, 4]) (by refine ⟨?_, ?_⟩; (simp (discharger := omega) only [go_sem, simprocAttr]; with_reducible rfl); refine ⟨?_, ?_, ?_, ?_⟩ <;> (simp only [go_sem, simprocAttr]; with_reducible rfl)), rfl⟩
        · generalize nodeOk ⟨6, var, other, word, word2, num, coefs⟩ = ok at *
          cases ok with
          | false =>
            rw [if_pos rfl]
            repeat' (first | (with_reducible first | refine SW_seq ?_ | refine SW_block ?_ | refine SThen_n ?_ | refine SThen_r ?_ | refine SThen_e ?_ | refine SIn_n ?_ | refine SIn_r ?_ | refine SIn_eq ?_ | refine SW_skip ?_ | refine SW_exit ?_ | refine SW_ret ?_ | refine SPost_r ?_) | ((with_reducible refine SIn_ne ?_ ?_); focus decide) | ((with_reducible refine SW_true ?_ ?_); focus exact rfl) | ((with_reducible refine SW_false ?_ ?_); focus exact rfl) | ((first | (with_reducible apply SW_run tt_ok hG htb) | ((with_reducible apply SW_draw rfl tt_ok hG htb); (focus kernel_rfl); (focus (simp only [List.range, List.range.loop, List.size_toArray, List.length_cons, List.length_nil, Nat.reduceAdd])))); focus ((repeat' (first | (with_reducible exact runX_nil) | (with_reducible exact runI_nil) | ((first | (with_reducible apply runX_cons) | (with_reducible apply runI_cons)); focus (simp (discharger := omega) only [go_sem, simprocAttr]; with_reducible rfl)))); done)))
            exact (by simp (discharger := omega) only [go_sem, tErr, simprocAttr])
          | true =>
            rw [if_neg (by decide)]
            repeat' (first | (with_reducible first | refine SW_seq ?_ | refine SW_block ?_ | refine SThen_n ?_ | refine SThen_r ?_ | refine SThen_e ?_ | refine SIn_n ?_ | refine SIn_r ?_ | refine SIn_eq ?_ | refine SW_skip ?_ | refine SW_exit ?_ | refine SW_ret ?_ | refine SPost_r ?_) | ((with_reducible refine SIn_ne ?_ ?_); focus decide) | ((with_reducible refine SW_true ?_ ?_); focus exact rfl) | ((with_reducible refine SW_false ?_ ?_); focus exact rfl) | ((first | (with_reducible apply SW_run tt_ok hG htb) | ((with_reducible apply SW_draw rfl tt_ok hG htb); (focus kernel_rfl); (focus (simp only [List.range, List.range.loop, List.size_toArray, List.length_cons, List.length_nil, Nat.reduceAdd])))); focus ((repeat' (first | (with_reducible exact runX_nil) | (with_reducible exact runI_nil) | ((first | (with_reducible apply runX_cons) | (with_reducible apply runI_cons)); focus (simp (discharger := omega) only [go_sem, simprocAttr]; with_reducible rfl)))); done)))
            refine SW_meetG ⟨196, [(1, .bptr 0 0), (179, .t (.bool (nodeMore ⟨6, var, other, word, word2, num, coefs⟩)))], [.fbox [tInt 6, tInt var, tInt other, tInt word, tInt word2, tInt num, tInts coefs]]⟩ Weak.sw ?_ ?_
            · rw [e4]
              clear e1 e2 e3 e4
              by_cases mvar : var = 0
              · subst mvar
                rw [decide_eq_false (show ¬ (0 : Int) ≠ 0 by decide)]
                by_cases mother : other = 0
                · subst mother
                  rw [decide_eq_false (show ¬ (0 : Int) ≠ 0 by decide)]
                  by_cases mword : word = 0
                  · subst mword
                    rw [decide_eq_false (show ¬ (0 : Int) ≠ 0 by decide)]
                    by_cases mword2 : word2 = 0
                    · subst mword2
                      rw [decide_eq_false (show ¬ (0 : Int) ≠ 0 by decide)]
                      by_cases mnum : num = 0
                      · subst mnum
                        rw [decide_eq_false (show ¬ (0 : Int) ≠ 0 by decide)]
                        by_cases mc : coefs.length = 0
                        · rw [decide_eq_false (show ¬ coefs.length ≠ 0 by omega)]
                          try simp only [Bool.false_or, Bool.or_false]
                          repeat' (first | (with_reducible first | refine SW_seq ?_ | refine SW_block ?_ | refine SThen_n ?_ | refine SThen_r ?_ | refine SThen_e ?_ | refine SIn_n ?_ | refine SIn_r ?_ | refine SIn_eq ?_ | refine SW_skip ?_ | refine SW_exit ?_ | refine SW_ret ?_ | refine SPost_r ?_) | ((with_reducible refine SIn_ne ?_ ?_); focus decide) | ((with_reducible refine SW_true ?_ ?_); focus exact rfl) | ((with_reducible refine SW_false ?_ ?_); focus exact rfl) | ((first | (with_reducible apply SW_run tt_ok hG htb) | ((with_reducible apply SW_draw rfl tt_ok hG htb); (focus kernel_rfl); (focus (simp only [List.range, List.range.loop, List.size_toArray, List.length_cons, List.length_nil, Nat.reduceAdd])))); focus ((repeat' (first | (with_reducible exact runX_nil) | (with_reducible exact runI_nil) | ((first | (with_reducible apply runX_cons) | (with_reducible apply runI_cons)); focus (simp (discharger := omega) only [go_sem, mc, simprocAttr]; with_reducible rfl)))); done)))
                          exact Meet.h ⟨_, Norm.headS (own := []) (keep := [1, 179]) (by refine ⟨?_, ?_⟩; (simp (discharger := omega) only [go_sem, simprocAttr]; with_reducible rfl); refine ⟨?_, ?_, ?_, ?_⟩ <;> (simp only [go_sem, simprocAttr]; with_reducible rfl)), rfl⟩
                        · rw [decide_eq_true (show coefs.length ≠ 0 by omega)]
                          try simp only [Bool.false_or, Bool.true_or, Bool.or_true]
                          repeat' (first | (with_reducible first | refine SW_seq ?_ | refine SW_block ?_ | refine SThen_n ?_ | refine SThen_r ?_ | refine SThen_e ?_ | refine SIn_n ?_ | refine SIn_r ?_ | refine SIn_eq ?_ | refine SW_skip ?_ | refine SW_exit ?_ | refine SW_ret ?_ | refine SPost_r ?_) | ((with_reducible refine SIn_ne ?_ ?_); focus decide) | ((with_reducible refine SW_true ?_ ?_); focus exact rfl) | ((with_reducible refine SW_false ?_ ?_); focus exact rfl) | ((first | (with_reducible apply SW_run tt_ok hG htb) | ((with_reducible apply SW_draw rfl tt_ok hG htb); (focus kernel_rfl); (focus (simp only [List.range, List.range.loop, List.size_toArray, List.length_cons, List.length_nil, Nat.reduceAdd])))); focus ((repeat' (first | (with_reducible exact runX_nil) | (with_reducible exact runI_nil) | ((first | (with_reducible apply runX_cons) | (with_reducible apply runI_cons)); focus (simp (discharger := omega) only [go_sem, mc, simprocAttr]; with_reducible rfl)))); done)))
                          exact Meet.h ⟨_, Norm.headS (own := []) (keep := [1, 179]) (by refine ⟨?_, ?_⟩; (simp (discharger := omega) only [go_sem, simprocAttr]; with_reducible rfl); refine ⟨?_, ?_, ?_, ?_⟩ <;> (simp only [go_sem, simprocAttr]; with_reducible rfl)), rfl⟩
                      · rw [decide_eq_true (show num ≠ 0 by omega)]
                        try simp only [Bool.false_or, Bool.true_or, Bool.or_true]
                        repeat' (first | (with_reducible first | refine SW_seq ?_ | refine SW_block ?_ | refine SThen_n ?_ | refine SThen_r ?_ | refine SThen_e ?_ | refine SIn_n ?_ | refine SIn_r ?_ | refine SIn_eq ?_ | refine SW_skip ?_ | refine SW_exit ?_ | refine SW_ret ?_ | refine SPost_r ?_) | ((with_reducible refine SIn_ne ?_ ?_); focus decide) | ((with_reducible refine SW_true ?_ ?_); focus exact rfl) | ((with_reducible refine SW_false ?_ ?_); focus exact rfl) | ((first | (with_reducible apply SW_run tt_ok hG htb) | ((with_reducible apply SW_draw rfl tt_ok hG htb); (focus kernel_rfl); (focus (simp only [List.range, List.range.loop, List.size_toArray, List.length_cons, List.length_nil, Nat.reduceAdd])))); focus ((repeat' (first | (with_reducible exact runX_nil) | (with_reducible exact runI_nil) | ((first | (with_reducible apply runX_cons) | (with_reducible apply runI_cons)); focus (simp (discharger := omega) only [go_sem, mnum, simprocAttr]; with_reducible rfl)))); done)))
                        exact Meet.h ⟨_, Norm.headS (own := []) (keep := [1, 179]) (by refine ⟨?_, ?_⟩; (simp (discharger := omega) only [go_sem, simprocAttr]; with_reducible rfl); refine ⟨?_, ?_, ?_, ?_⟩ <;> (simp only [go_sem, simprocAttr]; with_reducible rfl)), rfl⟩
                    · rw [decide_eq_true (show word2 ≠ 0 by omega)]
                      try simp only [Bool.false_or, Bool.true_or, Bool.or_true]
                      repeat' (first | (with_reducible first | refine SW_seq ?_ | refine SW_block ?_ | refine SThen_n ?_ | refine SThen_r ?_ | refine SThen_e ?_ | refine SIn_n ?_ | refine SIn_r ?_ | refine SIn_eq ?_ | refine SW_skip ?_ | refine SW_exit ?_ | refine SW_ret ?_ | refine SPost_r ?_) | ((with_reducible refine SIn_ne ?_ ?_); focus decide) | ((with_reducible refine SW_true ?_ ?_); focus exact rfl) | ((with_reducible refine SW_false ?_ ?_); focus exact rfl) | ((first | (with_reducible apply SW_run tt_ok hG htb) | ((with_reducible apply SW_draw rfl tt_ok hG htb); (focus kernel_rfl); (focus (simp only [List.range, List.range.loop, List.size_toArray, List.length_cons, List.length_nil, Nat.reduceAdd])))); focus ((repeat' (first | (with_reducible exact runX_nil) | (with_reducible exact runI_nil) | ((first | (with_reducible apply runX_cons) | (with_reducible apply runI_cons)); focus (simp (discharger := omega) only [go_sem, mword2, simprocAttr]; with_reducible rfl)))); done)))
                      exact Meet.h ⟨_, Norm.headS (own := []) (keep := [1, 179]) (by refine ⟨?_, ?_⟩; (simp (discharger := omega) only [go_sem, simprocAttr]; with_reducible rfl); refine ⟨?_, ?_, ?_, ?_⟩ <;> (simp only [go_sem, simprocAttr]; with_reducible rfl)), rfl⟩
                  · rw [decide_eq_true (show word ≠ 0 by omega)]
                    try simp only [Bool.false_or, Bool.true_or, Bool.or_true]
                    repeat' (first | (with_reducible first | refine SW_seq ?_ | refine SW_block ?_ | refine SThen_n ?_ | refine SThen_r ?_ | refine SThen_e ?_ | refine SIn_n ?_ | refine SIn_r ?_ | refine SIn_eq ?_ | refine SW_skip ?_ | refine SW_exit ?_ | refine SW_ret ?_ | refine SPost_r ?_) | ((with_reducible refine SIn_ne ?_ ?_); focus decide) | ((with_reducible refine SW_true ?_ ?_); focus exact rfl) | ((with_reducible refine SW_false ?_ ?_); focus exact rfl) | ((first | (with_reducible apply SW_run tt_ok hG htb) | ((with_reducible apply SW_draw rfl tt_ok hG htb); (focus kernel_rfl); (focus (simp only [List.range, List.range.loop, List.size_toArray, List.length_cons, List.length_nil, Nat.reduceAdd])))); focus ((repeat' (first | (with_reducible exact runX_nil) | (with_reducible exact runI_nil) | ((first | (with_reducible apply runX_cons) | (with_reducible apply runI_cons)); focus (simp (discharger := omega) only [go_sem, mword, simprocAttr]; with_reducible rfl)))); done)))
                    exact Meet.h ⟨_, Norm.headS (own := []) (keep := [1, 179]) (by refine ⟨?_, ?_⟩; (simp (discharger := omega) only [go_sem, simprocAttr]; with_reducible rfl); refine ⟨?_, ?_, ?_, ?_⟩ <;> (simp only [go_sem, simprocAttr]; with_reducible rfl)), rfl⟩
                · rw [decide_eq_true (show other ≠ 0 by omega)]
                  try simp only [Bool.false_or, Bool.true_or, Bool.or_true]
                  repeat' (first | (with_reducible first | refine SW_seq ?_ | refine SW_block ?_ | refine SThen_n ?_ | refine SThen_r ?_ | refine SThen_e ?_ | refine SIn_n ?_ | refine SIn_r ?_ | refine SIn_eq ?_ | refine SW_skip ?_ | refine SW_exit ?_ | refine SW_ret ?_ | refine SPost_r ?_) | ((with_reducible refine SIn_ne ?_ ?_); focus decide) | ((with_reducible refine SW_true ?_ ?_); focus exact rfl) | ((with_reducible refine SW_false ?_ ?_); focus exact rfl) | ((first | (with_reducible apply SW_run tt_ok hG htb) | ((with_reducible apply SW_draw rfl tt_ok hG htb); (focus kernel_rfl); (focus (simp only [List.range, List.range.loop, List.size_toArray, List.length_cons, List.length_nil, Nat.reduceAdd])))); focus ((repeat' (first | (with_reducible exact runX_nil) | (with_reducible exact runI_nil) | ((first | (with_reducible apply runX_cons) | (with_reducible apply runI_cons)); focus (simp (discharger := omega) only [go_sem, mother, simprocAttr]; with_reducible rfl)))); done)))
                  exact Meet.h ⟨_, Norm.headS (own := []) (keep := [1, 179]) (by refine ⟨?_, ?_⟩; (simp (discharger := omega) only [go_sem, simprocAttr]; with_reducible rfl); refine ⟨?_, ?_, ?_, ?_⟩ <;> (simp only [go_sem, simprocAttr]; with_reducible rfl)), rfl⟩
              · rw [decide_eq_true (show var ≠ 0 by omega)]
                try simp only [Bool.false_or, Bool.true_or, Bool.or_true]
                repeat' (first | (with_reducible first | refine SW_seq ?_ | refine SW_block ?_ | refine SThen_n ?_ | refine SThen_r ?_ | refine SThen_e ?_ | refine SIn_n ?_ | refine SIn_r ?_ | refine SIn_eq ?_ | refine SW_skip ?_ | refine SW_exit ?_ | refine SW_ret ?_ | refine SPost_r ?_) | ((with_reducible refine SIn_ne ?_ ?_); focus decide) | ((with_reducible refine SW_true ?_ ?_); focus exact rfl) | ((with_reducible refine SW_false ?_ ?_); focus exact rfl) | ((first | (with_reducible apply SW_run tt_ok hG htb) | ((with_reducible apply SW_draw rfl tt_ok hG htb); (focus kernel_rfl); (focus (simp only [List.range, List.range.loop, List.size_toArray, List.length_cons, List.length_nil, Nat.reduceAdd])))); focus ((repeat' (first | (with_reducible exact runX_nil) | (with_reducible exact runI_nil) | ((first | (with_reducible apply runX_cons) | (with_reducible apply runI_cons)); focus (simp (discharger := omega) only [go_sem, mvar, simprocAttr]; with_reducible rfl)))); done)))
                exact Meet.h ⟨_, Norm.headS (own := []) (keep := [1, 179]) (by refine ⟨?_, ?_⟩; (simp (discharger := omega) only [go_sem, simprocAttr]; with_reducible rfl); refine ⟨?_, ?_, ?_, ?_⟩ <;> (simp only [go_sem, simprocAttr]; with_reducible rfl)), rfl⟩
            · generalize nodeMore ⟨6, var, other, word, word2, num, coefs⟩ = mo at *
              cases mo with
              | true =>
                rw [if_pos rfl]
                repeat' (first | (with_reducible first | refine SW_seq ?_ | refine SW_block ?_ | refine SThen_n ?_ | refine SThen_r ?_ | refine SThen_e ?_ | refine SIn_n ?_ | refine SIn_r ?_ | refine SIn_eq ?_ | refine SW_skip ?_ | refine SW_exit ?_ | refine SW_ret ?_ | refine SPost_r ?_) | ((with_reducible refine SIn_ne ?_ ?_); focus decide) | ((with_reducible refine SW_true ?_ ?_); focus exact rfl) | ((with_reducible refine SW_false ?_ ?_); focus exact rfl) | ((first | (with_reducible apply SW_run tt_ok hG htb) | ((with_reducible apply SW_draw rfl tt_ok hG htb); (focus kernel_rfl); (focus (simp only [List.range, List.range.loop, List.size_toArray, List.length_cons, List.length_nil, Nat.reduceAdd])))); focus ((repeat' (first | (with_reducible exact runX_nil) | (with_reducible exact runI_nil) | ((first | (with_reducible apply runX_cons) | (with_reducible apply runI_cons)); focus (simp (discharger := omega) only [go_sem, simprocAttr]; with_reducible rfl)))); done)))
                exact (by simp (discharger := omega) only [go_sem, tErr, simprocAttr])
              | false =>
                rw [if_neg (by decide)]
                clear e1 e2 e3 e4 cV cO c1
                by_cases hc : 0 < coefs.length
                · obtain ⟨x, hx⟩ : ∃ x, coefs[coefs.length - 1]! = x := ⟨_, rfl⟩
                  have hxe : (coefs.length : Int) - 1 = ((coefs.length - 1 : Nat) : Int) := by omega
                  have hkk : coefs.length - 1 < coefs.length := by omega
                  rw [hx]
                  generalize coefs.length - 1 = kk at *
                  by_cases h0 : x = 0
                  · rw [if_pos ⟨hc, h0⟩]
                    repeat' (first | (with_reducible first | refine SW_seq ?_ | refine SW_block ?_ | refine SThen_n ?_ | refine SThen_r ?_ | refine SThen_e ?_ | refine SIn_n ?_ | refine SIn_r ?_ | refine SIn_eq ?_ | refine SW_skip ?_ | refine SW_exit ?_ | refine SW_ret ?_ | refine SPost_r ?_) | ((with_reducible refine SIn_ne ?_ ?_); focus decide) | ((with_reducible refine SW_true ?_ ?_); focus exact rfl) | ((with_reducible refine SW_false ?_ ?_); focus exact rfl) | ((first | (with_reducible apply SW_run tt_ok hG htb) | ((with_reducible apply SW_draw rfl tt_ok hG htb); (focus kernel_rfl); (focus (simp only [List.range, List.range.loop, List.size_toArray, List.length_cons, List.length_nil, Nat.reduceAdd])))); focus ((repeat' (first | (with_reducible exact runX_nil) | (with_reducible exact runI_nil) | ((first | (with_reducible apply runX_cons) | (with_reducible apply runI_cons)); focus (simp (discharger := omega) only [go_sem, hxe, hx, h0, simprocAttr]; with_reducible rfl)))); done)))
                    exact (by simp (discharger := omega) only [go_sem, tErr, simprocAttr])
                  · rw [if_neg (by rintro ⟨_, e⟩; exact h0 e)]
                    repeat' (first | (with_reducible first | refine SW_seq ?_ | refine SW_block ?_ | refine SThen_n ?_ | refine SThen_r ?_ | refine SThen_e ?_ | refine SIn_n ?_ | refine SIn_r ?_ | refine SIn_eq ?_ | refine SW_skip ?_ | refine SW_exit ?_ | refine SW_ret ?_ | refine SPost_r ?_) | ((with_reducible refine SIn_ne ?_ ?_); focus decide) | ((with_reducible refine SW_true ?_ ?_); focus exact rfl) | ((with_reducible refine SW_false ?_ ?_); focus exact rfl) | ((first | (with_reducible apply SW_run tt_ok hG htb) | ((with_reducible apply SW_draw rfl tt_ok hG htb); (focus kernel_rfl); (focus (simp only [List.range, List.range.loop, List.size_toArray, List.length_cons, List.length_nil, Nat.reduceAdd])))); focus ((repeat' (first | (with_reducible exact runX_nil) | (with_reducible exact runI_nil) | ((first | (with_reducible apply runX_cons) | (with_reducible apply runI_cons)); focus (simp (discharger := omega) only [go_sem, hxe, hx, h0, simprocAttr]; with_reducible rfl)))); done)))
                    exact (by simp (discharger := omega) only [go_sem, tErr, simprocAttr])
                · rw [if_neg (by rintro ⟨e, _⟩; exact hc e)]
                  have hc0 : coefs.length = 0 := by omega
                  repeat' (first | (with_reducible first | refine SW_seq ?_ | refine SW_block ?_ | refine SThen_n ?_ | refine SThen_r ?_ | refine SThen_e ?_ | refine SIn_n ?_ | refine SIn_r ?_ | refine SIn_eq ?_ | refine SW_skip ?_ | refine SW_exit ?_ | refine SW_ret ?_ | refine SPost_r ?_) | ((with_reducible refine SIn_ne ?_ ?_); focus decide) | ((with_reducible refine SW_true ?_ ?_); focus exact rfl) | ((with_reducible refine SW_false ?_ ?_); focus exact rfl) | ((first | (with_reducible apply SW_run tt_ok hG htb) | ((with_reducible apply SW_draw rfl tt_ok hG htb); (focus kernel_rfl); (focus (simp only [List.range, List.range.loop, List.size_toArray, List.length_cons, List.length_nil, Nat.reduceAdd])))); focus ((repeat' (first | (with_reducible exact runX_nil) | (with_reducible exact runI_nil) | ((first | (with_reducible apply runX_cons) | (with_reducible apply runI_cons)); focus (simp (discharger := omega) only [go_sem, hc0, simprocAttr]; with_reducible rfl)))); done)))
                  exact (by simp (discharger := omega) only [go_sem, tErr, simprocAttr])
      · have e1 : nodeOk ⟨7, var, other, word, word2, num, coefs⟩ = true := by unfold nodeOk; simp
        have e2 : usedN ⟨7, var, other, word, word2, num, coefs⟩ = ⟨7, 0, 0, 0, 0, 0, []⟩ := by unfold usedN; simp
        have e4 : nodeMore ⟨7, var, other, word, word2, num, coefs⟩ = (decide (var ≠ 0) || decide (other ≠ 0) || decide (word ≠ 0) || decide (word2 ≠ 0) || decide (num ≠ 0) || decide (coefs.length ≠ 0)) := by unfold nodeMore; rw [e2]; simp
        refine SW_meetG ⟨196, [(1, .bptr 0 0), (3, .bptr 1 0), (4, .t (.bool (nodeOk ⟨7, var, other, word, word2, num, coefs⟩)))], [.fbox [tInt 7, tInt var, tInt other, tInt word, tInt word2, tInt num, tInts coefs], .box [.t (tInt 7), .t (tInt 0), .t (tInt 0), .t (tInt 0), .t (tInt 0), .t (tInt 0), .nil]]⟩ Weak.sw (SW_block ?_) ?_
        · rw [e1]
          clear e1 e2 e3 e4
          try simp only [Bool.true_and, Bool.false_and, Bool.and_true, Bool.and_false]
          have htb := Tab.cons cV Tab.nil
          repeat' (first | (with_reducible first | refine SW_seq ?_ | refine SW_block ?_ | refine SThen_n ?_ | refine SThen_r ?_ | refine SThen_e ?_ | refine SIn_n ?_ | refine SIn_r ?_ | refine SIn_eq ?_ | refine SW_skip ?_ | refine SW_exit ?_ | refine SW_ret ?_ | refine SPost_r ?_) | ((with_reducible refine SIn_ne ?_ ?_); focus decide) | ((with_reducible refine SW_true ?_ ?_); focus exact rfl) | ((with_reducible refine SW_false ?_ ?_); focus exact rfl) | ((first | (with_reducible apply SW_run tt_ok hG htb) | ((with_reducible apply SW_draw rfl tt_ok hG htb); (focus kernel_rfl); (focus (simp only [List.range, List.range.loop, List.size_toArray, List.length_cons, List.length_nil, Nat.reduceAdd])))); focus ((repeat' (first | (with_reducible exact runX_nil) | (with_reducible exact runI_nil) | ((first | (with_reducible apply runX_cons) | (with_reducible apply runI_cons)); focus (simp (discharger := omega) only [go_sem, simprocAttr]; with_reducible rfl)))); done)))
          exact Meet.h ⟨_, Norm.headS (own := []) (keep := [1, 3, 4]) (by refine ⟨?_, ?_⟩; (simp (discharger := omega) only [go_sem, simprocAttr]; with_reducible rfl); refine ⟨?_, ?_, ?_, ?_⟩ <;> (simp only [go_sem, simprocAttr]; with_reducible rfl)), rfl⟩
        · generalize nodeOk ⟨7, var, other, word, word2, num, coefs⟩ = ok at *
          cases ok with
          | false =>
            rw [if_pos rfl]
            repeat' (first | (with_reducible first | refine SW_seq ?_ | refine SW_block ?_ | refine SThen_n ?_ | refine SThen_r ?_ | refine SThen_e ?_ | refine SIn_n ?_ | refine SIn_r ?_ | refine SIn_eq ?_ | refine SW_skip ?_ | refine SW_exit ?_ | refine SW_ret ?_ | refine SPost_r ?_) | ((with_reducible refine SIn_ne ?_ ?_); focus decide) | ((with_reducible refine SW_true ?_ ?_); focus exact rfl) | ((with_reducible refine SW_false ?_ ?_); focus exact rfl) | ((first | (with_reducible apply SW_run tt_ok hG htb) | ((with_reducible apply SW_draw rfl tt_ok hG htb); (focus kernel_rfl); (focus (simp only [List.range, List.range.loop, List.size_toArray, List.length_cons, List.length_nil, Nat.reduceAdd])))); focus ((repeat' (first | (with_reducible exact runX_nil) | (with_reducible exact runI_nil) | ((first | (with_reducible apply runX_cons) | (with_reducible apply runI_cons)); focus (simp (discharger := omega) only [go_sem, simprocAttr]; with_reducible rfl)))); done)))
            exact (by simp (discharger := omega) only [go_sem, tErr, simprocAttr])
          | true =>
            rw [if_neg (by decide)]
            repeat' (first | (with_reducible first | refine SW_seq ?_ | refine SW_block ?_ | refine SThen_n ?_ | refine SThen_r ?_ | refine SThen_e ?_ | refine SIn_n ?_ | refine SIn_r ?_ | refine SIn_eq ?_ | refine SW_skip ?_ | refine SW_exit ?_ | refine SW_ret ?_ | refine SPost_r ?_) | ((with_reducible refine SIn_ne ?_ ?_); focus decide) | ((with_reducible refine SW_true ?_ ?_); focus exact rfl) | ((with_reducible refine SW_false ?_ ?_); focus exact rfl) | ((first | (with_reducible apply SW_run tt_ok hG htb) | ((with_reducible apply SW_draw rfl tt_ok hG htb); (focus kernel_rfl); (focus (simp only [List.range, List.range.loop, List.size_toArray, List.length_cons, List.length_nil, Nat.reduceAdd])))); focus ((repeat' (first | (with_reducible exact runX_nil) | (with_reducible exact runI_nil) | ((first | (with_reducible apply runX_cons) | (with_reducible apply runI_cons)); focus (simp (discharger := omega) only [go_sem, simprocAttr]; with_reducible rfl)))); done)))
            refine SW_meetG ⟨196, [(1, .bptr 0 0), (179, .t (.bool (nodeMore ⟨7, var, other, word, word2, num, coefs⟩)))], [.fbox [tInt 7, tInt var, tInt other, tInt word, tInt word2, tInt num, tInts coefs]]⟩ Weak.sw ?_ ?_
            · rw [e4]
              clear e1 e2 e3 e4
              by_cases mvar : var = 0
              · subst mvar
                rw [decide_eq_false (show ¬ (0 : Int) ≠ 0 by decide)]
                by_cases mother : other = 0
                · subst mother
                  rw [decide_eq_false (show ¬ (0 : Int) ≠ 0 by decide)]
                  by_cases mword : word = 0
                  · subst mword
                    rw [decide_eq_false (show ¬ (0 : Int) ≠ 0 by decide)]
                    by_cases mword2 : word2 = 0
                    · subst mword2
                      rw [decide_eq_false (show ¬ (0 : Int) ≠ 0 by decide)]
                      by_cases mnum : num = 0
                      · subst mnum
                        rw [decide_eq_false (show ¬ (0 : Int) ≠ 0 by decide)]
                        by_cases mc : coefs.length = 0
                        · rw [decide_eq_false (show ¬ coefs.length ≠ 0 by omega)]
                          try simp only [Bool.false_or, Bool.or_false]
                          repeat' (first | (with_reducible first | refine SW_seq ?_ | refine SW_block ?_ | refine SThen_n ?_ | refine SThen_r ?_ | refine SThen_e ?_ | refine SIn_n ?_ | refine SIn_r ?_ | refine SIn_eq ?_ | refine SW_skip ?_ | refine SW_exit ?_ | refine SW_ret ?_ | refine SPost_r ?_) | ((with_reducible refine SIn_ne ?_ ?_); focus decide) | ((with_reducible refine SW_true ?_ ?_); focus exact rfl) | ((with_reducible refine SW_false ?_ ?_); focus exact rfl) | ((first | (with_reducible apply SW_run tt_ok hG htb) | ((with_reducible apply SW_draw rfl tt_ok hG htb); (focus kernel_rfl); (focus (simp only [List.range, List.range.loop, List.size_toArray, List.length_cons, List.length_nil, Nat.reduceAdd])))); focus ((repeat' (first | (with_reducible exact runX_nil) | (with_reducible exact runI_nil) | ((first | (with_reducible apply runX_cons) | (with_reducible apply runI_cons)); focus (simp (discharger := omega) only [go_sem, mc, simprocAttr]; with_reducible rfl)))); done)))
                          exact Meet.h ⟨_, Norm.headS (own := []) (keep := [1, 179]) (by refine ⟨?_, ?_⟩; (simp (discharger := omega) only [go_sem, simprocAttr]; with_reducible rfl); refine ⟨?_, ?_, ?_, ?_⟩ <;> (simp only [go_sem, simprocAttr]; with_reducible rfl)), rfl⟩
                        · rw [decide_eq_true (show coefs.length ≠ 0 by omega)]
                          try simp only [Bool.false_or, Bool.true_or, Bool.or_true]
                          repeat' (first | (with_reducible first | refine SW_seq ?_ | refine SW_block ?_ | refine SThen_n ?_ | refine SThen_r ?_ | refine SThen_e ?_ | refine SIn_n ?_ | refine SIn_r ?_ | refine SIn_eq ?_ | refine SW_skip ?_ | refine SW_exit ?_ | refine SW_ret ?_ | refine SPost_r ?_) | ((with_reducible refine SIn_ne ?_ ?_); focus decide) | ((with_reducible refine SW_true ?_ ?_); focus exact rfl) | ((with_reducible refine SW_false ?_ ?_); focus exact rfl) | ((first | (with_reducible apply SW_run tt_ok hG htb) | ((with_reducible apply SW_draw rfl tt_ok hG htb); (focus kernel_rfl); (focus (simp only [List.range, List.range.loop, List.size_toArray, List.length_cons, List.length_nil, Nat.reduceAdd])))); focus ((repeat' (first | (with_reducible exact runX_nil) | (with_reducible exact runI_nil) | ((first | (with_reducible apply runX_cons) | (with_reducible apply runI_cons)); focus (simp (discharger := omega) only [go_sem, mc, simprocAttr]; with_reducible rfl)))); done)))
                          exact Meet.h ⟨_, Norm.headS (own := []) (keep := [1, 179]) (by refine ⟨?_, ?_⟩; (simp (discharger := omega) only [go_sem, simprocAttr]; with_reducible rfl); refine ⟨?_, ?_, ?_, ?_⟩ <;> (simp only [go_sem, simprocAttr]; with_reducible rfl)), rfl⟩
                      · rw [decide_eq_true (show num ≠ 0 by omega)]
                        try simp only [Bool.false_or, Bool.true_or, Bool.or_true]
                        repeat' (first | (with_reducible first | refine SW_seq ?_ | refine SW_block ?_ | refine SThen_n ?_ | refine SThen_r ?_ | refine SThen_e ?_ | refine SIn_n ?_ | refine SIn_r ?_ | refine SIn_eq ?_ | refine SW_skip ?_ | refine SW_exit ?_ | refine SW_ret ?_ | refine SPost_r ?_) | ((with_reducible refine SIn_ne ?_ ?_); focus decide) | ((with_reducible refine SW_true ?_ ?_); focus exact rfl) | ((with_reducible refine SW_false ?_ ?_); focus exact rfl) | ((first | (with_reducible apply SW_run tt_ok hG htb) | ((with_reducible apply SW_draw rfl tt_ok hG htb); (focus kernel_rfl); (focus (simp only [List.range, List.range.loop, List.size_toArray, List.length_cons, List.length_nil, Nat.reduceAdd])))); focus ((repeat' (first | (with_reducible exact runX_nil) | (with_reducible exact runI_nil) | ((first | (with_reducible apply runX_cons) | (with_reducible apply runI_cons)); focus (simp (discharger := omega) only [go_sem, mnum, simprocAttr]; with_reducible rfl)))); done)))
                        exact Meet.h ⟨_, Norm.headS (own := []) (keep := [1, 179]) (by refine ⟨?_, ?_⟩; (simp (discharger := omega) only [go_sem, simprocAttr]; with_reducible rfl); refine ⟨?_, ?_, ?_, ?_⟩ <;> (simp only [go_sem, simprocAttr]; with_reducible rfl)), rfl⟩
                    · rw [decide_eq_true (show word2 ≠ 0 by omega)]
                      try simp only [Bool.false_or, Bool.true_or, Bool.or_true]
                      repeat' (first | (with_reducible first | refine SW_seq ?_ | refine SW_block ?_ | refine SThen_n ?_ | refine SThen_r ?_ | refine SThen_e ?_ | refine SIn_n ?_ | refine SIn_r ?_ | refine SIn_eq ?_ | refine SW_skip ?_ | refine SW_exit ?_ | refine SW_ret ?_ | refine SPost_r ?_) | ((with_reducible refine SIn_ne ?_ ?_); focus decide) | ((with_reducible refine SW_true ?_ ?_); focus exact rfl) | ((with_reducible refine SW_false ?_ ?_); focus exact rfl) | ((first | (with_reducible apply SW_run tt_ok hG htb) | ((with_reducible apply SW_draw rfl tt_ok hG htb); (focus kernel_rfl); (focus (simp only [List.range, List.range.loop, List.size_toArray, List.length_cons, List.length_nil, Nat.reduceAdd])))); focus ((repeat' (first | (with_reducible exact runX_nil) | (with_reducible exact runI_nil) | ((first | (with_reducible apply runX_cons) | (with_reducible apply runI_cons)); focus (simp (discharger := omega) only [go_sem, mword2, simprocAttr]; with_reducible rfl)))); done)))
                      exact Meet.h ⟨_, Norm.headS (own := []) (keep := [1, 179]) (by refine ⟨?_, ?_⟩; (simp (discharger := omega) only [go_sem, simprocAttr]; with_reducible rfl); refine ⟨?_, ?_, ?_, ?_⟩ <;> (simp only [go_sem, simprocAttr]; with_reducible rfl)), rfl⟩
                  · rw [decide_eq_true (show word ≠ 0 by omega)]
                    try simp only [Bool.false_or, Bool.true_or, Bool.or_true]
                    repeat' (first | (with_reducible first | refine SW_seq ?_ | refine SW_block ?_ | refine SThen_n ?_ | refine SThen_r ?_ | refine SThen_e ?_ | refine SIn_n ?_ | refine SIn_r ?_ | refine SIn_eq ?_ | refine SW_skip ?_ | refine SW_exit ?_ | refine SW_ret ?_ | refine SPost_r ?_) | ((with_reducible refine SIn_ne ?_ ?_); focus decide) | ((with_reducible refine SW_true ?_ ?_); focus exact rfl) | ((with_reducible refine SW_false ?_ ?_); focus exact rfl) | ((first | (with_reducible apply SW_run tt_ok hG htb) | ((with_reducible apply SW_draw rfl tt_ok hG htb); (focus kernel_rfl); (focus (simp only [List.range, List.range.loop, List.size_toArray, List.length_cons, List.length_nil, Nat.reduceAdd])))); focus ((repeat' (first | (with_reducible exact runX_nil) | (with_reducible exact runI_nil) | ((first | (with_reducible apply runX_cons) | (with_reducible apply runI_cons)); focus (simp (discharger := omega) only [go_sem, mword, simprocAttr]; with_reducible rfl)))); done)))
                    exact Meet.h ⟨_, Norm.headS (own := []) (keep := [1, 179]) (by refine ⟨?_, ?_⟩; (simp (discharger := omega) only [go_sem, simprocAttr]; with_reducible rfl); refine ⟨?_, ?_, ?_, ?_⟩ <;> (simp only [go_sem, simprocAttr]; with_reducible rfl)), rfl⟩
                · rw [decide_eq_true (show other ≠ 0 by omega)]
                  try simp only [Bool.false_or, Bool.true_or, Bool.or_true]
                  repeat' (first | (with_reducible first | refine SW_seq ?_ | refine SW_block ?_ | refine SThen_n ?_ | refine SThen_r ?_ | refine SThen_e ?_ | refine SIn_n ?_ | refine SIn_r ?_ | refine SIn_eq ?_ | refine SW_skip ?_ | refine SW_exit ?_ | refine SW_ret ?_ | refine SPost_r ?_) | ((with_reducible refine SIn_ne ?_ ?_); focus decide) | ((with_reducible refine SW_true ?_ ?_); focus exact rfl) | ((with_reducible refine SW_false ?_ ?_); focus exact rfl) | ((first | (with_reducible apply SW_run tt_ok hG htb) | ((with_reducible apply SW_draw rfl tt_ok hG htb); (focus kernel_rfl); (focus (simp only [List.range, List.range.loop, List.size_toArray, List.length_cons, List.length_nil, Nat.reduceAdd])))); focus ((repeat' (first | (with_reducible exact runX_nil) | (with_reducible exact runI_nil) | ((first | (with_reducible apply runX_cons) | (with_reducible apply runI_cons)); focus (simp (discharger := omega) only [go_sem, mother, simprocAttr]; with_reducible rfl)))); done)))
                  exact Meet.h ⟨_, Norm.headS (own := []) (keep := [1, 179]) (by refine ⟨?_, ?_⟩; (simp (discharger := omega) only [go_sem, simprocAttr]; with_reducible rfl); refine ⟨?_, ?_, ?_, ?_⟩ <;> (simp only [go_sem, simprocAttr]; with_reducible rfl)), rfl⟩
              · rw [decide_eq_true (show var ≠ 0 by omega)]
                try simp only [Bool.false_or, Bool.true_or, Bool.or_true]
                repeat' (first | (with_reducible first | refine SW_seq ?_ | refine SW_block ?_ | refine SThen_n ?_ | refine SThen_r ?_ | refine SThen_e ?_ | refine SIn_n ?_ | refine SIn_r ?_ | refine SIn_eq ?_ | refine SW_skip ?_ | refine SW_exit ?_ | refine SW_ret ?_ | refine SPost_r ?_) | ((with_reducible refine SIn_ne ?_ ?_); focus decide) | ((with_reducible refine SW_true ?_ ?_); focus exact rfl) | ((with_reducible refine SW_false ?_ ?_); focus exact rfl) | ((first | (with_reducible apply SW_run tt_ok hG htb) | ((with_reducible apply SW_draw rfl tt_ok hG htb); (focus kernel_rfl); (focus (simp only [List.range, List.range.loop, List.size_toArray, List.length_cons, List.length_nil, Nat.reduceAdd])))); focus ((repeat' (first | (with_reducible exact runX_nil) | (with_reducible exact runI_nil) | ((first | (with_reducible apply runX_cons) | (with_reducible apply runI_cons)); focus (simp (discharger := omega) only [go_sem, mvar, simprocAttr]; with_reducible rfl)))); done)))
                exact Meet.h ⟨_, Norm.headS (own := []) (keep := [1, 179]) (by refine ⟨?_, ?_⟩; (simp (discharger := omega) only [go_sem, simprocAttr]; with_reducible rfl); refine ⟨?_, ?_, ?_, ?_⟩ <;> (simp only [go_sem, simprocAttr]; with_reducible rfl)), rfl⟩
            · generalize nodeMore ⟨7, var, other, word, word2, num, coefs⟩ = mo at *
              cases mo with
              | true =>
                rw [if_pos rfl]
                repeat' (first | (with_reducible first | refine SW_seq ?_ | refine SW_block ?_ | refine SThen_n ?_ | refine SThen_r ?_ | refine SThen_e ?_ | refine SIn_n ?_ | refine SIn_r ?_ | refine SIn_eq ?_ | refine SW_skip ?_ | refine SW_exit ?_ | refine SW_ret ?_ | refine SPost_r ?_) | ((with_reducible refine SIn_ne ?_ ?_); focus decide) | ((with_reducible refine SW_true ?_ ?_); focus exact rfl) | ((with_reducible refine SW_false ?_ ?_); focus exact rfl) | ((first | (with_reducible apply SW_run tt_ok hG htb) | ((with_reducible apply SW_draw rfl tt_ok hG htb); (focus kernel_rfl); (focus (simp only [List.range, List.range.loop, List.size_toArray, List.length_cons, List.length_nil, Nat.reduceAdd])))); focus ((repeat' (first | (with_reducible exact runX_nil) | (with_reducible exact runI_nil) | ((first | (with_reducible apply runX_cons) | (with_reducible apply runI_cons)); focus (simp (discharger := omega) only [go_sem, simprocAttr]; with_reducible rfl)))); done)))
                exact (by simp (discharger := omega) only [go_sem, tErr, simprocAttr])
              | false =>
                rw [if_neg (by decide)]
                clear e1 e2 e3 e4 cV cO c1
                by_cases hc : 0 < coefs.length
                · obtain ⟨x, hx⟩ : ∃ x, coefs[coefs.length - 1]! = x := ⟨_, rfl⟩
                  have hxe : (coefs.length : Int) - 1 = ((coefs.length - 1 : Nat) : Int) := by omega
                  have hkk : coefs.length - 1 < coefs.length := by omega
                  rw [hx]
                  generalize coefs.length - 1 = kk at *
                  by_cases h0 : x = 0
                  · rw [if_pos ⟨hc, h0⟩]
                    repeat' (first | (with_reducible first | refine SW_seq ?_ | refine SW_block ?_ | refine SThen_n ?_ | refine SThen_r ?_ | refine SThen_e ?_ | refine SIn_n ?_ | refine SIn_r ?_ | refine SIn_eq ?_ | refine SW_skip ?_ | refine SW_exit ?_ | refine SW_ret ?_ | refine SPost_r ?_) | ((with_reducible refine SIn_ne ?_ ?_); focus decide) | ((with_reducible refine SW_true ?_ ?_); focus exact rfl) | ((with_reducible refine SW_false ?_ ?_); focus exact rfl) | ((first | (with_reducible apply SW_run tt_ok hG htb) | ((with_reducible apply SW_draw rfl tt_ok hG htb); (focus kernel_rfl); (focus (simp only [List.range, List.range.loop, List.size_toArray, List.length_cons, List.length_nil, Nat.reduceAdd])))); focus ((repeat' (first | (with_reducible exact runX_nil) | (with_reducible exact runI_nil) | ((first | (with_reducible apply runX_cons) | (with_reducible apply runI_cons)); focus (simp (discharger := omega) only [go_sem, hxe, hx, h0, simprocAttr]; with_reducible rfl)))); done)))
                    exact (by simp (discharger := omega) only [go_sem, tErr, simprocAttr])
                  · rw [if_neg (by rintro ⟨_, e⟩; exact h0 e)]
                    repeat' (first | (with_reducible first | refine SW_seq ?_ | refine SW_block ?_ | refine SThen_n ?_ | refine SThen_r ?_ | refine SThen_e ?_ | refine SIn_n ?_ | refine SIn_r ?_ | refine SIn_eq ?_ | refine SW_skip ?_ | refine SW_exit ?_ | refine SW_ret ?_ | refine SPost_r ?_) | ((with_reducible refine SIn_ne ?_ ?_); focus decide) | ((with_reducible refine SW_true ?_ ?_); focus exact rfl) | ((with_reducible refine SW_false ?_ ?_); focus exact rfl) | ((first | (with_reducible apply SW_run tt_ok hG htb) | ((with_reducible apply SW_draw rfl tt_ok hG htb); (focus kernel_rfl); (focus (simp only [List.range, List.range.loop, List.size_toArray, List.length_cons, List.length_nil, Nat.reduceAdd])))); focus ((repeat' (first | (with_reducible exact runX_nil) | (with_reducible exact runI_nil) | ((first | (with_reducible apply runX_cons) | (with_reducible apply runI_cons)); focus (simp (discharger := omega) only [go_sem, hxe, hx, h0, simprocAttr]; with_reducible rfl)))); done)))
                    exact (by simp (discharger := omega) only [go_sem, tErr, simprocAttr])
                · rw [if_neg (by rintro ⟨e, _⟩; exact hc e)]
                  have hc0 : coefs.length = 0 := by omega
                  repeat' (first | (with_reducible first | refine SW_seq ?_ | refine SW_block ?_ | refine SThen_n ?_ | refine SThen_r ?_ | refine SThen_e ?_ | refine SIn_n ?_ | refine SIn_r ?_ | refine SIn_eq ?_ | refine SW_skip ?_ | refine SW_exit ?_ | refine SW_ret ?_ | refine SPost_r ?_) | ((with_reducible refine SIn_ne ?_ ?_); focus decide) | ((with_reducible refine SW_true ?_ ?_); focus exact rfl) | ((with_reducible refine SW_false ?_ ?_); focus exact rfl) | ((first | (with_reducible apply SW_run tt_ok hG htb) | ((with_reducible apply SW_draw rfl tt_ok hG htb); (focus kernel_rfl); (focus (simp only [List.range, List.range.loop, List.size_toArray, List.length_cons, List.length_nil, Nat.reduceAdd])))); focus ((repeat' (first | (with_reducible exact runX_nil) | (with_reducible exact runI_nil) | ((first | (with_reducible apply runX_cons) | (with_reducible apply runI_cons)); focus (simp (discharger := omega) only [go_sem, hc0, simprocAttr]; with_reducible rfl)))); done)))
                  exact (by simp (discharger := omega) only [go_sem, tErr, simprocAttr])
      · have e1 : nodeOk ⟨8, var, other, word, word2, num, coefs⟩ = isVar var := by unfold nodeOk; simp
        have e2 : usedN ⟨8, var, other, word, word2, num, coefs⟩ = ⟨8, var, 0, 0, 0, 0, []⟩ := by unfold usedN; simp
        have e4 : nodeMore ⟨8, var, other, word, word2, num, coefs⟩ = (decide (other ≠ 0) || decide (word ≠ 0) || decide (word2 ≠ 0) || decide (num ≠ 0) || decide (coefs.length ≠ 0)) := by unfold nodeMore; rw [e2]; simp
        refine SW_meetG ⟨196, [(1, .bptr 0 0), (3, .bptr 1 0), (4, .t (.bool (nodeOk ⟨8, var, other, word, word2, num, coefs⟩)))], [.fbox [tInt 8, tInt var, tInt other, tInt word, tInt word2, tInt num, tInts coefs], .box [.t (tInt 8), .t (tInt var), .t (tInt 0), .t (tInt 0), .t (tInt 0), .t (tInt 0), .nil]]⟩ Weak.sw (SW_block ?_) ?_
        · rw [e1]
          clear e1 e2 e3 e4
          try simp only [Bool.true_and, Bool.false_and, Bool.and_true, Bool.and_false]
          have htb := Tab.cons cV Tab.nil
          repeat' (first | (with_reducible first | refine SW_seq ?_ | refine SW_block ?_ | refine SThen_n ?_ | refine SThen_r ?_ | refine SThen_e ?_ | refine SIn_n ?_ | refine SIn_r ?_ | refine SIn_eq ?_ | refine SW_skip ?_ | refine SW_exit ?_ | refine SW_ret ?_ | refine SPost_r ?_) | ((with_reducible refine SIn_ne ?_ ?_); focus decide) | ((with_reducible refine SW_true ?_ ?_); focus exact rfl) | ((with_reducible refine SW_false ?_ ?_); focus exact rfl) | ((first | (with_reducible apply SW_run tt_ok hG htb) | ((with_reducible apply SW_draw rfl tt_ok hG htb); (focus kernel_rfl); (focus (simp only [List.range, List.range.loop, List.size_toArray, List.length_cons, List.length_nil, Nat.reduceAdd])))); focus ((repeat' (first | (with_reducible exact runX_nil) | (with_reducible exact runI_nil) | ((first | (with_reducible apply runX_cons) | (with_reducible apply runI_cons)); focus (simp (discharger := omega) only [go_sem, simprocAttr]; with_reducible rfl)))); done)))
          exact Meet.h ⟨_, Norm.headS (own := []) (keep := [1, 3, 4]) (by refine ⟨?_, ?_⟩; (simp (discharger := omega) only [go_sem, simprocAttr]; with_reducible rfl); refine ⟨?_, ?_, ?_, ?_⟩ <;> (simp only [go_sem, simprocAttr]; with_reducible rfl)), rfl⟩
        · generalize nodeOk ⟨8, var, other, word, word2, num, coefs⟩ = ok at *
          cases ok with
          | false =>
            rw [if_pos rfl]
            repeat' (first | (with_reducible first | refine SW_seq ?_ | refine SW_block ?_ | refine SThen_n ?_ | refine SThen_r ?_ | refine SThen_e ?_ | refine SIn_n ?_ | refine SIn_r ?_ | refine SIn_eq ?_ | refine SW_skip ?_ | refine SW_exit ?_ | refine SW_ret ?_ | refine SPost_r ?_) | ((with_reducible refine SIn_ne ?_ ?_); focus decide) | ((with_reducible refine SW_true ?_ ?_); focus exact rfl) | ((with_reducible refine SW_false ?_ ?_); focus exact rfl) | ((first | (with_reducible apply SW_run tt_ok hG htb) | ((with_reducible apply SW_draw rfl tt_ok hG htb); (focus kernel_rfl); (focus (simp only [List.range, List.range.loop, List.size_toArray, List.length_cons, List.length_nil, Nat.reduceAdd])))); focus ((repeat' (first | (with_reducible exact runX_nil) | (with_reducible exact runI_nil) | ((first | (with_reducible apply runX_cons) | (with_reducible apply runI_cons)); focus (simp (discharger := omega) only [go_sem, simprocAttr]; with_reducible rfl)))); done)))
            exact (by simp (discharger := omega) only [go_sem, tErr, simprocAttr])
          | true =>
            rw [if_neg (by decide)]
            repeat' (first | (with_reducible first | refine SW_seq ?_ | refine SW_block ?_ | refine SThen_n ?_ | refine SThen_r ?_ | refine SThen_e ?_ | refine SIn_n ?_ | refine SIn_r ?_ | refine SIn_eq ?_ | refine SW_skip ?_ | refine SW_exit ?_ | refine SW_ret ?_ | refine SPost_r ?_) | ((with_reducible refine SIn_ne ?_ ?_); focus decide) | ((with_reducible refine SW_true ?_ ?_); focus exact rfl) | ((with_reducible refine SW_false ?_ ?_); focus exact rfl) | ((first | (with_reducible apply SW_run tt_ok hG htb) | ((with_reducible apply SW_draw rfl tt_ok hG htb); (focus kernel_rfl); (focus (simp only [List.range, List.range.loop, List.size_toArray, List.length_cons, List.length_nil, Nat.reduceAdd])))); focus ((repeat' (first | (with_reducible exact runX_nil) | (with_reducible exact runI_nil) | ((first | (with_reducible apply runX_cons) | (with_reducible apply runI_cons)); focus (simp (discharger := omega) only [go_sem, simprocAttr]; with_reducible rfl)))); done)))
            refine SW_meetG ⟨196, [(1, .bptr 0 0), (179, .t (.bool (nodeMore ⟨8, var, other, word, word2, num, coefs⟩)))], [.fbox [tInt 8, tInt var, tInt other, tInt word, tInt word2, tInt num, tInts coefs]]⟩ Weak.sw ?_ ?_
            · rw [e4]
              clear e1 e2 e3 e4
              by_cases mother : other = 0
              · subst mother
                rw [decide_eq_false (show ¬ (0 : Int) ≠ 0 by decide)]
                by_cases mword : word = 0
                · subst mword
                  rw [decide_eq_false (show ¬ (0 : Int) ≠ 0 by decide)]
                  by_cases mword2 : word2 = 0
                  · subst mword2
                    rw [decide_eq_false (show ¬ (0 : Int) ≠ 0 by decide)]
                    by_cases mnum : num = 0
                    · subst mnum
                      rw [decide_eq_false (show ¬ (0 : Int) ≠ 0 by decide)]
                      by_cases mc : coefs.length = 0
                      · rw [decide_eq_false (show ¬ coefs.length ≠ 0 by omega)]
                        try simp only [Bool.false_or, Bool.or_false]
                        repeat' (first | (with_reducible first | refine SW_seq ?_ | refine SW_block ?_ | refine SThen_n ?_ | refine SThen_r ?_ | refine SThen_e ?_ | refine SIn_n ?_ | refine SIn_r ?_ | refine SIn_eq ?_ | refine SW_skip ?_ | refine SW_exit ?_ | refine SW_ret ?_ | refine SPost_r ?_) | ((with_reducible refine SIn_ne ?_ ?_); focus decide) | ((with_reducible refine SW_true ?_ ?_); focus exact rfl) | ((with_reducible refine SW_false ?_ ?_); focus exact rfl) | ((first | (with_reducible apply SW_run tt_ok hG htb) | ((with_reducible apply SW_draw rfl tt_ok hG htb); (focus kernel_rfl); (focus (simp only [List.range, List.range.loop, List.size_toArray, List.length_cons, List.length_nil, Nat.reduceAdd])))); focus ((repeat' (first | (with_reducible exact runX_nil) | (with_reducible exact runI_nil) | ((first | (with_reducible apply runX_cons) | (with_reducible apply runI_cons)); focus (simp (discharger := omega) only [go_sem, mc, simprocAttr]; with_reducible rfl)))); done)))
                        exact Meet.h ⟨_, Norm.headS (own := []) (keep := [1, 179]) (by refine ⟨?_, ?_⟩; (simp (discharger := omega) only [go_sem, simprocAttr]; with_reducible rfl); refine ⟨?_, ?_, ?_, ?_⟩ <;> (simp only [go_sem, simprocAttr]; with_reducible rfl)), rfl⟩
                      · rw [decide_eq_true (show coefs.length ≠ 0 by omega)]
                        try simp only [Bool.false_or, Bool.true_or, Bool.or_true]
                        repeat' (first | (with_reducible first | refine SW_seq ?_ | refine SW_block ?_ | refine SThen_n ?_ | refine SThen_r ?_ | refine SThen_e ?_ | refine SIn_n ?_ | refine SIn_r ?_ | refine SIn_eq ?_ | refine SW_skip ?_ | refine SW_exit ?_ | refine SW_ret ?_ | refine SPost_r ?_) | ((with_reducible refine SIn_ne ?_ ?_); focus decide) | ((with_reducible refine SW_true ?_ ?_); focus exact rfl) | ((with_reducible refine SW_false ?_ ?_); focus exact rfl) | ((first | (with_reducible apply SW_run tt_ok hG htb) | ((with_reducible apply SW_draw rfl tt_ok hG htb); (focus kernel_rfl); (focus (simp only [List.range, List.range.loop, List.size_toArray, List.length_cons, List.length_nil, Nat.reduceAdd])))); focus ((repeat' (first | (with_reducible exact runX_nil) | (with_reducible exact runI_nil) | ((first | (with_reducible apply runX_cons) | (with_reducible apply runI_cons)); focus (simp (discharger := omega) only [go_sem, mc, simprocAttr]; with_reducible rfl)))); done)))
                        exact Meet.h ⟨_, Norm.headS (own := []) (keep := [1, 179]) (by refine ⟨?_, ?_⟩; (simp (discharger := omega) only [go_sem, simprocAttr]; with_reducible rfl); refine ⟨?_, ?_, ?_, ?_⟩ <;> (simp only [go_sem, simprocAttr]; with_reducible rfl)), rfl⟩
                    · rw [decide_eq_true (show num ≠ 0 by omega)]
                      try simp only [Bool.false_or, Bool.true_or, Bool.or_true]
                      repeat' (first | (with_reducible first | refine SW_seq ?_ | refine SW_block ?_ | refine SThen_n ?_ | refine SThen_r ?_ | refine SThen_e ?_ | refine SIn_n ?_ | refine SIn_r ?_ | refine SIn_eq ?_ | refine SW_skip ?_ | refine SW_exit ?_ | refine SW_ret ?_ | refine SPost_r ?_) | ((with_reducible refine SIn_ne ?_ ?_); focus decide) | ((with_reducible refine SW_true ?_ ?_); focus exact rfl) | ((with_reducible refine SW_false ?_ ?_); focus exact rfl) | ((first | (with_reducible apply SW_run tt_ok hG htb) | ((with_reducible apply SW_draw rfl tt_ok hG htb); (focus kernel_rfl); (focus (simp only [List.range, List.range.loop, List.size_toArray, List.length_cons, List.length_nil, Nat.reduceAdd])))); focus ((repeat' (first | (with_reducible exact runX_nil) | (with_reducible exact runI_nil) | ((first | (with_reducible apply runX_cons) | (with_reducible apply runI_cons)); focus (simp (discharger := omega) only [go_sem, mnum, simprocAttr]; with_reducible rfl)))); done)))
                      exact Meet.h ⟨_, Norm.headS (own := []) (keep := [1, 179]) (by refine ⟨?_, ?_⟩; (simp (discharger := omega) only [go_sem, simprocAttr]; with_reducible rfl); refine ⟨?_, ?_, ?_, ?_⟩ <;> (simp only [go_sem, simprocAttr]; with_reducible rfl)), rfl⟩
                  · rw [decide_eq_true (show word2 ≠ 0 by omega)]
                    try simp only [Bool.false_or, Bool.true_or, Bool.or_true]
                    repeat' (first | (with_reducible first | refine SW_seq ?_ | refine SW_block ?_ | refine SThen_n ?_ | refine SThen_r ?_ | refine SThen_e ?_ | refine SIn_n ?_ | refine SIn_r ?_ | refine SIn_eq ?_ | refine SW_skip ?_ | refine SW_exit ?_ | refine SW_ret ?_ | refine SPost_r ?_) | ((with_reducible refine SIn_ne ?_ ?_); focus decide) | ((with_reducible refine SW_true ?_ ?_); focus exact rfl) | ((with_reducible refine SW_false ?_ ?_); focus exact rfl) | ((first | (with_reducible apply SW_run tt_ok hG htb) | ((with_reducible apply SW_draw rfl tt_ok hG htb); (focus kernel_rfl); (focus (simp only [List.range, List.range.loop, List.size_toArray, List.length_cons, List.length_nil, Nat.reduceAdd])))); focus ((repeat' (first | (with_reducible exact runX_nil) | (with_reducible exact runI_nil) | ((first | (with_reducible apply runX_cons) | (with_reducible apply runI_cons)); focus (simp (discharger := omega) only [go_sem, mword2, simprocAttr]; with_reducible rfl)))); done)))
                    exact Meet.h ⟨_, Norm.headS (own := []) (keep := [1, 179]) (by refine ⟨?_, ?_⟩; (simp (discharger := omega) only [go_sem, simprocAttr]; with_reducible rfl); refine ⟨?_, ?_, ?_, ?_⟩ <;> (simp only [go_sem, simprocAttr]; with_reducible rfl)), rfl⟩
                · rw [decide_eq_true (show word ≠ 0 by omega)]
                  try simp only [Bool.false_or, Bool.true_or, Bool.or_true]
                  repeat' (first | (with_reducible first | refine SW_seq ?_ | refine SW_block ?_ | refine SThen_n ?_ | refine SThen_r ?_ | refine SThen_e ?_ | refine SIn_n ?_ | refine SIn_r ?_ | refine SIn_eq ?_ | refine SW_skip ?_ | refine SW_exit ?_ | refine SW_ret ?_ | refine SPost_r ?_) | ((with_reducible refine SIn_ne ?_ ?_); focus decide) | ((with_reducible refine SW_true ?_ ?_); focus exact rfl) | ((with_reducible refine SW_false ?_ ?_); focus exact rfl) | ((first | (with_reducible apply SW_run tt_ok hG htb) | ((with_reducible apply SW_draw rfl tt_ok hG htb); (focus kernel_rfl); (focus (simp only [List.range, List.range.loop, List.size_toArray, List.length_cons, List.length_nil, Nat.reduceAdd])))); focus ((repeat' (first | (with_reducible exact runX_nil) | (with_reducible exact runI_nil) | ((first | (with_reducible apply runX_cons) | (with_reducible apply runI_cons)); focus (simp (discharger := omega) only [go_sem, mword, simprocAttr]; with_reducible rfl)))); done)))
                  exact Meet.h ⟨_, Norm.headS (own := []) (keep := [1, 179]) (by refine ⟨?_, ?_⟩; (simp (discharger := omega) only [go_sem, simprocAttr]; with_reducible rfl); refine ⟨?_, ?_, ?_, ?_⟩ <;> (simp only [go_sem, simprocAttr]; with_reducible rfl)), rfl⟩
              · rw [decide_eq_true (show other ≠ 0 by omega)]
                try simp only [Bool.false_or, Bool.true_or, Bool.or_true]
                repeat' (first | (with_reducible first | refine SW_seq ?_ | refine SW_block ?_ | refine SThen_n ?_ | refine SThen_r ?_ | refine SThen_e ?_ | refine SIn_n ?_ | refine SIn_r ?_ | refine SIn_eq ?_ | refine SW_skip ?_ | refine SW_exit ?_ | refine SW_ret ?_ | refine SPost_r ?_) | ((with_reducible refine SIn_ne ?_ ?_); focus decide) | ((with_reducible refine SW_true ?_ ?_); focus exact rfl) | ((with_reducible refine SW_false ?_ ?_); focus exact rfl) | ((first | (with_reducible apply SW_run tt_ok hG htb) | ((with_reducible apply SW_draw rfl tt_ok hG htb); (focus kernel_rfl); (focus (simp only [List.range, List.range.loop, List.size_toArray, List.length_cons, List.length_nil, Nat.reduceAdd])))); focus ((repeat' (first | (with_reducible exact runX_nil) | (with_reducible exact runI_nil) | ((first | (with_reducible apply runX_cons) | (with_reducible apply runI_cons)); focus (simp (discharger := omega) only [go_sem, mother, simprocAttr]; with_reducible rfl)))); done)))
                exact Meet.h ⟨_, Norm.headS (own := []) (keep := [1, 179]) (by refine ⟨?_, ?_⟩; (simp (discharger := omega) only [go_sem, simprocAttr]; with_reducible rfl); refine ⟨?_, ?_, ?_, ?_⟩ <;> (simp only [go_sem, simprocAttr]; with_reducible rfl)), rfl⟩
            · generalize nodeMore ⟨8, var, other, word, word2, num, coefs⟩ = mo at *
              cases mo with
              | true =>
                rw [if_pos rfl]
                repeat' (first | (with_reducible first | refine SW_seq ?_ | refine SW_block ?_ | refine SThen_n ?_ | refine SThen_r ?_ | refine SThen_e ?_ | refine SIn_n ?_ | refine SIn_r ?_ | refine SIn_eq ?_ | refine SW_skip ?_ | refine SW_exit ?_ | refine SW_ret ?_ | refine SPost_r ?_) | ((with_reducible refine SIn_ne ?_ ?_); focus decide) | ((with_reducible refine SW_true ?_ ?_); focus exact rfl) | ((with_reducible refine SW_false ?_ ?_); focus exact rfl) | ((first | (with_reducible apply SW_run tt_ok hG htb) | ((with_reducible apply SW_draw rfl tt_ok hG htb); (focus kernel_rfl); (focus (simp only [List.range, List.range.loop, List.size_toArray, List.length_cons, List.length_nil, Nat.reduceAdd])))); focus ((repeat' (first | (with_reducible exact runX_nil) | (with_reducible exact runI_nil) | ((first | (with_reducible apply runX_cons) | (with_reducible apply runI_cons)); focus (simp (discharger := omega) only [go_sem, simprocAttr]; with_reducible rfl)))); done)))
                exact (by simp (discharger := omega) only [go_sem, tErr, simprocAttr])
              | false =>
                rw [if_neg (by decide)]
                clear e1 e2 e3 e4 cV cO c1
                by_cases hc : 0 < coefs.length
                · obtain ⟨x, hx⟩ : ∃ x, coefs[coefs.length - 1]! = x := ⟨_, rfl⟩
                  have hxe : (coefs.length : Int) - 1 = ((coefs.length - 1 : Nat) : Int) := by omega
                  have hkk : coefs.length - 1 < coefs.length := by omega
                  rw [hx]
                  generalize coefs.length - 1 = kk at *
                  by_cases h0 : x = 0
                  · rw [if_pos ⟨hc, h0⟩]
                    repeat' (first | (with_reducible first | refine SW_seq ?_ | refine SW_block ?_ | refine SThen_n ?_ | refine SThen_r ?_ | refine SThen_e ?_ | refine SIn_n ?_ | refine SIn_r ?_ | refine SIn_eq ?_ | refine SW_skip ?_ | refine SW_exit ?_ | refine SW_ret ?_ | refine SPost_r ?_) | ((with_reducible refine SIn_ne ?_ ?_); focus decide) | ((with_reducible refine SW_true ?_ ?_); focus exact rfl) | ((with_reducible refine SW_false ?_ ?_); focus exact rfl) | ((first | (with_reducible apply SW_run tt_ok hG htb) | ((with_reducible apply SW_draw rfl tt_ok hG htb); (focus kernel_rfl); (focus (simp only [List.range, List.range.loop, List.size_toArray, List.length_cons, List.length_nil, Nat.reduceAdd])))); focus ((repeat' (first | (with_reducible exact runX_nil) | (with_reducible exact runI_nil) | ((first | (with_reducible apply runX_cons) | (with_reducible apply runI_cons)); focus (simp (discharger := omega) only [go_sem, hxe, hx, h0, simprocAttr]; with_reducible rfl)))); done)))
                    exact (by simp (discharger := omega) only [go_sem, tErr, simprocAttr])
                  · rw [if_neg (by rintro ⟨_, e⟩; exact h0 e)]
                    repeat' (first | (with_reducible first | refine SW_seq ?_ | refine SW_block ?_ | refine SThen_n ?_ | refine SThen_r ?_ | refine SThen_e ?_ | refine SIn_n ?_ | refine SIn_r ?_ | refine SIn_eq ?_ | refine SW_skip ?_ | refine SW_exit ?_ | refine SW_ret ?_ | refine SPost_r ?_) | ((with_reducible refine SIn_ne ?_ ?_); focus decide) | ((with_reducible refine SW_true ?_ ?_); focus exact rfl) | ((with_reducible refine SW_false ?_ ?_); focus exact rfl) | ((first | (with_reducible apply SW_run tt_ok hG htb) | ((with_reducible apply SW_draw rfl tt_ok hG htb); (focus kernel_rfl); (focus (simp only [List.range, List.range.loop, List.size_toArray, List.length_cons, List.length_nil, Nat.reduceAdd])))); focus ((repeat' (first | (with_reducible exact runX_nil) | (with_reducible exact runI_nil) | ((first | (with_reducible apply runX_cons) | (with_reducible apply runI_cons)); focus (simp (discharger := omega) only [go_sem, hxe, hx, h0, simprocAttr]; with_reducible rfl)))); done)))
                    exact (by simp (discharger := omega) only [go_sem, tErr, simprocAttr])
                · rw [if_neg (by rintro ⟨e, _⟩; exact hc e)]
                  have hc0 : coefs.length = 0 := by omega
                  repeat' (first | (with_reducible first | refine SW_seq ?_ | refine SW_block ?_ | refine SThen_n ?_ | refine SThen_r ?_ | refine SThen_e ?_ | refine SIn_n ?_ | refine SIn_r ?_ | refine SIn_eq ?_ | refine SW_skip ?_ | refine SW_exit ?_ | refine SW_ret ?_ | refine SPost_r ?_) | ((with_reducible refine SIn_ne ?_ ?_); focus decide) | ((with_reducible refine SW_true ?_ ?_); focus exact rfl) | ((with_reducible refine SW_false ?_ ?_); focus exact rfl) | ((first | (with_reducible apply SW_run tt_ok hG htb) | ((with_reducible apply SW_draw rfl tt_ok hG htb); (focus kernel_rfl); (focus (simp only [List.range, List.range.loop, List.size_toArray, List.length_cons, List.length_nil, Nat.reduceAdd])))); focus ((repeat' (first | (with_reducible exact runX_nil) | (with_reducible exact runI_nil) | ((first | (with_reducible apply runX_cons) | (with_reducible apply runI_cons)); focus (simp (discharger := omega) only [go_sem, hc0, simprocAttr]; with_reducible rfl)))); done)))
                  exact (by simp (discharger := omega) only [go_sem, tErr, simprocAttr])
      · have e1 : nodeOk ⟨9, var, other, word, word2, num, coefs⟩ = isVar var := by unfold nodeOk; simp
        have e2 : usedN ⟨9, var, other, word, word2, num, coefs⟩ = ⟨9, var, 0, 0, 0, 0, []⟩ := by unfold usedN; simp
        have e4 : nodeMore ⟨9, var, other, word, word2, num, coefs⟩ = (decide (other ≠ 0) || decide (word ≠ 0) || decide (word2 ≠ 0) || decide (num ≠ 0) || decide (coefs.length ≠ 0)) := by unfold nodeMore; rw [e2]; simp
        refine SW_meetG ⟨196, [(1, .bptr 0 0), (3, .bptr 1 0), (4, .t (.bool (nodeOk ⟨9, var, other, word, word2, num, coefs⟩)))], [.fbox [tInt 9, tInt var, tInt other, tInt word, tInt word2, tInt num, tInts coefs], .box [.t (tInt 9), .t (tInt var), .t (tInt 0), .t (tInt 0), .t (tInt 0), .t (tInt 0), .nil]]⟩ Weak.sw (SW_block ?_) ?_
        · rw [e1]
          clear e1 e2 e3 e4
          try simp only [Bool.true_and, Bool.false_and, Bool.and_true, Bool.and_false]
          have htb := Tab.cons cV Tab.nil
          repeat' (first | (with_reducible first | refine SW_seq ?_ | refine SW_block ?_ | refine SThen_n ?_ | refine SThen_r ?_ | refine SThen_e ?_ | refine SIn_n ?_ | refine SIn_r ?_ | refine SIn_eq ?_ | refine SW_skip ?_ | refine SW_exit ?_ | refine SW_ret ?_ | refine SPost_r ?_) | ((with_reducible refine SIn_ne ?_ ?_); focus decide) | ((with_reducible refine SW_true ?_ ?_); focus exact rfl) | ((with_reducible refine SW_false ?_ ?_); focus exact rfl) | ((first | (with_reducible apply SW_run tt_ok hG htb) | ((with_reducible apply SW_draw rfl tt_ok hG htb); (focus kernel_rfl); (focus (simp only [List.range, List.range.loop, List.size_toArray, List.length_cons, List.length_nil, Nat.reduceAdd])))); focus ((repeat' (first | (with_reducible exact runX_nil) | (with_reducible exact runI_nil) | ((first | (with_reducible apply runX_cons) | (with_reducible apply runI_cons)); focus (simp (discharger := omega) only [go_sem, simprocAttr]; with_reducible rfl)))); done)))
          exact Meet.h ⟨_, Norm.headS (own := []) (keep := [1, 3, 4]) (by refine ⟨?_, ?_⟩; (simp (discharger := omega) only [go_sem, simprocAttr]; with_reducible rfl); refine ⟨?_, ?_, ?_, ?_⟩ <;> (simp only [go_sem, simprocAttr]; with_reducible rfl)), rfl⟩
        · generalize nodeOk ⟨9, var, other, word, word2, num, coefs⟩ = ok at *
          cases ok with
          | false =>
            rw [if_pos rfl]
            repeat' (first | (with_reducible first | refine SW_seq ?_ | refine SW_block ?_ | refine SThen_n ?_ | refine SThen_r ?_ | refine SThen_e ?_ | refine SIn_n ?_ | refine SIn_r ?_ | refine SIn_eq ?_ | refine SW_skip ?_ | refine SW_exit ?_ | refine SW_ret ?_ | refine SPost_r ?_) | ((with_reducible refine SIn_ne ?_ ?_); focus decide) | ((with_reducible refine SW_true ?_ ?_); focus exact rfl) | ((with_reducible refine SW_false ?_ ?_); focus exact rfl) | ((first | (with_reducible apply SW_run tt_ok hG htb) | ((with_reducible apply SW_draw rfl tt_ok hG htb); (focus kernel_rfl); (focus (simp only [List.range, List.range.loop, List.size_toArray, List.length_cons, List.length_nil, Nat.reduceAdd])))); focus ((repeat' (first | (with_reducible exact runX_nil) | (with_reducible exact runI_nil) | ((first | (with_reducible apply runX_cons) | (with_reducible apply runI_cons)); focus (simp (discharger := omega) only [go_sem, simprocAttr]; with_reducible rfl)))); done)))
            exact (by simp (discharger := omega) only [go_sem, tErr, simprocAttr])
          | true =>
            rw [if_neg (by decide)]
            repeat' (first | (with_reducible first | refine SW_seq ?_ | refine SW_block ?_ | refine SThen_n ?_ | refine SThen_r ?_ | refine SThen_e ?_ | refine SIn_n ?_ | refine SIn_r ?_ | refine SIn_eq ?_ | refine SW_skip ?_ | refine SW_exit ?_ | refine SW_ret ?_ | refine SPost_r ?_) | ((with_reducible refine SIn_ne ?_ ?_); focus decide) | ((with_reducible refine SW_true ?_ ?_); focus exact rfl) | ((with_reducible refine SW_false ?_ ?_); focus exact rfl) | ((first | (with_reducible apply SW_run tt_ok hG htb) | ((with_reducible apply SW_draw rfl tt_ok hG htb); (focus kernel_rfl); (focus (simp only [List.range, List.range.loop, List.size_toArray, List.length_cons, List.length_nil, Nat.reduceAdd])))); focus ((repeat' (first | (with_reducible exact runX_nil) | (with_reducible exact runI_nil) | ((first | (with_reducible apply runX_cons) | (with_reducible apply runI_cons)); focus (simp (discharger := omega) only [go_sem, simprocAttr]; with_reducible rfl)))); done)))
            refine SW_meetG ⟨196, [(1, .bptr 0 0), (179, .t (.bool (nodeMore ⟨9, var, other, word, word2, num, coefs⟩)))], [.fbox [tInt 9, tInt var, tInt other, tInt word, tInt word2, tInt num, tInts coefs]]⟩ Weak.sw ?_ ?_
            · rw [e4]
              clear e1 e2 e3 e4
              by_cases mother : other = 0
              · subst mother
                rw [decide_eq_false (show ¬ (0 : Int) ≠ 0 by decide)]
                by_cases mword : word = 0
                · subst mword
                  rw [decide_eq_false (show ¬ (0 : Int) ≠ 0 by decide)]
                  by_cases mword2 : word2 = 0
                  · subst mword2
                    rw [decide_eq_false (show ¬ (0 : Int) ≠ 0 by decide)]
                    by_cases mnum : num = 0
                    · subst mnum
                      rw [decide_eq_false (show ¬ (0 : Int) ≠ 0 by decide)]
                      by_cases mc : coefs.length = 0
                      · rw [decide_eq_false (show ¬ coefs.length ≠ 0 by omega)]
                        try simp only [Bool.false_or, Bool.or_false]
                        repeat' (first | (with_reducible first | refine SW_seq ?_ | refine SW_block ?_ | refine SThen_n ?_ | refine SThen_r ?_ | refine SThen_e ?_ | refine SIn_n ?_ | refine SIn_r ?_ | refine SIn_eq ?_ | refine SW_skip ?_ | refine SW_exit ?_ | refine SW_ret ?_ | refine SPost_r ?_) | ((with_reducible refine SIn_ne ?_ ?_); focus decide) | ((with_reducible refine SW_true ?_ ?_); focus exact rfl) | ((with_reducible refine SW_false ?_ ?_); focus exact rfl) | ((first | (with_reducible apply SW_run tt_ok hG htb) | ((with_reducible apply SW_draw rfl tt_ok hG htb); (focus kernel_rfl); (focus (simp only [List.range, List.range.loop, List.size_toArray, List.length_cons, List.length_nil, Nat.reduceAdd])))); focus ((repeat' (first | (with_reducible exact runX_nil) | (with_reducible exact runI_nil) | ((first | (with_reducible apply runX_cons) | (with_reducible apply runI_cons)); focus (simp (discharger := omega) only [go_sem, mc, simprocAttr]; with_reducible rfl)))); done)))
                        exact Meet.h ⟨_, Norm.headS (own := []) (keep := [1, 179]) (by refine ⟨?_, ?_⟩; (simp (discharger := omega) only [go_sem, simprocAttr]; with_reducible rfl); refine ⟨?_, ?_, ?_, ?_⟩ <;> (simp only [go_sem, simprocAttr]; with_reducible rfl)), rfl⟩
                      · rw [decide_eq_true (show coefs.length ≠ 0 by omega)]
                        try simp only [Bool.false_or, Bool.true_or, Bool.or_true]
                        repeat' (first | (with_reducible first | refine SW_seq ?_ | refine SW_block ?_ | refine SThen_n ?_ | refine SThen_r ?_ | refine SThen_e ?_ | refine SIn_n ?_ | refine SIn_r ?_ | refine SIn_eq ?_ | refine SW_skip ?_ | refine SW_exit ?_ | refine SW_ret ?_ | refine SPost_r ?_) | ((with_reducible refine SIn_ne ?_ ?_); focus decide) | ((with_reducible refine SW_true ?_ ?_); focus exact rfl) | ((with_reducible refine SW_false ?_ ?_); focus exact rfl) | ((first | (with_reducible apply SW_run tt_ok hG htb) | ((with_reducible apply SW_draw rfl tt_ok hG htb); (focus kernel_rfl); (focus (simp only [List.range, List.range.loop, List.size_toArray, List.length_cons, List.length_nil, Nat.reduceAdd])))); focus ((repeat' (first | (with_reducible exact runX_nil) | (with_reducible exact runI_nil) | ((first | (with_reducible apply runX_cons) | (with_reducible apply runI_cons)); focus (simp (discharger := omega) only [go_sem, mc, simprocAttr]; with_reducible rfl)))); done)))
                        exact Meet.h ⟨_, Norm.headS (own := []) (keep := [1, 179]) (by refine ⟨?_, ?_⟩; (simp (discharger := omega) only [go_sem, simprocAttr]; with_reducible rfl); refine ⟨?_, ?_, ?_, ?_⟩ <;> (simp only [go_sem, simprocAttr]; with_reducible rfl)), rfl⟩
                    · rw [decide_eq_true (show num ≠ 0 by omega)]
                      try simp only [Bool.false_or, Bool.true_or, Bool.or_true]
                      repeat' (first | (with_reducible first | refine SW_seq ?_ | refine SW_block ?_ | refine SThen_n ?_ | refine SThen_r ?_ | refine SThen_e ?_ | refine SIn_n ?_ | refine SIn_r ?_ | refine SIn_eq ?_ | refine SW_skip ?_ | refine SW_exit ?_ | refine SW_ret ?_ | refine SPost_r ?_) | ((with_reducible refine SIn_ne ?_ ?_); focus decide) | ((with_reducible refine SW_true ?_ ?_); focus exact rfl) | ((with_reducible refine SW_false ?_ ?_); focus exact rfl) | ((first | (with_reducible apply SW_run tt_ok hG htb) | ((with_reducible apply SW_draw rfl tt_ok hG htb); (focus kernel_rfl); (focus (simp only [List.range, List.range.loop, List.size_toArray, List.length_cons, List.length_nil, Nat.reduceAdd])))); focus ((repeat' (first | (with_reducible exact runX_nil) | (with_reducible exact runI_nil) | ((first | (with_reducible apply runX_cons) | (with_reducible apply runI_cons)); focus (simp (discharger := omega) only [go_sem, mnum, simprocAttr]; with_reducible rfl)))); done)))
                      exact Meet.h ⟨_, Norm.headS (own := []) (keep := [1, 179]) (by refine ⟨?_, ?_⟩; (simp (discharger := omega) only [go_sem, simprocAttr]; with_reducible rfl); refine ⟨?_, ?_, ?_, ?_⟩ <;> (simp only [go_sem, simprocAttr]; with_reducible rfl)), rfl⟩
                  · rw [decide_eq_true (show word2 ≠ 0 by omega)]
                    try simp only [Bool.false_or, Bool.true_or, Bool.or_true]
                    repeat' (first | (with_reducible first | refine SW_seq ?_ | refine SW_block ?_ | refine SThen_n ?_ | refine SThen_r ?_ | refine SThen_e ?_ | refine SIn_n ?_ | refine SIn_r ?_ | refine SIn_eq ?_ | refine SW_skip ?_ | refine SW_exit ?_ | refine SW_ret ?_ | refine SPost_r ?_) | ((with_reducible refine SIn_ne ?_ ?_); focus decide) | ((with_reducible refine SW_true ?_ ?_); focus exact rfl) | ((with_reducible refine SW_false ?_ ?_); focus exact rfl) | ((first | (with_reducible apply SW_run tt_ok hG htb) | ((with_reducible apply SW_draw rfl tt_ok hG htb); (focus kernel_rfl); (focus (simp only [List.range, List.range.loop, List.size_toArray, List.length_cons, List.length_nil, Nat.reduceAdd])))); focus ((repeat' (first | (with_reducible exact runX_nil) | (with_reducible exact runI_nil) | ((first | (with_reducible apply runX_cons) | (with_reducible apply runI_cons)); focus (simp (discharger := omega) only [go_sem, mword2, simprocAttr]; with_reducible rfl)))); done)))
                    exact Meet.h ⟨_, Norm.headS (own := []) (keep := [1, 179]) (by refine ⟨?_, ?_⟩; (simp (discharger := omega) only [go_sem, simprocAttr]; with_reducible rfl); refine ⟨?_, ?_, ?_, ?_⟩ <;> (simp only [go_sem, simprocAttr]; with_reducible rfl)), rfl⟩
                · rw [decide_eq_true (show word ≠ 0 by omega)]
                  try simp only [Bool.false_or, Bool.true_or, Bool.or_true]
                  repeat' (first | (with_reducible first | refine SW_seq ?_ | refine SW_block ?_ | refine SThen_n ?_ | refine SThen_r ?_ | refine SThen_e ?_ | refine SIn_n ?_ | refine SIn_r ?_ | refine SIn_eq ?_ | refine SW_skip ?_ | refine SW_exit ?_ | refine SW_ret ?_ | refine SPost_r ?_) | ((with_reducible refine SIn_ne ?_ ?_); focus decide) | ((with_reducible refine SW_true ?_ ?_); focus exact rfl) | ((with_reducible refine SW_false ?_ ?_); focus exact rfl) | ((first | (with_reducible apply SW_run tt_ok hG htb) | ((with_reducible apply SW_draw rfl tt_ok hG htb); (focus kernel_rfl); (focus (simp only [List.range, List.range.loop, List.size_toArray, List.length_cons, List.length_nil, Nat.reduceAdd])))); focus ((repeat' (first | (with_reducible exact runX_nil) | (with_reducible exact runI_nil) | ((first | (with_reducible apply runX_cons) | (with_reducible apply runI_cons)); focus (simp (discharger := omega) only [go_sem, mword, simprocAttr]; with_reducible rfl)))); done)))
                  exact Meet.h ⟨_, Norm.headS (own := []) (keep := [1, 179]) (by refine ⟨?_, ?_⟩; (simp (discharger := omega) only [go_sem, simprocAttr]; with_reducible rfl); refine ⟨?_, ?_, ?_, ?_⟩ <;> (simp only [go_sem, simprocAttr]; with_reducible rfl)), rfl⟩
              · rw [decide_eq_true (show other ≠ 0 by omega)]
                try simp only [Bool.false_or, Bool.true_or, Bool.or_true]
                repeat' (first | (with_reducible first | refine SW_seq ?_ | refine SW_block ?_ | refine SThen_n ?_ | refine SThen_r ?_ | refine SThen_e ?_ | refine SIn_n ?_ | refine SIn_r ?_ | refine SIn_eq ?_ | refine SW_skip ?_ | refine SW_exit ?_ | refine SW_ret ?_ | refine SPost_r ?_) | ((with_reducible refine SIn_ne ?_ ?_); focus decide) | ((with_reducible refine SW_true ?_ ?_); focus exact rfl) | ((with_reducible refine SW_false ?_ ?_); focus exact rfl) | ((first | (with_reducible apply SW_run tt_ok hG htb) | ((with_reducible apply SW_draw rfl tt_ok hG htb); (focus kernel_rfl); (focus (simp only [List.range, List.range.loop, List.size_toArray, List.length_cons, List.length_nil, Nat.reduceAdd])))); focus ((repeat' (first | (with_reducible exact runX_nil) | (with_reducible exact runI_nil) | ((first | (with_reducible apply runX_cons) | (with_reducible apply runI_cons)); focus (simp (discharger := omega) only [go_sem, mother, simprocAttr]; with_reducible rfl)))); done)))
                exact Meet.h ⟨_, Norm.headS (own := []) (keep := [1, 179]) (by refine ⟨?_, ?_⟩; (simp (discharger := omega) only [go_sem, simprocAttr]; with_reducible rfl); refine ⟨?_, ?_, ?_, ?_⟩ <;> (simp only [go_sem, simprocAttr]; with_reducible rfl)), rfl⟩
            · generalize nodeMore ⟨9, var, other, word, word2, num, coefs⟩ = mo at *
              cases mo with
              | true =>
                rw [if_pos rfl]
                repeat' (first | (with_reducible first | refine SW_seq ?_ | refine SW_block ?_ | refine SThen_n ?_ | refine SThen_r ?_ | refine SThen_e ?_ | refine SIn_n ?_ | refine SIn_r ?_ | refine SIn_eq ?_ | refine SW_skip ?_ | refine SW_exit ?_ | refine SW_ret ?_ | refine SPost_r ?_) | ((with_reducible refine SIn_ne ?_ ?_); focus decide) | ((with_reducible refine SW_true ?_ ?_); focus exact rfl) | ((with_reducible refine SW_false ?_ ?_); focus exact rfl) | ((first | (with_reducible apply SW_run tt_ok hG htb) | ((with_reducible apply SW_draw rfl tt_ok hG htb); (focus kernel_rfl); (focus (simp only [List.range, List.range.loop, List.size_toArray, List.length_cons, List.length_nil, Nat.reduceAdd])))); focus ((repeat' (first | (with_reducible exact runX_nil) | (with_reducible exact runI_nil) | ((first | (with_reducible apply runX_cons) | (with_reducible apply runI_cons)); focus (simp (discharger := omega) only [go_sem, simprocAttr]; with_reducible rfl)))); done)))
                exact (by simp (discharger := omega) only [go_sem, tErr, simprocAttr])
              | false =>
                rw [if_neg (by decide)]
                clear e1 e2 e3 e4 cV cO c1
                by_cases hc : 0 < coefs.length
                · obtain ⟨x, hx⟩ : ∃ x, coefs[coefs.length - 1]! = x := ⟨_, rfl⟩
                  have hxe : (coefs.length : Int) - 1 = ((coefs.length - 1 : Nat) : Int) := by omega
                  have hkk : coefs.length - 1 < coefs.length := by omega
                  rw [hx]
                  generalize coefs.length - 1 = kk at *
                  by_cases h0 : x = 0
                  · rw [if_pos ⟨hc, h0⟩]
                    repeat' (first | (with_reducible first | refine SW_seq ?_ | refine SW_block ?_ | refine SThen_n ?_ | refine SThen_r ?_ | refine SThen_e ?_ | refine SIn_n ?_ | refine SIn_r ?_ | refine SIn_eq ?_ | refine SW_skip ?_ | refine SW_exit ?_ | refine SW_ret ?_ | refine SPost_r ?_) | ((with_reducible refine SIn_ne ?_ ?_); focus decide) | ((with_reducible refine SW_true ?_ ?_); focus exact rfl) | ((with_reducible refine SW_false ?_ ?_); focus exact rfl) | ((first | (with_reducible apply SW_run tt_ok hG htb) | ((with_reducible apply SW_draw rfl tt_ok hG htb); (focus kernel_rfl); (focus (simp only [List.range, List.range.loop, List.size_toArray, List.length_cons, List.length_nil, Nat.reduceAdd])))); focus ((repeat' (first | (with_reducible exact runX_nil) | (with_reducible exact runI_nil) | ((first | (with_reducible apply runX_cons) | (with_reducible apply runI_cons)); focus (simp (discharger := omega) only [go_sem, hxe, hx, h0, simprocAttr]; with_reducible rfl)))); done)))
                    exact (by simp (discharger := omega) only [go_sem, tErr, simprocAttr])
                  · rw [if_neg (by rintro ⟨_, e⟩; exact h0 e)]
                    repeat' (first | (with_reducible first | refine SW_seq ?_ | refine SW_block ?_ | refine SThen_n ?_ | refine SThen_r ?_ | refine SThen_e ?_ | refine SIn_n ?_ | refine SIn_r ?_ | refine SIn_eq ?_ | refine SW_skip ?_ | refine SW_exit ?_ | refine SW_ret ?_ | refine SPost_r ?_) | ((with_reducible refine SIn_ne ?_ ?_); focus decide) | ((with_reducible refine SW_true ?_ ?_); focus exact rfl) | ((with_reducible refine SW_false ?_ ?_); focus exact rfl) | ((first | (with_reducible apply SW_run tt_ok hG htb) | ((with_reducible apply SW_draw rfl tt_ok hG htb); (focus kernel_rfl); (focus (simp only [List.range, List.range.loop, List.size_toArray, List.length_cons, List.length_nil, Nat.reduceAdd])))); focus ((repeat' (first | (with_reducible exact runX_nil) | (with_reducible exact runI_nil) | ((first | (with_reducible apply runX_cons) | (with_reducible apply runI_cons)); focus (simp (discharger := omega) only [go_sem, hxe, hx, h0, simprocAttr]; with_reducible rfl)))); done)))
                    exact (by simp (discharger := omega) only [go_sem, tErr, simprocAttr])
                · rw [if_neg (by rintro ⟨e, _⟩; exact hc e)]
                  have hc0 : coefs.length = 0 := by omega
                  repeat' (first | (with_reducible first | refine SW_seq ?_ | refine SW_block ?_ | refine SThen_n ?_ | refine SThen_r ?_ | refine SThen_e ?_ | refine SIn_n ?_ | refine SIn_r ?_ | refine SIn_eq ?_ | refine SW_skip ?_ | refine SW_exit ?_ | refine SW_ret ?_ | refine SPost_r ?_) | ((with_reducible refine SIn_ne ?_ ?_); focus decide) | ((with_reducible refine SW_true ?_ ?_); focus exact rfl) | ((with_reducible refine SW_false ?_ ?_); focus exact rfl) | ((first | (with_reducible apply SW_run tt_ok hG htb) | ((with_reducible apply SW_draw rfl tt_ok hG htb); (focus kernel_rfl); (focus (simp only [List.range, List.range.loop, List.size_toArray, List.length_cons, List.length_nil, Nat.reduceAdd])))); focus ((repeat' (first | (with_reducible exact runX_nil) | (with_reducible exact runI_nil) | ((first | (with_reducible apply runX_cons) | (with_reducible apply runI_cons)); focus (simp (discharger := omega) only [go_sem, hc0, simprocAttr]; with_reducible rfl)))); done)))
                  exact (by simp (discharger := omega) only [go_sem, tErr, simprocAttr])
  · have e3 : nodeErr ⟨op, var, other, word, word2, num, coefs⟩ = 1 := by unfold nodeErr; rw [if_pos (by simp only; omega)]
    rw [e3]
    repeat' (first | (with_reducible first | refine SW_seq ?_ | refine SW_block ?_ | refine SThen_n ?_ | refine SThen_r ?_ | refine SThen_e ?_ | refine SIn_n ?_ | refine SIn_r ?_ | refine SIn_eq ?_ | refine SW_skip ?_ | refine SW_exit ?_ | refine SW_ret ?_ | refine SPost_r ?_) | ((with_reducible refine SIn_ne ?_ ?_); focus decide) | ((with_reducible refine SW_true ?_ ?_); focus exact rfl) | ((with_reducible refine SW_false ?_ ?_); focus exact rfl) | ((first | (with_reducible apply SW_run tt_ok hG htb) | ((with_reducible apply SW_draw rfl tt_ok hG htb); (focus kernel_rfl); (focus (simp only [List.range, List.range.loop, List.size_toArray, List.length_cons, List.length_nil, Nat.reduceAdd])))); focus ((repeat' (first | (with_reducible exact runX_nil) | (with_reducible exact runI_nil) | ((first | (with_reducible apply runX_cons) | (with_reducible apply runI_cons)); focus (simp (discharger := omega) only [go_sem, tNode, simprocAttr]; with_reducible rfl)))); done)))
    exact (by simp (discharger := omega) only [go_sem, tErr, simprocAttr])
end
end Go.Proofs.Ytfhncnhkeodngaa
