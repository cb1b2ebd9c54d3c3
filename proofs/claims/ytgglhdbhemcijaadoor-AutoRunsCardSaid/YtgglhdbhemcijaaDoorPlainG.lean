/- Plain laws of the reference's way of writing digits: the greatest places first, in any base. No program in sight; no conditions. -/
import Derived.Test.YtgglhdbhemcijaaDoorPlainD
namespace Go.Proofs.YtgglhdbhemcijaaDoor

/-- What stands between rounds while a number is written, the greatest places first. -/
structure GreedyB (b n : Int) (j : Nat) (r : Int) (l : List Int) : Prop where
  r0 : 0 ≤ r
  rlt : r < W b j
  val : wv b (l ++ List.replicate j 0) + r = n
  ok : okDigits b l
  right : rightOf b l = true
  lead : noLead l
  last : b = 1 → l.getLast? = some 1 → ∀ i, j = i + 1 → r < W b i
  len : l.length + j ≤ 64
theorem GreedyB.start {b n : Int} {m : Nat} (h0 : 0 ≤ n) (h : n < W b m) (hm : m ≤ 64) : GreedyB b n m n [] :=
  ⟨h0, h, by rw [List.nil_append, wv_zeros]; omega, by simp [okDigits], by simp [rightOf, noTwo], by simp [noLead], by simp, by simp; omega⟩
theorem W_succ_base {b : Int} (hb : b ≠ 1) (j : Nat) : W b (j + 1) = W b j * b := by simp [W, hb, powW]
theorem GreedyB.none {b n : Int} {j : Nat} {r : Int} (h : GreedyB b n (j + 1) r []) (hr : r < W b j) : GreedyB b n j r [] := by
  refine ⟨h.r0, hr, ?_, h.ok, h.right, h.lead, by simp, by have := h.len; simp at this ⊢; omega⟩
  have hv := h.val
  rw [List.nil_append, wv_zeros] at hv ⊢
  exact hv
theorem GreedyB.step {b n : Int} {j : Nat} {r : Int} {l : List Int} (hb : radix b ≠ 0) (h : GreedyB b n (j + 1) r l) (hl : l ≠ [] ∨ 0 < r / W b j) :
    GreedyB b n j (r - r / W b j * W b j) (l ++ [r / W b j]) := by
  have hp := W_pos hb j
  have e1 : r - r / W b j * W b j = r % W b j := by
    have := Int.mul_ediv_add_emod r (W b j)
    rw [Int.mul_comm] at this; omega
  have m0 := Int.emod_nonneg r (show W b j ≠ 0 by omega)
  have m1 := Int.emod_lt_of_pos r (show 0 < W b j by omega)
  have d0 : 0 ≤ r / W b j := Int.ediv_nonneg h.r0 (by omega)
  have hrl := h.rlt
  have d1 : r / W b j < radix b := by
    rcases radix_pos hb with ⟨h1, h2⟩ | ⟨h2, h6, h3⟩
    · rw [h2]
      subst h1
      refine Int.ediv_lt_of_lt_mul (by omega) ?_
      cases j with
      | zero => simp [W, fibW] at hrl ⊢; omega
      | succ i =>
        have e : W 1 (i + 1 + 1) = W 1 (i + 1) + W 1 i := by simp [W, fibW]
        have := W_mono (b := 1) (by simp [radix]) i
        rw [e] at hrl
        omega
    · rw [h3]
      rw [W_succ_base (by omega), Int.mul_comm] at hrl
      exact Int.ediv_lt_of_lt_mul (by omega) hrl
  refine ⟨by omega, by omega, ?_, ?_, ?_, ?_, ?_, by have := h.len; simp; omega⟩
  · have hv := h.val
    rw [List.replicate_succ] at hv
    have := wv_mid b (r / W b j) (List.replicate j 0) l
    rw [List.append_assoc, List.singleton_append, this]
    simp only [List.length_replicate]
    omega
  · intro x hx
    rcases List.mem_append.1 hx with hx | hx
    · exact h.ok x hx
    · obtain rfl : x = r / W b j := by simpa using hx
      exact ⟨d0, d1⟩
  · by_cases h1 : b = 1
    · subst h1
      have hr := h.right
      simp [rightOf] at hr ⊢
      refine noTwo_snoc l _ hr fun e hlast => ?_
      have hlt := h.last rfl hlast j rfl
      have : r / W 1 j = 0 := Int.ediv_eq_zero_of_lt h.r0 hlt
      omega
    · simp [rightOf, h1]
  · have hle := h.lead
    unfold noLead at *
    cases l with
    | nil => simp at hl ⊢; omega
    | cons x t => simpa using hle
  · intro h1 hlast i hi
    subst h1
    have hd : r / W 1 j = 1 := by simpa using hlast
    rw [e1]
    subst hi
    have e : W 1 (i + 1 + 1) = W 1 (i + 1) + W 1 i := by simp [W, fibW]
    have := Int.mul_ediv_add_emod r (W 1 (i + 1))
    rw [hd] at this
    omega
theorem GreedyB.done {b n r : Int} {l : List Int} (h : GreedyB b n 0 r l) : IsOf b n l := by
  have h1 := h.rlt
  have h2 := h.r0
  have h3 := h.val
  have e : W b 0 = 1 := by unfold W; split <;> rfl
  rw [e] at h1
  simp at h3
  exact ⟨h.ok, h.right, h.lead, by omega⟩

theorem W_six {b : Int} (h : radix b ≠ 0) (n : Nat) : W b (n + 1) ≤ 6 * W b n := by
  have hp := W_pos h n
  rcases radix_pos h with ⟨hb, _⟩ | ⟨h2, h6, _⟩
  · subst hb
    cases n with
    | zero => simp [W, fibW]
    | succ n =>
      have e : W 1 (n + 1 + 1) = W 1 (n + 1) + W 1 n := by simp [W, fibW]
      have := W_mono (b := 1) (by simp [radix]) n
      have := W_pos (b := 1) (by simp [radix]) n
      omega
  · rw [W_succ_base (by omega), Int.mul_comm]
    exact Int.mul_le_mul_of_nonneg_right h6 (by omega)
/-- The weights, as many as the reference makes: all but the last are at most MaxNum. -/
structure Weights (b : Int) (ws : List Int) : Prop where
  eq : ws = (List.range ws.length).map (W b)
  pos : 0 < ws.length
  le : ws.length ≤ 59
  small : ∀ i, i + 1 < ws.length → W b i ≤ 1099511627776
  big : 1099511627776 < W b (ws.length - 1)

/-- The value from behind: what the reference adds up. -/
theorem wv_drop (b : Int) : ∀ (i : Nat) (d : List Int), i < d.length → wv b (d.drop (d.length - 1 - i)) = d.getD (d.length - 1 - i) 0 * W b i + wv b (d.drop (d.length - i)) := by
  intro i d hi
  rw [List.drop_eq_getElem_cons (by omega), getD_lt (by omega)]
  show _ * W b (d.drop _).length + wv b (d.drop _) = _
  have e1 : (d.drop (d.length - 1 - i + 1)).length = i := by simp; omega
  have e2 : d.length - 1 - i + 1 = d.length - i := by omega
  rw [e1, e2]
theorem wv_drop_le {b : Int} (h : radix b ≠ 0) {d : List Int} (hd : okDigits b d) (i : Nat) : wv b (d.drop i) ≤ wv b d := by
  induction d generalizing i with
  | nil => simp
  | cons x t ih =>
    cases i with
    | zero => simp
    | succ i =>
      have h1 := ih (ok_tail hd) i
      have h2 := ok_head hd
      have h3 := W_pos h t.length
      show wv b (t.drop i) ≤ x * W b t.length + wv b t
      have : 0 ≤ x * W b t.length := Int.mul_nonneg h2.1 (by omega)
      omega
end Go.Proofs.YtgglhdbhemcijaaDoor
