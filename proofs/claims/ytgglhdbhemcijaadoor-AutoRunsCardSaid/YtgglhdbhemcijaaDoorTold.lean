/- Told and Error of the statements: which error an error is. Condition: what the laid variable holds. -/
import Derived.Test.YtgglhdbhemcijaaDoorErr
import Derived.Test.YtgglhdbhemcijaaDoorBase
namespace Go.Proofs.YtgglhdbhemcijaaDoor
open Go.RowKit

/-- What errors.errorType holds. -/
def errCell (w : World) : Prop := w.cell? ⟨0, 0, none⟩ = some (.iface 146 (.agg #[.pointer (some ⟨1, 24, none⟩)]))
theorem errCell.below {w w' : World} (h : errCell w) (hb : Below w.heap.size w w') : errCell w' :=
  (hb.cell (p := ⟨0, 0, none⟩) (cell_lt h)).trans h

set_option maxHeartbeats 1000000 in
theorem Told_calls (e : Int) (w : World) (hg : errCell w) :
    Calls Tryd.prog 68 #[errV 27 e] w (Ret (.int .i64 e) w) := by
  by_cases h0 : e = 0
  · subst h0
    rw [errV_zero]
    clear hg
    go_enter Tryd.func68, Tryd.ntmps68
    go_wp2
    go_ret
    exact Ret.mk rfl (Below.refl _ _)
  · rw [errV_ne _ h0]
    clear h0
    have hgA : (w.alloc (.cells #[.int .i64 0] 27)).cell? ⟨0, 0, none⟩ = some (.iface 146 (.agg #[.pointer (some ⟨1, 24, none⟩)])) :=
      errCell.below hg ((Below.refl _ _).alloc (Nat.le_refl _) _)
    have htA : (w.alloc (.cells #[.int .i64 0] 27)).cell? ⟨w.heap.size, 0, none⟩ = some (.int .i64 0) := by simp
    have hfA : (w.alloc (.cells #[.int .i64 0] 27)).frozen? ⟨w.heap.size, 0, none⟩ = false := by simp
    have H := Lib.hid (And.intro hgA (And.intro htA hfA))
    clear hgA htA hfA hg
    go_enter Tryd.func68, Tryd.ntmps68
    go_wp2_with fail
    refine (as_hit e ⟨w.heap.size, 0, none⟩ (.int .i64 0) _ H.out.1 H.out.2.1 H.out.2.2).mono ?_
    rintro e' w' ⟨rfl, hw⟩
    have hB : Below w.heap.size w w' := by
      rw [hw]
      exact (((((((Below.refl _ _).alloc (Nat.le_refl _) _).alloc (by simp) _).alloc (by simp; omega) _).alloc (by simp; omega) _).alloc (by simp; omega) _)).setCell (Nat.le_refl _) _
    have hc : w'.cell? ⟨w.heap.size, 0, none⟩ = some (.int .i64 e) := by
      rw [hw]
      refine (cell_of_row _ _ _ _ _ _ (heap_setCell_at (C := #[.int .i64 0]) (e := 27) (f := (0, 0)) ?_ _)).trans (by simp)
      rw [Below.heap_alloc _ _ _ (by simp; omega), Below.heap_alloc _ _ _ (by simp; omega), Below.heap_alloc _ _ _ (by simp; omega), Below.heap_alloc _ _ _ (by simp)]
      exact heap_alloc_new w _
    have HB := Lib.hid hB
    clear hw hB
    go_wp2_with fail
    go_ret
    exact Ret.mk rfl HB.out

set_option maxHeartbeats 1000000 in
theorem Error_calls (e f : Int) (w : World) (hg : errCell w) :
    Calls Tryd.prog 15 #[errV 27 e, .int .i64 f] w (Ret (.bool (e == f)) w) := by
  have H := Lib.hid hg; clear hg
  generalize hv : errV 27 e = v
  have Hv := Lib.hid hv; clear hv
  go_enter Tryd.func15, Tryd.ntmps15
  go_wp2_with fail
  rw [← Hv.out]
  refine (Told_calls e _ H.out).mono ?_
  rintro e' w' ⟨rfl, hb⟩
  have HB := Lib.hid hb; clear hb
  go_wp2_with fail
  go_ret
  exact Ret.mk rfl HB.out
end Go.Proofs.YtgglhdbhemcijaaDoor
