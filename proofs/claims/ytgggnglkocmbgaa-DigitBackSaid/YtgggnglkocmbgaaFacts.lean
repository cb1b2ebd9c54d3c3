/- Closed facts on the program's types. No conditions. -/
import Derived.Test.YtgggnglkocmbgaaBase
import Derived.Test.YtgggnglkocmbgaaChecked
namespace Go.Proofs.Ytgggnglkocmbgaa
open Go.RowKit
theorem infoInt : (Try.prog.info? 3).map (fun i => (i.zero, i.size, i.bytes)) = some (some (.int .i64 0), 1, 8) := by kernel_rfl
theorem arr64 : Try.prog.arrayLen 72 = 64 := by kernel_rfl
theorem slice64 (w : World) (b k : Nat) (h : k < 64) : (Instr.sliceAt 72 (.pointer (some ⟨b, 0, none⟩)) (some (.int .i64 (k : Int))) none none).run Try.prog w = .ok (.slice (some ⟨b, k, none⟩) (64 - k) (64 - k)) w := by
  rw [run_sliceAt_array_l w 72 ⟨b, 0, none⟩ (P := Try.prog) Try.underlying72 .i64 (k : Int) (by omega) (by rw [arr64]; omega)]
  have e : ¬ 64 = k := by omega
  go_simp
end Go.Proofs.Ytgggnglkocmbgaa
