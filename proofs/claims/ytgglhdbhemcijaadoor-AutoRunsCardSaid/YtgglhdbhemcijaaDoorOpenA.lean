/- From the reading of an argument to an automaton. No conditions. -/
import Derived.Test.YtgglhdbhemcijaaDoorOpen
import Derived.Test.YtgglhdbhemcijaaDoorAutoA
namespace Go.Proofs.YtgglhdbhemcijaaDoor
open Go.ChangeShapes Go.WideShapes Go.ChangeAt Go.RowKit Go.Joins Go.Deep

section
variable {H : Type} {enc : TypeId × Value → H} {w : World} {sp : Nat → Bool} {held : Bool}
theorem opensIntss : Opens enc w sp held 57 (Intss (· < w.heap.size)) := opens_slice Tryd.underlying57 (by kernel_rfl) opensInts
theorem opensBools : Opens enc w sp held 58 (Bools (· < w.heap.size)) := opens_slice Tryd.underlying58 (by kernel_rfl) (opens_bool Tryd.underlying4)
set_option maxRecDepth 100000 in
theorem openAuto {base : Nat} {v : Value} {d : DataW H} {p : List MemPlace} (hv : Value.okWide Tryd.prog w .any base 60 v) (h : DataW.Trod enc Tryd.prog w 0 sp held 60 v d p) :
    ∃ a : GAuto, IsAuto (· < w.heap.size) w v a := by
  obtain ⟨v0, v1, v2, v3, y0, y1, y2, y3, n, rfl, _, _, h0, h1, h2, h3⟩ := open_agg4 Tryd.underlying60 (by kernel_rfl) (by kernel_rfl) hv h
  obtain ⟨a0, rfl, _⟩ := opens_int Tryd.underlying3 _ _ _ h0
  obtain ⟨a1, rfl, _⟩ := opens_int Tryd.underlying3 _ _ _ h1
  obtain ⟨a2, hn⟩ := opensIntss _ _ _ h2
  obtain ⟨a3, he⟩ := opensBools _ _ _ h3
  exact ⟨⟨a0, a1, a2, a3⟩, v2, v3, rfl, hn, he⟩
end
end Go.Proofs.YtgglhdbhemcijaaDoor
