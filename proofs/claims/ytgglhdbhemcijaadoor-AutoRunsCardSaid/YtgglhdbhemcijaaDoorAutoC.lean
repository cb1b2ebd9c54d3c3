/- The walk of Takes. Conditions: the values read as an automaton and a word. -/
import Derived.Test.YtgglhdbhemcijaaDoorAutoB
namespace Go.Proofs.YtgglhdbhemcijaaDoor
open Go.RowKit

theorem takes_no {a : GAuto} {l : List Int} (h : ¬ runErr a l = 0) : takesOf a l = false := by simp [takesOf, h]
theorem takes_yes {a : GAuto} {l : List Int} (h : runErr a l = 0) : ∃ (s : Nat) (hs : s < a.ends.length), runOf a l = s ∧ takesOf a l = a.ends[s] := by
  have hz := runErr_zero h
  have g := good_of hz.1
  have hl := g.letters
  rw [hl] at hz
  have hr := runFrom_ok g.rows l 0 ⟨by omega, by have := g.m0; omega⟩ hz.2.2
  obtain ⟨s, hs⟩ := Int.eq_ofNat_of_zero_le hr.1
  have he : s < a.ends.length := by have := g.ends; omega
  refine ⟨s, he, ?_, ?_⟩
  · simp [runOf, h, hs]
  · unfold takesOf endOf
    rw [h, hs, Int.toNat_natCast, getD_lt he]
    simp

set_option maxHeartbeats 2000000 in
set_option maxRecDepth 100000 in
theorem Takes_calls (S S' : Nat → Prop) (v : Value) (a : GAuto) (vl : Value) (l : List Int) (w : World) (hS : ∀ b, S b → b < w.heap.size) (hS' : ∀ b, S' b → b < w.heap.size) (ha : IsAuto S w v a) (hl : Ints S' w vl l) :
    Calls Tryd.prog 42 #[v, vl] w (Ret (.tuple #[.bool (takesOf a l), errV 27 (runErr a l)]) w) := by
  have HA := Lib.hid ha
  have HL := Lib.hid hl
  obtain ⟨vn, ve, rfl, hn, he⟩ := ha
  obtain ⟨pn, cn, rfl⟩ := hn.form
  obtain ⟨pe, ce, rfl⟩ := he.form
  obtain ⟨pl, cl, rfl⟩ := hl.form
  have hb0 : Below w.heap.size w (w.alloc (.cells #[.int .i64 a.base, .int .i64 a.tracks, .slice pn a.next.length cn, .slice pe a.ends.length ce] 60)) := (Below.refl w.heap.size w).alloc (Nat.le_refl _) _
  have HB0 := Lib.hid hb0
  have HA1 := Lib.hid (HA.out.below hb0 (S' := (· < w.heap.size + 1)) (fun b hb _ => by have := hS b hb; omega))
  have HL1 := Lib.hid (HL.out.below hb0 (S' := (· < w.heap.size + 1)) (fun b hb _ => by have := hS' b hb; omega))
  clear hn he hl hb0
  go_enter Tryd.func42, Tryd.ntmps42
  go_wp2_with fail
  refine (Run_calls _ _ _ a _ l _ (fun b hb => by simpa using hb) (fun b hb => by simpa using hb) HA1.out HL1.out).mono ?_
  rintro e w1 ⟨rfl, hb1⟩
  have hbox : ∀ j, w1.cell? ⟨w.heap.size, j, none⟩ = (w.alloc (.cells #[.int .i64 a.base, .int .i64 a.tracks, .slice pn a.next.length cn, .slice pe a.ends.length ce] 60)).cell? ⟨w.heap.size, j, none⟩ :=
    fun j => hb1.cell (p := ⟨w.heap.size, j, none⟩) (by simp)
  have hbox3 : w1.cell? ⟨w.heap.size, 3, none⟩ = some (.slice pe a.ends.length ce) := by rw [hbox, World.cell?_alloc_at _ _ _ _ rfl]; rfl
  have HB1 := Lib.hid (HB0.out.trans (hb1.mono HB0.out.size))
  clear hbox hb1
  have HA2 := Lib.hid (HA.out.keep (w' := w1) (S' := fun _ => True) fun b hb _ => ⟨HB1.out.block b (hS b hb), trivial⟩)
  by_cases h0 : runErr a l = 0
  · obtain ⟨s, hs, h1, h2⟩ := takes_yes h0
    obtain ⟨b, off, x, hp, hc, hx⟩ : ∃ b off x, pe = some ⟨b, off, none⟩ ∧ w1.cell? ⟨b, off + s, none⟩ = some x ∧ x = .bool a.ends[s] := by
      obtain ⟨vn, ve, hv, _, hee⟩ := HA2.out
      cases hv
      obtain ⟨b, off, x, hp, _, hc, hx⟩ := hee.at s hs
      exact ⟨b, off, x, hp, hc, hx⟩
    subst hp hx
    obtain ⟨z, hz⟩ : ∃ z, z = a.ends[s] := ⟨_, rfl⟩
    rw [← hz] at hc h2
    rw [h0, errV_zero, h1]
    have H2 := Lib.hid h2
    have H0 := Lib.hid h0
    clear h0 h1 h2 hz
    have hs' : (s : Int) < a.ends.length := by omega
    go_wp2
    go_ret2
    exact Ret.mk (by rw [H2.out, H0.out]; rfl) HB1.out
  · have R := Lib.hid (takes_no h0)
    have E := Lib.hid (errV_ne 27 h0)
    rw [E.out]
    clear h0
    go_wp2
    go_ret2
    exact Ret.mk (by rw [R.out, E.out]; rfl) HB1.out
end Go.Proofs.YtgglhdbhemcijaaDoor
