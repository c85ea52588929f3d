/- River: the melt of an hour. -/
import Derived.Test.YtfgfenmaommclaaV2
import Derived.BigRegion
import Derived.Deep.RegionHeld3
import Derived.Handy

namespace Go.Proofs.Ytfgfenmaommclaa
open Go.RowKit

/-- a world that has grown, and in which block g was written -/
theorem grown_set' {w a : World} {g i : Nat} {u : Value} (h : w.grownBy a (some g)) : w.grownBy (a.setCell ⟨g, i, none⟩ u) (some g) :=
  h.trans (grown_set a g i u)

theorem keepc {w W : World} {b o : Nat} {v : Value} (hb : b < w.heap.size) (hc : w.cell? ⟨b, o, none⟩ = some v) (hB : Below w.heap.size w W) : W.cell? ⟨b, o, none⟩ = some v :=
  (hB.cell (p := ⟨b, o, none⟩) hb).trans hc
theorem _root_.Go.World.grownBy.setNew {w a : World} {row : Option Nat} (h : w.grownBy a row) (k i : Nat) (hk : w.heap.size ≤ k) (u : Value) : w.grownBy (a.setCell ⟨k, i, none⟩ u) row :=
  ⟨h.os, h.tape, h.output, by have := h.size; simp [World.setCell]; omega, fun j hj hne => (Below.heap_setCell a _ u j (fun e => by have : j = k := e; omega)).trans (h.block j hj hne)⟩
theorem warmth_bd {rate t : Int} (h1 : 0 ≤ rate ∧ rate ≤ 100) (h2 : -500 ≤ t ∧ t ≤ 500) : 0 ≤ warmth rate t ∧ warmth rate t ≤ 50000 := by
  have a := warmth_nonneg (t := t) h1.1
  have b := Int.mul_le_mul_of_nonneg_right (show max 0 t ≤ 500 by omega) h1.1
  unfold warmth at a ⊢
  omega
end Go.Proofs.Ytfgfenmaommclaa
