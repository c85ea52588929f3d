/- An integer of 8 bits, out of an argument. -/
import Derived.Test.YtncnlhkmdljgpaaRLift6
set_option linter.unusedVariables false
namespace Go.Proofs.Ytncnlhkmdljgpaa
open Go Go.RowKit
theorem u8_of {H : Type} {enc : TypeId × Value → H} {w : World} {base : Nat} {spare : Nat → Bool} {held : Bool} {n : Int} {d : DataW H} {p : List MemPlace} (h : DataW.Trod enc Try.prog w base spare held 5 (.int .u8 n) d p) : ∃ k : Nat, n = k ∧ k ≤ 255 := by
  obtain ⟨fuel, hf⟩ := h
  obtain ⟨m, e, _, wf⟩ := DataW.trod_int Try.underlying5 hf
  have e2 : m = n := by simpa [Value.cells] using e.symm
  subst e2
  have := wf_u8 wf
  exact ⟨m.toNat, by omega, by omega⟩
end Go.Proofs.Ytncnlhkmdljgpaa
