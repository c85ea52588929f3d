/- What operations yield, type by type (printed by ty.py). -/
import Derived.Test.YtncnlhkmdljgpaaExR4
set_option linter.unusedVariables false
set_option linter.unusedSimpArgs false
namespace Go.Proofs.Ytncnlhkmdljgpaa
open Go Go.RowKit
section
variable {n : Nat} {σ : Sg} {w : World} {dst : Option Tmp} {ty : TypeId} {pos : String} {af : Array Edge} {g : Option (Nat × Bool)} {x y z : Operand} {at' : Array TypeId}
theorem neq_23 {a0 a1 b0 b1 : Int} {r : Bool} (hx : evS σ x = some (.agg #[.int .i64 a0, .int .i64 a1])) (hy : evS σ y = some (.agg #[.int .i64 b0, .int .i64 b1])) (hc : decide (¬ (a0 = b0 ∧ a1 = b1)) = r) : Gives Try.prog n σ w ⟨dst, .binOp .neq 23 x y 23, ty, pos, af, g⟩ (.bool r) := fun a ha => by
  subst hc
  simp only [execOp, ha.eval hx, ha.eval hy]
  go_simp
  repeat' split
  all_goals simp_all
end
end Go.Proofs.Ytncnlhkmdljgpaa
