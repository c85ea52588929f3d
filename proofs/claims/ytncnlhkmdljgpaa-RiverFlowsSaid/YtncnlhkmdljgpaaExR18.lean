/- What operations yield, type by type (printed by ty.py). -/
import Derived.Test.YtncnlhkmdljgpaaExR16
import Derived.Test.YtncnlhkmdljgpaaExR17
set_option linter.unusedVariables false
set_option linter.unusedSimpArgs false
namespace Go.Proofs.Ytncnlhkmdljgpaa
open Go Go.RowKit
section
variable {n : Nat} {σ : Sg} {w : World} {dst : Option Tmp} {ty : TypeId} {pos : String} {af : Array Edge} {g : Option (Nat × Bool)} {x y z : Operand} {at' : Array TypeId}
theorem bx_80 {v0 v1 v2 : Value} (hx : evS σ x = some (.agg #[v0, v1, v2])) (a : Act) (ha : Env n σ a) : (execOp a.eval ⟨dst, .box 80 x, ty, pos, af, g⟩).run Try.prog w = .ok (.value (.pointer (some ⟨w.heap.size, 0, none⟩))) (w.alloc (.cells #[v0, v1, v2] 80)) := by
  simp only [execOp, ha.eval hx]
  simp [go_sem]
theorem ixa_80 {b o k : Nat} (hx : evS σ x = some (.pointer (some ⟨b, o, none⟩))) (hy : evS σ y = some (.int .i64 (k : Int))) (hk : k < 3) : Gives Try.prog n σ w ⟨dst, .indexAddr 80 x y, ty, pos, af, g⟩ (.pointer (some ⟨b, o + k, none⟩)) := fun a ha => by
  have k0 : (0 : Int) ≤ (k : Int) := Int.natCast_nonneg _
  have k1 : (k : Int) < 3 := by omega
  simp only [execOp, ha.eval hx, ha.eval hy]
  simp [go_sem, k0, k1]
theorem cl_46 {x0 x1 x2 x3 x4 : Operand} {v0 v1 v2 v3 v4 : Value} (h0 : evS σ x0 = some v0) (h1 : evS σ x1 = some v1) (h2 : evS σ x2 = some v2) (h3 : evS σ x3 = some v3) (h4 : evS σ x4 = some v4) (a : Act) (ha : Env n σ a) : (execOp a.eval ⟨dst, .call { callee := .value (.func 46), args := #[x0, x1, x2, x3, x4], argTypes := at' }, ty, pos, af, g⟩).run Try.prog w = .ok (.enter 46 #[v0, v1, v2, v3, v4]) w := by
  simp only [execOp, resolve, List.map_toArray, List.map_cons, List.map_nil, ha.eval h0, ha.eval h1, ha.eval h2, ha.eval h3, ha.eval h4]
  simp [go_sem, Act.eval]
end
end Go.Proofs.Ytncnlhkmdljgpaa
