/- What operations yield, type by type (printed by ty.py). -/
import Derived.Test.YtncnlhkmdljgpaaExA
set_option linter.unusedVariables false
set_option linter.unusedSimpArgs false
namespace Go.Proofs.Ytncnlhkmdljgpaa
open Go Go.RowKit
section
variable {n : Nat} {σ : Sg} {w : World} {dst : Option Tmp} {ty : TypeId} {pos : String} {af : Array Edge} {g : Option (Nat × Bool)} {x y z : Operand} {at' : Array TypeId}
theorem ld_54 {b o : Nat} {v0 v1 v2 : Value} (hx : evS σ x = some (.pointer (some ⟨b, o, none⟩))) (c0 : w.cell? ⟨b, o, none⟩ = some v0) (c1 : w.cell? ⟨b, o + 1, none⟩ = some v1) (c2 : w.cell? ⟨b, o + 2, none⟩ = some v2) : Gives Try.prog n σ w ⟨dst, .load 54 x, ty, pos, af, g⟩ (.agg #[v0, v1, v2]) := fun a ha => by
  simp only [execOp, ha.eval hx]
  simp [go_sem, c0, c1, c2]
theorem cl_32 {x0 x1 x2 : Operand} {v0 v1 v2 : Value} (h0 : evS σ x0 = some v0) (h1 : evS σ x1 = some v1) (h2 : evS σ x2 = some v2) (a : Act) (ha : Env n σ a) : (execOp a.eval ⟨dst, .call { callee := .value (.func 32), args := #[x0, x1, x2], argTypes := at' }, ty, pos, af, g⟩).run Try.prog w = .ok (.enter 32 #[v0, v1, v2]) w := by
  simp only [execOp, resolve, List.map_toArray, List.map_cons, List.map_nil, ha.eval h0, ha.eval h1, ha.eval h2]
  simp [go_sem, Act.eval]
theorem cl_34 {x0 : Operand} {v0 : Value} (h0 : evS σ x0 = some v0) (a : Act) (ha : Env n σ a) : (execOp a.eval ⟨dst, .call { callee := .value (.func 34), args := #[x0], argTypes := at' }, ty, pos, af, g⟩).run Try.prog w = .ok (.enter 34 #[v0]) w := by
  simp only [execOp, resolve, List.map_toArray, List.map_cons, List.map_nil, ha.eval h0]
  simp [go_sem, Act.eval]
theorem cl_38 {x0 x1 : Operand} {v0 v1 : Value} (h0 : evS σ x0 = some v0) (h1 : evS σ x1 = some v1) (a : Act) (ha : Env n σ a) : (execOp a.eval ⟨dst, .call { callee := .value (.func 38), args := #[x0, x1], argTypes := at' }, ty, pos, af, g⟩).run Try.prog w = .ok (.enter 38 #[v0, v1]) w := by
  simp only [execOp, resolve, List.map_toArray, List.map_cons, List.map_nil, ha.eval h0, ha.eval h1]
  simp [go_sem, Act.eval]
theorem cl_36 {x0 : Operand} {v0 : Value} (h0 : evS σ x0 = some v0) (a : Act) (ha : Env n σ a) : (execOp a.eval ⟨dst, .call { callee := .value (.func 36), args := #[x0], argTypes := at' }, ty, pos, af, g⟩).run Try.prog w = .ok (.enter 36 #[v0]) w := by
  simp only [execOp, resolve, List.map_toArray, List.map_cons, List.map_nil, ha.eval h0]
  simp [go_sem, Act.eval]
theorem cl_35 {x0 x1 x2 : Operand} {v0 v1 v2 : Value} (h0 : evS σ x0 = some v0) (h1 : evS σ x1 = some v1) (h2 : evS σ x2 = some v2) (a : Act) (ha : Env n σ a) : (execOp a.eval ⟨dst, .call { callee := .value (.func 35), args := #[x0, x1, x2], argTypes := at' }, ty, pos, af, g⟩).run Try.prog w = .ok (.enter 35 #[v0, v1, v2]) w := by
  simp only [execOp, resolve, List.map_toArray, List.map_cons, List.map_nil, ha.eval h0, ha.eval h1, ha.eval h2]
  simp [go_sem, Act.eval]
theorem cl_39 {x0 x1 x2 x3 : Operand} {v0 v1 v2 v3 : Value} (h0 : evS σ x0 = some v0) (h1 : evS σ x1 = some v1) (h2 : evS σ x2 = some v2) (h3 : evS σ x3 = some v3) (a : Act) (ha : Env n σ a) : (execOp a.eval ⟨dst, .call { callee := .value (.func 39), args := #[x0, x1, x2, x3], argTypes := at' }, ty, pos, af, g⟩).run Try.prog w = .ok (.enter 39 #[v0, v1, v2, v3]) w := by
  simp only [execOp, resolve, List.map_toArray, List.map_cons, List.map_nil, ha.eval h0, ha.eval h1, ha.eval h2, ha.eval h3]
  simp [go_sem, Act.eval]
end
end Go.Proofs.Ytncnlhkmdljgpaa
