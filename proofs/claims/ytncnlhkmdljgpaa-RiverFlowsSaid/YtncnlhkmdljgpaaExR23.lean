/- What operations yield, type by type (printed by ty.py). -/
import Derived.Test.YtncnlhkmdljgpaaExR22
set_option linter.unusedVariables false
set_option linter.unusedSimpArgs false
namespace Go.Proofs.Ytncnlhkmdljgpaa
open Go Go.RowKit
section
variable {n : Nat} {σ : Sg} {w : World} {dst : Option Tmp} {ty : TypeId} {pos : String} {af : Array Edge} {g : Option (Nat × Bool)} {x y z : Operand} {at' : Array TypeId}
theorem bx_79 {v0 v1 : Value} (hx : evS σ x = some (.agg #[v0, v1])) (a : Act) (ha : Env n σ a) : (execOp a.eval ⟨dst, .box 79 x, ty, pos, af, g⟩).run Try.prog w = .ok (.value (.pointer (some ⟨w.heap.size, 0, none⟩))) (w.alloc (.cells #[v0, v1] 79)) := by
  simp only [execOp, ha.eval hx]
  simp [go_sem]
theorem bs_86_0 (a : Act) (_ : Env n σ a) : (execOp a.eval ⟨dst, .buildSlice 86 0 #[], ty, pos, af, g⟩).run Try.prog w = .ok (.value (.slice (some ⟨w.heap.size, 0, none⟩) 0 0)) (w.alloc (.cells #[] 90)) := by
  simp only [execOp]
  go_simp
theorem ixa_79 {b o k : Nat} (hx : evS σ x = some (.pointer (some ⟨b, o, none⟩))) (hy : evS σ y = some (.int .i64 (k : Int))) (hk : k < 2) : Gives Try.prog n σ w ⟨dst, .indexAddr 79 x y, ty, pos, af, g⟩ (.pointer (some ⟨b, o + k, none⟩)) := fun a ha => by
  have k0 : (0 : Int) ≤ (k : Int) := Int.natCast_nonneg _
  have k1 : (k : Int) < 2 := by omega
  simp only [execOp, ha.eval hx, ha.eval hy]
  simp [go_sem, k0, k1]
theorem cl_48 {x0 x1 x2 x3 x4 : Operand} {v0 v1 v2 v3 v4 : Value} (h0 : evS σ x0 = some v0) (h1 : evS σ x1 = some v1) (h2 : evS σ x2 = some v2) (h3 : evS σ x3 = some v3) (h4 : evS σ x4 = some v4) (a : Act) (ha : Env n σ a) : (execOp a.eval ⟨dst, .call { callee := .value (.func 48), args := #[x0, x1, x2, x3, x4], argTypes := at' }, ty, pos, af, g⟩).run Try.prog w = .ok (.enter 48 #[v0, v1, v2, v3, v4]) w := by
  simp only [execOp, resolve, List.map_toArray, List.map_cons, List.map_nil, ha.eval h0, ha.eval h1, ha.eval h2, ha.eval h3, ha.eval h4]
  simp [go_sem, Act.eval]
theorem neq_90 {a0 a1 a2 a3 a4 a5 b0 b1 b2 b3 b4 b5 : Int} {r : Bool} (hx : evS σ x = some (.agg #[.int .i64 a0, .int .i64 a1, .int .i64 a2, .int .i64 a3, .int .i64 a4, .int .i64 a5])) (hy : evS σ y = some (.agg #[.int .i64 b0, .int .i64 b1, .int .i64 b2, .int .i64 b3, .int .i64 b4, .int .i64 b5])) (hc : decide (¬ (a0 = b0 ∧ a1 = b1 ∧ a2 = b2 ∧ a3 = b3 ∧ a4 = b4 ∧ a5 = b5)) = r) : Gives Try.prog n σ w ⟨dst, .binOp .neq 90 x y 90, ty, pos, af, g⟩ (.bool r) := fun a ha => by
  subst hc
  simp only [execOp, ha.eval hx, ha.eval hy]
  go_simp
  repeat' split
  all_goals simp_all
theorem cl_49 {x0 x1 : Operand} {v0 v1 : Value} (h0 : evS σ x0 = some v0) (h1 : evS σ x1 = some v1) (a : Act) (ha : Env n σ a) : (execOp a.eval ⟨dst, .call { callee := .value (.func 49), args := #[x0, x1], argTypes := at' }, ty, pos, af, g⟩).run Try.prog w = .ok (.enter 49 #[v0, v1]) w := by
  simp only [execOp, resolve, List.map_toArray, List.map_cons, List.map_nil, ha.eval h0, ha.eval h1]
  simp [go_sem, Act.eval]
theorem cl_50 {x0 x1 x2 x3 x4 : Operand} {v0 v1 v2 v3 v4 : Value} (h0 : evS σ x0 = some v0) (h1 : evS σ x1 = some v1) (h2 : evS σ x2 = some v2) (h3 : evS σ x3 = some v3) (h4 : evS σ x4 = some v4) (a : Act) (ha : Env n σ a) : (execOp a.eval ⟨dst, .call { callee := .value (.func 50), args := #[x0, x1, x2, x3, x4], argTypes := at' }, ty, pos, af, g⟩).run Try.prog w = .ok (.enter 50 #[v0, v1, v2, v3, v4]) w := by
  simp only [execOp, resolve, List.map_toArray, List.map_cons, List.map_nil, ha.eval h0, ha.eval h1, ha.eval h2, ha.eval h3, ha.eval h4]
  simp [go_sem, Act.eval]
end
end Go.Proofs.Ytncnlhkmdljgpaa
