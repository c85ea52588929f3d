/- What operations yield, type by type (printed by ty.py). -/
import Derived.Test.YtncnlhkmdljgpaaExR
set_option linter.unusedVariables false
set_option linter.unusedSimpArgs false
namespace Go.Proofs.Ytncnlhkmdljgpaa
open Go Go.RowKit
section
variable {n : Nat} {σ : Sg} {w : World} {dst : Option Tmp} {ty : TypeId} {pos : String} {af : Array Edge} {g : Option (Nat × Bool)} {x y z : Operand} {at' : Array TypeId}
theorem bx_47 {v0 v1 : Value} (hx : evS σ x = some (.agg #[v0, v1])) (a : Act) (ha : Env n σ a) : (execOp a.eval ⟨dst, .box 47 x, ty, pos, af, g⟩).run Try.prog w = .ok (.value (.pointer (some ⟨w.heap.size, 0, none⟩))) (w.alloc (.cells #[v0, v1] 47)) := by
  simp only [execOp, ha.eval hx]
  simp [go_sem]
theorem al_129 (a : Act) (_ : Env n σ a) : (execOp a.eval ⟨dst, .alloc 129, ty, pos, af, g⟩).run Try.prog w = .ok (.value (.pointer (some ⟨w.heap.size, 0, none⟩))) (w.alloc (.cells #[.int .i64 0, .int .i64 0, .int .i64 0, .int .i64 0, .slice none 0 0, .int .i64 0, .int .i64 0, .int .i64 0, .int .i64 0, .int .i64 0, .slice none 0 0] 129)) := by
  simp only [execOp]
  simp [go_sem]
theorem ld_47 {b o : Nat} {v0 v1 : Value} (hx : evS σ x = some (.pointer (some ⟨b, o, none⟩))) (c0 : w.cell? ⟨b, o, none⟩ = some v0) (c1 : w.cell? ⟨b, o + 1, none⟩ = some v1) : Gives Try.prog n σ w ⟨dst, .load 47 x, ty, pos, af, g⟩ (.agg #[v0, v1]) := fun a ha => by
  simp only [execOp, ha.eval hx]
  simp [go_sem, c0, c1]
theorem cl_68 {x0 : Operand} {v0 : Value} (h0 : evS σ x0 = some v0) (a : Act) (ha : Env n σ a) : (execOp a.eval ⟨dst, .call { callee := .value (.func 68), args := #[x0], argTypes := at' }, ty, pos, af, g⟩).run Try.prog w = .ok (.enter 68 #[v0]) w := by
  simp only [execOp, resolve, List.map_toArray, List.map_cons, List.map_nil, ha.eval h0]
  simp [go_sem, Act.eval]
theorem bs_121_1 {x0 : Operand} {z0_0 : Int} (h0 : evS σ x0 = some (.int .i64 z0_0)) (a : Act) (ha : Env n σ a) : (execOp a.eval ⟨dst, .buildSlice 121 1 #[(0, x0)], ty, pos, af, g⟩).run Try.prog w = .ok (.value (.slice (some ⟨w.heap.size, 0, none⟩) 1 1)) (w.alloc (.cells #[.int .i64 z0_0] 3)) := by
  simp only [execOp, List.map_toArray, List.map_cons, List.map_nil, ha.eval h0]
  go_simp
theorem cl_57 {x0 x1 x2 : Operand} {v0 v1 v2 : Value} (h0 : evS σ x0 = some v0) (h1 : evS σ x1 = some v1) (h2 : evS σ x2 = some v2) (a : Act) (ha : Env n σ a) : (execOp a.eval ⟨dst, .call { callee := .value (.func 57), args := #[x0, x1, x2], argTypes := at' }, ty, pos, af, g⟩).run Try.prog w = .ok (.enter 57 #[v0, v1, v2]) w := by
  simp only [execOp, resolve, List.map_toArray, List.map_cons, List.map_nil, ha.eval h0, ha.eval h1, ha.eval h2]
  simp [go_sem, Act.eval]
theorem sz_129 : (Try.prog.info? 129).map (·.size) = some 11 := by kernel_rfl
theorem lv_129 {b o : Nat} {v0 v1 v2 v3 v4 v5 v6 v7 v8 v9 v10 : Value} (c0 : w.cell? ⟨b, o, none⟩ = some v0) (c1 : w.cell? ⟨b, o + 1, none⟩ = some v1) (c2 : w.cell? ⟨b, o + 2, none⟩ = some v2) (c3 : w.cell? ⟨b, o + 3, none⟩ = some v3) (c4 : w.cell? ⟨b, o + 4, none⟩ = some v4) (c5 : w.cell? ⟨b, o + 5, none⟩ = some v5) (c6 : w.cell? ⟨b, o + 6, none⟩ = some v6) (c7 : w.cell? ⟨b, o + 7, none⟩ = some v7) (c8 : w.cell? ⟨b, o + 8, none⟩ = some v8) (c9 : w.cell? ⟨b, o + 9, none⟩ = some v9) (c10 : w.cell? ⟨b, o + 10, none⟩ = some v10) : (loadVar 129 ⟨b, o, none⟩).run Try.prog w = .ok (.agg #[v0, v1, v2, v3, v4, v5, v6, v7, v8, v9, v10]) w := by
  simp [go_sem, loadVar, c0, c1, c2, c3, c4, c5, c6, c7, c8, c9, c10]
theorem fa_141_0 {b o : Nat} (hx : evS σ x = some (.pointer (some ⟨b, o, none⟩))) : Gives Try.prog n σ w ⟨dst, .fieldAddr 141 x 0, ty, pos, af, g⟩ (.pointer (some ⟨b, o, none⟩)) := fun a ha => by
  simp only [execOp, ha.eval hx]
  simp [go_sem]
theorem cl_71 {x0 x1 : Operand} {v0 v1 : Value} (h0 : evS σ x0 = some v0) (h1 : evS σ x1 = some v1) (a : Act) (ha : Env n σ a) : (execOp a.eval ⟨dst, .call { callee := .value (.func 71), args := #[x0, x1], argTypes := at' }, ty, pos, af, g⟩).run Try.prog w = .ok (.enter 71 #[v0, v1]) w := by
  simp only [execOp, resolve, List.map_toArray, List.map_cons, List.map_nil, ha.eval h0, ha.eval h1]
  simp [go_sem, Act.eval]
theorem cl_77 {x0 : Operand} {v0 : Value} (h0 : evS σ x0 = some v0) (a : Act) (ha : Env n σ a) : (execOp a.eval ⟨dst, .call { callee := .value (.func 77), args := #[x0], argTypes := at' }, ty, pos, af, g⟩).run Try.prog w = .ok (.enter 77 #[v0]) w := by
  simp only [execOp, resolve, List.map_toArray, List.map_cons, List.map_nil, ha.eval h0]
  simp [go_sem, Act.eval]
theorem cl_73 {x0 x1 : Operand} {v0 v1 : Value} (h0 : evS σ x0 = some v0) (h1 : evS σ x1 = some v1) (a : Act) (ha : Env n σ a) : (execOp a.eval ⟨dst, .call { callee := .value (.func 73), args := #[x0, x1], argTypes := at' }, ty, pos, af, g⟩).run Try.prog w = .ok (.enter 73 #[v0, v1]) w := by
  simp only [execOp, resolve, List.map_toArray, List.map_cons, List.map_nil, ha.eval h0, ha.eval h1]
  simp [go_sem, Act.eval]
theorem bd_23_    : Gives Try.prog n σ w ⟨dst, .build 23 #[], ty, pos, af, g⟩ (.agg #[.int .i64 0, .int .i64 0]) := fun a _ => by
  simp only [execOp, List.map_toArray, List.map_nil]
  go_simp
theorem cl_74 {x0 x1 x2 : Operand} {v0 v1 v2 : Value} (h0 : evS σ x0 = some v0) (h1 : evS σ x1 = some v1) (h2 : evS σ x2 = some v2) (a : Act) (ha : Env n σ a) : (execOp a.eval ⟨dst, .call { callee := .value (.func 74), args := #[x0, x1, x2], argTypes := at' }, ty, pos, af, g⟩).run Try.prog w = .ok (.enter 74 #[v0, v1, v2]) w := by
  simp only [execOp, resolve, List.map_toArray, List.map_cons, List.map_nil, ha.eval h0, ha.eval h1, ha.eval h2]
  simp [go_sem, Act.eval]
theorem cl_75 {x0 x1 x2 : Operand} {v0 v1 v2 : Value} (h0 : evS σ x0 = some v0) (h1 : evS σ x1 = some v1) (h2 : evS σ x2 = some v2) (a : Act) (ha : Env n σ a) : (execOp a.eval ⟨dst, .call { callee := .value (.func 75), args := #[x0, x1, x2], argTypes := at' }, ty, pos, af, g⟩).run Try.prog w = .ok (.enter 75 #[v0, v1, v2]) w := by
  simp only [execOp, resolve, List.map_toArray, List.map_cons, List.map_nil, ha.eval h0, ha.eval h1, ha.eval h2]
  simp [go_sem, Act.eval]
end
end Go.Proofs.Ytncnlhkmdljgpaa
