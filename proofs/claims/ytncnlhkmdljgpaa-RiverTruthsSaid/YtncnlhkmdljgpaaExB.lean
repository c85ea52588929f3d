/- What operations yield, type by type (printed by ty.py; merged by pack_b.py). -/
import Derived.Test.YtncnlhkmdljgpaaExA
set_option linter.unusedVariables false
set_option linter.unusedSimpArgs false
namespace Go.Proofs.Ytncnlhkmdljgpaa
open Go Go.RowKit
section
variable {n : Nat} {σ : Sg} {w : World} {dst : Option Tmp} {ty : TypeId} {pos : String} {af : Array Edge} {g : Option (Nat × Bool)} {x y z : Operand} {at' : Array TypeId}
theorem ld_54 {b o : Nat} {v0 v1 v2 : Value} (hx : evS σ x = some (.pointer (some ⟨b, o, none⟩))) (c0 : w.cell? ⟨b, o, none⟩ = some v0) (c1 : w.cell? ⟨b, o + 1, none⟩ = some v1) (c2 : w.cell? ⟨b, o + 2, none⟩ = some v2) : Gives Try.prog n σ w ⟨dst, .load 54 x, ty, pos, af, g⟩ (.agg #[v0, v1, v2]) := fun a ha => by
  simp only [execOp, ha.eval hx]
  simp [go_sem, c0, c1, c2]
theorem cl_32 {x0 x1 x2 : Operand} {v0 v1 v2 : Value} (h0 : evS σ x0 = some v0) (h1 : evS σ x1 = some v1) (h2 : evS σ x2 = some v2) (a : Act) (ha : Env n σ a) : (execOp a.eval ⟨dst, .call { callee := .value (.func 32), args := #[x0, x1, x2], argTypes := at' }, ty, pos, af, g⟩).run Try.prog w = .ok (.enter 32 #[v0, v1, v2]) w := by
  simp only [execOp, resolve, List.map_toArray, List.map_cons, List.map_nil, ha.eval h0, ha.eval h1, ha.eval h2]
  simp [go_sem, Act.eval]
theorem cl_34 {x0 : Operand} {v0 : Value} (h0 : evS σ x0 = some v0) (a : Act) (ha : Env n σ a) : (execOp a.eval ⟨dst, .call { callee := .value (.func 34), args := #[x0], argTypes := at' }, ty, pos, af, g⟩).run Try.prog w = .ok (.enter 34 #[v0]) w := by
  simp only [execOp, resolve, List.map_toArray, List.map_cons, List.map_nil, ha.eval h0]
  simp [go_sem, Act.eval]
theorem cl_38 {x0 x1 : Operand} {v0 v1 : Value} (h0 : evS σ x0 = some v0) (h1 : evS σ x1 = some v1) (a : Act) (ha : Env n σ a) : (execOp a.eval ⟨dst, .call { callee := .value (.func 38), args := #[x0, x1], argTypes := at' }, ty, pos, af, g⟩).run Try.prog w = .ok (.enter 38 #[v0, v1]) w := by
  simp only [execOp, resolve, List.map_toArray, List.map_cons, List.map_nil, ha.eval h0, ha.eval h1]
  simp [go_sem, Act.eval]
theorem cl_36 {x0 : Operand} {v0 : Value} (h0 : evS σ x0 = some v0) (a : Act) (ha : Env n σ a) : (execOp a.eval ⟨dst, .call { callee := .value (.func 36), args := #[x0], argTypes := at' }, ty, pos, af, g⟩).run Try.prog w = .ok (.enter 36 #[v0]) w := by
  simp only [execOp, resolve, List.map_toArray, List.map_cons, List.map_nil, ha.eval h0]
  simp [go_sem, Act.eval]
theorem cl_35 {x0 x1 x2 : Operand} {v0 v1 v2 : Value} (h0 : evS σ x0 = some v0) (h1 : evS σ x1 = some v1) (h2 : evS σ x2 = some v2) (a : Act) (ha : Env n σ a) : (execOp a.eval ⟨dst, .call { callee := .value (.func 35), args := #[x0, x1, x2], argTypes := at' }, ty, pos, af, g⟩).run Try.prog w = .ok (.enter 35 #[v0, v1, v2]) w := by
  simp only [execOp, resolve, List.map_toArray, List.map_cons, List.map_nil, ha.eval h0, ha.eval h1, ha.eval h2]
  simp [go_sem, Act.eval]
theorem cl_39 {x0 x1 x2 x3 : Operand} {v0 v1 v2 v3 : Value} (h0 : evS σ x0 = some v0) (h1 : evS σ x1 = some v1) (h2 : evS σ x2 = some v2) (h3 : evS σ x3 = some v3) (a : Act) (ha : Env n σ a) : (execOp a.eval ⟨dst, .call { callee := .value (.func 39), args := #[x0, x1, x2, x3], argTypes := at' }, ty, pos, af, g⟩).run Try.prog w = .ok (.enter 39 #[v0, v1, v2, v3]) w := by
  simp only [execOp, resolve, List.map_toArray, List.map_cons, List.map_nil, ha.eval h0, ha.eval h1, ha.eval h2, ha.eval h3]
  simp [go_sem, Act.eval]
end
end Go.Proofs.Ytncnlhkmdljgpaa
set_option linter.unusedVariables false
set_option linter.unusedSimpArgs false
namespace Go.Proofs.Ytncnlhkmdljgpaa
open Go Go.RowKit
section
variable {n : Nat} {σ : Sg} {w : World} {dst : Option Tmp} {ty : TypeId} {pos : String} {af : Array Edge} {g : Option (Nat × Bool)} {x y z : Operand} {at' : Array TypeId}
theorem bs_121_2 {x0 x1 : Operand} {z0_0 z1_0 : Int} (h0 : evS σ x0 = some (.int .i64 z0_0)) (h1 : evS σ x1 = some (.int .i64 z1_0)) (a : Act) (ha : Env n σ a) : (execOp a.eval ⟨dst, .buildSlice 121 2 #[(0, x0), (1, x1)], ty, pos, af, g⟩).run Try.prog w = .ok (.value (.slice (some ⟨w.heap.size, 0, none⟩) 2 2)) (w.alloc (.cells #[.int .i64 z0_0, .int .i64 z1_0] 3)) := by
  simp only [execOp, List.map_toArray, List.map_cons, List.map_nil, ha.eval h0, ha.eval h1]
  go_simp
theorem sl_28 {b o m c lo hi r : Nat} (hx : evS σ x = some (.slice (some ⟨b, o, none⟩) m c)) (hl : evS σ y = some (.int .i64 (lo : Int))) (hh : evS σ z = some (.int .i64 (hi : Int))) (h1 : lo ≤ hi) (h2 : hi ≤ c) (hr : (if c = lo then o else o + lo * 2) = r) : Gives Try.prog n σ w ⟨dst, .slice 28 x (some y) (some z) none, ty, pos, af, g⟩ (.slice (some ⟨b, r, none⟩) (hi - lo) (c - lo)) := fun a ha => by
  have k0 : (0 : Int) ≤ (lo : Int) := Int.natCast_nonneg _
  have k1 : (0 : Int) ≤ (hi : Int) := Int.natCast_nonneg _
  have k2 : (lo : Int) ≤ (hi : Int) := by omega
  have k3 : (hi : Int) ≤ (c : Int) := by omega
  subst hr
  simp only [execOp, Option.map_some, Option.map_none, ha.eval hx, ha.eval hl, ha.eval hh]
  by_cases e : c = lo
  · subst e; simp [go_sem, k0, k1, k2, k3, h1, h2]
  · simp [go_sem, k0, k1, k2, k3, h1, h2, e]
theorem fa_141_1 {b o : Nat} (hx : evS σ x = some (.pointer (some ⟨b, o, none⟩))) : Gives Try.prog n σ w ⟨dst, .fieldAddr 141 x 1, ty, pos, af, g⟩ (.pointer (some ⟨b, o + 2, none⟩)) := fun a ha => by
  simp only [execOp, ha.eval hx]
  simp [go_sem]
end
end Go.Proofs.Ytncnlhkmdljgpaa
set_option linter.unusedVariables false
set_option linter.unusedSimpArgs false
namespace Go.Proofs.Ytncnlhkmdljgpaa
open Go Go.RowKit
section
variable {n : Nat} {σ : Sg} {w : World} {dst : Option Tmp} {ty : TypeId} {pos : String} {af : Array Edge} {g : Option (Nat × Bool)} {x y z : Operand} {at' : Array TypeId}
theorem bx_80 {v0 v1 v2 : Value} (hx : evS σ x = some (.agg #[v0, v1, v2])) (a : Act) (ha : Env n σ a) : (execOp a.eval ⟨dst, .box 80 x, ty, pos, af, g⟩).run Try.prog w = .ok (.value (.pointer (some ⟨w.heap.size, 0, none⟩))) (w.alloc (.cells #[v0, v1, v2] 80)) := by
  simp only [execOp, ha.eval hx]
  simp [go_sem]
theorem ixa_80 {b o k : Nat} (hx : evS σ x = some (.pointer (some ⟨b, o, none⟩))) (hy : evS σ y = some (.int .i64 (k : Int))) (hk : k < 3) : Gives Try.prog n σ w ⟨dst, .indexAddr 80 x y, ty, pos, af, g⟩ (.pointer (some ⟨b, o + k, none⟩)) := fun a ha => by
  have k0 : (0 : Int) ≤ (k : Int) := Int.natCast_nonneg _
  have k1 : (k : Int) < 3 := by omega
  simp only [execOp, ha.eval hx, ha.eval hy]
  simp [go_sem, k0, k1]
theorem cl_46 {x0 x1 x2 x3 x4 : Operand} {v0 v1 v2 v3 v4 : Value} (h0 : evS σ x0 = some v0) (h1 : evS σ x1 = some v1) (h2 : evS σ x2 = some v2) (h3 : evS σ x3 = some v3) (h4 : evS σ x4 = some v4) (a : Act) (ha : Env n σ a) : (execOp a.eval ⟨dst, .call { callee := .value (.func 46), args := #[x0, x1, x2, x3, x4], argTypes := at' }, ty, pos, af, g⟩).run Try.prog w = .ok (.enter 46 #[v0, v1, v2, v3, v4]) w := by
  simp only [execOp, resolve, List.map_toArray, List.map_cons, List.map_nil, ha.eval h0, ha.eval h1, ha.eval h2, ha.eval h3, ha.eval h4]
  simp [go_sem, Act.eval]
end
end Go.Proofs.Ytncnlhkmdljgpaa
set_option linter.unusedVariables false
set_option linter.unusedSimpArgs false
namespace Go.Proofs.Ytncnlhkmdljgpaa
open Go Go.RowKit
section
variable {n : Nat} {σ : Sg} {w : World} {dst : Option Tmp} {ty : TypeId} {pos : String} {af : Array Edge} {g : Option (Nat × Bool)} {x y z : Operand} {at' : Array TypeId}
end
end Go.Proofs.Ytncnlhkmdljgpaa
set_option linter.unusedVariables false
set_option linter.unusedSimpArgs false
namespace Go.Proofs.Ytncnlhkmdljgpaa
open Go Go.RowKit
section
variable {n : Nat} {σ : Sg} {w : World} {dst : Option Tmp} {ty : TypeId} {pos : String} {af : Array Edge} {g : Option (Nat × Bool)} {x y z : Operand} {at' : Array TypeId}
theorem bx_84 {v0 v1 v2 : Value} (hx : evS σ x = some (.agg #[v0, v1, v2])) (a : Act) (ha : Env n σ a) : (execOp a.eval ⟨dst, .box 84 x, ty, pos, af, g⟩).run Try.prog w = .ok (.value (.pointer (some ⟨w.heap.size, 0, none⟩))) (w.alloc (.cells #[v0, v1, v2] 84)) := by
  simp only [execOp, ha.eval hx]
  simp [go_sem]
theorem cl_44 {x0 : Operand} {v0 : Value} (h0 : evS σ x0 = some v0) (a : Act) (ha : Env n σ a) : (execOp a.eval ⟨dst, .call { callee := .value (.func 44), args := #[x0], argTypes := at' }, ty, pos, af, g⟩).run Try.prog w = .ok (.enter 44 #[v0]) w := by
  simp only [execOp, resolve, List.map_toArray, List.map_cons, List.map_nil, ha.eval h0]
  simp [go_sem, Act.eval]
theorem ixa_84 {b o k : Nat} (hx : evS σ x = some (.pointer (some ⟨b, o, none⟩))) (hy : evS σ y = some (.int .i64 (k : Int))) (hk : k < 3) : Gives Try.prog n σ w ⟨dst, .indexAddr 84 x y, ty, pos, af, g⟩ (.pointer (some ⟨b, o + k, none⟩)) := fun a ha => by
  have k0 : (0 : Int) ≤ (k : Int) := Int.natCast_nonneg _
  have k1 : (k : Int) < 3 := by omega
  simp only [execOp, ha.eval hx, ha.eval hy]
  simp [go_sem, k0, k1]
theorem ld_83 {b o : Nat} {v0 : Value} (hx : evS σ x = some (.pointer (some ⟨b, o, none⟩))) (c0 : w.cell? ⟨b, o, none⟩ = some v0) : Gives Try.prog n σ w ⟨dst, .load 83 x, ty, pos, af, g⟩ (v0) := fun a ha => by
  simp only [execOp, ha.eval hx]
  simp [go_sem, c0]
theorem cv_83_3 {m : Int} (hx : evS σ x = some (.int .u16 m)) (hm : IntKind.i64.wrap m = m) : Gives Try.prog n σ w ⟨dst, .convert 83 3 x, ty, pos, af, g⟩ (.int .i64 m) := fun a ha => by
  simp only [execOp, ha.eval hx]
  simp [go_sem, hm]
end
end Go.Proofs.Ytncnlhkmdljgpaa
set_option linter.unusedVariables false
set_option linter.unusedSimpArgs false
namespace Go.Proofs.Ytncnlhkmdljgpaa
open Go Go.RowKit
section
variable {n : Nat} {σ : Sg} {w : World} {dst : Option Tmp} {ty : TypeId} {pos : String} {af : Array Edge} {g : Option (Nat × Bool)} {x y z : Operand} {at' : Array TypeId}
theorem bx_90 {v0 v1 v2 v3 v4 v5 : Value} (hx : evS σ x = some (.agg #[v0, v1, v2, v3, v4, v5])) (a : Act) (ha : Env n σ a) : (execOp a.eval ⟨dst, .box 90 x, ty, pos, af, g⟩).run Try.prog w = .ok (.value (.pointer (some ⟨w.heap.size, 0, none⟩))) (w.alloc (.cells #[v0, v1, v2, v3, v4, v5] 90)) := by
  simp only [execOp, ha.eval hx]
  simp [go_sem]
theorem fa_90_0 {b o : Nat} (hx : evS σ x = some (.pointer (some ⟨b, o, none⟩))) : Gives Try.prog n σ w ⟨dst, .fieldAddr 90 x 0, ty, pos, af, g⟩ (.pointer (some ⟨b, o, none⟩)) := fun a ha => by
  simp only [execOp, ha.eval hx]
  simp [go_sem]
theorem fa_90_1 {b o : Nat} (hx : evS σ x = some (.pointer (some ⟨b, o, none⟩))) : Gives Try.prog n σ w ⟨dst, .fieldAddr 90 x 1, ty, pos, af, g⟩ (.pointer (some ⟨b, o + 1, none⟩)) := fun a ha => by
  simp only [execOp, ha.eval hx]
  simp [go_sem]
theorem fa_90_2 {b o : Nat} (hx : evS σ x = some (.pointer (some ⟨b, o, none⟩))) : Gives Try.prog n σ w ⟨dst, .fieldAddr 90 x 2, ty, pos, af, g⟩ (.pointer (some ⟨b, o + 2, none⟩)) := fun a ha => by
  simp only [execOp, ha.eval hx]
  simp [go_sem]
theorem fa_90_3 {b o : Nat} (hx : evS σ x = some (.pointer (some ⟨b, o, none⟩))) : Gives Try.prog n σ w ⟨dst, .fieldAddr 90 x 3, ty, pos, af, g⟩ (.pointer (some ⟨b, o + 4, none⟩)) := fun a ha => by
  simp only [execOp, ha.eval hx]
  simp [go_sem]
theorem ln_86 {A : Option Addr} {m c : Nat} (hx : evS σ x = some (.slice A m c)) : Gives Try.prog n σ w ⟨dst, .call { callee := .builtin .len, args := #[x], argTypes := #[86] }, ty, pos, af, g⟩ (.int .i64 (m : Int)) := fun a ha => by
  simp only [execOp, resolve, List.map_toArray, List.map_cons, List.map_nil, ha.eval hx]
  simp [go_sem]
theorem ix_86 {b o m c k : Nat} (hx : evS σ x = some (.slice (some ⟨b, o, none⟩) m c)) (hy : evS σ y = some (.int .i64 (k : Int))) (hk : k < m) : Gives Try.prog n σ w ⟨dst, .indexAddr 86 x y, ty, pos, af, g⟩ (.pointer (some ⟨b, o + k * 6, none⟩)) := fun a ha => by
  have k0 : (0 : Int) ≤ (k : Int) := Int.natCast_nonneg _
  have k1 : (k : Int) < (m : Int) := by omega
  simp only [execOp, ha.eval hx, ha.eval hy]
  simp [go_sem, k0, k1]
theorem ld_90 {b o : Nat} {v0 v1 v2 v3 v4 v5 : Value} (hx : evS σ x = some (.pointer (some ⟨b, o, none⟩))) (c0 : w.cell? ⟨b, o, none⟩ = some v0) (c1 : w.cell? ⟨b, o + 1, none⟩ = some v1) (c2 : w.cell? ⟨b, o + 2, none⟩ = some v2) (c3 : w.cell? ⟨b, o + 3, none⟩ = some v3) (c4 : w.cell? ⟨b, o + 4, none⟩ = some v4) (c5 : w.cell? ⟨b, o + 5, none⟩ = some v5) : Gives Try.prog n σ w ⟨dst, .load 90 x, ty, pos, af, g⟩ (.agg #[v0, v1, v2, v3, v4, v5]) := fun a ha => by
  simp only [execOp, ha.eval hx]
  simp [go_sem, c0, c1, c2, c3, c4, c5]
theorem al_90 (a : Act) (_ : Env n σ a) : (execOp a.eval ⟨dst, .alloc 90, ty, pos, af, g⟩).run Try.prog w = .ok (.value (.pointer (some ⟨w.heap.size, 0, none⟩))) (w.alloc (.cells #[.int .i64 0, .int .i64 0, .int .i64 0, .int .i64 0, .int .i64 0, .int .i64 0] 90)) := by
  simp only [execOp]
  simp [go_sem]
theorem sz_90 : (Try.prog.info? 90).map (·.size) = some 6 := by kernel_rfl
theorem bs_28_2 {x0 x1 : Operand} {v0_0 v0_1 v1_0 v1_1 : Value} (h0 : evS σ x0 = some (.agg #[v0_0, v0_1])) (h1 : evS σ x1 = some (.agg #[v1_0, v1_1]))  (a : Act) (ha : Env n σ a) : (execOp a.eval ⟨dst, .buildSlice 28 2 #[(0, x0), (1, x1)], ty, pos, af, g⟩).run Try.prog w = .ok (.value (.slice (some ⟨w.heap.size, 0, none⟩) 2 2)) (w.alloc (.cells #[v0_0, v0_1, v1_0, v1_1] 23)) := by
  simp only [execOp, List.map_toArray, List.map_cons, List.map_nil, ha.eval h0, ha.eval h1]
  go_simp
theorem fa_129_0 {b o : Nat} (hx : evS σ x = some (.pointer (some ⟨b, o, none⟩))) : Gives Try.prog n σ w ⟨dst, .fieldAddr 129 x 0, ty, pos, af, g⟩ (.pointer (some ⟨b, o, none⟩)) := fun a ha => by
  simp only [execOp, ha.eval hx]
  simp [go_sem]
theorem cl_79 {x0 x1 x2 : Operand} {v0 v1 v2 : Value} (h0 : evS σ x0 = some v0) (h1 : evS σ x1 = some v1) (h2 : evS σ x2 = some v2) (a : Act) (ha : Env n σ a) : (execOp a.eval ⟨dst, .call { callee := .value (.func 79), args := #[x0, x1, x2], argTypes := at' }, ty, pos, af, g⟩).run Try.prog w = .ok (.enter 79 #[v0, v1, v2]) w := by
  simp only [execOp, resolve, List.map_toArray, List.map_cons, List.map_nil, ha.eval h0, ha.eval h1, ha.eval h2]
  simp [go_sem, Act.eval]
end
end Go.Proofs.Ytncnlhkmdljgpaa
set_option linter.unusedVariables false
set_option linter.unusedSimpArgs false
namespace Go.Proofs.Ytncnlhkmdljgpaa
open Go Go.RowKit
section
variable {n : Nat} {σ : Sg} {w : World} {dst : Option Tmp} {ty : TypeId} {pos : String} {af : Array Edge} {g : Option (Nat × Bool)} {x y z : Operand} {at' : Array TypeId}
end
end Go.Proofs.Ytncnlhkmdljgpaa
set_option linter.unusedVariables false
set_option linter.unusedSimpArgs false
namespace Go.Proofs.Ytncnlhkmdljgpaa
open Go Go.RowKit
section
variable {n : Nat} {σ : Sg} {w : World} {dst : Option Tmp} {ty : TypeId} {pos : String} {af : Array Edge} {g : Option (Nat × Bool)} {x y z : Operand} {at' : Array TypeId}
theorem bx_79 {v0 v1 : Value} (hx : evS σ x = some (.agg #[v0, v1])) (a : Act) (ha : Env n σ a) : (execOp a.eval ⟨dst, .box 79 x, ty, pos, af, g⟩).run Try.prog w = .ok (.value (.pointer (some ⟨w.heap.size, 0, none⟩))) (w.alloc (.cells #[v0, v1] 79)) := by
  simp only [execOp, ha.eval hx]
  simp [go_sem]
theorem bs_86_0 (a : Act) (_ : Env n σ a) : (execOp a.eval ⟨dst, .buildSlice 86 0 #[], ty, pos, af, g⟩).run Try.prog w = .ok (.value (.slice (some ⟨w.heap.size, 0, none⟩) 0 0)) (w.alloc (.cells #[] 90)) := by
  simp only [execOp]
  go_simp
theorem ixa_79 {b o k : Nat} (hx : evS σ x = some (.pointer (some ⟨b, o, none⟩))) (hy : evS σ y = some (.int .i64 (k : Int))) (hk : k < 2) : Gives Try.prog n σ w ⟨dst, .indexAddr 79 x y, ty, pos, af, g⟩ (.pointer (some ⟨b, o + k, none⟩)) := fun a ha => by
  have k0 : (0 : Int) ≤ (k : Int) := Int.natCast_nonneg _
  have k1 : (k : Int) < 2 := by omega
  simp only [execOp, ha.eval hx, ha.eval hy]
  simp [go_sem, k0, k1]
theorem cl_48 {x0 x1 x2 x3 x4 : Operand} {v0 v1 v2 v3 v4 : Value} (h0 : evS σ x0 = some v0) (h1 : evS σ x1 = some v1) (h2 : evS σ x2 = some v2) (h3 : evS σ x3 = some v3) (h4 : evS σ x4 = some v4) (a : Act) (ha : Env n σ a) : (execOp a.eval ⟨dst, .call { callee := .value (.func 48), args := #[x0, x1, x2, x3, x4], argTypes := at' }, ty, pos, af, g⟩).run Try.prog w = .ok (.enter 48 #[v0, v1, v2, v3, v4]) w := by
  simp only [execOp, resolve, List.map_toArray, List.map_cons, List.map_nil, ha.eval h0, ha.eval h1, ha.eval h2, ha.eval h3, ha.eval h4]
  simp [go_sem, Act.eval]
theorem neq_90 {a0 a1 a2 a3 a4 a5 b0 b1 b2 b3 b4 b5 : Int} {r : Bool} (hx : evS σ x = some (.agg #[.int .i64 a0, .int .i64 a1, .int .i64 a2, .int .i64 a3, .int .i64 a4, .int .i64 a5])) (hy : evS σ y = some (.agg #[.int .i64 b0, .int .i64 b1, .int .i64 b2, .int .i64 b3, .int .i64 b4, .int .i64 b5])) (hc : decide (¬ (a0 = b0 ∧ a1 = b1 ∧ a2 = b2 ∧ a3 = b3 ∧ a4 = b4 ∧ a5 = b5)) = r) : Gives Try.prog n σ w ⟨dst, .binOp .neq 90 x y 90, ty, pos, af, g⟩ (.bool r) := fun a ha => by
  subst hc
  simp only [execOp, ha.eval hx, ha.eval hy]
  go_simp
  repeat' split
  all_goals simp_all
theorem cl_49 {x0 x1 : Operand} {v0 v1 : Value} (h0 : evS σ x0 = some v0) (h1 : evS σ x1 = some v1) (a : Act) (ha : Env n σ a) : (execOp a.eval ⟨dst, .call { callee := .value (.func 49), args := #[x0, x1], argTypes := at' }, ty, pos, af, g⟩).run Try.prog w = .ok (.enter 49 #[v0, v1]) w := by
  simp only [execOp, resolve, List.map_toArray, List.map_cons, List.map_nil, ha.eval h0, ha.eval h1]
  simp [go_sem, Act.eval]
theorem cl_50 {x0 x1 x2 x3 x4 : Operand} {v0 v1 v2 v3 v4 : Value} (h0 : evS σ x0 = some v0) (h1 : evS σ x1 = some v1) (h2 : evS σ x2 = some v2) (h3 : evS σ x3 = some v3) (h4 : evS σ x4 = some v4) (a : Act) (ha : Env n σ a) : (execOp a.eval ⟨dst, .call { callee := .value (.func 50), args := #[x0, x1, x2, x3, x4], argTypes := at' }, ty, pos, af, g⟩).run Try.prog w = .ok (.enter 50 #[v0, v1, v2, v3, v4]) w := by
  simp only [execOp, resolve, List.map_toArray, List.map_cons, List.map_nil, ha.eval h0, ha.eval h1, ha.eval h2, ha.eval h3, ha.eval h4]
  simp [go_sem, Act.eval]
end
end Go.Proofs.Ytncnlhkmdljgpaa
set_option linter.unusedVariables false
set_option linter.unusedSimpArgs false
namespace Go.Proofs.Ytncnlhkmdljgpaa
open Go Go.RowKit
section
variable {n : Nat} {σ : Sg} {w : World} {dst : Option Tmp} {ty : TypeId} {pos : String} {af : Array Edge} {g : Option (Nat × Bool)} {x y z : Operand} {at' : Array TypeId}
end
end Go.Proofs.Ytncnlhkmdljgpaa
set_option linter.unusedVariables false
set_option linter.unusedSimpArgs false
namespace Go.Proofs.Ytncnlhkmdljgpaa
open Go Go.RowKit
section
variable {n : Nat} {σ : Sg} {w : World} {dst : Option Tmp} {ty : TypeId} {pos : String} {af : Array Edge} {g : Option (Nat × Bool)} {x y z : Operand} {at' : Array TypeId}
theorem cl_41 {x0 x1 : Operand} {v0 v1 : Value} (h0 : evS σ x0 = some v0) (h1 : evS σ x1 = some v1) (a : Act) (ha : Env n σ a) : (execOp a.eval ⟨dst, .call { callee := .value (.func 41), args := #[x0, x1], argTypes := at' }, ty, pos, af, g⟩).run Try.prog w = .ok (.enter 41 #[v0, v1]) w := by
  simp only [execOp, resolve, List.map_toArray, List.map_cons, List.map_nil, ha.eval h0, ha.eval h1]
  simp [go_sem, Act.eval]
theorem cl_42 {x0 x1 : Operand} {v0 v1 : Value} (h0 : evS σ x0 = some v0) (h1 : evS σ x1 = some v1) (a : Act) (ha : Env n σ a) : (execOp a.eval ⟨dst, .call { callee := .value (.func 42), args := #[x0, x1], argTypes := at' }, ty, pos, af, g⟩).run Try.prog w = .ok (.enter 42 #[v0, v1]) w := by
  simp only [execOp, resolve, List.map_toArray, List.map_cons, List.map_nil, ha.eval h0, ha.eval h1]
  simp [go_sem, Act.eval]
theorem cl_43 {x0 x1 : Operand} {v0 v1 : Value} (h0 : evS σ x0 = some v0) (h1 : evS σ x1 = some v1) (a : Act) (ha : Env n σ a) : (execOp a.eval ⟨dst, .call { callee := .value (.func 43), args := #[x0, x1], argTypes := at' }, ty, pos, af, g⟩).run Try.prog w = .ok (.enter 43 #[v0, v1]) w := by
  simp only [execOp, resolve, List.map_toArray, List.map_cons, List.map_nil, ha.eval h0, ha.eval h1]
  simp [go_sem, Act.eval]
end
end Go.Proofs.Ytncnlhkmdljgpaa
set_option linter.unusedVariables false
set_option linter.unusedSimpArgs false
namespace Go.Proofs.Ytncnlhkmdljgpaa
open Go Go.RowKit
section
variable {n : Nat} {σ : Sg} {w : World} {dst : Option Tmp} {ty : TypeId} {pos : String} {af : Array Edge} {g : Option (Nat × Bool)} {x y z : Operand} {at' : Array TypeId}
theorem ln_99 {A : Option Addr} {m c : Nat} (hx : evS σ x = some (.slice A m c)) : Gives Try.prog n σ w ⟨dst, .call { callee := .builtin .len, args := #[x], argTypes := #[99] }, ty, pos, af, g⟩ (.int .i64 (m : Int)) := fun a ha => by
  simp only [execOp, resolve, List.map_toArray, List.map_cons, List.map_nil, ha.eval hx]
  simp [go_sem]
theorem ix_99 {b o m c k : Nat} (hx : evS σ x = some (.slice (some ⟨b, o, none⟩) m c)) (hy : evS σ y = some (.int .i64 (k : Int))) (hk : k < m) : Gives Try.prog n σ w ⟨dst, .indexAddr 99 x y, ty, pos, af, g⟩ (.pointer (some ⟨b, o + k * 3, none⟩)) := fun a ha => by
  have k0 : (0 : Int) ≤ (k : Int) := Int.natCast_nonneg _
  have k1 : (k : Int) < (m : Int) := by omega
  simp only [execOp, ha.eval hx, ha.eval hy]
  simp [go_sem, k0, k1]
theorem ld_101 {b o : Nat} {v0 v1 v2 : Value} (hx : evS σ x = some (.pointer (some ⟨b, o, none⟩))) (c0 : w.cell? ⟨b, o, none⟩ = some v0) (c1 : w.cell? ⟨b, o + 1, none⟩ = some v1) (c2 : w.cell? ⟨b, o + 2, none⟩ = some v2) : Gives Try.prog n σ w ⟨dst, .load 101 x, ty, pos, af, g⟩ (.agg #[v0, v1, v2]) := fun a ha => by
  simp only [execOp, ha.eval hx]
  simp [go_sem, c0, c1, c2]
theorem al_101 (a : Act) (_ : Env n σ a) : (execOp a.eval ⟨dst, .alloc 101, ty, pos, af, g⟩).run Try.prog w = .ok (.value (.pointer (some ⟨w.heap.size, 0, none⟩))) (w.alloc (.cells #[.int .i64 0, .int .i64 0, .int .i64 0] 101)) := by
  simp only [execOp]
  simp [go_sem]
theorem sz_101 : (Try.prog.info? 101).map (·.size) = some 3 := by kernel_rfl
theorem fa_101_0 {b o : Nat} (hx : evS σ x = some (.pointer (some ⟨b, o, none⟩))) : Gives Try.prog n σ w ⟨dst, .fieldAddr 101 x 0, ty, pos, af, g⟩ (.pointer (some ⟨b, o, none⟩)) := fun a ha => by
  simp only [execOp, ha.eval hx]
  simp [go_sem]
theorem fa_101_1 {b o : Nat} (hx : evS σ x = some (.pointer (some ⟨b, o, none⟩))) : Gives Try.prog n σ w ⟨dst, .fieldAddr 101 x 1, ty, pos, af, g⟩ (.pointer (some ⟨b, o + 1, none⟩)) := fun a ha => by
  simp only [execOp, ha.eval hx]
  simp [go_sem]
theorem bs_145_1 {x0 : Operand} {v0_0 v0_1 v0_2 v0_3 v0_4 v0_5 v0_6 v0_7 v0_8 v0_9 v0_10 : Value} (h0 : evS σ x0 = some (.agg #[v0_0, v0_1, v0_2, v0_3, v0_4, v0_5, v0_6, v0_7, v0_8, v0_9, v0_10]))  (a : Act) (ha : Env n σ a) : (execOp a.eval ⟨dst, .buildSlice 145 1 #[(0, x0)], ty, pos, af, g⟩).run Try.prog w = .ok (.value (.slice (some ⟨w.heap.size, 0, none⟩) 1 1)) (w.alloc (.cells #[v0_0, v0_1, v0_2, v0_3, v0_4, v0_5, v0_6, v0_7, v0_8, v0_9, v0_10] 129)) := by
  simp only [execOp, List.map_toArray, List.map_cons, List.map_nil, ha.eval h0]
  go_simp
theorem ix_145 {b o m c k : Nat} (hx : evS σ x = some (.slice (some ⟨b, o, none⟩) m c)) (hy : evS σ y = some (.int .i64 (k : Int))) (hk : k < m) : Gives Try.prog n σ w ⟨dst, .indexAddr 145 x y, ty, pos, af, g⟩ (.pointer (some ⟨b, o + k * 11, none⟩)) := fun a ha => by
  have k0 : (0 : Int) ≤ (k : Int) := Int.natCast_nonneg _
  have k1 : (k : Int) < (m : Int) := by omega
  simp only [execOp, ha.eval hx, ha.eval hy]
  simp [go_sem, k0, k1]
end
end Go.Proofs.Ytncnlhkmdljgpaa
set_option linter.unusedVariables false
set_option linter.unusedSimpArgs false
namespace Go.Proofs.Ytncnlhkmdljgpaa
open Go Go.RowKit
section
variable {n : Nat} {σ : Sg} {w : World} {dst : Option Tmp} {ty : TypeId} {pos : String} {af : Array Edge} {g : Option (Nat × Bool)} {x y z : Operand} {at' : Array TypeId}
theorem mm_min {p q r : Int} (hx : evS σ x = some (.int .i64 p)) (hy : evS σ y = some (.int .i64 q)) (hr : min p q = r) : Gives Try.prog n σ w ⟨dst, .call { callee := .builtin .min, args := #[x, y], argTypes := at' }, ty, pos, af, g⟩ (.int .i64 r) := fun a ha => by
  simp only [execOp, resolve, List.map_toArray, List.map_cons, List.map_nil, ha.eval hx, ha.eval hy]
  subst hr
  simp [go_sem, Int.min_def]
  split <;> split <;> omega
theorem bs_99_0 (a : Act) (_ : Env n σ a) : (execOp a.eval ⟨dst, .buildSlice 99 0 #[], ty, pos, af, g⟩).run Try.prog w = .ok (.value (.slice (some ⟨w.heap.size, 0, none⟩) 0 0)) (w.alloc (.cells #[] 101)) := by
  simp only [execOp]
  go_simp
theorem cl_51 {x0 x1 x2 : Operand} {v0 v1 v2 : Value} (h0 : evS σ x0 = some v0) (h1 : evS σ x1 = some v1) (h2 : evS σ x2 = some v2) (a : Act) (ha : Env n σ a) : (execOp a.eval ⟨dst, .call { callee := .value (.func 51), args := #[x0, x1, x2], argTypes := at' }, ty, pos, af, g⟩).run Try.prog w = .ok (.enter 51 #[v0, v1, v2]) w := by
  simp only [execOp, resolve, List.map_toArray, List.map_cons, List.map_nil, ha.eval h0, ha.eval h1, ha.eval h2]
  simp [go_sem, Act.eval]
theorem neq_101 {a0 a1 a2 b0 b1 b2 : Int} {r : Bool} (hx : evS σ x = some (.agg #[.int .i64 a0, .int .i64 a1, .int .i64 a2])) (hy : evS σ y = some (.agg #[.int .i64 b0, .int .i64 b1, .int .i64 b2])) (hc : decide (¬ (a0 = b0 ∧ a1 = b1 ∧ a2 = b2)) = r) : Gives Try.prog n σ w ⟨dst, .binOp .neq 101 x y 101, ty, pos, af, g⟩ (.bool r) := fun a ha => by
  subst hc
  simp only [execOp, ha.eval hx, ha.eval hy]
  go_simp
  repeat' split
  all_goals simp_all
theorem cl_52 {x0 x1 x2 : Operand} {v0 v1 v2 : Value} (h0 : evS σ x0 = some v0) (h1 : evS σ x1 = some v1) (h2 : evS σ x2 = some v2) (a : Act) (ha : Env n σ a) : (execOp a.eval ⟨dst, .call { callee := .value (.func 52), args := #[x0, x1, x2], argTypes := at' }, ty, pos, af, g⟩).run Try.prog w = .ok (.enter 52 #[v0, v1, v2]) w := by
  simp only [execOp, resolve, List.map_toArray, List.map_cons, List.map_nil, ha.eval h0, ha.eval h1, ha.eval h2]
  simp [go_sem, Act.eval]
theorem cl_53 {x0 x1 x2 : Operand} {v0 v1 v2 : Value} (h0 : evS σ x0 = some v0) (h1 : evS σ x1 = some v1) (h2 : evS σ x2 = some v2) (a : Act) (ha : Env n σ a) : (execOp a.eval ⟨dst, .call { callee := .value (.func 53), args := #[x0, x1, x2], argTypes := at' }, ty, pos, af, g⟩).run Try.prog w = .ok (.enter 53 #[v0, v1, v2]) w := by
  simp only [execOp, resolve, List.map_toArray, List.map_cons, List.map_nil, ha.eval h0, ha.eval h1, ha.eval h2]
  simp [go_sem, Act.eval]
end
end Go.Proofs.Ytncnlhkmdljgpaa
