/- What operations yield, type by type (printed by ty.py). -/
import Derived.Test.YtncnlhkmdljgpaaExR20
set_option linter.unusedVariables false
set_option linter.unusedSimpArgs false
namespace Go.Proofs.Ytncnlhkmdljgpaa
open Go Go.RowKit
section
variable {n : Nat} {σ : Sg} {w : World} {dst : Option Tmp} {ty : TypeId} {pos : String} {af : Array Edge} {g : Option (Nat × Bool)} {x y z : Operand} {at' : Array TypeId}
theorem bx_90 {v0 v1 v2 v3 v4 v5 : Value} (hx : evS σ x = some (.agg #[v0, v1, v2, v3, v4, v5])) (a : Act) (ha : Env n σ a) : (execOp a.eval ⟨dst, .box 90 x, ty, pos, af, g⟩).run Try.prog w = .ok (.value (.pointer (some ⟨w.heap.size, 0, none⟩))) (w.alloc (.cells #[v0, v1, v2, v3, v4, v5] 90)) := by
  simp only [execOp, ha.eval hx]
  simp [go_sem]
theorem fa_90_0 {b o : Nat} (hx : evS σ x = some (.pointer (some ⟨b, o, none⟩))) : Gives Try.prog n σ w ⟨dst, .fieldAddr 90 x 0, ty, pos, af, g⟩ (.pointer (some ⟨b, o, none⟩)) := fun a ha => by
  simp only [execOp, ha.eval hx]
  simp [go_sem]
theorem fa_90_1 {b o : Nat} (hx : evS σ x = some (.pointer (some ⟨b, o, none⟩))) : Gives Try.prog n σ w ⟨dst, .fieldAddr 90 x 1, ty, pos, af, g⟩ (.pointer (some ⟨b, o + 1, none⟩)) := fun a ha => by
  simp only [execOp, ha.eval hx]
  simp [go_sem]
theorem fa_90_2 {b o : Nat} (hx : evS σ x = some (.pointer (some ⟨b, o, none⟩))) : Gives Try.prog n σ w ⟨dst, .fieldAddr 90 x 2, ty, pos, af, g⟩ (.pointer (some ⟨b, o + 2, none⟩)) := fun a ha => by
  simp only [execOp, ha.eval hx]
  simp [go_sem]
theorem fa_90_3 {b o : Nat} (hx : evS σ x = some (.pointer (some ⟨b, o, none⟩))) : Gives Try.prog n σ w ⟨dst, .fieldAddr 90 x 3, ty, pos, af, g⟩ (.pointer (some ⟨b, o + 4, none⟩)) := fun a ha => by
  simp only [execOp, ha.eval hx]
  simp [go_sem]
theorem ln_86 {A : Option Addr} {m c : Nat} (hx : evS σ x = some (.slice A m c)) : Gives Try.prog n σ w ⟨dst, .call { callee := .builtin .len, args := #[x], argTypes := #[86] }, ty, pos, af, g⟩ (.int .i64 (m : Int)) := fun a ha => by
  simp only [execOp, resolve, List.map_toArray, List.map_cons, List.map_nil, ha.eval hx]
  simp [go_sem]
theorem ix_86 {b o m c k : Nat} (hx : evS σ x = some (.slice (some ⟨b, o, none⟩) m c)) (hy : evS σ y = some (.int .i64 (k : Int))) (hk : k < m) : Gives Try.prog n σ w ⟨dst, .indexAddr 86 x y, ty, pos, af, g⟩ (.pointer (some ⟨b, o + k * 6, none⟩)) := fun a ha => by
  have k0 : (0 : Int) ≤ (k : Int) := Int.natCast_nonneg _
  have k1 : (k : Int) < (m : Int) := by omega
  simp only [execOp, ha.eval hx, ha.eval hy]
  simp [go_sem, k0, k1]
theorem ld_90 {b o : Nat} {v0 v1 v2 v3 v4 v5 : Value} (hx : evS σ x = some (.pointer (some ⟨b, o, none⟩))) (c0 : w.cell? ⟨b, o, none⟩ = some v0) (c1 : w.cell? ⟨b, o + 1, none⟩ = some v1) (c2 : w.cell? ⟨b, o + 2, none⟩ = some v2) (c3 : w.cell? ⟨b, o + 3, none⟩ = some v3) (c4 : w.cell? ⟨b, o + 4, none⟩ = some v4) (c5 : w.cell? ⟨b, o + 5, none⟩ = some v5) : Gives Try.prog n σ w ⟨dst, .load 90 x, ty, pos, af, g⟩ (.agg #[v0, v1, v2, v3, v4, v5]) := fun a ha => by
  simp only [execOp, ha.eval hx]
  simp [go_sem, c0, c1, c2, c3, c4, c5]
theorem al_90 (a : Act) (_ : Env n σ a) : (execOp a.eval ⟨dst, .alloc 90, ty, pos, af, g⟩).run Try.prog w = .ok (.value (.pointer (some ⟨w.heap.size, 0, none⟩))) (w.alloc (.cells #[.int .i64 0, .int .i64 0, .int .i64 0, .int .i64 0, .int .i64 0, .int .i64 0] 90)) := by
  simp only [execOp]
  simp [go_sem]
theorem sz_90 : (Try.prog.info? 90).map (·.size) = some 6 := by kernel_rfl
theorem bs_28_2 {x0 x1 : Operand} {v0_0 v0_1 v1_0 v1_1 : Value} (h0 : evS σ x0 = some (.agg #[v0_0, v0_1])) (h1 : evS σ x1 = some (.agg #[v1_0, v1_1]))  (a : Act) (ha : Env n σ a) : (execOp a.eval ⟨dst, .buildSlice 28 2 #[(0, x0), (1, x1)], ty, pos, af, g⟩).run Try.prog w = .ok (.value (.slice (some ⟨w.heap.size, 0, none⟩) 2 2)) (w.alloc (.cells #[v0_0, v0_1, v1_0, v1_1] 23)) := by
  simp only [execOp, List.map_toArray, List.map_cons, List.map_nil, ha.eval h0, ha.eval h1]
  go_simp
theorem fa_129_0 {b o : Nat} (hx : evS σ x = some (.pointer (some ⟨b, o, none⟩))) : Gives Try.prog n σ w ⟨dst, .fieldAddr 129 x 0, ty, pos, af, g⟩ (.pointer (some ⟨b, o, none⟩)) := fun a ha => by
  simp only [execOp, ha.eval hx]
  simp [go_sem]
theorem cl_79 {x0 x1 x2 : Operand} {v0 v1 v2 : Value} (h0 : evS σ x0 = some v0) (h1 : evS σ x1 = some v1) (h2 : evS σ x2 = some v2) (a : Act) (ha : Env n σ a) : (execOp a.eval ⟨dst, .call { callee := .value (.func 79), args := #[x0, x1, x2], argTypes := at' }, ty, pos, af, g⟩).run Try.prog w = .ok (.enter 79 #[v0, v1, v2]) w := by
  simp only [execOp, resolve, List.map_toArray, List.map_cons, List.map_nil, ha.eval h0, ha.eval h1, ha.eval h2]
  simp [go_sem, Act.eval]
end
end Go.Proofs.Ytncnlhkmdljgpaa
