/- What operations yield, type by type (printed by ty.py). -/
import Derived.Test.YtncnlhkmdljgpaaExR29
set_option linter.unusedVariables false
set_option linter.unusedSimpArgs false
namespace Go.Proofs.Ytncnlhkmdljgpaa
open Go Go.RowKit
section
variable {n : Nat} {σ : Sg} {w : World} {dst : Option Tmp} {ty : TypeId} {pos : String} {af : Array Edge} {g : Option (Nat × Bool)} {x y z : Operand} {at' : Array TypeId}
theorem al_54 (a : Act) (_ : Env n σ a) : (execOp a.eval ⟨dst, .alloc 54, ty, pos, af, g⟩).run Try.prog w = .ok (.value (.pointer (some ⟨w.heap.size, 0, none⟩))) (w.alloc (.cells #[.slice none 0 0, .slice none 0 0, .slice none 0 0] 54)) := by
  simp only [execOp]
  simp [go_sem]
theorem bd_54_0_1 {x0 x1 : Operand} {v0_0 : Value} {v0_1 : Value} {A1 : Option Addr} {m1 : Nat} {c1 : Nat} (h0 : evS σ x0 = some (.agg #[v0_0, v0_1])) (h1 : evS σ x1 = some (.slice A1 m1 c1)) : Gives Try.prog n σ w ⟨dst, .build 54 #[(0, x0), (1, x1)], ty, pos, af, g⟩ (.agg #[v0_0, v0_1, .slice A1 m1 c1]) := fun a ha => by
  simp only [execOp, List.map_toArray, List.map_cons, List.map_nil, ha.eval h0, ha.eval h1]
  go_simp
theorem sz_54 : (Try.prog.info? 54).map (·.size) = some 3 := by kernel_rfl
theorem lv_54 {b o : Nat} {v0 v1 v2 : Value} (c0 : w.cell? ⟨b, o, none⟩ = some v0) (c1 : w.cell? ⟨b, o + 1, none⟩ = some v1) (c2 : w.cell? ⟨b, o + 2, none⟩ = some v2) : (loadVar 54 ⟨b, o, none⟩).run Try.prog w = .ok (.agg #[v0, v1, v2]) w := by
  simp [go_sem, loadVar, c0, c1, c2]
end
end Go.Proofs.Ytncnlhkmdljgpaa
