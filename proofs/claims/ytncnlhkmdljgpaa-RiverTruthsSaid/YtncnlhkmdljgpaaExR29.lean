/- What operations yield, type by type (printed by ty.py). -/
import Derived.Test.YtncnlhkmdljgpaaExR28
set_option linter.unusedVariables false
set_option linter.unusedSimpArgs false
namespace Go.Proofs.Ytncnlhkmdljgpaa
open Go Go.RowKit
section
variable {n : Nat} {σ : Sg} {w : World} {dst : Option Tmp} {ty : TypeId} {pos : String} {af : Array Edge} {g : Option (Nat × Bool)} {x y z : Operand} {at' : Array TypeId}
theorem slh_99 {b o m c hi : Nat} (hx : evS σ x = some (.slice (some ⟨b, o, none⟩) m c)) (hh : evS σ y = some (.int .i64 (hi : Int))) (h2 : hi ≤ c) : Gives Try.prog n σ w ⟨dst, .slice 99 x none (some y) none, ty, pos, af, g⟩ (.slice (some ⟨b, o, none⟩) hi c) := fun a ha => by
  have k1 : (0 : Int) ≤ (hi : Int) := Int.natCast_nonneg _
  have k3 : (hi : Int) ≤ (c : Int) := by omega
  simp only [execOp, Option.map_some, Option.map_none, ha.eval hx, ha.eval hh]
  by_cases e : c = 0
  · subst e; obtain rfl : hi = 0 := by omega
    simp [go_sem]
  · simp [go_sem, k1, k3, h2, e]
theorem sll_99 {b o m c lo r : Nat} (hx : evS σ x = some (.slice (some ⟨b, o, none⟩) m c)) (hl : evS σ y = some (.int .i64 (lo : Int))) (h1 : lo ≤ m) (hr : (if c = lo then o else o + lo * 3) = r) : Gives Try.prog n σ w ⟨dst, .slice 99 x (some y) none none, ty, pos, af, g⟩ (.slice (some ⟨b, r, none⟩) (m - lo) (c - lo)) := fun a ha => by
  have k0 : (0 : Int) ≤ (lo : Int) := Int.natCast_nonneg _
  have k2 : (lo : Int) ≤ (m : Int) := by omega
  subst hr
  simp only [execOp, Option.map_some, Option.map_none, ha.eval hx, ha.eval hl]
  by_cases e : c = lo
  · subst e; simp [go_sem, k0, k2, h1]
  · simp [go_sem, k0, k2, h1, e]
theorem cl_54 {x0 x1 : Operand} {v0 v1 : Value} (h0 : evS σ x0 = some v0) (h1 : evS σ x1 = some v1) (a : Act) (ha : Env n σ a) : (execOp a.eval ⟨dst, .call { callee := .value (.func 54), args := #[x0, x1], argTypes := at' }, ty, pos, af, g⟩).run Try.prog w = .ok (.enter 54 #[v0, v1]) w := by
  simp only [execOp, resolve, List.map_toArray, List.map_cons, List.map_nil, ha.eval h0, ha.eval h1]
  simp [go_sem, Act.eval]
end
end Go.Proofs.Ytncnlhkmdljgpaa
