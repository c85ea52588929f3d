/- What operations yield, type by type (printed by ty.py). -/
import Derived.Test.YtncnlhkmdljgpaaExA
set_option linter.unusedVariables false
set_option linter.unusedSimpArgs false
namespace Go.Proofs.Ytncnlhkmdljgpaa
open Go Go.RowKit
section
variable {n : Nat} {σ : Sg} {w : World} {dst : Option Tmp} {ty : TypeId} {pos : String} {af : Array Edge} {g : Option (Nat × Bool)} {x y z : Operand} {at' : Array TypeId}
theorem bs_121_2 {x0 x1 : Operand} {z0_0 z1_0 : Int} (h0 : evS σ x0 = some (.int .i64 z0_0)) (h1 : evS σ x1 = some (.int .i64 z1_0)) (a : Act) (ha : Env n σ a) : (execOp a.eval ⟨dst, .buildSlice 121 2 #[(0, x0), (1, x1)], ty, pos, af, g⟩).run Try.prog w = .ok (.value (.slice (some ⟨w.heap.size, 0, none⟩) 2 2)) (w.alloc (.cells #[.int .i64 z0_0, .int .i64 z1_0] 3)) := by
  simp only [execOp, List.map_toArray, List.map_cons, List.map_nil, ha.eval h0, ha.eval h1]
  go_simp
theorem sl_28 {b o m c lo hi r : Nat} (hx : evS σ x = some (.slice (some ⟨b, o, none⟩) m c)) (hl : evS σ y = some (.int .i64 (lo : Int))) (hh : evS σ z = some (.int .i64 (hi : Int))) (h1 : lo ≤ hi) (h2 : hi ≤ c) (hr : (if c = lo then o else o + lo * 2) = r) : Gives Try.prog n σ w ⟨dst, .slice 28 x (some y) (some z) none, ty, pos, af, g⟩ (.slice (some ⟨b, r, none⟩) (hi - lo) (c - lo)) := fun a ha => by
  have k0 : (0 : Int) ≤ (lo : Int) := Int.natCast_nonneg _
  have k1 : (0 : Int) ≤ (hi : Int) := Int.natCast_nonneg _
  have k2 : (lo : Int) ≤ (hi : Int) := by omega
  have k3 : (hi : Int) ≤ (c : Int) := by omega
  subst hr
  simp only [execOp, Option.map_some, Option.map_none, ha.eval hx, ha.eval hl, ha.eval hh]
  by_cases e : c = lo
  · subst e; simp [go_sem, k0, k1, k2, k3, h1, h2]
  · simp [go_sem, k0, k1, k2, k3, h1, h2, e]
theorem fa_141_1 {b o : Nat} (hx : evS σ x = some (.pointer (some ⟨b, o, none⟩))) : Gives Try.prog n σ w ⟨dst, .fieldAddr 141 x 1, ty, pos, af, g⟩ (.pointer (some ⟨b, o + 2, none⟩)) := fun a ha => by
  simp only [execOp, ha.eval hx]
  simp [go_sem]
end
end Go.Proofs.Ytncnlhkmdljgpaa
