/- The program's spans: it hands every pair of soundings, in order. -/
import Derived.Test.YtkbfdgacnoadlaaRange
import Derived.Test.YtkbfdgacnoadlaaMissMath
import Derived.RangeFuncCalls
import Derived.RangeFuncLeaves
import Derived.Shelf.Abstract
import Derived.Shelf.RegionOpen
import Derived.WalkKit
import Derived.OwnWalkIn
import Derived.TacticsInMore
import Derived.LoopNIn
import Derived.LoopIn
namespace Go.Proofs.Ytkbfdgacnoadlaa
open Go Go.RowKit Go.Shelf
attribute [local go_sem] Oper.semAt_some

/-- what stood at the tank's first cell stands there -/
def Kt (g : Nat) (W W' : World) : Prop := ∀ v, W.cell? ⟨g, 0, none⟩ = some v → W'.cell? ⟨g, 0, none⟩ = some v
def rowN (k q : Nat) : List (Nat × Nat) := (List.range q).map fun q => (k, k + 1 + q)
theorem rowN_succ (k q : Nat) : rowN k (q + 1) = rowN k q ++ [(k, k + 1 + q)] := by simp [rowN, List.range_succ]
theorem pairsTo_succ (n k : Nat) : pairsTo n (k + 1) = pairsTo n k ++ rowN k (n - (k + 1)) := by simp [pairsTo, pairsRow, rowN, List.range_succ]

set_option maxRecDepth 100000 in
set_option maxHeartbeats 4000000 in
theorem spans_gives (F : Fence) (n : Nat) (hf : F.fn 54) (hro : F.round = none) (hn : 1 ≤ n) (g N c : Nat) (A : Option Addr) (hN : N ≤ 100) (w : World) (hc0 : w.cell? ⟨g, 0, none⟩ = some (.slice A N c)) :
    GivesM F n Try.prog 54 (.pointer (some ⟨g, 0, none⟩)) (fun p : Nat × Nat => #[Value.int .i64 (p.1 : Int), Value.int .i64 (p.2 : Int)]) (fun p => p.1 < p.2 ∧ p.2 < N) (Kt g) (fun xs => xs = pairsTo N N) w := fun l J W hW _ hY h0 => by
  have hc := hW _ hc0
  refine callsIn_of_wp Try.func54 rfl hf ?_ hro
  simp only [Try.ntmps54, List.size_toArray, List.length_cons, List.length_nil, Nat.reduceAdd, Nat.reduceSub, Array.replicate_succ, Array.replicate_zero, List.push_toArray, List.append_toArray, List.nil_append, List.cons_append]
  gi_wp2
  gi_loopw [11] (fun i wr => ∃ k : Nat, k ≤ N ∧ i = .int .i64 k ∧ J (pairsTo N k) wr ∧ wr.cell? ⟨g, 0, none⟩ = some (.slice A N c)) (fun i _ => N - (intOf i).toNat)
  case atStart => exact ⟨0, Nat.zero_le _, rfl, h0, hc⟩
  case round =>
    clear h0 hc hc0 hW
    obtain ⟨k, hk, rfl, hJ, hc⟩ := hrel
    by_cases hlt : k < N
    · gi_wp2
      gi_loopw [5] (fun i wr => ∃ j : Nat, k + 1 ≤ j ∧ j ≤ N ∧ i = .int .i64 j ∧ J (pairsTo N k ++ rowN k (j - (k + 1))) wr ∧ wr.cell? ⟨g, 0, none⟩ = some (.slice A N c)) (fun i _ => N - (intOf i).toNat)
      case atStart => exact ⟨k + 1, Nat.le_refl _, by omega, by simp, by simpa [rowN] using hJ, hc⟩
      case round =>
        clear hJ hc
        obtain ⟨j, hkj, hj, rfl, hJ, hc⟩ := hrel
        by_cases hjl : j < N
        · obtain ⟨fn, tmps, assign, body, hy, hR⟩ := hY _ (k, j) _ ⟨by show k < j; omega, hjl⟩ hJ
          dsimp only at hy
          gi_wp2
          refine hR.mono ?_
          rintro e W3 ⟨rfl, hJ3, hk3⟩
          have hc3 := hk3 _ hc
          gi_wp2
          go_roundw
          case rel => exact ⟨j + 1, by omega, by omega, by simp, by rw [show j + 1 - (k + 1) = j - (k + 1) + 1 by omega, rowN_succ, show k + 1 + (j - (k + 1)) = j by omega, ← List.append_assoc]; exact hJ3, hc3⟩
          case measure => simp [intOf]; omega
        · obtain rfl : j = N := by omega
          gi_wp2
          go_roundw
          case rel => exact ⟨k + 1, by omega, by simp, by rw [pairsTo_succ]; exact hJ, hc⟩
          case measure => simp [intOf]; omega
    · obtain rfl : k = N := by omega
      gi_wp2
      go_end0
      exact ⟨⟨_, rfl⟩, _, rfl, hJ⟩
end Go.Proofs.Ytkbfdgacnoadlaa
