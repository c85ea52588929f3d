/- The reference's Missing, told as a fold over the pairs in the order in which spans hands them. No program in sight. -/
import Derived.Test.YtkbfdgacnoadlaaR11
namespace Go.Proofs.Ytkbfdgacnoadlaa
open Go.RowKit

def pairsRow (n i : Nat) : List (Nat × Nat) := (List.range (n - (i + 1))).map fun q => (i, i + 1 + q)
def pairsTo (n k : Nat) : List (Nat × Nat) := (List.range k).flatMap (pairsRow n)
def missFold (l : List Sd) (b : List Bk) (r : Int) (ps : List (Nat × Nat)) : Int × Int × Int := ps.foldl (fun s p => missStep l b r p.1 p.2 s) (0, 0, 0)
theorem missFold_snoc (l : List Sd) (b : List Bk) (r : Int) (ps : List (Nat × Nat)) (p : Nat × Nat) : missFold l b r (ps ++ [p]) = missStep l b r p.1 p.2 (missFold l b r ps) := by
  simp [missFold, List.foldl_append]
theorem missRow_fold (l : List Sd) (b : List Bk) (r : Int) (i : Nat) (s : Int × Int × Int) : ∀ n, missRow l b r i s n = ((List.range n).map fun q => (i, i + 1 + q)).foldl (fun s p => missStep l b r p.1 p.2 s) s
  | 0 => rfl
  | n + 1 => by rw [missRow, missRow_fold l b r i s n, List.range_succ, List.map_append, List.foldl_append]; rfl
theorem missTo_fold (l : List Sd) (b : List Bk) (r : Int) : ∀ k, missTo l b r k = missFold l b r (pairsTo l.length k)
  | 0 => rfl
  | k + 1 => by
    rw [missTo, missTo_fold l b r k, missRow_fold, missFold, missFold, pairsTo, pairsTo, List.range_succ, List.flatMap_append, List.foldl_append]
    simp [pairsRow]
end Go.Proofs.Ytkbfdgacnoadlaa
