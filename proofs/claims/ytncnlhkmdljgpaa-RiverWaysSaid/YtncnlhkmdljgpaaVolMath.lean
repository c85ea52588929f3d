/- River: volumes, plainly. -/
import Derived.Test.YtncnlhkmdljgpaaV9
namespace Go.Proofs.Ytncnlhkmdljgpaa

theorem Bd.eq {a b : Bd} (h1 : a.lo = b.lo) (h2 : a.hi = b.hi) : a = b := by cases a; cases b; simp only at h1 h2; subst h1; subst h2; rfl
/-- the sum of n hours from hour a on -/
def sumN (f : Int → Bd) (a : Int) : Nat → Bd
  | 0 => bd0
  | n + 1 => (sumN f a n).add (f (a + n))
theorem sumN_add (f : Int → Bd) (a : Int) (n : Nat) : ∀ m, sumN f a (n + m) = (sumN f a n).add (sumN f (a + n) m)
  | 0 => by simp [sumN, Bd.add, bd0]
  | m + 1 => by
    rw [← Nat.add_assoc, sumN, sumN_add f a n m, sumN]
    simp only [Bd.add, Bd.mk.injEq]
    have e : a + ((n + m : Nat) : Int) = a + n + m := by omega
    rw [e]
    omega
theorem sumN_bd {f : Int → Bd} {a : Int} {M : Int} : ∀ {n : Nat}, (∀ k : Nat, k < n → 0 ≤ (f (a + k)).lo ∧ (f (a + k)).lo ≤ (f (a + k)).hi ∧ (f (a + k)).hi ≤ M) → 0 ≤ (sumN f a n).lo ∧ (sumN f a n).lo ≤ (sumN f a n).hi ∧ (sumN f a n).hi ≤ n * M
  | 0, _ => by simp [sumN, bd0]
  | n + 1, h => by
    have h1 := sumN_bd (n := n) fun k hk => h k (by omega)
    have h2 := h n (by omega)
    have e : ((n + 1 : Nat) : Int) * M = n * M + M := by rw [Int.natCast_add, Int.add_mul]; simp
    simp only [sumN, Bd.add]
    rw [e]
    omega
/-- term by term -/
theorem sumN_plus {f g h : Int → Bd} {a b c : Int} : ∀ {n : Nat}, (∀ k : Nat, k < n → f (a + k) = (g (b + k)).add (h (c + k))) → sumN f a n = (sumN g b n).add (sumN h c n)
  | 0, _ => by simp [sumN, Bd.add, bd0]
  | n + 1, h => by
    have h1 := sumN_plus (n := n) fun k hk => h k (by omega)
    have h2 := h n (by omega)
    rw [sumN, sumN, sumN, h1, h2]
    simp only [Bd.add, Bd.mk.injEq]
    omega
theorem sumN_congr {f g : Int → Bd} {a b : Int} : ∀ {n : Nat}, (∀ k : Nat, k < n → f (a + k) = g (b + k)) → sumN f a n = sumN g b n
  | 0, _ => rfl
  | n + 1, h => by rw [sumN, sumN, sumN_congr (n := n) fun k hk => h k (by omega), h n (by omega)]
theorem sumN_le {f g : Int → Bd} {a b : Int} : ∀ {n : Nat}, (∀ k : Nat, k < n → (g (b + k)).lo ≤ (f (a + k)).lo ∧ (g (b + k)).hi ≤ (f (a + k)).hi) → (sumN g b n).lo ≤ (sumN f a n).lo ∧ (sumN g b n).hi ≤ (sumN f a n).hi
  | 0, _ => ⟨Int.le_refl _, Int.le_refl _⟩
  | n + 1, h => by
    have h1 := sumN_le (n := n) fun k hk => h k (by omega)
    have h2 := h n (by omega)
    simp only [sumN, Bd.add]
    omega
/-- the volume of a reach -/
def volOf (r : List Reach) (sides : List (List Bd)) (i : Nat) (a : Int) (n : Nat) : Bd := sumN (flowIn r sides i) a n
def sideOf (sides : List (List Bd)) (i : Nat) (k : Int) : Bd := (sides.getD i []).getD k.toNat bd0
theorem vol_zero (r : List Reach) (sides : List (List Bd)) {a : Int} (ha : 0 ≤ a) (n : Nat) : volOf r sides 0 a n = sumN (sideOf sides 0) a n := by
  refine sumN_congr fun k _ => ?_
  rw [flowIn, if_neg (by omega)]; rfl
theorem vol_step (r : List Reach) (sides : List (List Bd)) (i : Nat) {a : Int} (ha : 0 ≤ a) (n : Nat) :
    volOf r sides (i + 1) a n = (volOf r sides i (a - (r.getD i reach0).delay) n).add (sumN (sideOf sides (i + 1)) a n) := by
  refine sumN_plus fun k _ => ?_
  rw [flowIn, if_neg (by omega)]
  have e : a - (r.getD i reach0).delay + k = a + k - (r.getD i reach0).delay := by omega
  rw [e]
  simp only [sideOf, Bd.add, Bd.mk.injEq]
  omega
end Go.Proofs.Ytncnlhkmdljgpaa
