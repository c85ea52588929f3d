/- Plain facts for the law AverageBalances: shares add up, no share is greater than its weight, the accounts of Adjust. No program in sight. -/
import Derived.Test.YtkbfdgacnoadlaaAdjMath
namespace Go.Proofs.Ytkbfdgacnoadlaa
open Go.RowKit

/-- the sum of the first values of a function -/
def sumTo (f : Nat → Int) : Nat → Int
  | 0 => 0
  | k + 1 => sumTo f k + f k
theorem sumTo_range (f : Nat → Int) (k : Nat) : ((List.range k).map f).sum = sumTo f k := by
  induction k with
  | zero => rfl
  | succ k ih => rw [List.range_succ, List.map_append, List.sum_append, ih]; simp [sumTo]
theorem sumTo_congr {f g : Nat → Int} {k : Nat} (h : ∀ i, i < k → f i = g i) : sumTo f k = sumTo g k := by
  induction k with
  | zero => rfl
  | succ k ih => rw [sumTo, sumTo, ih fun i hi => h i (by omega), h k (by omega)]
theorem sumTo_le {f g : Nat → Int} {k : Nat} (h : ∀ i, i < k → f i ≤ g i) : sumTo f k ≤ sumTo g k := by
  induction k with
  | zero => exact Int.le_refl _
  | succ k ih =>
    have h1 := ih fun i hi => h i (by omega)
    have h2 := h k (by omega)
    simp only [sumTo]
    omega
theorem sumTo_nonneg {f : Nat → Int} {k : Nat} (h : ∀ i, i < k → 0 ≤ f i) : 0 ≤ sumTo f k := by
  induction k with
  | zero => exact Int.le_refl _
  | succ k ih =>
    have h1 := ih fun i hi => h i (by omega)
    have h2 := h k (by omega)
    simp only [sumTo]
    omega
theorem sumTo_bd {f : Nat → Int} {m : Int} {k : Nat} (h : ∀ i, i < k → f i ≤ m) : sumTo f k ≤ k * m := by
  induction k with
  | zero => simp [sumTo]
  | succ k ih =>
    have h1 := ih fun i hi => h i (by omega)
    have h2 := h k (by omega)
    simp only [sumTo]
    have e : ((k + 1 : Nat) : Int) * m = k * m + m := by rw [Int.natCast_add, Int.add_mul]; simp
    omega
/-- the shares add up to what is split -/
theorem shareTo_sum {n all : Int} (l : List Int) (k : Nat) : (shareTo n all l k).sum = upto n all (l.take k).sum := by
  induction k with
  | zero => simp [shareTo, upto_zero]
  | succ k ih => rw [shareTo_succ, List.sum_append, ih]; simp; omega
theorem splitL_sum {n : Int} {l : List Int} (hs : 1 ≤ l.sum) : (splitL n l).sum = n := by
  rw [splitL, shareTo_sum, List.take_length, upto, Int.mul_ediv_cancel _ (by omega)]
theorem at0_sum (l : List Int) : sumTo (at0 l) l.length = l.sum := by
  rw [← sumTo_range]
  congr 1
  apply List.ext_getElem
  · simp
  · intro k h1 h2
    simp [at0, h2]
/-- no share is greater than its weight, if no more is split than all weights -/
theorem split_le {n : Int} {l : List Int} (hpos : ∀ x ∈ l, 0 ≤ x) (hs : 1 ≤ l.sum) (hn : n ≤ l.sum) {i : Nat} (h : i < l.length) : at0 (splitL n l) i ≤ at0 l i := by
  rw [splitL_at n l h, take_sum_succ h, ← at0_get h]
  have hx := hpos _ (List.getElem_mem h)
  unfold upto
  have h1 : n * ((l.take i).sum + l[i]) ≤ n * (l.take i).sum + l[i] * l.sum := by
    rw [Int.mul_add, Int.mul_comm l[i]]
    have := Int.mul_le_mul_of_nonneg_right hn hx
    omega
  have h2 := Int.ediv_le_ediv (c := l.sum) (by omega) h1
  rw [Int.add_mul_ediv_right _ _ (by omega)] at h2
  omega

theorem ofL_cons (x : Nt) (l : List Nt) (kind int : Int) : ofL (x :: l) kind int = (if x.k = kind ∧ x.i = int then x.a else 0) + ofL l kind int := by
  unfold ofL
  by_cases hx : x.k = kind ∧ x.i = int
  · simp [hx]
  · rw [if_neg hx]
    have : (decide (x.k = kind) && decide (x.i = int)) = false := by simpa using hx
    simp [this]
theorem ofL_two {n : Int} {l : List Nt} (h : ∀ x ∈ l, noteErr n x = 0) (int : Int) : ofL l 3 int + ofL l 4 int ≤ l.length * 100000000000 := by
  induction l with
  | nil => simp [ofL]
  | cons x l ih =>
    have h1 := noteErr_ok (h x (by simp))
    have h2 := ih fun y hy => h y (by simp [hy])
    rw [ofL_cons, ofL_cons]
    simp only [List.length_cons]
    have e : ((l.length + 1 : Nat) : Int) * 100000000000 = l.length * 100000000000 + 100000000000 := by omega
    rw [e]
    split
    · rename_i g
      rw [if_neg (by omega)]
      omega
    · split <;> omega

/-- what the law asks of an account -/
structure AccOk (x : Acc) : Prop where
  v0 : 0 ≤ x.value
  v1 : x.value ≤ 30000000000000
  d0 : 0 ≤ x.due
  d1 : x.due ≤ x.value
  g0 : 0 ≤ x.good
  g1 : x.good ≤ 60000000000000
  b : x.bal = x.due - x.good

theorem lateErr_zero {c : Int} {l : List Nt} {N : Nat} (h : lateErr c l N = 0) : ¬ Lib.minOf (listI savedI l N) < 0 ∧ (wrap64 (listI savedI l N).sum == 0) = false ∧ ¬ wrap64 (listI worthI l N).sum < wrap64 (listI (goodI c) l N).sum := by
  unfold lateErr at h
  split at h
  · omega
  split at h
  · omega
  split at h
  · omega
  rename_i h1 h2 h3
  exact ⟨h1, by simpa using h2, h3⟩
theorem listI_sum (what : (Nat → Int) → Int) (l : List Nt) (k : Nat) : (listI what l k).sum = sumTo (fun i => what (sums l i)) k := sumTo_range _ _

structure BalOk (c : Int) (l : List Nt) (N : Nat) : Prop where
  each : ∀ i, i < N → AccOk (accAt c l (splitL (adjTotal c l N) (listI worthI l N)) i)
  due : sumTo (fun i => (accAt c l (splitL (adjTotal c l N) (listI worthI l N)) i).due) N = adjTotal c l N
  good : sumTo (fun i => (accAt c l (splitL (adjTotal c l N) (listI worthI l N)) i).good) N = adjTotal c l N
  t0 : 0 ≤ adjTotal c l N
  t1 : adjTotal c l N ≤ 4000000000000000

theorem bal_ok {N : Nat} {c : Int} {l : List Nt} (hall : ∀ x ∈ l, noteErr N x = 0) (hlen : l.length ≤ 300) (n0 : 1 ≤ N) (n1 : N ≤ 40) (c0 : 0 ≤ c) (c1 : c ≤ 10000) (hl : lateErr c l N = 0) : BalOk c l N := by
  obtain ⟨hm, hs, ho⟩ := lateErr_zero hl
  obtain ⟨w1, w2, g1, g2, s1, s2, hg⟩ := late_facts hall hlen n1 n0 c0 c1 hm
  rw [IntWalk.wrap64_in _ (by omega), IntWalk.wrap64_in _ (by omega)] at ho
  rw [IntWalk.wrap64_in _ (by omega)] at hs
  have hs' : (listI savedI l N).sum ≠ 0 := by simpa using hs
  have wlen := listI_len worthI l N
  have hws : 1 ≤ (listI worthI l N).sum := by omega
  have hdl : (splitL (adjTotal c l N) (listI worthI l N)).length = N := by rw [splitL_length, wlen]
  have hT : adjTotal c l N = (listI (goodI c) l N).sum := rfl
  refine ⟨fun i hi => ?_, ?_, ?_, by omega, by omega⟩
  · have hi' : i < (listI worthI l N).length := by omega
    have a := w1 _ (listI_in worthI l hi)
    have b := splitL_bd (n := adjTotal c l N) (by omega) (fun x hx => (w1 x hx).1) hws hi'
    have d := split_le (n := adjTotal c l N) (fun x hx => (w1 x hx).1) hws (by omega) hi'
    rw [listI_at worthI l hi] at d
    have e := hg i hi
    have f1 := ofL_bd hall 1 i
    have f2 := ofL_bd hall 2 i
    have f3 := ofL_bd hall 3 i
    have f4 := ofL_bd hall 4 i
    have f5 := ofL_two hall i
    have q : goodI c (sums l i) = ofL l 3 i + ofL l 4 i + ofL l 4 i * c / 10000 := rfl
    have p : worthI (sums l i) = ofL l 1 i - ofL l 2 i := rfl
    have m1 : ofL l 4 i * c ≤ ofL l 4 i * 10000 := Int.mul_le_mul_of_nonneg_left c1 f4.1
    refine ⟨a.1, ?_, b.1, d, e.1, ?_, rfl⟩
    · show worthI (sums l i) ≤ _
      omega
    · show goodI c (sums l i) ≤ _
      omega
  · have e : sumTo (fun i => (accAt c l (splitL (adjTotal c l N) (listI worthI l N)) i).due) N = sumTo (at0 (splitL (adjTotal c l N) (listI worthI l N))) (splitL (adjTotal c l N) (listI worthI l N)).length := by
      rw [hdl]
      rfl
    rw [e, at0_sum, splitL_sum hws]
  · rw [hT, listI_sum]
    rfl

/-- a greater commission makes good no less -/
theorem good_mono {N : Nat} {c : Int} {l : List Nt} (hall : ∀ x ∈ l, noteErr N x = 0) : adjTotal c l N ≤ adjTotal (c + 1) l N := by
  unfold adjTotal
  rw [listI_sum, listI_sum]
  refine sumTo_le fun i hi => ?_
  have f4 := ofL_bd hall 4 i
  have q : ∀ d, goodI d (sums l i) = ofL l 3 i + ofL l 4 i + ofL l 4 i * d / 10000 := fun _ => rfl
  rw [q, q]
  have m : ofL l 4 i * c ≤ ofL l 4 i * (c + 1) := Int.mul_le_mul_of_nonneg_left (by omega) f4.1
  have := Int.ediv_le_ediv (c := 10000) (by omega) m
  omega
theorem late_next {N : Nat} {c : Int} {l : List Nt} (hl : lateErr c l N = 0) : lateErr (c + 1) l N = 0 ∨ lateErr (c + 1) l N = 80 := by
  obtain ⟨hm, hs, ho⟩ := lateErr_zero hl
  unfold lateErr
  rw [if_neg hm, if_neg (by simp [hs])]
  split
  · exact .inr rfl
  · exact .inl rfl
theorem adj_bad {n c : Int} {l : List Nt} (h : (adjSpec n c l).2.2.2 ≠ 0) : (adjSpec n c l).1 = [] ∧ (adjSpec n c l).2.1 = 0 := by
  unfold adjSpec at h ⊢
  split
  · split
    · rename_i h1 h2
      rw [if_pos h1, if_pos h2] at h
      exact absurd rfl h
    · exact ⟨rfl, rfl⟩
  · exact ⟨rfl, rfl⟩
theorem adj_good {N : Nat} {c : Int} {l : List Nt} (h : (adjSpec N c l).2.2.2 = 0) : (earlyErr N c l).2 = 0 ∧ lateErr c l N = 0 ∧ adjSpec N c l = (accsTo c l (splitL (adjTotal c l N) (listI worthI l N)) N, adjTotal c l N, 0, 0) := by
  unfold adjSpec at h ⊢
  rw [Int.toNat_natCast] at h ⊢
  split at h
  · rename_i h1
    split at h
    · rename_i h2
      rw [if_pos h1, if_pos h2]
      exact ⟨h1, h2, rfl⟩
    · rename_i h2
      exact absurd h h2
  · rename_i h1
    exact absurd h h1
end Go.Proofs.Ytkbfdgacnoadlaa
