/- Plain facts for the law AverageShares: how near a share is to its exact one; two neighbouring weights together. No program in sight. -/
import Derived.Test.YtkbfdgacnoadlaaBalMath
import Derived.Test.YtkbfdgacnoadlaaA18
namespace Go.Proofs.Ytkbfdgacnoadlaa
open Go.RowKit

theorem upto_near (n all a b : Int) (h : 0 < all) : (upto n all b - upto n all a) * all - n * (b - a) < all ∧ n * (b - a) - (upto n all b - upto n all a) * all < all := by
  unfold upto
  have e1 := Int.mul_ediv_add_emod (n * a) all
  have e2 := Int.mul_ediv_add_emod (n * b) all
  have a0 := Int.emod_nonneg (n * a) (show all ≠ 0 by omega)
  have a1 := Int.emod_lt_of_pos (n * a) h
  have b0 := Int.emod_nonneg (n * b) (show all ≠ 0 by omega)
  have b1 := Int.emod_lt_of_pos (n * b) h
  rw [Int.sub_mul, Int.mul_sub, Int.mul_comm (n * b / all), Int.mul_comm (n * a / all)]
  omega
/-- what the law asks of a share -/
structure ShOk (n all w s : Int) : Prop where
  s0 : 0 ≤ s
  s1 : s ≤ n
  n1 : s * all - n * w < all
  n2 : n * w - s * all < all
  z : w = 0 → s = 0
theorem sh_ok {n : Int} {l : List Int} (hn : 0 ≤ n) (hpos : ∀ x ∈ l, 0 ≤ x) (hs : 1 ≤ l.sum) {i : Nat} (h : i < l.length) : ShOk n l.sum l[i] (at0 (splitL n l) i) := by
  have h1 := splitL_bd hn hpos hs h
  have h2 := upto_near n l.sum (l.take i).sum (l.take (i + 1)).sum (by omega)
  have e : (l.take (i + 1)).sum - (l.take i).sum = l[i] := by rw [take_sum_succ h]; omega
  rw [e] at h2
  have e2 := splitL_at n l h
  rw [← e2] at h2
  refine ⟨h1.1, h1.2, h2.1, h2.2, fun hw => ?_⟩
  rw [e2, take_sum_succ h, hw, Int.add_zero]
  omega
/-- two neighbours together -/
def joinL (l : List Int) (k : Nat) : List Int := l.take k ++ (at0 l k + at0 l (k + 1)) :: l.drop (k + 2)
theorem joinL_len {l : List Int} {k : Nat} (h : k + 1 < l.length) : (joinL l k).length = l.length - 1 := by
  simp [joinL]
  omega
theorem drop_two {l : List Int} {k : Nat} (h : k + 1 < l.length) : l.drop k = at0 l k :: at0 l (k + 1) :: l.drop (k + 2) := by
  rw [List.drop_eq_getElem_cons (by omega), List.drop_eq_getElem_cons h, at0_get, at0_get]
theorem joinL_sum {l : List Int} {k : Nat} (h : k + 1 < l.length) : (joinL l k).sum = l.sum := by
  have e : l.sum = (l.take k ++ l.drop k).sum := by rw [List.take_append_drop]
  rw [e, drop_two h, joinL, List.sum_append, List.sum_append]
  simp
  omega
theorem joinL_take {l : List Int} {k : Nat} (h : k + 1 < l.length) : (joinL l k).take k = l.take k := by
  have : (l.take k).length = k := by simp; omega
  unfold joinL
  rw [List.take_append_of_le_length (by omega), List.take_of_length_le (by omega)]
theorem joinL_take1 {l : List Int} {k : Nat} (h : k + 1 < l.length) : ((joinL l k).take (k + 1)).sum = (l.take (k + 2)).sum := by
  have hl := joinL_len h
  rw [take_sum_succ (show k < (joinL l k).length by omega), joinL_take h, take_sum_succ (show k + 1 < l.length by omega), take_sum_succ (show k < l.length by omega)]
  have : (joinL l k)[k]'(by omega) = at0 l k + at0 l (k + 1) := by
    have hk : (l.take k).length = k := by simp; omega
    unfold joinL
    rw [List.getElem_append_right (by omega)]
    simp [hk]
  rw [this, ← at0_get h, ← at0_get (show k < l.length by omega)]
  omega
theorem join_share {n : Int} {l : List Int} {k : Nat} (h : k + 1 < l.length) : at0 (splitL n (joinL l k)) k = at0 (splitL n l) k + at0 (splitL n l) (k + 1) := by
  have hl := joinL_len h
  rw [splitL_at n _ (show k < (joinL l k).length by omega), splitL_at n l (show k < l.length by omega), splitL_at n l h, joinL_sum h, joinL_take h, joinL_take1 h, show k + 1 + 1 = k + 2 from rfl]
  omega
theorem at0_nonneg {l : List Int} {m : Int} (h : ∀ x ∈ l, 0 ≤ x ∧ x ≤ m) (hm : 0 ≤ m) (i : Nat) : 0 ≤ at0 l i ∧ at0 l i ≤ m := by
  by_cases hi : i < l.length
  · rw [← at0_get hi]
    exact h _ (List.getElem_mem hi)
  · simp [at0, hi]
    exact hm
theorem joinL_mem {l : List Int} {k : Nat} (hpos : ∀ x ∈ l, 0 ≤ x ∧ x ≤ 65535) : ∀ x ∈ joinL l k, 0 ≤ x ∧ x ≤ 131070 := by
  intro x hx
  have a := at0_nonneg hpos (by omega) k
  have b := at0_nonneg hpos (by omega) (k + 1)
  unfold joinL at hx
  rcases List.mem_append.1 hx with h | h
  · have := hpos x (List.mem_of_mem_take h)
    omega
  · rcases List.mem_cons.1 h with rfl | h
    · omega
    · have := hpos x (List.mem_of_mem_drop h)
      omega
theorem split_err {n : Int} {l : List Int} (hl : l.length ≤ 60) (h0 : 0 ≤ n) (h1 : n ≤ 4294967295) (hpos : ∀ x ∈ l, 0 ≤ x ∧ x ≤ 131070) : splitsErr n l = if l.sum = 0 then 2 else 0 := by
  have hall : l.all (inB 0 100000000000000) = true := List.all_eq_true.2 fun x hx => inB_iff.2 (by have := hpos x hx; omega)
  have hs := sum_le fun x hx => (hpos x hx).2
  have hs0 := sum_nonneg fun x hx => (hpos x hx).1
  have hw : wrap64 l.sum = l.sum := IntWalk.wrap64_in _ ⟨by omega, by omega⟩
  unfold splitsErr
  rw [if_neg (by omega), if_neg (by simp [inB]; omega), if_neg (by simp [hall]), hw]
  by_cases h : l.sum = 0
  · simp [h]
  · simp [h]
end Go.Proofs.Ytkbfdgacnoadlaa
