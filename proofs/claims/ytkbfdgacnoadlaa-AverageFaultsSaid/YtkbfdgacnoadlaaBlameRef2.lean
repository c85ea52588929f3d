/- What the reference's Blame returns is what the program's returns. No program in sight. -/
import Derived.Test.YtkbfdgacnoadlaaBlameRef
namespace Go.Proofs.Ytkbfdgacnoadlaa
open Go.RowKit

/-- all claims, zeros among them -/
def claimsZ (bs a : List Int) (k : Nat) : List Int := (List.range k).map fun i => max 0 (claim bs a i)
theorem claimsZ_succ (bs a : List Int) (k : Nat) : claimsZ bs a (k + 1) = claimsZ bs a k ++ [max 0 (claim bs a k)] := by simp [claimsZ, List.range_succ]
theorem claimsZ_len (bs a : List Int) (k : Nat) : (claimsZ bs a k).length = k := by simp [claimsZ]
theorem claimsZ_take {bs a : List Int} {k n : Nat} (h : k ≤ n) : (claimsZ bs a n).take k = claimsZ bs a k := by
  simp only [claimsZ, ← List.map_take, List.take_range, Nat.min_eq_left h]
theorem claimsZ_at {bs a : List Int} {k n : Nat} (h' : k < (claimsZ bs a n).length) : (claimsZ bs a n)[k] = max 0 (claim bs a k) := by simp [claimsZ]
theorem claimsZ_pos (bs a : List Int) (k : Nat) : (claimsZ bs a k).filter posI = claimsTo bs a k := by
  induction k with
  | zero => rfl
  | succ k ih =>
    rw [claimsZ_succ, List.filter_append, ih]
    by_cases h : 0 < claim bs a k
    · rw [claimsTo_yes h]
      have : posI (max 0 (claim bs a k)) = true := by simp only [posI, decide_eq_true_eq]; omega
      simp only [List.filter_cons, this, if_true, List.filter_nil]
      rw [show max 0 (claim bs a k) = claim bs a k by omega]
    · rw [claimsTo_no h]
      have : posI (max 0 (claim bs a k)) = false := by simp only [posI, decide_eq_false_iff_not]; omega
      simp [this]
theorem claimsZ_nonneg (bs a : List Int) (k : Nat) : ∀ x ∈ claimsZ bs a k, 0 ≤ x := by
  intro x hx
  obtain ⟨i, _, rfl⟩ := List.mem_map.1 hx
  omega
theorem who_at {bs a : List Int} {i n : Nat} (hi : i < n) (h : 0 < claim bs a i) : (whoTo bs a n).getD (whoTo bs a i).length 0 = i := by
  obtain ⟨m, rfl⟩ : ∃ m, n = (i + 1) + m := ⟨n - (i + 1), by omega⟩
  have e : whoTo bs a (i + 1 + m) = whoTo bs a i ++ i :: ((List.range m).map fun x => i + 1 + x).filter fun i => decide (0 < claim bs a i) := by
    unfold whoTo
    rw [List.range_add, List.filter_append, List.range_succ, List.filter_append]
    simp [h]
  rw [e]
  simp
theorem gets_at (l : List Int) (bs a gs : List Int) (n : Nat) (hn : n ≤ l.length) : ∀ j, j ≤ n → ∀ i, at0 (getsTo l (whoTo bs a n) gs (whoTo bs a j).length) i = if i < j ∧ 0 < claim bs a i then -(at0 gs (whoTo bs a i).length) else at0 l i := by
  intro j
  induction j with
  | zero =>
    intro _ i
    rw [if_neg (by omega)]
    rfl
  | succ j ih =>
    intro hj i
    by_cases h : 0 < claim bs a j
    · have e : (whoTo bs a (j + 1)).length = (whoTo bs a j).length + 1 := by rw [whoTo_yes h]; simp
      rw [e, getsTo_succ, who_at (show j < n by omega) h]
      have hl : (getsTo l (whoTo bs a n) gs (whoTo bs a j).length).length = l.length := getsTo_length _ _ _ _
      by_cases hij : i = j
      · subst hij
        rw [if_pos ⟨by omega, h⟩]
        unfold at0
        rw [List.getD_eq_getElem?_getD, List.getElem?_set_self (by omega)]
        rfl
      · have := ih (by omega) i
        unfold at0 at this ⊢
        rw [List.getD_eq_getElem?_getD, List.getElem?_set_ne (by omega), ← List.getD_eq_getElem?_getD, this]
        by_cases hc : i < j ∧ 0 < claim bs a i
        · rw [if_pos hc, if_pos ⟨by omega, hc.2⟩]
        · rw [if_neg hc, if_neg (by omega)]
    · rw [whoTo_no h, ih (by omega) i]
      by_cases hc : i < j ∧ 0 < claim bs a i
      · rw [if_pos hc, if_pos ⟨by omega, hc.2⟩]
      · rw [if_neg hc, if_neg]
        rintro ⟨h1, h2⟩
        by_cases hij : i = j
        · subst hij; exact h h2
        · exact hc ⟨by omega, h2⟩

/-- what the reference makes of the payments -/
def outZ (ps gs : List Int) (k : Nat) : List Int := (List.range ps.length).map fun i => if i < k then at0 ps i - at0 gs i else at0 ps i
theorem outZ_len (ps gs : List Int) (k : Nat) : (outZ ps gs k).length = ps.length := by simp [outZ]
theorem outZ_zero (ps gs : List Int) : outZ ps gs 0 = ps := by
  apply List.ext_getElem
  · simp [outZ]
  · intro i h1 h2
    simp [outZ, at0, h2]
theorem outZ_succ (ps gs : List Int) (k : Nat) : outZ ps gs (k + 1) = (outZ ps gs k).set k (at0 ps k - at0 gs k) := by
  apply List.ext_getElem
  · simp [outZ]
  · intro i h1 h2
    rw [List.getElem_set]
    simp only [outZ, List.getElem_map, List.getElem_range]
    by_cases h : k = i
    · subst h
      rw [if_pos (by omega), if_pos rfl]
    · rw [if_neg h]
      by_cases hi : i < k
      · rw [if_pos hi, if_pos (by omega)]
      · rw [if_neg hi, if_neg (by omega)]
theorem outZ_at (ps gs : List Int) {k : Nat} (hk : k < ps.length) : at0 (outZ ps gs k) k = at0 ps k := by simp [at0, outZ, hk]

theorem list_eq {l m : List Int} (hl : l.length = m.length) (h : ∀ i, i < l.length → at0 l i = at0 m i) : l = m := by
  apply List.ext_getElem hl
  intro i h1 h2
  have := h i h1
  rwa [← at0_get h1, ← at0_get h2] at this
theorem at0_some {l : List Int} {i : Nat} {x : Int} (h : l[i]? = some x) : at0 l i = x := by
  unfold at0
  rw [List.getD_eq_getElem?_getD, h]
  rfl
theorem at0_same {l m : List Int} {i j : Nat} (h : l[i]? = m[j]?) : at0 l i = at0 m j := by
  unfold at0
  rw [List.getD_eq_getElem?_getD, List.getD_eq_getElem?_getD, h]

/-- the two answers are one -/
theorem blame_ref (bs a c : List Int) (P : Int) (hc : ∀ i, i < a.length → 0 ≤ at0 c i) :
    getsTo (paysTo bs a c a.length) (whoTo bs a a.length) (splitL P (claimsTo bs a a.length)) (whoTo bs a a.length).length =
      if 0 < (claimsZ bs a a.length).sum then outZ (paysTo bs a c a.length) (splitL P (claimsZ bs a a.length)) a.length else paysTo bs a c a.length := by
  have hpl : (paysTo bs a c a.length).length = a.length := paysTo_length _ _ _ _
  have hpa : ∀ i, i < a.length → at0 (paysTo bs a c a.length) i = pay bs a c i := fun i hi => by simp [at0, paysTo, hi]
  by_cases hs : 0 < (claimsZ bs a a.length).sum
  · rw [if_pos hs]
    apply list_eq
    · rw [getsTo_length, outZ_len]
    · intro i hi
      rw [getsTo_length, hpl] at hi
      rw [gets_at _ bs a _ a.length (by omega) a.length (Nat.le_refl _) i]
      have hz : i < (claimsZ bs a a.length).length := by rw [claimsZ_len]; exact hi
      have e : at0 (outZ (paysTo bs a c a.length) (splitL P (claimsZ bs a a.length)) a.length) i = pay bs a c i - at0 (splitL P (claimsZ bs a a.length)) i := by
        rw [← hpa i hi]
        simp [at0, outZ, hpl, hi]
      rw [e]
      by_cases h : 0 < claim bs a i
      · rw [if_pos ⟨hi, h⟩]
        have h0 : pay bs a c i = 0 := by
          have := hc i hi
          unfold claim at h
          unfold pay
          omega
        have hp := split_pos (n := P) (claimsZ_nonneg bs a a.length) hz (by rw [claimsZ_at]; omega)
        rw [claimsZ_take (by omega), claimsZ_pos, claimsZ_pos, claimsTo_length] at hp
        rw [h0, at0_same hp]
        omega
      · rw [if_neg (fun k => h k.2), hpa i hi]
        have hp := split_zero (n := P) hz (by rw [claimsZ_at]; omega)
        rw [at0_some hp]
        omega
  · rw [if_neg hs]
    apply list_eq
    · rw [getsTo_length]
    · intro i hi
      rw [getsTo_length, hpl] at hi
      rw [gets_at _ bs a _ a.length (by omega) a.length (Nat.le_refl _) i, if_neg]
      rintro ⟨_, h⟩
      have hz : i < (claimsZ bs a a.length).length := by rw [claimsZ_len]; exact hi
      have h1 := claimsZ_nonneg bs a a.length
      have h2 := take_sum h1 i
      have h3 := take_sum h1 (i + 1)
      rw [take_sum_succ hz, claimsZ_at] at h3
      omega
end Go.Proofs.Ytkbfdgacnoadlaa
