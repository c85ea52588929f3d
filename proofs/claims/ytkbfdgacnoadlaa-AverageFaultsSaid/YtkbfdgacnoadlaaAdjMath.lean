/- Plain facts on the lists of Adjust. -/
import Derived.Test.YtkbfdgacnoadlaaA9
namespace Go.Proofs.Ytkbfdgacnoadlaa
open Go.RowKit

theorem foldl_min_le (l : List Int) : ∀ m : Int, l.foldl min m ≤ m ∧ ∀ x ∈ l, l.foldl min m ≤ x := by
  induction l with
  | nil => intro m; simp
  | cons y l ih =>
    intro m
    obtain ⟨h1, h2⟩ := ih (min m y)
    simp only [List.foldl_cons]
    refine ⟨by omega, fun x hx => ?_⟩
    rcases List.mem_cons.1 hx with rfl | hx
    · omega
    · exact h2 x hx
theorem minOf_le {l : List Int} {x : Int} (hx : x ∈ l) : Lib.minOf l ≤ x := (foldl_min_le l _).2 x hx
theorem minOf_mem {l : List Int} (h : l ≠ []) : Lib.minOf l ∈ l := by
  have key : ∀ (l : List Int) (m : Int), l.foldl min m = m ∨ l.foldl min m ∈ l := by
    intro l
    induction l with
    | nil => intro m; exact .inl rfl
    | cons y l ih =>
      intro m
      simp only [List.foldl_cons]
      rcases ih (min m y) with h | h
      · rw [h]
        rcases (by omega : min m y = m ∨ min m y = y) with h' | h' <;> rw [h'] <;> simp
      · exact .inr (List.mem_cons_of_mem _ h)
  match l, h with
  | x :: l, _ =>
    rcases key (x :: l) x with h | h
    · show (x :: l).foldl min x ∈ _
      rw [h]
      simp
    · exact h

theorem listI_mem {what : (Nat → Int) → Int} {l : List Nt} {k : Nat} {x : Int} (h : x ∈ listI what l k) : ∃ i, i < k ∧ x = what (sums l i) := by
  obtain ⟨i, hi, rfl⟩ := List.mem_map.1 h
  exact ⟨i, by simpa using hi, rfl⟩
theorem listI_in (what : (Nat → Int) → Int) (l : List Nt) {k i : Nat} (h : i < k) : what (sums l i) ∈ listI what l k := List.mem_map.2 ⟨i, by simpa using h, rfl⟩
theorem listI_at (what : (Nat → Int) → Int) (l : List Nt) {k i : Nat} (h : i < k) : at0 (listI what l k) i = what (sums l i) := by simp [at0, listI, h]
theorem good_bd {f : Nat → Int} (hf : Small f) {c : Int} (h0 : 0 ≤ c) (h1 : c ≤ 10000) : 0 ≤ goodI c f ∧ goodI c f ≤ 300000000000000 := by
  have h3 := hf 3 (by omega)
  have h4 := hf 4 (by omega)
  have m0 := Int.mul_nonneg h4.1 h0
  have m1 : f 4 * c ≤ f 4 * 10000 := Int.mul_le_mul_of_nonneg_left h1 h4.1
  unfold goodI
  omega
theorem list_le {a b : List Int} (hl : a.length = b.length) (h : ∀ i, i < a.length → at0 a i ≤ at0 b i) : a.sum ≤ b.sum := by
  induction a generalizing b with
  | nil => cases b with
    | nil => simp
    | cons => simp at hl
  | cons x a ih => cases b with
    | nil => simp at hl
    | cons y b =>
      have h0 := h 0 (by simp)
      have h1 := ih (b := b) (by simpa using hl) fun i hi => by
        have := h (i + 1) (by simpa using hi)
        simpa [at0] using this
      simp [at0] at h0
      simp
      omega

/-- what is known where the late checks pass -/
theorem late_facts {n : Int} {l : List Nt} {N : Nat} {c : Int} (hall : ∀ x ∈ l, noteErr n x = 0) (hlen : l.length ≤ 300) (hN : N ≤ 40) (h1 : 1 ≤ N) (c0 : 0 ≤ c) (c1 : c ≤ 10000)
    (hm : ¬ Lib.minOf (listI savedI l N) < 0) : (∀ x ∈ listI worthI l N, 0 ≤ x ∧ x ≤ 100000000000000) ∧ (listI worthI l N).sum ≤ 40 * 100000000000000 ∧ 0 ≤ (listI (goodI c) l N).sum ∧ (listI (goodI c) l N).sum ≤ 40 * 300000000000000 ∧
      0 ≤ (listI savedI l N).sum ∧ (listI savedI l N).sum ≤ (listI worthI l N).sum ∧ ∀ i, i < N → 0 ≤ goodI c (sums l i) ∧ goodI c (sums l i) ≤ 300000000000000 := by
  have hs : ∀ x ∈ listI savedI l N, 0 ≤ x := fun x hx => by have := minOf_le hx; omega
  have hw : ∀ i, i < N → 0 ≤ worthI (sums l i) ∧ worthI (sums l i) ≤ 100000000000000 := fun i hi => by
    have h1 := hs _ (listI_in savedI l hi)
    have h2 := sums_small hall hlen i
    have a := h2 1 (by omega)
    have b := h2 2 (by omega)
    have d := h2 3 (by omega)
    unfold savedI at h1
    unfold worthI
    omega
  have hg : ∀ i, i < N → 0 ≤ goodI c (sums l i) ∧ goodI c (sums l i) ≤ 300000000000000 := fun i _ => good_bd (sums_small hall hlen i) c0 c1
  have hw' : ∀ x ∈ listI worthI l N, 0 ≤ x ∧ x ≤ 100000000000000 := fun x hx => by
    obtain ⟨i, hi, rfl⟩ := listI_mem hx
    exact hw i hi
  have hg' : ∀ x ∈ listI (goodI c) l N, 0 ≤ x ∧ x ≤ 300000000000000 := fun x hx => by
    obtain ⟨i, hi, rfl⟩ := listI_mem hx
    exact hg i hi
  have s1 := sum_le fun x hx => (hw' x hx).2
  have s2 := sum_le fun x hx => (hg' x hx).2
  rw [listI_len] at s1 s2
  refine ⟨hw', by omega, sum_nonneg fun x hx => (hg' x hx).1, by omega, sum_nonneg hs, list_le (by rw [listI_len, listI_len]) fun i hi => ?_, hg⟩
  rw [listI_len] at hi
  rw [listI_at _ _ hi, listI_at _ _ hi]
  have d := (sums_small hall hlen i) 3 (by omega)
  unfold savedI worthI
  omega
theorem accsTo_succ (c : Int) (l : List Nt) (due : List Int) (k : Nat) : accsTo c l due (k + 1) = accsTo c l due k ++ [accAt c l due k] := by simp [accsTo, List.range_succ]
theorem accsTo_len (c : Int) (l : List Nt) (due : List Int) (k : Nat) : (accsTo c l due k).length = k := by simp [accsTo]
theorem accsV_snoc (l : List Acc) (x : Acc) : accsV (l ++ [x]) = accsV l ++ accV x := by simp [accsV]
end Go.Proofs.Ytkbfdgacnoadlaa
