/- Plain facts for the law AverageBills: bills hang on each payer's passes alone. No program in sight. -/
import Derived.Test.YtkbfdgacnoadlaaBalMath
import Derived.Test.YtkbfdgacnoadlaaDuesMath
namespace Go.Proofs.Ytkbfdgacnoadlaa
open Go.RowKit

theorem billOf_cons (t : Tf) (x : Ps) (l : List Ps) (i : Nat) : billOf t (x :: l) i = if x.p = (i : Int) then (cost t x + (billOf t l i).1, (billOf t l i).2 + 1) else billOf t l i := by
  unfold billOf
  by_cases h : x.p = (i : Int) <;> simp [h]
theorem bill_perm (t : Tf) {a b : List Ps} (h : a.Perm b) (i : Nat) : billOf t a i = billOf t b i := by
  induction h with
  | nil => rfl
  | cons x _ ih => rw [billOf_cons, billOf_cons, ih]
  | swap x y l =>
    rw [billOf_cons, billOf_cons, billOf_cons, billOf_cons]
    by_cases h1 : x.p = (i : Int)
    · by_cases h2 : y.p = (i : Int)
      · simp only [h1, h2, if_true]
        congr 1
        omega
      · simp only [h1, h2, if_true, if_false]
    · by_cases h2 : y.p = (i : Int)
      · simp only [h1, h2, if_true, if_false]
      · simp only [h1, h2, if_false]
  | trans _ _ h1 h2 => rw [h1, h2]
def ofWho (who : Nat) (l : List Ps) : List Ps := l.filter fun x => decide (x.p = (who : Int))
theorem ofWho_snoc (who : Nat) (l : List Ps) (x : Ps) : ofWho who (l ++ [x]) = if x.p = (who : Int) then ofWho who l ++ [x] else ofWho who l := by
  unfold ofWho
  rw [List.filter_append]
  by_cases h : x.p = (who : Int) <;> simp [h]
theorem bill_own (t : Tf) (l : List Ps) (who : Nat) : billOf t (ofWho who l) who = billOf t l who := by
  induction l with
  | nil => rfl
  | cons x l ih =>
    by_cases h : x.p = (who : Int)
    · have e : ofWho who (x :: l) = x :: ofWho who l := by simp [ofWho, h]
      rw [e, billOf_cons, billOf_cons, ih]
    · have e : ofWho who (x :: l) = ofWho who l := by simp [ofWho, h]
      rw [e, billOf_cons, if_neg h, ih]
theorem bill_count (t : Tf) (l : List Ps) (who : Nat) : (billOf t l who).2 = ((ofWho who l).length : Nat) := rfl
theorem ofWho_len (who : Nat) (l : List Ps) : (ofWho who l).length ≤ l.length := List.length_filter_le _ _

theorem firstBad_zero {α : Type} {f : α → Int} : ∀ (l : List α) (i : Nat), (firstBad f l i).2 = 0 → ∀ x ∈ l, f x = 0
  | [], _, _, x, hx => by cases hx
  | y :: l, i, h, x, hx => by
    unfold firstBad at h
    split at h
    · rename_i h1
      rcases List.mem_cons.1 hx with rfl | hx
      · exact h1
      · exact firstBad_zero l (i + 1) h x hx
    · rename_i h1
      exact absurd h h1
theorem dues_of {t : Tf} {l : List Ps} (ht : tfErr t = 0) (hl : l.length ≤ 300) (hall : ∀ x ∈ l, passErr 4 x = 0) : duesSpec t 4 l = (duesTo t l 4, 0, 0) := by
  have e : duesErr t 4 l = (0, 0) := by
    unfold duesErr
    rw [if_pos ht, if_neg (by simp [inB]), if_neg (by omega)]
    exact firstBad_ok l 0 hall
  unfold duesSpec
  rw [e, if_pos rfl]
  rfl
theorem dues_ok {t : Tf} {l : List Ps} (h : (duesSpec t 4 l).2.2 = 0) : tfErr t = 0 ∧ l.length ≤ 300 ∧ ∀ x ∈ l, passErr 4 x = 0 := by
  have h1 : (duesErr t 4 l).2 = 0 := by
    unfold duesSpec at h
    split at h
    · assumption
    · rename_i g
      exact absurd h g
  unfold duesErr at h1
  split at h1
  · rename_i g
    split at h1
    · simp at h1
    · split at h1
      · simp at h1
      · exact ⟨g, by omega, firstBad_zero l 0 h1⟩
  · simp at h1
theorem dues_bad {t : Tf} {l : List Ps} (h : (duesSpec t 4 l).2.2 ≠ 0) : (duesSpec t 4 l).1 = [] := by
  unfold duesSpec at h ⊢
  split
  · rename_i g
    rw [if_pos g] at h
    exact absurd rfl h
  · rfl
theorem dues_at (t : Tf) (l : List Ps) {i : Nat} (h : i < 4) : at0 (duesTo t l 4) i = dueOf t (billOf t l i) := by
  simp [at0, duesTo, h]
theorem due_bd {t : Tf} (ht : tfErr t = 0) {l : List Ps} (hall : ∀ x ∈ l, passErr 4 x = 0) {i : Nat} (h : i < 4) : 0 ≤ at0 (duesTo t l 4) i ∧ at0 (duesTo t l 4) i ≤ t.most := by
  rw [dues_at t l h]
  obtain ⟨b0, _⟩ := bill_bd ht hall i
  obtain ⟨_, _, _, _, ho, hm0, _⟩ := tf_ok ht
  have h1 : (billOf t l i).1 * t.off ≤ (billOf t l i).1 * 10000 := Int.mul_le_mul_of_nonneg_left ho.2 b0
  have h2 := Int.mul_nonneg b0 ho.1
  unfold dueOf
  split <;> omega
theorem dues_perm (t : Tf) {a b : List Ps} (h : a.Perm b) : duesTo t a 4 = duesTo t b 4 := by
  unfold duesTo
  apply List.map_congr_left
  intro i _
  rw [bill_perm t h]
theorem dues_own (t : Tf) (l : List Ps) {who : Nat} (h : who < 4) : at0 (duesTo t (ofWho who l) 4) who = at0 (duesTo t l 4) who := by
  rw [dues_at _ _ h, dues_at _ _ h, bill_own]
theorem dues_other (t : Tf) (l : List Ps) (x : Ps) {i : Nat} (h : i < 4) (hne : x.p ≠ (i : Int)) : at0 (duesTo t (l ++ [x]) 4) i = at0 (duesTo t l 4) i := by
  rw [dues_at _ _ h, dues_at _ _ h, billOf_snoc, if_neg hne]
theorem dues_more {t : Tf} (ht : tfErr t = 0) {l : List Ps} (hall : ∀ x ∈ l, passErr 4 x = 0) {x : Ps} (hx : passErr 4 x = 0) {who : Nat} (h : who < 4) (hw : x.p = (who : Int)) (hn : t.passes ≤ ((ofWho who l).length : Nat)) :
    at0 (duesTo t l 4) who ≤ at0 (duesTo t (l ++ [x]) 4) who := by
  rw [dues_at _ _ h, dues_at _ _ h, billOf_snoc, if_pos hw]
  have hc := cost_bd ht hx
  obtain ⟨b0, _⟩ := bill_bd ht hall who
  obtain ⟨_, _, _, _, ho, _, _⟩ := tf_ok ht
  have hcount := bill_count t l who
  unfold dueOf
  simp only
  rw [if_pos (by omega), if_pos (by omega)]
  have e : ((billOf t l who).1 + cost t x) * t.off = (billOf t l who).1 * t.off + cost t x * t.off := Int.add_mul _ _ _
  have h1 : cost t x * t.off ≤ cost t x * 10000 := Int.mul_le_mul_of_nonneg_left ho.2 hc.1
  rw [e]
  omega
/-- passes in a turn -/
def ps0 : Ps := ⟨0, 0, 0⟩
def turnedP (l : List Ps) (T : List Nat) : List Ps := T.map fun i => l.getD i ps0
theorem turnedP_perm (l : List Ps) {T : List Nat} (h : T.Perm (List.range l.length)) : (turnedP l T).Perm l := by
  have h1 := h.map fun i => l.getD i ps0
  have h2 : (List.range l.length).map (fun i => l.getD i ps0) = l := by
    apply List.ext_getElem
    · simp
    · intro i h1 h2
      simp [h2]
  rw [h2] at h1
  exact h1
theorem turnedP_snoc (l : List Ps) (T : List Nat) (i : Nat) : turnedP l (T ++ [i]) = turnedP l T ++ [l.getD i ps0] := by simp [turnedP]
theorem turnedP_len (l : List Ps) (T : List Nat) : (turnedP l T).length = T.length := by simp [turnedP]
theorem passesV_snoc (l : List Ps) (x : Ps) : passesV (l ++ [x]) = passesV l ++ passV x := by simp [passesV]
theorem getP (l : List Ps) {i : Nat} (h : i < l.length) : l.getD i ps0 = l[i] := by simp [h]
end Go.Proofs.Ytkbfdgacnoadlaa
