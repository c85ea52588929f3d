/- The reference's shares over all claims, zeros among them, are the program's shares over the claims above zero. No program in sight. -/
import Derived.Test.YtkbfdgacnoadlaaBlameMath
namespace Go.Proofs.Ytkbfdgacnoadlaa
open Go.RowKit

def posI (x : Int) : Bool := decide (0 < x)
theorem filt_take (l : List Int) (k : Nat) : (l.filter posI).take ((l.take k).filter posI).length = (l.take k).filter posI := by
  conv => lhs; arg 2; rw [← List.take_append_drop k l]
  rw [List.filter_append, List.take_left]
theorem filt_sum {l : List Int} (h : ∀ x ∈ l, 0 ≤ x) : (l.filter posI).sum = l.sum := by
  induction l with
  | nil => rfl
  | cons x l ih =>
    have h0 := h x (by simp)
    have ih := ih fun y hy => h y (by simp [hy])
    by_cases hx : 0 < x
    · simp [posI, hx] at ih ⊢
      exact ih
    · have : x = 0 := by omega
      subst this
      simpa [posI] using ih
/-- the sum of a beginning is the sum of a beginning of what is above zero -/
theorem filt_take_sum {l : List Int} (h : ∀ x ∈ l, 0 ≤ x) (k : Nat) : ((l.filter posI).take ((l.take k).filter posI).length).sum = (l.take k).sum := by
  rw [filt_take, filt_sum fun x hx => h x (List.mem_of_mem_take hx)]
/-- a zero gets nothing -/
theorem split_zero {n : Int} {l : List Int} {k : Nat} (hk : k < l.length) (h0 : l[k] = 0) : (splitL n l)[k]? = some 0 := by
  have e : (l.take (k + 1)).sum = (l.take k).sum := by rw [List.take_succ_eq_append_getElem hk, List.sum_append, h0]; simp
  simp [splitL, shareTo, hk, e]
/-- one above zero gets what it gets among those above zero -/
theorem split_pos {n : Int} {l : List Int} (h : ∀ x ∈ l, 0 ≤ x) {k : Nat} (hk : k < l.length) (h0 : 0 < l[k]) : (splitL n l)[k]? = (splitL n (l.filter posI))[((l.take k).filter posI).length]? := by
  have e1 := filt_take_sum h k
  have e2 := filt_take_sum h (k + 1)
  have hs := filt_sum h
  have hl : ((l.take (k + 1)).filter posI).length = ((l.take k).filter posI).length + 1 := by
    rw [List.take_succ_eq_append_getElem hk, List.filter_append]
    simp [posI, h0]
  have hlt : ((l.take k).filter posI).length < (l.filter posI).length := by
    have := congrArg List.length (filt_take l (k + 1))
    rw [List.length_take, hl] at this
    omega
  rw [hl] at e2
  simp only [splitL, shareTo, List.getElem?_map, List.getElem?_range hk, List.getElem?_range hlt, hs, Option.map_some, e1, e2]
end Go.Proofs.Ytkbfdgacnoadlaa
