/- Plain facts on shares and on what the parties of a collision pay. -/
import Derived.Test.YtkbfdgacnoadlaaA4
namespace Go.Proofs.Ytkbfdgacnoadlaa
open Go.RowKit

theorem splitL_length (n : Int) (l : List Int) : (splitL n l).length = l.length := by simp [splitL, shareTo]
theorem shareTo_length (n all : Int) (l : List Int) (k : Nat) : (shareTo n all l k).length = k := by simp [shareTo]
theorem splitL_at (n : Int) (l : List Int) {i : Nat} (h : i < l.length) : at0 (splitL n l) i = upto n l.sum (l.take (i + 1)).sum - upto n l.sum (l.take i).sum := by
  simp [at0, splitL, shareTo, h]
theorem splitL_bd {n : Int} {l : List Int} (hn : 0 ≤ n) (hpos : ∀ x ∈ l, 0 ≤ x) (hs : 1 ≤ l.sum) {i : Nat} (h : i < l.length) : 0 ≤ at0 (splitL n l) i ∧ at0 (splitL n l) i ≤ n := by
  rw [splitL_at n l h]
  obtain ⟨t0, t1⟩ := take_sum hpos (i + 1)
  obtain ⟨t2, t3⟩ := take_sum hpos i
  have htk := take_sum_succ h
  have hx := hpos _ (List.getElem_mem h)
  obtain ⟨u0, u1⟩ := upto_le hn t0 t1 hs
  obtain ⟨u2, u3⟩ := upto_le hn t2 t3 hs
  have := upto_mono (all := l.sum) hn (show (l.take i).sum ≤ (l.take (i + 1)).sum by omega) hs
  omega
theorem paysTo_length (bs a c : List Int) (k : Nat) : (paysTo bs a c k).length = k := by simp [paysTo]
theorem paysTo_succ (bs a c : List Int) (k : Nat) : paysTo bs a c (k + 1) = paysTo bs a c k ++ [pay bs a c k] := by simp [paysTo, List.range_succ]
theorem paysTo_last (bs a c : List Int) (k : Nat) : at0 (paysTo bs a c (k + 1)) k = pay bs a c k := by simp [at0, paysTo]
theorem whoTo_yes {bs a : List Int} {k : Nat} (h : 0 < claim bs a k) : whoTo bs a (k + 1) = whoTo bs a k ++ [k] := by simp [whoTo, List.range_succ, h]
theorem whoTo_no {bs a : List Int} {k : Nat} (h : ¬ 0 < claim bs a k) : whoTo bs a (k + 1) = whoTo bs a k := by
  simp [whoTo, List.range_succ]
  omega
theorem claimsTo_yes {bs a : List Int} {k : Nat} (h : 0 < claim bs a k) : claimsTo bs a (k + 1) = claimsTo bs a k ++ [claim bs a k] := by simp [claimsTo, whoTo_yes h]
theorem claimsTo_no {bs a : List Int} {k : Nat} (h : ¬ 0 < claim bs a k) : claimsTo bs a (k + 1) = claimsTo bs a k := by simp [claimsTo, whoTo_no h]
theorem claimsTo_length (bs a : List Int) (k : Nat) : (claimsTo bs a k).length = (whoTo bs a k).length := by simp [claimsTo]
theorem nats_snoc (l : List Nat) (k : Nat) : nats (l ++ [k]) = nats l ++ [(k : Int)] := by simp [nats]
theorem nats_length (l : List Nat) : (nats l).length = l.length := by simp [nats]
theorem whoTo_length (bs a : List Int) (k : Nat) : (whoTo bs a k).length ≤ k := by
  have := List.length_filter_le (fun i => decide (0 < claim bs a i)) (List.range k)
  simpa [whoTo] using this
theorem whoTo_lt {bs a : List Int} {k i : Nat} (h : i < (whoTo bs a k).length) : (whoTo bs a k).getD i 0 < k := by
  have hm : (whoTo bs a k).getD i 0 ∈ whoTo bs a k := by simp [h]
  have := (List.mem_filter.1 hm).1
  simpa using this
theorem pay_bd {bs a c : List Int} {i : Nat} (hc : 0 ≤ at0 c i) (ha : 0 ≤ at0 a i) {m : Int} (hm : 0 ≤ m) (hb : at0 bs i ≤ m) : 0 ≤ pay bs a c i ∧ pay bs a c i ≤ m := by unfold pay; omega
theorem paysTo_sum {bs a c : List Int} {k : Nat} (h : ∀ i, i < k → 0 ≤ pay bs a c i ∧ pay bs a c i ≤ 1200000000000) : 0 ≤ (paysTo bs a c k).sum ∧ (paysTo bs a c k).sum ≤ k * 1200000000000 := by
  have hm : ∀ x ∈ paysTo bs a c k, 0 ≤ x ∧ x ≤ 1200000000000 := by
    intro x hx
    obtain ⟨i, hi, rfl⟩ := List.mem_map.1 hx
    exact h i (by simpa using hi)
  have h2 := sum_le fun x hx => (hm x hx).2
  rw [paysTo_length] at h2
  exact ⟨sum_nonneg fun x hx => (hm x hx).1, h2⟩
theorem getsTo_length (l : List Int) (who : List Nat) (gs : List Int) (k : Nat) : (getsTo l who gs k).length = l.length := by
  induction k with
  | zero => rfl
  | succ k ih => simp [getsTo, ih]
theorem claimsTo_mem {bs a : List Int} {k : Nat} {x : Int} (h : x ∈ claimsTo bs a k) : ∃ i, i < k ∧ x = claim bs a i ∧ 0 < claim bs a i := by
  obtain ⟨i, hi, rfl⟩ := List.mem_map.1 h
  have := List.mem_filter.1 hi
  exact ⟨i, by simpa using this.1, rfl, by simpa using this.2⟩
theorem nats_at {l : List Nat} {i : Nat} (h : i < l.length) : at0 (nats l) i = ((l.getD i 0 : Nat) : Int) := by simp [at0, nats, h]
theorem sum_pos {l : List Int} (h : ∀ x ∈ l, 0 < x) (hl : l.length ≠ 0) : 1 ≤ l.sum := by
  match l, hl with
  | x :: l, _ =>
    have h1 := h x (by simp)
    have h2 : 0 ≤ l.sum := sum_nonneg fun y hy => by have := h y (by simp [hy]); omega
    simp
    omega
theorem ints_set (l : List Int) (i : Nat) (x : Int) : (ints l).set i (.int .i64 x) = ints (l.set i x) := by simp [ints]
theorem getsTo_succ (l : List Int) (who : List Nat) (gs : List Int) (k : Nat) : getsTo l who gs (k + 1) = (getsTo l who gs k).set (who.getD k 0) (-(at0 gs k)) := rfl
end Go.Proofs.Ytkbfdgacnoadlaa
