/- Plain arithmetic: a * b / c bit by bit of b, from the highest one on. No program in sight. -/
import Derived.Test.YtkbfdgacnoadlaaDivMath
namespace Go.Proofs.Ytkbfdgacnoadlaa
open Go.RowKit

/-- ahead of a round for the bit: the quotient and the rest for the bits above -/
structure MD (a b c bit q r : Int) : Prop where
  pw : ∃ j : Nat, bit = 2 ^ j ∧ j ≤ 50
  qr : q * c + r = a * (b / (2 * bit))
  q0 : 0 ≤ q
  q1 : q ≤ b
  r0 : 0 ≤ r
  r1 : r < c

/-- within a round -/
structure MI (c M B q r : Int) : Prop where
  qr : q * c + r = M
  q0 : 0 ≤ q
  q1 : q ≤ B
  r0 : 0 ≤ r
  r1 : r ≤ 3 * c

def MDrel (a b c : Int) (bit q r : Int) : Prop := (1 ≤ bit ∧ MD a b c bit q r) ∨ (bit = 0 ∧ q = a * b / c)

theorem md_bit {a b c bit q r : Int} (h : MD a b c bit q r) : 1 ≤ bit ∧ bit ≤ 1125899906842624 := by
  obtain ⟨j, rfl, hj⟩ := h.pw
  refine ⟨two_pow_pos j, ?_⟩
  have h1 : 2 ^ j ≤ 2 ^ 50 := Nat.pow_le_pow_right (by omega) hj
  have h2 := Int.ofNat_le.2 h1
  rw [Int.natCast_pow] at h2
  exact h2

theorem md_start {a b c : Int} (hb : 0 ≤ b) (hb2 : b ≤ 1125899906842624) (hc : 1 ≤ c) : MD a b c 1125899906842624 0 0 :=
  ⟨⟨50, by decide, by omega⟩, by rw [show b / (2 * 1125899906842624) = 0 by omega]; simp, by omega, hb, by omega, by omega⟩

theorem bit_split (b bit : Int) (h : 1 ≤ bit) : b / bit = 2 * (b / (2 * bit)) + b / bit % 2 := by
  have e : b / (2 * bit) = b / bit / 2 := by
    rw [Int.mul_comm, ← Int.ediv_ediv_of_nonneg (by omega)]
  rw [e]
  omega

theorem md_in {a b c bit q r x : Int} (h : MD a b c bit q r) (ha : 0 ≤ a) (hac : a ≤ c) (hb : 0 ≤ b) (hx : x = b / bit % 2) : MI c (a * (b / bit)) b (2 * q) (2 * r + a * x) ∧ 2 * q ≤ b ∧ 0 ≤ a * x ∧ a * x ≤ a := by
  obtain ⟨h1, h2⟩ := md_bit h
  have e := bit_split b bit h1
  have hqr := h.qr
  have r0 := h.r0
  have r1 := h.r1
  have q0 := h.q0
  have hx2 : x = 0 ∨ x = 1 := by omega
  have hd : 0 ≤ b / (2 * bit) := Int.ediv_nonneg hb (by omega)
  have hle : a * (b / (2 * bit)) ≤ c * (b / (2 * bit)) := mul_le_l hd hac
  have hcpos : 1 ≤ c := by omega
  have hq : q ≤ b / (2 * bit) := by
    by_cases hq : q ≤ b / (2 * bit)
    · exact hq
    · exfalso
      have h5 : (b / (2 * bit) + 1) * c ≤ q * c := mul_le_l (by omega) (by omega)
      rw [Int.add_mul, Int.one_mul, Int.mul_comm (b / (2 * bit)) c] at h5
      omega
  have hbb : b / bit ≤ b := Int.ediv_le_self _ hb
  have e2 : 2 * q * c + (2 * r + a * x) = a * (b / bit) := by
    rw [e, ← hx, Int.mul_add, ← Int.mul_assoc, Int.mul_comm a 2, Int.mul_assoc 2 a, ← hqr, Int.mul_add, Int.mul_assoc]
    omega
  have hax : 0 ≤ a * x ∧ a * x ≤ a := by rcases hx2 with rfl | rfl <;> simp <;> omega
  exact ⟨⟨e2, by omega, by omega, by omega, by omega⟩, by omega, hax.1, hax.2⟩

theorem mi_step {a b c bit q r : Int} (h : MI c (a * (b / bit)) b q r) (ha : a ≤ c) (h1 : 1 ≤ bit) (hb : 0 ≤ b) (hc : 1 ≤ c) (hr : c ≤ r) : MI c (a * (b / bit)) b (q + 1) (r - c) := by
  have hqr := h.qr
  have q0 := h.q0
  have r1 := h.r1
  have hd : 0 ≤ b / bit := Int.ediv_nonneg hb (by omega)
  have hbb : b / bit ≤ b := Int.ediv_le_self _ hb
  have hle : a * (b / bit) ≤ c * (b / bit) := mul_le_l hd ha
  have hle2 : c * (b / bit) ≤ c * b := mul_le_r (by omega) hbb
  refine ⟨by rw [Int.add_mul, Int.one_mul]; omega, by omega, ?_, by omega, by omega⟩
  by_cases hq : q + 1 ≤ b
  · exact hq
  · exfalso
    have h5 : b * c ≤ q * c := mul_le_l (by omega) (by omega)
    rw [Int.mul_comm b c] at h5
    omega

theorem mi_done {a b c bit q r : Int} (h : MI c (a * (b / bit)) b q r) (hp : ∃ j : Nat, bit = 2 ^ j ∧ j ≤ 50) (hr : r < c) (hc : 1 ≤ c) : MDrel a b c (bit / 2) q r := by
  obtain ⟨j, rfl, hj⟩ := hp
  have hqr := h.qr
  cases j with
  | zero =>
    right
    refine ⟨by decide, ?_⟩
    rw [show (2 : Int) ^ 0 = 1 from rfl, Int.ediv_one] at hqr
    rw [← hqr, Int.mul_comm q c, Int.add_comm, Int.add_mul_ediv_left _ _ (by omega), Int.ediv_eq_zero_of_lt h.r0 hr]
    omega
  | succ j =>
    left
    have e : (2 : Int) ^ (j + 1) / 2 = 2 ^ j := by rw [Int.pow_succ]; exact Int.mul_ediv_cancel _ (by omega)
    have e2 : 2 * ((2 : Int) ^ j) = 2 ^ (j + 1) := by rw [Int.pow_succ, Int.mul_comm]
    rw [e]
    exact ⟨two_pow_pos j, ⟨j, rfl, by omega⟩, by rw [e2]; exact hqr, h.q0, h.q1, h.r0, hr⟩
end Go.Proofs.Ytkbfdgacnoadlaa
