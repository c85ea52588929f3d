/- Plain arithmetic: the division of two words by one, digit by digit: the estimate of a digit, its correction, the quotient. No program in sight. -/
import Derived.WalkKit
import Derived.Lib.ItoaNum
import Derived.Laws.Bits64b
import Derived.Laws.MathBits
namespace Go.Proofs.Ytkbfdgacnoadlaa
open Go.RowKit

theorem mul_le_l {a b c : Int} (hc : 0 ≤ c) (h : a ≤ b) : a * c ≤ b * c := Int.mul_le_mul_of_nonneg_right h hc
theorem mul_le_r {a b c : Int} (hc : 0 ≤ c) (h : a ≤ b) : c * a ≤ c * b := Int.mul_le_mul_of_nonneg_left h hc

/-- an estimate q of the digit of N * 2^32 + d by Y = a * 2^32 + b, with the rest r of N by a -/
structure Est (Y a b N d q r : Int) : Prop where
  y : Y = a * 4294967296 + b
  a1 : 2147483648 ≤ a
  a2 : a < 4294967296
  b0 : 0 ≤ b
  b1 : b < 4294967296
  n0 : 0 ≤ N
  n1 : N < Y
  d0 : 0 ≤ d
  d1 : d < 4294967296
  q0 : 0 ≤ q
  q1 : q ≤ 4294967297
  r0 : 0 ≤ r
  r1 : r < 4294967296
  n : N = q * a + r
  over : N * 4294967296 + d < (q + 1) * Y

/-- the digit -/
structure Dig (Y N d q : Int) : Prop where
  q0 : 0 ≤ q
  q1 : q < 4294967296
  le : q * Y ≤ N * 4294967296 + d
  lt : N * 4294967296 + d < (q + 1) * Y

theorem est_start {Y a b N d : Int} (ha : a = Y / 4294967296) (hb : b = Y % 4294967296) (h1 : 9223372036854775808 ≤ Y) (h2 : Y < 18446744073709551616) (n0 : 0 ≤ N) (n1 : N < Y) (d0 : 0 ≤ d) (d1 : d < 4294967296) :
    Est Y a b N d (N / a) (N - N / a * a) := by
  have a1 : 2147483648 ≤ a := by omega
  have a2 : a < 4294967296 := by omega
  have b0 : 0 ≤ b := by omega
  have b1 : b < 4294967296 := by omega
  have y : Y = a * 4294967296 + b := by omega
  have q0 : 0 ≤ N / a := Int.ediv_nonneg n0 (by omega)
  have e := Int.mul_ediv_add_emod N a
  have r0 := Int.emod_nonneg N (b := a) (by omega)
  have r1 := Int.emod_lt_of_pos N (b := a) (by omega)
  have e2 : a * (N / a) = N / a * a := Int.mul_comm _ _
  have hover : N * 4294967296 + d < (N / a + 1) * Y := by
    have h3 : (N / a + 1) * Y = (N / a * a) * 4294967296 + a * 4294967296 + (N / a + 1) * b := by rw [y, Int.mul_add, Int.add_mul, Int.one_mul, Int.mul_assoc]
    have h4 : 0 ≤ (N / a + 1) * b := Int.mul_nonneg (by omega) b0
    rw [h3]
    omega
  have hq : N / a ≤ 4294967297 := by
    by_cases h : N / a ≤ 4294967297
    · exact h
    · exfalso
      have h5 : 4294967298 * a ≤ N / a * a := mul_le_l (by omega) (by omega)
      omega
  exact ⟨y, a1, a2, b0, b1, n0, n1, d0, d1, q0, hq, by omega, by omega, by omega, hover⟩

theorem est_prod {Y a b N d q r : Int} (h : Est Y a b N d q r) : 0 ≤ q * b ∧ q * b ≤ 18446744073709551615 ∧ q * Y = (q * a) * 4294967296 + q * b ∧ 0 ≤ q * a := by
  have h0 := h.b0
  have h1 := h.b1
  have h2 := h.q0
  have h3 := h.q1
  have h4 := h.a1
  have e1 : q * b ≤ 4294967297 * b := mul_le_l h0 h3
  exact ⟨Int.mul_nonneg h2 h0, by omega, by rw [h.y, Int.mul_add, Int.mul_assoc], Int.mul_nonneg h2 (by omega)⟩

/-- one too great -/
theorem est_more {Y a b N d q r : Int} (h : Est Y a b N d q r) (ht : 4294967296 ≤ q ∨ 4294967296 * r + d < q * b) : 1 ≤ q ∧ N * 4294967296 + d < (q - 1 + 1) * Y := by
  obtain ⟨p0, p1, p2, p3⟩ := est_prod h
  have hN := h.n
  have hn0 := h.n0
  have hd0 := h.d0
  have hd1 := h.d1
  have hn1 := h.n1
  have hq0 := h.q0
  have hr0 := h.r0
  have e : (q - 1 + 1) * Y = q * Y := by rw [show q - 1 + 1 = q by omega]
  rw [e]
  have hlt : N * 4294967296 + d < q * Y := by
    rcases ht with ht | ht
    · have h5 : 4294967296 * Y ≤ q * Y := mul_le_l (by omega) ht
      omega
    · omega
  refine ⟨?_, hlt⟩
  by_cases h6 : 1 ≤ q
  · exact h6
  · exfalso
    obtain rfl : q = 0 := by omega
    omega

theorem est_next {Y a b N d q r : Int} (h : Est Y a b N d q r) (ht : 4294967296 ≤ q ∨ 4294967296 * r + d < q * b) (hr : r + a < 4294967296) : Est Y a b N d (q - 1) (r + a) := by
  obtain ⟨h1, h2⟩ := est_more h ht
  have hN := h.n
  have := h.r0
  have := h.a1
  have := h.q1
  exact ⟨h.y, h.a1, h.a2, h.b0, h.b1, h.n0, h.n1, h.d0, h.d1, by omega, by omega, by omega, hr, by rw [Int.sub_mul, Int.one_mul]; omega, h2⟩

theorem est_break {Y a b N d q r : Int} (h : Est Y a b N d q r) (ht : 4294967296 ≤ q ∨ 4294967296 * r + d < q * b) (hr : 4294967296 ≤ r + a) : Dig Y N d (q - 1) := by
  obtain ⟨h1, h2⟩ := est_more h ht
  have hN := h.n
  have hn1 := h.n1
  have hy := h.y
  have hb0 := h.b0
  have hb1 := h.b1
  have ha1 := h.a1
  have hd0 := h.d0
  have e1 : (q - 1) * a = q * a - a := by rw [Int.sub_mul, Int.one_mul]
  have hq : q - 1 < 4294967296 := by
    by_cases h6 : q - 1 < 4294967296
    · exact h6
    · exfalso
      have h5 : 4294967296 * a ≤ (q - 1) * a := mul_le_l (by omega) (by omega)
      omega
  refine ⟨by omega, hq, ?_, h2⟩
  have e2 : (q - 1) * Y = ((q - 1) * a) * 4294967296 + (q - 1) * b := by rw [hy, Int.mul_add, Int.mul_assoc]
  have h7 : (q - 1) * b ≤ 4294967296 * b := mul_le_l hb0 (by omega)
  rw [e2, e1]
  omega

theorem est_done {Y a b N d q r : Int} (h : Est Y a b N d q r) (h1 : q < 4294967296) (h2 : q * b ≤ 4294967296 * r + d) : Dig Y N d q := by
  obtain ⟨p0, p1, p2, p3⟩ := est_prod h
  have hN := h.n
  exact ⟨h.q0, h1, by omega, h.over⟩

theorem dig_rest {Y N d q : Int} (h : Dig Y N d q) : 0 ≤ N * 4294967296 + d - q * Y ∧ N * 4294967296 + d - q * Y < Y := by
  have h1 := h.le
  have h2 := h.lt
  rw [Int.add_mul, Int.one_mul] at h2
  omega

/-- both digits together -/
theorem dig_all {Y N d e q p m : Int} (hm : m = N * 4294967296 + d - q * Y) (k : Dig Y m e p) (hY : 0 < Y) :
    ((N * 4294967296 + d) * 4294967296 + e) / Y = q * 4294967296 + p ∧ ((N * 4294967296 + d) * 4294967296 + e) % Y = m * 4294967296 + e - p * Y := by
  obtain ⟨r0, r1⟩ := dig_rest k
  have e1 : (N * 4294967296 + d) * 4294967296 + e = (m * 4294967296 + e - p * Y) + Y * (q * 4294967296 + p) := by
    have e2 : Y * (q * 4294967296 + p) = (q * Y) * 4294967296 + p * Y := by rw [Int.mul_add, ← Int.mul_assoc, Int.mul_comm Y q, Int.mul_comm Y p]
    rw [e2]
    omega
  rw [e1]
  constructor
  · rw [Int.add_mul_ediv_left _ _ (by omega), Int.ediv_eq_zero_of_lt r0 r1]; omega
  · rw [Int.add_mul_emod_self_left, Int.emod_eq_of_lt r0 r1]

/-- shifting both sides changes the quotient not, and shifts the rest -/
theorem div_shift {x y t : Int} (ht : 0 < t) : (x * t) / (y * t) = x / y ∧ (x * t) % (y * t) / t = x % y := by
  refine ⟨Int.mul_ediv_mul_of_pos_left _ _ ht, ?_⟩
  rw [Int.mul_comm x t, Int.mul_comm y t, Int.mul_emod_mul_of_pos _ _ ht]
  exact Int.mul_ediv_cancel_left _ (by omega)

theorem pow63 : (2 : Int) ^ 63 = 9223372036854775808 := by decide
theorem pow64 : (2 : Int) ^ 64 = 18446744073709551616 := by decide
theorem two_pow_pos (k : Nat) : 1 ≤ (2 : Int) ^ k := by
  have := Int.pow_pos (n := 2) (m := k) (by omega)
  omega

/-- how far a divisor is shifted -/
theorem shift_facts {y : Int} (h1 : 1 ≤ y) (h2 : y ≤ 18446744073709551615) :
    ∃ k : Nat, (64 - (Lib.bitLen y.toNat : Int)) = (k : Int) ∧ k ≤ 63 ∧ 9223372036854775808 ≤ y * 2 ^ k ∧ y * 2 ^ k < 18446744073709551616 := by
  obtain ⟨u, rfl⟩ := Int.eq_ofNat_of_zero_le (show 0 ≤ y by omega)
  rw [Int.toNat_natCast]
  obtain ⟨b1, b2, b3⟩ := Lib.bitLenAux_bounds 64 u (by omega) (by omega)
  change 1 ≤ Lib.bitLen u at b1
  change 2 ^ (Lib.bitLen u - 1) ≤ u at b2
  change u < 2 ^ Lib.bitLen u at b3
  have b4 : Lib.bitLen u ≤ 64 := by
    by_cases h : Lib.bitLen u ≤ 64
    · exact h
    · exfalso
      have := Nat.pow_le_pow_right (n := 2) (by omega) (show 64 ≤ Lib.bitLen u - 1 by omega)
      omega
  have c2 : (2 : Int) ^ (Lib.bitLen u - 1) ≤ u := by
    have := Int.ofNat_le.2 b2
    rwa [Int.natCast_pow] at this
  have c3 : (u : Int) < (2 : Int) ^ Lib.bitLen u := by
    have := Int.ofNat_lt.2 b3
    rwa [Int.natCast_pow] at this
  have hp := two_pow_pos (64 - Lib.bitLen u)
  refine ⟨64 - Lib.bitLen u, by omega, by omega, ?_, ?_⟩
  · have e : (2 : Int) ^ (Lib.bitLen u - 1) * 2 ^ (64 - Lib.bitLen u) = 2 ^ 63 := by rw [← Int.pow_add]; congr 1; omega
    have := mul_le_l (c := (2 : Int) ^ (64 - Lib.bitLen u)) (by omega) c2
    rw [e, pow63] at this
    exact this
  · have e : (2 : Int) ^ Lib.bitLen u * 2 ^ (64 - Lib.bitLen u) = 2 ^ 64 := by rw [← Int.pow_add]; congr 1; omega
    have := mul_le_l (c := (2 : Int) ^ (64 - Lib.bitLen u)) (by omega) (show (u : Int) + 1 ≤ 2 ^ Lib.bitLen u by omega)
    rw [e, pow64, Int.add_mul, Int.one_mul] at this
    omega

/-- the upper word of the shifted dividend -/
theorem upper_word {hi lo y : Int} {k : Nat} (h0 : 0 ≤ hi) (h1 : hi < y) (h3 : 0 ≤ lo) (h4 : lo ≤ 18446744073709551615) (hk : k ≤ 63) (hy : y * 2 ^ k < 18446744073709551616) :
    bits .or .u64 (hi * 2 ^ k) (lo / 2 ^ (64 - k)) = hi * 2 ^ k + lo / 2 ^ (64 - k) ∧ 0 ≤ hi * 2 ^ k + lo / 2 ^ (64 - k) ∧ hi * 2 ^ k + lo / 2 ^ (64 - k) < y * 2 ^ k ∧ 0 ≤ hi * 2 ^ k ∧ hi * 2 ^ k < 18446744073709551616 ∧
      (hi * 18446744073709551616 + lo) * 2 ^ k = (hi * 2 ^ k + lo / 2 ^ (64 - k)) * 18446744073709551616 + (lo * 2 ^ k) % 18446744073709551616 := by
  have hp := two_pow_pos k
  have hr := two_pow_pos (64 - k)
  have e64 : (2 : Int) ^ (64 - k) * 2 ^ k = 18446744073709551616 := by rw [← Int.pow_add, show 64 - k + k = 64 by omega, pow64]
  have hlt : lo / 2 ^ (64 - k) < 2 ^ k := by
    refine Int.ediv_lt_of_lt_mul (by omega) ?_
    rw [Int.mul_comm, e64]
    omega
  have hd0 : 0 ≤ lo / 2 ^ (64 - k) := Int.ediv_nonneg h3 (by omega)
  have ha0 : 0 ≤ hi * 2 ^ k := Int.mul_nonneg h0 (by omega)
  have hm := mul_le_l (c := (2 : Int) ^ k) (by omega) (show hi + 1 ≤ y by omega)
  rw [Int.add_mul, Int.one_mul] at hm
  have hsplit : (hi * 18446744073709551616 + lo) * 2 ^ k = (hi * 2 ^ k + lo / 2 ^ (64 - k)) * 18446744073709551616 + (lo * 2 ^ k) % 18446744073709551616 := by
    have e1 := Int.mul_ediv_add_emod (lo * 2 ^ k) 18446744073709551616
    have e2 : lo * 2 ^ k / 18446744073709551616 = lo / 2 ^ (64 - k) := by
      rw [← e64, Int.mul_ediv_mul_of_pos_left _ _ (by omega)]
    rw [e2] at e1
    rw [Int.add_mul, Int.add_mul, Int.mul_right_comm]
    omega
  have hor : bits .or .u64 (hi * 2 ^ k) (lo / 2 ^ (64 - k)) = hi * 2 ^ k + lo / 2 ^ (64 - k) := by
    obtain ⟨a, rfl⟩ := Int.eq_ofNat_of_zero_le h0
    obtain ⟨l, rfl⟩ := Int.eq_ofNat_of_zero_le h3
    have ea : (a : Int) * 2 ^ k = ((a * 2 ^ k : Nat) : Int) := by rw [Int.natCast_mul, Int.natCast_pow]; rfl
    have el : (l : Int) / 2 ^ (64 - k) = ((l / 2 ^ (64 - k) : Nat) : Int) := by rw [Int.natCast_ediv, Int.natCast_pow]; rfl
    rw [el, ea]
    rw [el] at hlt hd0
    rw [ea] at hm ha0
    have hlt' : l / 2 ^ (64 - k) < 2 ^ k := by
      have h : ((l / 2 ^ (64 - k) : Nat) : Int) < ((2 ^ k : Nat) : Int) := by rw [Int.natCast_pow]; exact hlt
      exact Int.ofNat_lt.1 h
    rw [bits_or_u64_nat _ _ (by omega) (by omega), ← Nat.shiftLeft_eq, ← Nat.shiftLeft_add_eq_or_of_lt hlt', Int.natCast_add]
  exact ⟨hor, by omega, by omega, ha0, by omega, hsplit⟩
end Go.Proofs.Ytkbfdgacnoadlaa
