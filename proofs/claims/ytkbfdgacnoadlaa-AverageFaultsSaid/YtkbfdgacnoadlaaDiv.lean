/- math/bits.Div64 returns the quotient and the remainder of two words by one, for every divisor that is greater than the upper word. -/
import Derived.Test.YtkbfdgacnoadlaaRows
import Derived.Test.YtkbfdgacnoadlaaBase
import Derived.Test.YtkbfdgacnoadlaaShelf
import Derived.Test.YtkbfdgacnoadlaaDivMath
import Derived.Deep.QuietTactic
import Derived.BigQuiet
import Derived.BigGuardPart
import Derived.Deep.DeepCutAuto
import Derived.Deep.CutBlock
namespace Go.Proofs.Ytkbfdgacnoadlaa
open Go.RowKit

set_option maxHeartbeats 400000 in
theorem div_small (lo y : Int) (w : World) (h1 : 1 ≤ y) (h2 : y ≤ 18446744073709551615) (h3 : 0 ≤ lo) (h4 : lo ≤ 18446744073709551615) :
    Calls Try.prog 62 #[.int .u64 0, .int .u64 lo, .int .u64 y] w fun e w' => e = .returned (.tuple #[.int .u64 (lo / y), .int .u64 (lo % y)]) ∧ Below w.heap.size w w' := by
  go_enter Try.func62, Try.ntmps62
  go_wp2
  go_quiet (fail)
  go_wp2
  go_ret2
  exact ⟨rfl, below_drewN (Below.refl _ _) _⟩

set_option maxHeartbeats 1000000 in
set_option maxRecDepth 100000 in
theorem div_big (hi lo y : Int) (w : World) (h0 : 1 ≤ hi) (h1 : hi < y) (h2 : y ≤ 18446744073709551615) (h3 : 0 ≤ lo) (h4 : lo ≤ 18446744073709551615) :
    Calls Try.prog 62 #[.int .u64 hi, .int .u64 lo, .int .u64 y] w fun e w' => e = .returned (.tuple #[.int .u64 ((hi * 18446744073709551616 + lo) / y), .int .u64 ((hi * 18446744073709551616 + lo) % y)]) ∧ Below w.heap.size w w' := by
  go_enter Try.func62, Try.ntmps62
  go_wp2_with fail
  refine (Try.bits_LeadingZeros64 _ _ (by omega) (by omega)).mono ?_
  rintro e w1 ⟨rfl, rfl⟩
  obtain ⟨k, hk, hk63, hY1, hY2⟩ := shift_facts (y := y) (by omega) h2
  obtain ⟨u1, u2, u3, u4, u5, u6⟩ := upper_word (by omega) h1 h3 h4 hk63 hY2
  rw [hk]
  clear hk
  obtain ⟨Y, eY⟩ : ∃ Y : Int, Y = y * 2 ^ k := ⟨_, rfl⟩
  obtain ⟨N, eN⟩ : ∃ N : Int, N = hi * 2 ^ k + lo / 2 ^ (64 - k) := ⟨_, rfl⟩
  obtain ⟨H, eH⟩ : ∃ H : Int, H = hi * 2 ^ k := ⟨_, rfl⟩
  obtain ⟨L, eL⟩ : ∃ L : Int, L = (lo * 2 ^ k) % 18446744073709551616 := ⟨_, rfl⟩
  have f1 : IntKind.u64.wrap (y * 2 ^ k) = Y := by rw [← eY] at hY1 hY2 ⊢; exact IntWalk.u64_in _ ⟨by omega, by omega⟩
  have f2 : IntKind.u64.wrap (hi * 2 ^ k) = H := by rw [← eH] at u4 u5 ⊢; exact IntWalk.u64_in _ ⟨by omega, by omega⟩
  have f3 : bits .or .u64 H (lo / 2 ^ (64 - k)) = N := by rw [eH, u1, eN]
  have f4 : IntKind.u64.wrap (lo * 2 ^ k) = L := by rw [IntKind.wrap_u64, eL]
  have hres := div_shift (x := hi * 18446744073709551616 + lo) (y := y) (t := 2 ^ k) (by have := two_pow_pos k; omega)
  rw [u6, ← eY, ← eN, ← eL] at hres
  have hL0 : 0 ≤ L := by omega
  have hL1 : L < 18446744073709551616 := by omega
  rw [← eY] at hY1 hY2 u3
  rw [← eN] at u2 u3
  clear eY eN eH eL u1 u4 u5 u6
  have Hres := Lib.hid hres
  clear hres
  obtain ⟨a, ea⟩ : ∃ a : Int, a = Y / 4294967296 := ⟨_, rfl⟩
  obtain ⟨b, eb⟩ : ∃ b : Int, b = Y % 4294967296 := ⟨_, rfl⟩
  obtain ⟨d, ed⟩ : ∃ d : Int, d = L / 4294967296 := ⟨_, rfl⟩
  obtain ⟨c, ec⟩ : ∃ c : Int, c = L % 4294967296 := ⟨_, rfl⟩
  have hd0 : 0 ≤ d := by omega
  have hd1 : d < 4294967296 := by omega
  have hc0 : 0 ≤ c := by omega
  have hc1 : c < 4294967296 := by omega
  have hst := est_start ea eb hY1 hY2 u2 u3 hd0 hd1
  have HL := Lib.hid (show L = d * 4294967296 + c by omega)
  have ha0 := hst.a1
  have ha1 := hst.a2
  have hb0 := hst.b0
  have hb1 := hst.b1
  have g1 : Y / 4294967296 = a := ea.symm
  have g2 : bits .and .u64 Y 4294967295 = b := by rw [and_low32 _ (by omega) hY2, eb]
  have g3 : L / 4294967296 = d := ed.symm
  have g4 : bits .and .u64 L 4294967295 = c := by rw [and_low32 _ hL0 hL1, ec]
  have HY := Lib.hid (show a = Y / 4294967296 ∧ b = Y % 4294967296 from ⟨ea, eb⟩)
  clear ea eb ed ec
  obtain ⟨r, er⟩ : ∃ r : Int, r = N - N / a * a := ⟨_, rfl⟩
  rw [← er] at hst
  obtain ⟨p0, p1, p2, p3⟩ := est_prod hst
  clear p2
  have p4 : N / a * a ≤ N := by have := hst.r0; omega
  have g6 : N - N / a * a = r := er.symm
  clear er
  go_upto_block 0 with (fail)
  go_cut [15, 16] (fun s15 _ wx => ∃ q0 : Int, s15 = .int .u64 q0 ∧ Dig Y N d q0 ∧ w1 = wx)
  case first =>
    clear g6 f1 f2 f3 f4
    go_wp2
    go_loop [15, 16] (fun t15 t16 => ∃ q r : Int, t15 = .int .u64 q ∧ t16 = .int .u64 r ∧ Est Y a b N d q r) (fun t _ => (intOf t).toNat)
    case atStart => exact ⟨N / a, r, rfl, rfl, hst⟩
    case round =>
      clear p0 p1 p3 p4 hst
      obtain ⟨m, t, rfl, rfl, hst⟩ := hrel
      obtain ⟨p0, p1, p2, p3⟩ := est_prod hst
      clear p2
      have q0 := hst.q0
      have q1 := hst.q1
      have r0 := hst.r0
      have r1 := hst.r1
      by_cases hA : 4294967296 ≤ m
      · have hA' : decide (4294967296 ≤ m) = true := by simpa using hA
        by_cases hr : 4294967296 ≤ t + a
        · go_wp2_with fail
          go_meet
          exact ⟨_, rfl, est_break hst (.inl hA) hr, rfl⟩
        · go_wp2_with fail
          go_round
          case rel => exact ⟨_, _, rfl, rfl, est_next hst (.inl hA) (by omega)⟩
          case measure => simp [intOf]; omega
      · have hA' : decide (4294967296 ≤ m) = false := by simpa using hA
        by_cases hB : 4294967296 * t + d < m * b
        · have m1 := (est_more hst (.inr hB)).1
          by_cases hr : 4294967296 ≤ t + a
          · go_wp2_with fail
            go_meet
            exact ⟨_, rfl, est_break hst (.inr hB) hr, rfl⟩
          · go_wp2_with fail
            go_round
            case rel => exact ⟨_, _, rfl, rfl, est_next hst (.inr hB) (by omega)⟩
            case measure => simp [intOf]; omega
        · go_wp2_with fail
          go_meet
          exact ⟨_, rfl, est_done hst (by omega) (by omega), rfl⟩
  case rest =>
    obtain ⟨q1, rfl, hD, rfl⟩ := hcut
    clear g6 p0 p1 p3 p4 hst g2 g3 g4 f1 f2 f3 f4 g1
    obtain ⟨r0, r1⟩ := dig_rest hD
    obtain ⟨M, eM⟩ : ∃ M : Int, M = N * 4294967296 + d - q1 * Y := ⟨_, rfl⟩
    rw [← eM] at r0 r1
    have k1 : IntKind.u64.wrap (IntKind.u64.wrap (IntKind.u64.wrap (N * 4294967296) + d) - IntKind.u64.wrap (q1 * Y)) = M := by
      simp only [IntKind.wrap_u64]
      omega
    have HM := Lib.hid eM
    clear eM
    have hst := est_start HY.out.1 HY.out.2 hY1 hY2 r0 r1 hc0 hc1
    obtain ⟨v, er⟩ : ∃ v : Int, v = M - M / a * a := ⟨_, rfl⟩
    rw [← er] at hst
    obtain ⟨p0, p1, p2, p3⟩ := est_prod hst
    clear p2
    have p4 : M / a * a ≤ M := by have := hst.r0; omega
    have g7 : M - M / a * a = v := er.symm
    clear er
    have q10 := hD.q0
    have q11 := hD.q1
    go_upto_block 2 with (fail)
    go_cut [18, 16] (fun s18 _ wx => ∃ p : Int, s18 = .int .u64 p ∧ Dig Y M c p ∧ w1 = wx)
    case first =>
      clear g7 k1
      go_wp2
      go_loop [18, 16] (fun t15 t16 => ∃ q r : Int, t15 = .int .u64 q ∧ t16 = .int .u64 r ∧ Est Y a b M c q r) (fun t _ => (intOf t).toNat)
      case atStart => exact ⟨M / a, v, rfl, rfl, hst⟩
      case round =>
        clear p0 p1 p3 p4 hst
        obtain ⟨m, t, rfl, rfl, hst⟩ := hrel
        obtain ⟨p0, p1, p2, p3⟩ := est_prod hst
        clear p2
        have q0 := hst.q0
        have q1 := hst.q1
        have r0 := hst.r0
        have r1 := hst.r1
        by_cases hA : 4294967296 ≤ m
        · have hA' : decide (4294967296 ≤ m) = true := by simpa using hA
          by_cases hr : 4294967296 ≤ t + a
          · go_wp2_with fail
            go_meet
            exact ⟨_, rfl, est_break hst (.inl hA) hr, rfl⟩
          · go_wp2_with fail
            go_round
            case rel => exact ⟨_, _, rfl, rfl, est_next hst (.inl hA) (by omega)⟩
            case measure => simp [intOf]; omega
        · have hA' : decide (4294967296 ≤ m) = false := by simpa using hA
          by_cases hB : 4294967296 * t + c < m * b
          · have m1 := (est_more hst (.inr hB)).1
            by_cases hr : 4294967296 ≤ t + a
            · go_wp2_with fail
              go_meet
              exact ⟨_, rfl, est_break hst (.inr hB) hr, rfl⟩
            · go_wp2_with fail
              go_round
              case rel => exact ⟨_, _, rfl, rfl, est_next hst (.inr hB) (by omega)⟩
              case measure => simp [intOf]; omega
          · go_wp2_with fail
            go_meet
            exact ⟨_, rfl, est_done hst (by omega) (by omega), rfl⟩
    case rest =>
      obtain ⟨p, rfl, hE, rfl⟩ := hcut
      clear g7 k1 p0 p1 p3 p4 hst
      have s0 := hE.q0
      have s1 := hE.q1
      obtain ⟨t0, t1⟩ := dig_rest hE
      have hall := dig_all (N := N) (d := d) (q := q1) HM.out hE (by omega)
      obtain ⟨R, eR⟩ : ∃ R : Int, R = M * 4294967296 + c - p * Y := ⟨_, rfl⟩
      rw [← eR] at t0 t1 hall
      have k2 : IntKind.u64.wrap (IntKind.u64.wrap (IntKind.u64.wrap (M * 4294967296) + c) - IntKind.u64.wrap (p * Y)) = R := by
        simp only [IntKind.wrap_u64]
        omega
      have hL := HL.out
      have hr := Hres.out
      rw [show N * 18446744073709551616 + L = (N * 4294967296 + d) * 4294967296 + c by omega, hall.1, hall.2] at hr
      have Hr := Lib.hid hr
      clear hr hL hall eR
      go_wp2_with fail
      go_ret2
      rw [← Hr.out.1, ← Hr.out.2]
      exact ⟨rfl, Below.refl _ _⟩
end Go.Proofs.Ytkbfdgacnoadlaa
