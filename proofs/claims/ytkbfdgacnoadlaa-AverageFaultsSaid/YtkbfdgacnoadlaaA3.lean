/- The reference's splitting: MulDiv is the quotient of the product; Split, Splits; the program's Split. -/
import Derived.Test.YtkbfdgacnoadlaaA2
import Derived.Test.YtkbfdgacnoadlaaMulDivMath
namespace Go.Proofs.Ytkbfdgacnoadlaa
open Go.RowKit

set_option maxHeartbeats 1000000 in
set_option maxRecDepth 100000 in
theorem muldiv_any (a b c : Int) (w : World) (ha : 0 ≤ a) (hac : a ≤ c) (hc : 1 ≤ c) (hc2 : c ≤ 1000000000000000000) (hb : 0 ≤ b) (hb2 : b ≤ 1125899906842624) :
    Calls Try.prog 51 #[.int .i64 a, .int .i64 b, .int .i64 c] w fun e w' => e = .returned (.int .i64 (a * b / c)) ∧ w = w' := by
  go_enter Try.func51, Try.ntmps51
  go_wp2
  go_loop [7, 8, 9] (fun q r bit => ∃ bt q' r' : Int, bit = .int .i64 bt ∧ q = .int .i64 q' ∧ r = .int .i64 r' ∧ MDrel a b c bt q' r') (fun _ _ bit => (intOf bit).toNat)
  case atStart => exact ⟨_, _, _, rfl, rfl, rfl, .inl ⟨by omega, md_start hb hb2 hc⟩⟩
  case round =>
    obtain ⟨bt, q, r, rfl, rfl, rfl, hmd⟩ := hrel
    rcases hmd with ⟨h1, hmd⟩ | ⟨rfl, hq⟩
    · obtain ⟨b1, b2⟩ := md_bit hmd
      have q0 := hmd.q0
      have r0 := hmd.r0
      have r1 := hmd.r1
      obtain ⟨hin, q2, x0, x1⟩ := md_in hmd ha hac hb rfl
      have hpw := hmd.pw
      have q1 := hmd.q1
      have hbq : 0 ≤ b / bt := Int.ediv_nonneg hb (by omega)
      obtain ⟨x, hx⟩ : ∃ x : Int, x = b / bt % 2 := ⟨_, rfl⟩
      rw [← hx] at hin x0 x1
      rcases (by omega : x = 0 ∨ x = 1) with hx0 | hx1
      · have hbt : (b / bt % 2 == 1) = false := by rw [← hx, hx0]; rfl
        rw [hx0, Int.mul_zero, Int.add_zero] at hin
        clear hx hx0 x0 x1
        go_wp2
        go_loop [7, 8] (fun q r => ∃ q' r' : Int, q = .int .i64 q' ∧ r = .int .i64 r' ∧ MI c (a * (b / bt)) b q' r') (fun _ r => (intOf r).toNat)
        case atStart => exact ⟨_, _, rfl, rfl, hin⟩
        case round =>
          obtain ⟨q', r', rfl, rfl, hmi⟩ := hrel
          have q0 := hmi.q0
          have q1 := hmi.q1
          have r0 := hmi.r0
          have r1 := hmi.r1
          by_cases hr : c ≤ r'
          · go_wp2
            go_round
            case rel => exact ⟨_, _, rfl, rfl, mi_step hmi hac h1 hb hc hr⟩
            case measure => simp [intOf]; omega
          · go_wp2
            go_round
            case rel => exact ⟨_, _, _, rfl, rfl, rfl, mi_done hmi hpw (by omega) hc⟩
            case measure => simp [intOf]; omega
      · have hbt : (b / bt % 2 == 1) = true := by rw [← hx, hx1]; rfl
        rw [hx1, Int.mul_one] at hin
        clear hx hx1 x0 x1
        go_wp2
        go_loop [7, 8] (fun q r => ∃ q' r' : Int, q = .int .i64 q' ∧ r = .int .i64 r' ∧ MI c (a * (b / bt)) b q' r') (fun _ r => (intOf r).toNat)
        case atStart => exact ⟨_, _, rfl, rfl, hin⟩
        case round =>
          obtain ⟨q', r', rfl, rfl, hmi⟩ := hrel
          have q0 := hmi.q0
          have q1 := hmi.q1
          have r0 := hmi.r0
          have r1 := hmi.r1
          by_cases hr : c ≤ r'
          · go_wp2
            go_round
            case rel => exact ⟨_, _, rfl, rfl, mi_step hmi hac h1 hb hc hr⟩
            case measure => simp [intOf]; omega
          · go_wp2
            go_round
            case rel => exact ⟨_, _, _, rfl, rfl, rfl, mi_done hmi hpw (by omega) hc⟩
            case measure => simp [intOf]; omega
    · have Hq := Lib.hid hq
      clear hq
      go_wp2
      go_ret
      exact ⟨ret_int Hq.out, rfl⟩

theorem muldiv_up (a b c : Int) (w : World) (ha : 0 ≤ a) (hac : a ≤ c) (hc : 1 ≤ c) (hc2 : c ≤ 1000000000000000000) (hb : 0 ≤ b) (hb2 : b ≤ 1125899906842624) :
    Calls Try.prog 51 #[.int .i64 a, .int .i64 b, .int .i64 c] w fun e w' => e = .returned (.int .i64 (upto b c a)) ∧ w = w' := by
  have h := muldiv_any a b c w ha hac hc hc2 hb hb2
  rw [Int.mul_comm] at h
  exact h

/-- the error of a split -/
def splitsErr (n : Int) (l : List Int) : Int :=
  if 60 < l.length then 5 else if inB 0 100000000000000 n = false then 3 else if l.all (inB 0 100000000000000) = false then 2 else if (wrap64 l.sum == 0) = true then 2 else 0

theorem all_in {lo hi : Int} {l : List Int} (h : l.all (inB lo hi) = true) : ∀ x ∈ l, lo ≤ x ∧ x ≤ hi := by
  intro x hx
  exact inB_iff.1 (List.all_eq_true.1 h x hx)
theorem sum_le {l : List Int} {m : Int} (h : ∀ x ∈ l, x ≤ m) : l.sum ≤ l.length * m := by
  induction l with
  | nil => simp
  | cons a l ih =>
    have h1 := h a (by simp)
    have h2 := ih fun x hx => h x (by simp [hx])
    simp only [List.sum_cons, List.length_cons, Int.natCast_add, Int.add_mul]
    omega
/-- the sum of some weights that are all in their range -/
theorem sum_bound {hi : Int} {l : List Int} {k : Nat} (h : l.all (inB 0 hi) = true) (hk : l.length ≤ k) (hh : 0 ≤ hi) : 0 ≤ l.sum ∧ l.sum ≤ k * hi := by
  refine ⟨sum_nonneg fun x hx => (all_in h x hx).1, Int.le_trans (sum_le fun x hx => (all_in h x hx).2) ?_⟩
  exact mul_le_l hh (by omega)

set_option maxHeartbeats 1000000 in
theorem splits_any (n : Int) (l : List Int) (v : Value) (w : World) (B : Nat) (hr : Rd w B 1 v l.length (ints l)) (hlen : l.length ≤ 1048576) :
    Calls Try.prog 26 #[.int .i64 n, v] w fun e w' => e = .returned (.int .i64 (splitsErr n l)) ∧ w = w' := by
  obtain ⟨A, c, rfl, hnc⟩ := hr.shape
  go_enter Try.func26, Try.ntmps26
  go_wp2_with (first
    | (go_at_call 48; refine (in_any _ _ _ _).mono ?_; rintro e w' ⟨rfl, rfl⟩)
    | (go_at_call 49; refine (all_any l _ _ _ l.length _ B hr (by omega)).mono ?_; rintro e w' ⟨rfl, rfl⟩)
    | (go_at_call 47; refine (rsum_any l _ l.length _ B hr (by omega)).mono ?_; rintro e w' ⟨rfl, rfl⟩))
  all_goals
    go_ret
    refine ⟨ret_int ?_, rfl⟩
    unfold splitsErr
    (repeat' split) <;> first | rfl | (exfalso; omega) | (exfalso; simp_all; done)

set_option maxHeartbeats 1000000 in
set_option maxRecDepth 100000 in
theorem rsplit_any (n : Int) (l : List Int) (v : Value) (w : World) (B : Nat) (hr : Rd w B 1 v l.length (ints l)) (hB : B ≤ w.heap.size) (hlen : l.length ≤ 1048576)
    (hn : 0 ≤ n) (hn2 : n ≤ 1125899906842624) (hpos : ∀ x ∈ l, 0 ≤ x) (hs : l.length ≠ 0 → 1 ≤ l.sum) (hs2 : l.sum ≤ 1000000000000000000) :
    Calls Try.prog 27 #[.int .i64 n, v] w fun e w' => ∃ v', e = .returned v' ∧ w'.ownsRow w.heap.size 3 1 v' l.length (ints (splitL n l)) ∧ Below w.heap.size w w' := by
  obtain ⟨A, c, rfl, hnc⟩ := hr.shape
  have s0 := sum_nonneg hpos
  have hsum : wrap64 l.sum = l.sum := IntWalk.wrap64_in _ ⟨by omega, by omega⟩
  have Hs := Lib.hid hs
  clear hs
  go_enter Try.func27, Try.ntmps27
  go_wp2_with fail
  refine (rsum_any l _ l.length _ B (hr.alloc hB _) (by omega)).mono ?_
  rintro e w1 ⟨rfl, rfl⟩
  go_wp2_with fail
  go_loopw [5, 7, 8, 9] (fun v b i _ wr => ∃ k : Nat, k ≤ l.length ∧ i = .int .i64 k ∧ b = .int .i64 (l.take k).sum ∧ wr.ownsRow w.heap.size 3 1 v k (ints (shareTo n l.sum l k)) ∧ Below w.heap.size w wr) (fun _ _ i _ _ => l.length - (intOf i).toNat)
  case atStart => exact ⟨0, Nat.zero_le _, rfl, rfl, own_new w _ _ 1 0 #[] (Nat.le_refl _) rfl (Nat.zero_le _), (Below.refl _ _).alloc (Nat.le_refl _) _⟩
  case round =>
    obtain ⟨k, hk, rfl, rfl, hown, hbw⟩ := hrel
    by_cases hlt : k < l.length
    · obtain ⟨b, off, rfl, hb, hc⟩ := ints_at l k hlt _ B _ _ (hr.below (hbw.mono hB))
      have h1 := Hs.out (by omega)
      obtain ⟨t0, t1⟩ := take_sum hpos (k + 1)
      obtain ⟨t2, t3⟩ := take_sum hpos k
      have hx := hpos _ (List.getElem_mem hlt)
      have htk := take_sum_succ hlt
      have Htk := Lib.hid htk
      rw [htk] at t0 t1
      clear htk
      have hsz := hbw.size
      obtain ⟨u0, u1⟩ := upto_le hn t0 t1 h1
      obtain ⟨u2, u3⟩ := upto_le hn t2 t3 h1
      go_wp2_with fail
      refine (muldiv_up _ _ _ _ (by omega) (by omega) (by omega) (by omega) (by omega) (by omega)).mono ?_
      rintro e w1 ⟨rfl, rfl⟩
      go_wp2_with fail
      refine (muldiv_up _ _ _ _ (by omega) (by omega) (by omega) (by omega) (by omega) (by omega)).mono ?_
      rintro e w2 ⟨rfl, rfl⟩
      go_wp2_with (at_builtin; refine wpList_push int_elem rfl (.tmp 25) (.tmp 35) rfl rfl hown _ rfl rfl (by simp [Value.oneCell']) (by simp only [maxLen]; omega) (by omega) (by omega) ?_; intro v2 w2 hown2 hg2 _)
      go_roundw
      case rel =>
        refine ⟨k + 1, by omega, by go_num, by rw [Htk.out], ?_, Below.push hbw hown hg2 (by omega) (by omega)⟩
        rw [shareTo_succ, ← ints_snoc, Htk.out]
        exact hown2
      case measure => simp [intOf]; omega
    · go_wp2
      go_ret
      obtain rfl : k = l.length := by omega
      exact ⟨_, rfl, hown, hbw⟩

/-- what Split returns: the shares, or none and the error -/
def splitSpec (n : Int) (l : List Int) : List Int := if splitsErr n l = 0 then splitL n l else []

set_option maxHeartbeats 1000000 in
set_option maxRecDepth 100000 in
theorem psplit_any (n : Int) (l : List Int) (v : Value) (w : World) (B : Nat) (hr : Rd w B 1 v l.length (ints l)) (hB : B ≤ w.heap.size) (hlen : l.length ≤ 1048576) :
    Calls Try.prog 25 #[.int .i64 n, v] w fun e w' => ∃ v', e = .returned (.tuple #[v', .int .i64 (splitsErr n l)]) ∧ w'.ownsRow w.heap.size 3 1 v' (splitSpec n l).length (ints (splitSpec n l)) ∧ Below w.heap.size w w' := by
  obtain ⟨A, c, rfl, hnc⟩ := hr.shape
  by_cases h1 : 60 < l.length
  · have e0 : splitsErr n l = 5 := by simp [splitsErr, h1]
    have e1 : splitSpec n l = [] := by simp [splitSpec, e0]
    rw [e0, e1]
    clear e0 e1
    go_enter Try.func25, Try.ntmps25
    go_wp2
    go_ret2
    exact ⟨_, rfl, own_nil _ _ _ _, Below.refl _ _⟩
  · have hk : ([n].all (inB 0 100000000000000)) = inB 0 100000000000000 n := by simp
    rcases Bool.eq_false_or_eq_true (inB 0 100000000000000 n) with h2 | h2
    · rw [h2] at hk
      rcases Bool.eq_false_or_eq_true (l.all (inB 0 100000000000000)) with h3 | h3
      · rcases Bool.eq_false_or_eq_true (wrap64 l.sum == 0) with h4 | h4
        · have e0 : splitsErr n l = 2 := by simp [splitsErr, h1, h2, h3, h4]
          have e1 : splitSpec n l = [] := by simp [splitSpec, e0]
          rw [e0, e1]
          clear e0 e1
          go_enter Try.func25, Try.ntmps25
          go_wp2_with fail
          refine (within_any [n] _ _ _ 1 _ (w.heap.size + 1) (Rd.made w _ 1 1 #[.int .i64 n] rfl) (by simp) (by omega)).mono ?_
          rintro e w1 ⟨rfl, hb1⟩
          rw [hk]
          have hc1 : Below w.heap.size w w1 := ((Below.refl _ _).alloc (Nat.le_refl _) _).trans (hb1.mono (by simp))
          clear hb1
          go_wp2_with fail
          refine (within_any l _ _ _ l.length _ B (hr.below (hc1.mono hB)) (by have := hc1.size; omega) (by omega)).mono ?_
          rintro e w2 ⟨rfl, hb2⟩
          rw [h3]
          have hc2 : Below w.heap.size w w2 := hc1.trans (hb2.mono hc1.size)
          clear hb2
          go_wp2_with fail
          refine (sum_any l _ l.length _ B (hr.below (hc2.mono hB)) (by omega)).mono ?_
          rintro e w3 ⟨rfl, rfl⟩
          go_wp2_with fail
          go_ret2
          exact ⟨_, rfl, own_nil _ _ _ _, hc2⟩
        · have e0 : splitsErr n l = 0 := by simp [splitsErr, h1, h2, h3, h4]
          have e1 : splitSpec n l = splitL n l := by simp [splitSpec, e0]
          have e2 : (splitL n l).length = l.length := by simp [splitL, shareTo]
          rw [e0, e1, e2]
          clear e0 e1 e2
          obtain ⟨n0, n1⟩ := inB_iff.1 h2
          obtain ⟨s0, s1⟩ := sum_bound h3 (show l.length ≤ 60 by omega) (by omega)
          have hpos : ∀ x ∈ l, 0 ≤ x := fun x hx => (all_in h3 x hx).1
          have hs : l.length ≠ 0 → 1 ≤ l.sum := by
            intro _
            rw [IntWalk.wrap64_in _ ⟨by omega, by omega⟩] at h4
            simp at h4
            omega
          have Hpos := Lib.hid hpos
          have Hs := Lib.hid hs
          clear hpos hs
          go_enter Try.func25, Try.ntmps25
          go_wp2_with fail
          refine (within_any [n] _ _ _ 1 _ (w.heap.size + 1) (Rd.made w _ 1 1 #[.int .i64 n] rfl) (by simp) (by omega)).mono ?_
          rintro e w1 ⟨rfl, hb1⟩
          rw [hk]
          have hc1 : Below w.heap.size w w1 := ((Below.refl _ _).alloc (Nat.le_refl _) _).trans (hb1.mono (by simp))
          clear hb1
          go_wp2_with fail
          refine (within_any l _ _ _ l.length _ B (hr.below (hc1.mono hB)) (by have := hc1.size; omega) (by omega)).mono ?_
          rintro e w2 ⟨rfl, hb2⟩
          rw [h3]
          have hc2 : Below w.heap.size w w2 := hc1.trans (hb2.mono hc1.size)
          clear hb2
          go_wp2_with fail
          refine (sum_any l _ l.length _ B (hr.below (hc2.mono hB)) (by omega)).mono ?_
          rintro e w3 ⟨rfl, rfl⟩
          go_wp2_with fail
          refine (split_any n l _ _ B (hr.below (hc2.mono hB)) (by have := hc2.size; omega) hlen n0 (by omega) Hpos.out Hs.out (by omega)).mono ?_
          rintro e w4 ⟨v', rfl, hown, hb4⟩
          go_wp2_with fail
          go_ret2
          exact ⟨_, rfl, own_less hown hc2.size, hc2.trans (hb4.mono hc2.size)⟩
      · have e0 : splitsErr n l = 2 := by simp [splitsErr, h1, h2, h3]
        have e1 : splitSpec n l = [] := by simp [splitSpec, e0]
        rw [e0, e1]
        clear e0 e1
        go_enter Try.func25, Try.ntmps25
        go_wp2_with fail
        refine (within_any [n] _ _ _ 1 _ (w.heap.size + 1) (Rd.made w _ 1 1 #[.int .i64 n] rfl) (by simp) (by omega)).mono ?_
        rintro e w1 ⟨rfl, hb1⟩
        rw [hk]
        have hc1 : Below w.heap.size w w1 := ((Below.refl _ _).alloc (Nat.le_refl _) _).trans (hb1.mono (by simp))
        clear hb1
        go_wp2_with fail
        refine (within_any l _ _ _ l.length _ B (hr.below (hc1.mono hB)) (by have := hc1.size; omega) (by omega)).mono ?_
        rintro e w2 ⟨rfl, hb2⟩
        rw [h3]
        have hc2 : Below w.heap.size w w2 := hc1.trans (hb2.mono hc1.size)
        clear hb2
        go_wp2_with fail
        go_ret2
        exact ⟨_, rfl, own_nil _ _ _ _, hc2⟩
    · rw [h2] at hk
      have e0 : splitsErr n l = 3 := by simp [splitsErr, h1, h2]
      have e1 : splitSpec n l = [] := by simp [splitSpec, e0]
      rw [e0, e1]
      clear e0 e1
      go_enter Try.func25, Try.ntmps25
      go_wp2_with fail
      refine (within_any [n] _ _ _ 1 _ (w.heap.size + 1) (Rd.made w _ 1 1 #[.int .i64 n] rfl) (by simp) (by omega)).mono ?_
      rintro e w1 ⟨rfl, hb1⟩
      rw [hk]
      have hc1 : Below w.heap.size w w1 := ((Below.refl _ _).alloc (Nat.le_refl _) _).trans (hb1.mono (by simp))
      clear hb1
      go_wp2_with fail
      go_ret2
      exact ⟨_, rfl, own_nil _ _ _ _, hc1⟩
end Go.Proofs.Ytkbfdgacnoadlaa
