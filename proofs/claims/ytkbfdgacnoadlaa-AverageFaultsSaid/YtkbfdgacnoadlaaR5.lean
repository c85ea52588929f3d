/- The reference's Blame: its errors. -/
import Derived.Test.YtkbfdgacnoadlaaA5
import Derived.Test.YtkbfdgacnoadlaaA3
import Derived.Test.YtkbfdgacnoadlaaBlameRef
namespace Go.Proofs.Ytkbfdgacnoadlaa
open Go.RowKit

set_option maxHeartbeats 4000000 in
theorem rblame_bad (a b c : List Int) (va vb vc : Value) (w : World) (B : Nat) (hra : Rd w B 1 va a.length (ints a)) (hrb : Rd w B 1 vb b.length (ints b)) (hrc : Rd w B 1 vc c.length (ints c))
    (hla : a.length ≤ 1048576) (hlb : b.length ≤ 1048576) (hlc : c.length ≤ 1048576) (hbad : blameErr a b c ≠ 0) :
    Calls Try.prog 19 #[va, vb, vc] w fun e w' => e = .returned (.tuple #[.slice none 0 0, .int .i64 (blameErr a b c)]) ∧ w = w' := by
  obtain ⟨A, ca, rfl, hna⟩ := hra.shape
  obtain ⟨A', cb, rfl, hnb⟩ := hrb.shape
  obtain ⟨A'', cc, rfl, hnc⟩ := hrc.shape
  rcases Bool.eq_false_or_eq_true (inB 1 12 a.length) with g1 | g1
  rotate_left
  · have e0 : blameErr a b c = 4 := by simp [blameErr, g1]
    rw [e0]
    clear e0 hbad
    go_enter Try.func19, Try.ntmps19
    go_wp2_with (go_at_call 48; refine (in_any _ _ _ _).mono ?_; rintro e w' ⟨rfl, rfl⟩)
    all_goals (go_ret2; exact ⟨rfl, rfl⟩)
  by_cases g2 : b.length = a.length
  rotate_left
  · have e0 : blameErr a b c = 4 := by simp [blameErr, g1, g2]
    have g2' : ((b.length : Int) != (a.length : Int)) = true := by simp; omega
    rw [e0]
    clear e0 hbad
    go_enter Try.func19, Try.ntmps19
    go_wp2_with (go_at_call 48; refine (in_any _ _ _ _).mono ?_; rintro e w' ⟨rfl, rfl⟩)
    all_goals (go_ret2; exact ⟨rfl, rfl⟩)
  have g2' : ((b.length : Int) != (a.length : Int)) = false := by simp [g2]
  by_cases g3 : c.length = a.length
  rotate_left
  · have e0 : blameErr a b c = 4 := by simp [blameErr, g1, g2, g3]
    have g3' : ((c.length : Int) != (a.length : Int)) = true := by simp; omega
    rw [e0]
    clear e0 hbad g2
    go_enter Try.func19, Try.ntmps19
    go_wp2_with (go_at_call 48; refine (in_any _ _ _ _).mono ?_; rintro e w' ⟨rfl, rfl⟩)
    all_goals (go_ret2; exact ⟨rfl, rfl⟩)
  have g3' : ((c.length : Int) != (a.length : Int)) = false := by simp [g3]
  rcases Bool.eq_false_or_eq_true (a.all (inB 0 100000000000)) with g4 | g4
  rotate_left
  · have e0 : blameErr a b c = 3 := by simp [blameErr, g1, g2, g3, g4]
    rw [e0]
    clear e0 hbad g2 g3
    go_enter Try.func19, Try.ntmps19
    go_wp2_with (go_at_call 48; refine (in_any _ _ _ _).mono ?_; rintro e w' ⟨rfl, rfl⟩)
    refine (all_any a _ _ _ a.length _ B hra (by omega)).mono ?_
    rintro e w' ⟨rfl, rfl⟩
    rw [g4]
    go_wp2_with fail
    all_goals (go_ret2; exact ⟨rfl, rfl⟩)
  rcases Bool.eq_false_or_eq_true (b.all (inB 0 10000)) with g5 | g5
  rotate_left
  · have e0 : blameErr a b c = 3 := by simp [blameErr, g1, g2, g3, g4, g5]
    rw [e0]
    clear e0 hbad g2 g3
    go_enter Try.func19, Try.ntmps19
    go_wp2_with (go_at_call 48; refine (in_any _ _ _ _).mono ?_; rintro e w' ⟨rfl, rfl⟩)
    refine (all_any a _ _ _ a.length _ B hra (by omega)).mono ?_
    rintro e w' ⟨rfl, rfl⟩
    rw [g4]
    go_wp2_with fail
    refine (all_any b _ _ _ b.length _ B hrb (by omega)).mono ?_
    rintro e w' ⟨rfl, rfl⟩
    rw [g5]
    go_wp2_with fail
    all_goals (go_ret2; exact ⟨rfl, rfl⟩)
  rcases Bool.eq_false_or_eq_true (c.all (inB 0 100000000000000)) with g6 | g6
  rotate_left
  · have e0 : blameErr a b c = 3 := by simp [blameErr, g1, g2, g3, g4, g5, g6]
    rw [e0]
    clear e0 hbad g2 g3
    go_enter Try.func19, Try.ntmps19
    go_wp2_with (go_at_call 48; refine (in_any _ _ _ _).mono ?_; rintro e w' ⟨rfl, rfl⟩)
    refine (all_any a _ _ _ a.length _ B hra (by omega)).mono ?_
    rintro e w' ⟨rfl, rfl⟩
    rw [g4]
    go_wp2_with fail
    refine (all_any b _ _ _ b.length _ B hrb (by omega)).mono ?_
    rintro e w' ⟨rfl, rfl⟩
    rw [g5]
    go_wp2_with fail
    refine (all_any c _ _ _ c.length _ B hrc (by omega)).mono ?_
    rintro e w' ⟨rfl, rfl⟩
    rw [g6]
    go_wp2_with fail
    all_goals (go_ret2; exact ⟨rfl, rfl⟩)
  rcases Bool.eq_false_or_eq_true (wrap64 b.sum == 0) with g7 | g7
  · have e0 : blameErr a b c = 2 := by simp [blameErr, g1, g2, g3, g4, g5, g6, g7]
    rw [e0]
    clear e0 hbad g2 g3
    go_enter Try.func19, Try.ntmps19
    go_wp2_with (go_at_call 48; refine (in_any _ _ _ _).mono ?_; rintro e w' ⟨rfl, rfl⟩)
    refine (all_any a _ _ _ a.length _ B hra (by omega)).mono ?_
    rintro e w' ⟨rfl, rfl⟩
    rw [g4]
    go_wp2_with fail
    refine (all_any b _ _ _ b.length _ B hrb (by omega)).mono ?_
    rintro e w' ⟨rfl, rfl⟩
    rw [g5]
    go_wp2_with fail
    refine (all_any c _ _ _ c.length _ B hrc (by omega)).mono ?_
    rintro e w' ⟨rfl, rfl⟩
    rw [g6]
    go_wp2_with fail
    refine (rsum_any b _ b.length _ B hrb (by omega)).mono ?_
    rintro e w' ⟨rfl, rfl⟩
    go_wp2_with fail
    all_goals (go_ret2; exact ⟨rfl, rfl⟩)
  · exact absurd (by simp [blameErr, g1, g2, g3, g4, g5, g6, g7]) hbad
end Go.Proofs.Ytkbfdgacnoadlaa
