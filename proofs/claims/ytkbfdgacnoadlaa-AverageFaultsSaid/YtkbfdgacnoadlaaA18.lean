/- Law AverageSplits, its walk. -/
import Derived.Test.YtkbfdgacnoadlaaA17
import Derived.Test.YtkbfdgacnoadlaaA3
namespace Go.Proofs.Ytkbfdgacnoadlaa
open Go.RowKit

theorem eqL_self (l : List Int) : eqL l l = true := by
  simp [eqL]

theorem splitsErr_zero {n : Int} {l : List Int} (h : splitsErr n l = 0) : 0 ≤ n ∧ n ≤ 100000000000000 ∧ (∀ x ∈ l, 0 ≤ x) ∧ 1 ≤ l.sum ∧ l.sum ≤ 1000000000000000000 ∧ l.length ≤ 60 := by
  unfold splitsErr at h
  split at h
  · omega
  split at h
  · omega
  split at h
  · omega
  split at h
  · omega
  rename_i h1 h2 h3 h4
  have hn := inB_iff.1 ((Bool.not_eq_false _).mp h2)
  have ha := (Bool.not_eq_false _).mp h3
  have hb := sum_bound ha (k := 60) (by omega) (by omega)
  have hw : wrap64 l.sum = l.sum := IntWalk.wrap64_in _ ⟨by omega, by omega⟩
  rw [hw] at h4
  have hne : l.sum ≠ 0 := by simpa using h4
  exact ⟨hn.1, hn.2, fun x hx => (all_in ha x hx).1, by omega, by omega, by omega⟩
set_option maxHeartbeats 2000000 in
set_option maxRecDepth 100000 in
theorem splits_law (n : Int) (l : List Int) (v : Value) (w : World) (B : Nat) (hr : Rd w B 1 v l.length (ints l)) (hB : B ≤ w.heap.size) :
    Calls Try.prog 9 #[.int .i64 n, v] w fun e w' => e = .returned (.bool true) ∧ Below w.heap.size w w' := by
  obtain ⟨A, c, rfl, hnc⟩ := hr.shape
  by_cases h70 : 70 < l.length
  · go_enter Try.func9, Try.ntmps9
    go_wp2_with fail
    refine (known_any w).mono ?_
    rintro e w1 ⟨rfl, hb⟩
    go_wp2_with fail
    go_ret
    exact ⟨rfl, hb⟩
  by_cases he : splitsErr n l = 0
  · have hp : ∀ (W : World) (a : Option Addr) (k : Nat), Rd W W.heap.size 1 (.slice a l.length k) l.length (ints l) → Calls Try.prog 25 #[.int .i64 n, .slice a l.length k] W fun e w' => ∃ v', e = .returned (.tuple #[v', .int .i64 0]) ∧ w'.ownsRow W.heap.size 3 1 v' (splitL n l).length (ints (splitL n l)) ∧ Below W.heap.size W w' := by
      intro W a k h
      have := psplit_any n l _ W _ h (Nat.le_refl _) (by omega)
      rw [he, show splitSpec n l = splitL n l by simp [splitSpec, he]] at this
      exact this
    have hq : ∀ (W : World) (a : Option Addr) (k : Nat), Rd W W.heap.size 1 (.slice a l.length k) l.length (ints l) → Calls Try.prog 26 #[.int .i64 n, .slice a l.length k] W fun e w' => e = .returned (.int .i64 0) ∧ W = w' := by
      intro W a k h
      have := splits_any n l _ W _ h (by omega)
      rw [he] at this
      exact this
    obtain ⟨hn0, hn1, hpos, hs1, hs2, hl60⟩ := splitsErr_zero he
    have HH := Lib.hid (And.intro hs1 hs2)
    clear he hs1 hs2
    go_enter Try.func9, Try.ntmps9
    go_wp2_with fail
    refine (ints_any l _ l.length _ B hr hB (by omega)).mono ?_
    rintro e w1 ⟨v1, rfl, ho1, hb1⟩
    have hr1 := Rd.of_own ho1
    clear ho1
    obtain ⟨A1, c1, rfl, hnc1⟩ := hr1.shape
    go_wp2_with fail
    refine (hp w1 _ _ hr1).mono ?_
    rintro e w2 ⟨v2, rfl, ho2, hb2⟩
    have hr2 := Rd.of_own ho2
    clear ho2
    obtain ⟨A2, c2, rfl, hnc2⟩ := hr2.shape
    have hrw : Rd w2 w2.heap.size 1 (.slice A l.length c) l.length (ints l) := (((hr.below (hb1.mono hB)).more (Nat.le_trans hB hb1.size)).below hb2).more hb2.size
    go_wp2_with fail
    refine (equal_any l l _ _ l.length l.length _ _ _ (hr1.go hb2) hrw (Nat.le_refl _) (Nat.le_refl _) (by omega)).mono ?_
    rw [eqL_self]
    rintro e w3 ⟨rfl, hb3⟩
    have hr3 := hr2.go hb3
    have hrv := hrw.go hb3
    have c3 : Below w.heap.size w w3 := Below.on (Below.on hb1 hb2 hb1.size) hb3 (Nat.le_trans hb1.size hb2.size)
    clear hr1 hr2 hrw hb1 hb2 hb3 hr
    go_wp2_with fail
    refine (hq w3 _ _ hrv).mono ?_
    rintro e w3' ⟨rfl, rfl⟩
    go_wp2_with fail
    refine (rsplit_any n l _ _ _ hrv (Nat.le_refl _) (by omega) hn0 (by omega) hpos (fun _ => HH.out.1) HH.out.2).mono ?_
    rintro e w4 ⟨v4, rfl, ho4, hb4⟩
    have hr4 := Rd.of_own ho4
    clear ho4
    have hl4 := splitL_length n l
    have hr3' := hr3.go hb4
    rw [hl4] at *
    obtain ⟨A4, c4, rfl, hnc4⟩ := hr4.shape
    go_wp2_with fail
    refine (equal_any (splitL n l) (splitL n l) _ _ l.length l.length _ _ _ hr3' hr4 (Nat.le_refl _) (Nat.le_refl _) (by omega)).mono ?_
    rw [eqL_self]
    rintro e w5 ⟨rfl, hb5⟩
    have d5 := Below.on (Below.on c3 hb4 c3.size) hb5 (Nat.le_trans c3.size hb4.size)
    clear hr3 hr3' hrv hr4 hb4 hb5 c3
    go_wp2_with fail
    refine (known_any w5).mono ?_
    rintro e w6 ⟨rfl, hb6⟩
    go_wp2_with fail
    go_ret
    exact ⟨rfl, Below.on d5 hb6 d5.size⟩
  · obtain ⟨E, hE⟩ : ∃ E, E = splitsErr n l := ⟨_, rfl⟩
    have hE0 : ¬ E = 0 := by rw [hE]; exact he
    have hp : ∀ (W : World) (a : Option Addr) (k : Nat), Rd W W.heap.size 1 (.slice a l.length k) l.length (ints l) → Calls Try.prog 25 #[.int .i64 n, .slice a l.length k] W fun e w' => ∃ v', e = .returned (.tuple #[v', .int .i64 E]) ∧ w'.ownsRow W.heap.size 3 1 v' 0 (ints []) ∧ Below W.heap.size W w' := by
      intro W a k h
      have := psplit_any n l _ W _ h (Nat.le_refl _) (by omega)
      rw [← hE, show splitSpec n l = [] by simp [splitSpec, he]] at this
      exact this
    have hq : ∀ (W : World) (a : Option Addr) (k : Nat), Rd W W.heap.size 1 (.slice a l.length k) l.length (ints l) → Calls Try.prog 26 #[.int .i64 n, .slice a l.length k] W fun e w' => e = .returned (.int .i64 E) ∧ W = w' := by
      intro W a k h
      have := splits_any n l _ W _ h (by omega)
      rw [← hE] at this
      exact this
    clear he hE
    go_enter Try.func9, Try.ntmps9
    go_wp2_with fail
    refine (ints_any l _ l.length _ B hr hB (by omega)).mono ?_
    rintro e w1 ⟨v1, rfl, ho1, hb1⟩
    have hr1 := Rd.of_own ho1
    clear ho1
    obtain ⟨A1, c1, rfl, hnc1⟩ := hr1.shape
    go_wp2_with fail
    refine (hp w1 _ _ hr1).mono ?_
    rintro e w2 ⟨v2, rfl, ho2, hb2⟩
    have hr2 := Rd.of_own ho2
    clear ho2
    obtain ⟨A2, c2, rfl, hnc2⟩ := hr2.shape
    have hrw : Rd w2 w2.heap.size 1 (.slice A l.length c) l.length (ints l) := (((hr.below (hb1.mono hB)).more (Nat.le_trans hB hb1.size)).below hb2).more hb2.size
    go_wp2_with fail
    refine (equal_any l l _ _ l.length l.length _ _ _ (hr1.go hb2) hrw (Nat.le_refl _) (Nat.le_refl _) (by omega)).mono ?_
    rw [eqL_self]
    rintro e w3 ⟨rfl, hb3⟩
    have hr3 := hr2.go hb3
    have hrv := hrw.go hb3
    have c3 : Below w.heap.size w w3 := Below.on (Below.on hb1 hb2 hb1.size) hb3 (Nat.le_trans hb1.size hb2.size)
    clear hr1 hr2 hrw hb1 hb2 hb3 hr
    go_wp2_with fail
    refine (hq w3 _ _ hrv).mono ?_
    rintro e w3' ⟨rfl, rfl⟩
    go_wp2_with fail
    refine (known_any _).mono ?_
    rintro e w6 ⟨rfl, hb6⟩
    go_wp2_with fail
    go_ret
    exact ⟨rfl, Below.on c3 hb6 c3.size⟩
end Go.Proofs.Ytkbfdgacnoadlaa
