/- Law AverageBlames, its walk. -/
import Derived.Test.YtkbfdgacnoadlaaA17
import Derived.Test.YtkbfdgacnoadlaaR5
import Derived.Test.YtkbfdgacnoadlaaR7
namespace Go.Proofs.Ytkbfdgacnoadlaa
open Go.RowKit

def BlamePost (w : World) (s : List Int) (y : Int) (e : Ending) (w' : World) : Prop :=
  ∃ v', e = .returned (.tuple #[v', .int .i64 y]) ∧ w'.ownsRow w.heap.size 3 1 v' s.length (ints s) ∧ Below w.heap.size w w'
theorem blameSpec_len (a b c : List Int) : (blameSpec a b c).length ≤ a.length := by
  unfold blameSpec
  split
  · simp only [blameL]
    rw [getsTo_length, paysTo_length]
    exact Nat.le_refl _
  · exact Nat.zero_le _
theorem pblame_any (a b c : List Int) (va vb vc : Value) (w : World) (B : Nat) (hra : Rd w B 1 va a.length (ints a)) (hrb : Rd w B 1 vb b.length (ints b)) (hrc : Rd w B 1 vc c.length (ints c)) (hB : B ≤ w.heap.size)
    (hla : a.length ≤ 1048576) (hlb : b.length ≤ 1048576) (hlc : c.length ≤ 1048576) :
    Calls Try.prog 18 #[va, vb, vc] w (BlamePost w (blameSpec a b c) (blameErr a b c)) := by
  by_cases h : blameErr a b c = 0
  · have := blame_ok a b c va vb vc w B hra hrb hrc hB h
    rw [show blameL a b c = blameSpec a b c by rw [blameSpec, if_pos h]] at this
    rw [h]
    exact this
  · exact blame_bad a b c va vb vc w B hra hrb hrc hB hla hlb hlc h
theorem rblame_any (a b c : List Int) (va vb vc : Value) (w : World) (B : Nat) (hra : Rd w B 1 va a.length (ints a)) (hrb : Rd w B 1 vb b.length (ints b)) (hrc : Rd w B 1 vc c.length (ints c)) (hB : B ≤ w.heap.size)
    (hla : a.length ≤ 1048576) (hlb : b.length ≤ 1048576) (hlc : c.length ≤ 1048576) :
    Calls Try.prog 19 #[va, vb, vc] w (BlamePost w (blameSpec a b c) (blameErr a b c)) := by
  by_cases h : blameErr a b c = 0
  · have := rblame_ok a b c va vb vc w B hra hrb hrc hB h
    rw [show blameL a b c = blameSpec a b c by rw [blameSpec, if_pos h]] at this
    rw [h]
    exact this
  · refine (rblame_bad a b c va vb vc w B hra hrb hrc hla hlb hlc h).mono ?_
    rintro e w' ⟨rfl, rfl⟩
    refine ⟨_, rfl, ?_, Below.refl _ _⟩
    rw [show blameSpec a b c = [] by rw [blameSpec, if_neg h]]
    exact own_nil _ _ _ _
theorem eqL_same (l : List Int) : eqL l l = true := by simp [eqL]

set_option maxHeartbeats 4000000 in
set_option maxRecDepth 100000 in
theorem blames_law (a b c : List Int) (va vb vc : Value) (w : World) (B : Nat) (hra : Rd w B 1 va a.length (ints a)) (hrb : Rd w B 1 vb b.length (ints b)) (hrc : Rd w B 1 vc c.length (ints c)) (hB : B ≤ w.heap.size) :
    Calls Try.prog 4 #[va, vb, vc] w fun e w' => e = .returned (.bool true) ∧ Below w.heap.size w w' := by
  obtain ⟨Aa, ca, rfl, hna⟩ := hra.shape
  obtain ⟨Ab, cb, rfl, hnb⟩ := hrb.shape
  obtain ⟨Ac, cc, rfl, hnc⟩ := hrc.shape
  by_cases ha : 15 < a.length
  · have ha' : decide (15 < (a.length : Int)) = true := by simp; omega
    go_enter Try.func4, Try.ntmps4
    go_wp2_with fail
    refine (known_any w).mono ?_
    rintro e w1 ⟨rfl, hb⟩
    go_wp2_with fail
    go_ret
    exact ⟨rfl, hb⟩
  have ha' : decide (15 < (a.length : Int)) = false := by simp; omega
  by_cases hb : 15 < b.length
  · have hb' : decide (15 < (b.length : Int)) = true := by simp; omega
    go_enter Try.func4, Try.ntmps4
    go_wp2_with fail
    refine (known_any w).mono ?_
    rintro e w1 ⟨rfl, hb⟩
    go_wp2_with fail
    go_ret
    exact ⟨rfl, hb⟩
  have hb' : decide (15 < (b.length : Int)) = false := by simp; omega
  by_cases hc : 15 < c.length
  · have hc' : decide (15 < (c.length : Int)) = true := by simp; omega
    go_enter Try.func4, Try.ntmps4
    go_wp2_with fail
    refine (known_any w).mono ?_
    rintro e w1 ⟨rfl, hb⟩
    go_wp2_with fail
    go_ret
    exact ⟨rfl, hb⟩
  have hc' : decide (15 < (c.length : Int)) = false := by simp; omega
  have c1 := fun (W : World) (u v x : Value) (h1 : Rd W W.heap.size 1 u a.length (ints a)) (h2 : Rd W W.heap.size 1 v b.length (ints b)) (h3 : Rd W W.heap.size 1 x c.length (ints c)) => pblame_any a b c u v x W _ h1 h2 h3 (Nat.le_refl _) (by omega) (by omega) (by omega)
  have c2 := fun (W : World) (u v x : Value) (h1 : Rd W W.heap.size 1 u a.length (ints a)) (h2 : Rd W W.heap.size 1 v b.length (ints b)) (h3 : Rd W W.heap.size 1 x c.length (ints c)) => rblame_any a b c u v x W _ h1 h2 h3 (Nat.le_refl _) (by omega) (by omega) (by omega)
  have hlen := blameSpec_len a b c
  obtain ⟨S, hS⟩ : ∃ S, S = blameSpec a b c := ⟨_, rfl⟩
  obtain ⟨E, hE⟩ : ∃ E, E = blameErr a b c := ⟨_, rfl⟩
  rw [← hS, ← hE] at c1 c2
  rw [← hS] at hlen
  have C1 := Lib.hid c1
  have C2 := Lib.hid c2
  clear c1 c2 hS hE
  go_enter Try.func4, Try.ntmps4
  go_wp2_with fail
  refine (ints_any a _ a.length _ B hra hB (by omega)).mono ?_
  rintro e w1 ⟨v1, rfl, ho1, hb1⟩
  have r1 := Rd.of_own ho1
  obtain ⟨A1, k1, rfl, hn1⟩ := r1.shape
  go_wp2_with fail
  refine (ints_any b _ b.length _ B (hrb.below (hb1.mono hB)) (Nat.le_trans hB hb1.size) (by omega)).mono ?_
  rintro e w2 ⟨v2, rfl, ho2, hb2⟩
  have r2 := Rd.of_own ho2
  have b2 := Below.on hb1 hb2 hb1.size
  have r1' := r1.go hb2
  obtain ⟨A2, k2, rfl, hn2⟩ := r2.shape
  clear ho1 ho2 r1 hb1
  go_wp2_with fail
  refine (ints_any c _ c.length _ B (hrc.below (b2.mono hB)) (Nat.le_trans hB b2.size) (by omega)).mono ?_
  rintro e w3 ⟨v3, rfl, ho3, hb3⟩
  have r3 := Rd.of_own ho3
  have b3 := Below.on b2 hb3 b2.size
  have r1 := r1'.go hb3
  have r2' := r2.go hb3
  obtain ⟨A3, k3, rfl, hn3⟩ := r3.shape
  clear ho3 r1' r2 b2 hb2 hb3
  go_wp2_with fail
  refine (C1.out _ _ _ _ r1 r2' r3).mono ?_
  rintro e w4 ⟨v4, rfl, ho4, hb4⟩
  have r4 := Rd.of_own ho4
  have b4 := Below.on b3 hb4 b3.size
  have s1 := r1.go hb4
  have s2 := r2'.go hb4
  have s3 := r3.go hb4
  obtain ⟨A4, k4, rfl, hn4⟩ := r4.shape
  clear ho4 r1 r2' r3 b3 hb4
  have x1 := (hra.below (b4.mono hB)).more (Nat.le_trans hB b4.size)
  have x2 := (hrb.below (b4.mono hB)).more (Nat.le_trans hB b4.size)
  have x3 := (hrc.below (b4.mono hB)).more (Nat.le_trans hB b4.size)
  clear hra hrb hrc
  go_wp2_with fail
  refine (C2.out _ _ _ _ x1 x2 x3).mono ?_
  rintro e w5 ⟨v5, rfl, ho5, hb5⟩
  have r5 := Rd.of_own ho5
  have b5 := Below.on b4 hb5 b4.size
  have y1 := x1.go hb5
  have y2 := x2.go hb5
  have y3 := x3.go hb5
  have z1 := s1.go hb5
  have z2 := s2.go hb5
  have z3 := s3.go hb5
  have z4 := r4.go hb5
  obtain ⟨A5, k5, rfl, hn5⟩ := r5.shape
  clear ho5 x1 x2 x3 s1 s2 s3 r4 b4 hb5
  go_wp2_with fail
  refine (equal_any a a _ _ a.length a.length _ _ _ z1 y1 (Nat.le_refl _) (Nat.le_refl _) (by omega)).mono ?_
  rw [eqL_same]
  rintro e w6 ⟨rfl, hb6⟩
  have b6 := Below.on b5 hb6 b5.size
  have y2' := y2.go hb6
  have y3' := y3.go hb6
  have z2' := z2.go hb6
  have z3' := z3.go hb6
  have z4' := z4.go hb6
  have r5' := r5.go hb6
  clear y1 z1 y2 y3 z2 z3 z4 r5 b5 hb6
  go_wp2_with fail
  refine (equal_any b b _ _ b.length b.length _ _ _ z2' y2' (Nat.le_refl _) (Nat.le_refl _) (by omega)).mono ?_
  rw [eqL_same]
  rintro e w7 ⟨rfl, hb7⟩
  have b7 := Below.on b6 hb7 b6.size
  have y3 := y3'.go hb7
  have z3 := z3'.go hb7
  have z4 := z4'.go hb7
  have r5 := r5'.go hb7
  clear y2' z2' y3' z3' z4' r5' b6 hb7
  go_wp2_with fail
  refine (equal_any c c _ _ c.length c.length _ _ _ z3 y3 (Nat.le_refl _) (Nat.le_refl _) (by omega)).mono ?_
  rw [eqL_same]
  rintro e w8 ⟨rfl, hb8⟩
  have b8 := Below.on b7 hb8 b7.size
  have z4' := z4.go hb8
  have r5' := r5.go hb8
  clear y3 z3 z4 r5 b7 hb8
  go_wp2_with fail
  refine (equal_any S S _ _ S.length S.length _ _ _ z4' r5' (Nat.le_refl _) (Nat.le_refl _) (by omega)).mono ?_
  rw [eqL_same]
  rintro e w9 ⟨rfl, hb9⟩
  have b9 := Below.on b8 hb9 b8.size
  clear z4' r5' b8 hb9
  go_wp2_with fail
  refine (known_any _).mono ?_
  rintro e w10 ⟨rfl, hb10⟩
  go_wp2_with fail
  go_ret
  exact ⟨rfl, b9.trans (hb10.mono b9.size)⟩
end Go.Proofs.Ytkbfdgacnoadlaa
