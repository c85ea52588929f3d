/- The walk of the program's Dues. -/
import Derived.Test.YtkbfdgacnoadlaaA6
import Derived.Test.YtkbfdgacnoadlaaDuesMath
import Derived.Test.YtkbfdgacnoadlaaBills
namespace Go.Proofs.Ytkbfdgacnoadlaa
open Go.RowKit

theorem within_three (x y z lo hi : Int) (w : World) (g : Nat) (hg : g = w.heap.size) :
    Calls Try.prog 35 #[.int .i64 lo, .int .i64 hi, .slice (some ⟨g, 0, none⟩) 3 3] (w.alloc (.cells #[.int .i64 x, .int .i64 y, .int .i64 z] 3)) fun e w' => e = .returned (.bool ([x, y, z].all (inB lo hi))) ∧ Below w.heap.size w w' := by
  refine (within_any [x, y, z] lo hi _ 3 _ (g + 1) (Rd.made_at w g hg _ 1 3 #[.int .i64 x, .int .i64 y, .int .i64 z] rfl) (by simp [hg]) (by omega)).mono ?_
  rintro e w1 ⟨rfl, hb⟩
  exact ⟨rfl, ((Below.refl _ _).alloc (Nat.le_refl _) _).trans (hb.mono (by simp))⟩

def DuesPost (w : World) (s : List Int × Nat × Int) (e : Ending) (w' : World) : Prop :=
  ∃ v', e = .returned (.tuple #[v', .int .i64 s.2.1, .int .i64 s.2.2]) ∧ w'.ownsRow w.heap.size 3 1 v' s.1.length (ints s.1) ∧ Below w.heap.size w w'
theorem DuesPost.none {w w' : World} {x : Nat} {y : Int} (hb : Below w.heap.size w w') : DuesPost w ([], x, y) (.returned (.tuple #[.slice none 0 0, .int .i64 x, .int .i64 y])) w' :=
  ⟨_, rfl, own_nil _ _ _ _, hb⟩
theorem tf_cells {w : World} {g : Nat} {t : Tf} (h : Blk w g 41 (tfV t)) : w.cell? ⟨g, 0, none⟩ = some (.int .i64 t.base) ∧ w.cell? ⟨g, 1, none⟩ = some (.int .i64 t.tons) ∧ w.cell? ⟨g, 2, none⟩ = some (.int .i64 t.length) ∧ w.cell? ⟨g, 3, none⟩ = some (.int .i64 t.passes) ∧
    w.cell? ⟨g, 4, none⟩ = some (.int .i64 t.off) ∧ w.cell? ⟨g, 5, none⟩ = some (.int .i64 t.most) :=
  ⟨h.cell 0, h.cell 1, h.cell 2, h.cell 3, h.cell 4, h.cell 5⟩

set_option maxHeartbeats 4000000 in
set_option maxRecDepth 100000 in
theorem dues_early (t : Tf) (n : Int) (l : List Ps) (v : Value) (w : World) (B : Nat) (hr : Rd w B 3 v l.length (passesV l)) (hlen : l.length ≤ 1048576) (hbad : tfErr t ≠ 0 ∨ inB 1 40 n = false ∨ 300 < l.length) :
    Calls Try.prog 21 #[.agg (tfV t), .int .i64 n, v] w (DuesPost w (duesSpec t n l)) := by
  obtain ⟨A, cl, rfl, hnc⟩ := hr.shape
  rcases Bool.eq_false_or_eq_true ([t.base, t.tons, t.length].all (inB 0 1000000)) with h1 | h1
  · rcases Bool.eq_false_or_eq_true (inB 0 300 t.passes) with h2 | h2
    · rcases Bool.eq_false_or_eq_true (inB 0 10000 t.off) with h3 | h3
      · rcases Bool.eq_false_or_eq_true (inB 0 100000000000000 t.most) with h4 | h4
        · have e0 : tfErr t = 0 := by rw [tfErr, if_neg (by simp [h1]), if_neg (by simp [h2]), if_neg (by simp [h3]), if_neg (by simp [h4])]
          rcases Bool.eq_false_or_eq_true (inB 1 40 n) with h5 | h5
          · have h6 : 300 < l.length := by simpa [e0, h5] using hbad
            have hs : duesSpec t n l = ([], 0, 5) := by simp [duesSpec, duesErr, e0, h5, h6]
            rw [hs]
            clear hs e0 hbad
            have hq0 : Blk (w.alloc (.cells (tfV t) 41)) w.heap.size 41 (tfV t) := Blk.new w _ _
            unfold tfV
            go_enter Try.func21, Try.ntmps21
            go_wp2_with fail
            refine (within_three _ _ _ 0 _ _ _ (by simp)).mono ?_
            rintro e w1 ⟨rfl, hb1⟩
            rw [h1]
            have hc1 : Below w.heap.size w w1 := ((Below.refl _ _).alloc (Nat.le_refl _) _).trans (hb1.mono (by simp))
            have hq1 := hq0.below hb1 (by simp)
            clear hb1 hq0
            obtain ⟨k0, k1, k2, k3, k4, k5⟩ := tf_cells hq1
            go_wp2_with fail
            refine (within_one _ 0 _ _ _ rfl).mono ?_
            rintro e w2 ⟨rfl, hb2⟩
            rw [h2]
            have hc2 : Below w.heap.size w w2 := hc1.trans (hb2.mono hc1.size)
            have hq2 := hq1.below hb2 hq1.lt
            clear hb2 hq1 k0 k1 k2 k3 k4 k5 hc1
            obtain ⟨k0, k1, k2, k3, k4, k5⟩ := tf_cells hq2
            go_wp2_with fail
            refine (within_one _ 0 _ _ _ rfl).mono ?_
            rintro e w3 ⟨rfl, hb3⟩
            rw [h3]
            have hc3 : Below w.heap.size w w3 := hc2.trans (hb3.mono hc2.size)
            have hq3 := hq2.below hb3 hq2.lt
            clear hb3 hq2 k0 k1 k2 k3 k4 k5 hc2
            obtain ⟨k0, k1, k2, k3, k4, k5⟩ := tf_cells hq3
            go_wp2_with fail
            refine (within_one _ 0 _ _ _ rfl).mono ?_
            rintro e w4 ⟨rfl, hb4⟩
            rw [h4]
            have hc4 : Below w.heap.size w w4 := hc3.trans (hb4.mono hc3.size)
            have hq4 := hq3.below hb4 hq3.lt
            clear hb4 hq3 k0 k1 k2 k3 k4 k5 hc3
            obtain ⟨k0, k1, k2, k3, k4, k5⟩ := tf_cells hq4
            go_wp2_with fail
            refine (within_one _ 1 _ _ _ rfl).mono ?_
            rintro e w5 ⟨rfl, hb5⟩
            rw [h5]
            have hc5 : Below w.heap.size w w5 := hc4.trans (hb5.mono hc4.size)
            have hq5 := hq4.below hb5 hq4.lt
            clear hb5 hq4 k0 k1 k2 k3 k4 k5 hc4
            obtain ⟨k0, k1, k2, k3, k4, k5⟩ := tf_cells hq5
            go_wp2_with fail
            go_ret3
            exact DuesPost.none (x := 0) (y := 5) hc5
          · have hs : duesSpec t n l = ([], 0, 3) := by simp [duesSpec, duesErr, e0, h5]
            rw [hs]
            clear hs e0 hbad
            have hq0 : Blk (w.alloc (.cells (tfV t) 41)) w.heap.size 41 (tfV t) := Blk.new w _ _
            unfold tfV
            go_enter Try.func21, Try.ntmps21
            go_wp2_with fail
            refine (within_three _ _ _ 0 _ _ _ (by simp)).mono ?_
            rintro e w1 ⟨rfl, hb1⟩
            rw [h1]
            have hc1 : Below w.heap.size w w1 := ((Below.refl _ _).alloc (Nat.le_refl _) _).trans (hb1.mono (by simp))
            have hq1 := hq0.below hb1 (by simp)
            clear hb1 hq0
            obtain ⟨k0, k1, k2, k3, k4, k5⟩ := tf_cells hq1
            go_wp2_with fail
            refine (within_one _ 0 _ _ _ rfl).mono ?_
            rintro e w2 ⟨rfl, hb2⟩
            rw [h2]
            have hc2 : Below w.heap.size w w2 := hc1.trans (hb2.mono hc1.size)
            have hq2 := hq1.below hb2 hq1.lt
            clear hb2 hq1 k0 k1 k2 k3 k4 k5 hc1
            obtain ⟨k0, k1, k2, k3, k4, k5⟩ := tf_cells hq2
            go_wp2_with fail
            refine (within_one _ 0 _ _ _ rfl).mono ?_
            rintro e w3 ⟨rfl, hb3⟩
            rw [h3]
            have hc3 : Below w.heap.size w w3 := hc2.trans (hb3.mono hc2.size)
            have hq3 := hq2.below hb3 hq2.lt
            clear hb3 hq2 k0 k1 k2 k3 k4 k5 hc2
            obtain ⟨k0, k1, k2, k3, k4, k5⟩ := tf_cells hq3
            go_wp2_with fail
            refine (within_one _ 0 _ _ _ rfl).mono ?_
            rintro e w4 ⟨rfl, hb4⟩
            rw [h4]
            have hc4 : Below w.heap.size w w4 := hc3.trans (hb4.mono hc3.size)
            have hq4 := hq3.below hb4 hq3.lt
            clear hb4 hq3 k0 k1 k2 k3 k4 k5 hc3
            obtain ⟨k0, k1, k2, k3, k4, k5⟩ := tf_cells hq4
            go_wp2_with fail
            refine (within_one _ 1 _ _ _ rfl).mono ?_
            rintro e w5 ⟨rfl, hb5⟩
            rw [h5]
            have hc5 : Below w.heap.size w w5 := hc4.trans (hb5.mono hc4.size)
            have hq5 := hq4.below hb5 hq4.lt
            clear hb5 hq4 k0 k1 k2 k3 k4 k5 hc4
            obtain ⟨k0, k1, k2, k3, k4, k5⟩ := tf_cells hq5
            go_wp2_with fail
            go_ret3
            exact DuesPost.none (x := 0) (y := 3) hc5
        · have e0 : tfErr t = 2 := by rw [tfErr, if_neg (by simp [h1]), if_neg (by simp [h2]), if_neg (by simp [h3]), if_pos h4]
          have hs : duesSpec t n l = ([], 0, 2) := by simp [duesSpec, duesErr, e0]
          rw [hs]
          clear hs e0 hbad
          have hq0 : Blk (w.alloc (.cells (tfV t) 41)) w.heap.size 41 (tfV t) := Blk.new w _ _
          unfold tfV
          go_enter Try.func21, Try.ntmps21
          go_wp2_with fail
          refine (within_three _ _ _ 0 _ _ _ (by simp)).mono ?_
          rintro e w1 ⟨rfl, hb1⟩
          rw [h1]
          have hc1 : Below w.heap.size w w1 := ((Below.refl _ _).alloc (Nat.le_refl _) _).trans (hb1.mono (by simp))
          have hq1 := hq0.below hb1 (by simp)
          clear hb1 hq0
          obtain ⟨k0, k1, k2, k3, k4, k5⟩ := tf_cells hq1
          go_wp2_with fail
          refine (within_one _ 0 _ _ _ rfl).mono ?_
          rintro e w2 ⟨rfl, hb2⟩
          rw [h2]
          have hc2 : Below w.heap.size w w2 := hc1.trans (hb2.mono hc1.size)
          have hq2 := hq1.below hb2 hq1.lt
          clear hb2 hq1 k0 k1 k2 k3 k4 k5 hc1
          obtain ⟨k0, k1, k2, k3, k4, k5⟩ := tf_cells hq2
          go_wp2_with fail
          refine (within_one _ 0 _ _ _ rfl).mono ?_
          rintro e w3 ⟨rfl, hb3⟩
          rw [h3]
          have hc3 : Below w.heap.size w w3 := hc2.trans (hb3.mono hc2.size)
          have hq3 := hq2.below hb3 hq2.lt
          clear hb3 hq2 k0 k1 k2 k3 k4 k5 hc2
          obtain ⟨k0, k1, k2, k3, k4, k5⟩ := tf_cells hq3
          go_wp2_with fail
          refine (within_one _ 0 _ _ _ rfl).mono ?_
          rintro e w4 ⟨rfl, hb4⟩
          rw [h4]
          have hc4 : Below w.heap.size w w4 := hc3.trans (hb4.mono hc3.size)
          have hq4 := hq3.below hb4 hq3.lt
          clear hb4 hq3 k0 k1 k2 k3 k4 k5 hc3
          obtain ⟨k0, k1, k2, k3, k4, k5⟩ := tf_cells hq4
          go_wp2_with fail
          go_ret3
          exact DuesPost.none (x := 0) (y := 2) hc4
      · have e0 : tfErr t = 2 := by rw [tfErr, if_neg (by simp [h1]), if_neg (by simp [h2]), if_pos h3]
        have hs : duesSpec t n l = ([], 0, 2) := by simp [duesSpec, duesErr, e0]
        rw [hs]
        clear hs e0 hbad
        have hq0 : Blk (w.alloc (.cells (tfV t) 41)) w.heap.size 41 (tfV t) := Blk.new w _ _
        unfold tfV
        go_enter Try.func21, Try.ntmps21
        go_wp2_with fail
        refine (within_three _ _ _ 0 _ _ _ (by simp)).mono ?_
        rintro e w1 ⟨rfl, hb1⟩
        rw [h1]
        have hc1 : Below w.heap.size w w1 := ((Below.refl _ _).alloc (Nat.le_refl _) _).trans (hb1.mono (by simp))
        have hq1 := hq0.below hb1 (by simp)
        clear hb1 hq0
        obtain ⟨k0, k1, k2, k3, k4, k5⟩ := tf_cells hq1
        go_wp2_with fail
        refine (within_one _ 0 _ _ _ rfl).mono ?_
        rintro e w2 ⟨rfl, hb2⟩
        rw [h2]
        have hc2 : Below w.heap.size w w2 := hc1.trans (hb2.mono hc1.size)
        have hq2 := hq1.below hb2 hq1.lt
        clear hb2 hq1 k0 k1 k2 k3 k4 k5 hc1
        obtain ⟨k0, k1, k2, k3, k4, k5⟩ := tf_cells hq2
        go_wp2_with fail
        refine (within_one _ 0 _ _ _ rfl).mono ?_
        rintro e w3 ⟨rfl, hb3⟩
        rw [h3]
        have hc3 : Below w.heap.size w w3 := hc2.trans (hb3.mono hc2.size)
        have hq3 := hq2.below hb3 hq2.lt
        clear hb3 hq2 k0 k1 k2 k3 k4 k5 hc2
        obtain ⟨k0, k1, k2, k3, k4, k5⟩ := tf_cells hq3
        go_wp2_with fail
        go_ret3
        exact DuesPost.none (x := 0) (y := 2) hc3
    · have e0 : tfErr t = 2 := by rw [tfErr, if_neg (by simp [h1]), if_pos h2]
      have hs : duesSpec t n l = ([], 0, 2) := by simp [duesSpec, duesErr, e0]
      rw [hs]
      clear hs e0 hbad
      have hq0 : Blk (w.alloc (.cells (tfV t) 41)) w.heap.size 41 (tfV t) := Blk.new w _ _
      unfold tfV
      go_enter Try.func21, Try.ntmps21
      go_wp2_with fail
      refine (within_three _ _ _ 0 _ _ _ (by simp)).mono ?_
      rintro e w1 ⟨rfl, hb1⟩
      rw [h1]
      have hc1 : Below w.heap.size w w1 := ((Below.refl _ _).alloc (Nat.le_refl _) _).trans (hb1.mono (by simp))
      have hq1 := hq0.below hb1 (by simp)
      clear hb1 hq0
      obtain ⟨k0, k1, k2, k3, k4, k5⟩ := tf_cells hq1
      go_wp2_with fail
      refine (within_one _ 0 _ _ _ rfl).mono ?_
      rintro e w2 ⟨rfl, hb2⟩
      rw [h2]
      have hc2 : Below w.heap.size w w2 := hc1.trans (hb2.mono hc1.size)
      have hq2 := hq1.below hb2 hq1.lt
      clear hb2 hq1 k0 k1 k2 k3 k4 k5 hc1
      obtain ⟨k0, k1, k2, k3, k4, k5⟩ := tf_cells hq2
      go_wp2_with fail
      go_ret3
      exact DuesPost.none (x := 0) (y := 2) hc2
  · have e0 : tfErr t = 2 := by rw [tfErr, if_pos h1]
    have hs : duesSpec t n l = ([], 0, 2) := by simp [duesSpec, duesErr, e0]
    rw [hs]
    clear hs e0 hbad
    have hq0 : Blk (w.alloc (.cells (tfV t) 41)) w.heap.size 41 (tfV t) := Blk.new w _ _
    unfold tfV
    go_enter Try.func21, Try.ntmps21
    go_wp2_with fail
    refine (within_three _ _ _ 0 _ _ _ (by simp)).mono ?_
    rintro e w1 ⟨rfl, hb1⟩
    rw [h1]
    have hc1 : Below w.heap.size w w1 := ((Below.refl _ _).alloc (Nat.le_refl _) _).trans (hb1.mono (by simp))
    have hq1 := hq0.below hb1 (by simp)
    clear hb1 hq0
    obtain ⟨k0, k1, k2, k3, k4, k5⟩ := tf_cells hq1
    go_wp2_with fail
    go_ret3
    exact DuesPost.none (x := 0) (y := 2) hc1
end Go.Proofs.Ytkbfdgacnoadlaa
