/- River: the program's Level, the reference's Curve and Level (printed by gen_w9.py). -/
import Derived.Test.YtncnlhkmdljgpaaW2
import Derived.Test.YtncnlhkmdljgpaaEA
set_option linter.unusedVariables false
namespace Go.Proofs.Ytncnlhkmdljgpaa
open Go Go.RowKit

theorem lev_bad (x : Reach) (v : Value) (fl : Bd) (w : World) (B : Nat) (hr : Rd w B 2 v x.curve.length (rowsC x.curve)) (hB : B ≤ w.heap.size) (hl : x.curve.length ≤ 1048576) (hx : reachB x = false) :
    Calls Try.prog 28 #[.agg (reachV x v), .agg #[.int .i64 fl.lo, .int .i64 fl.hi]] w fun e w' => e = .returned (.tuple #[.agg #[.int .i64 0, .int .i64 0], .int .i64 2]) ∧ Below w.heap.size w w' := by
  obtain ⟨A_, c_, rfl, _⟩ := hr.shape
  have hbw := Below.refl w.heap.size w
  refine EC.enter 20 Try.func28 rfl rfl rfl ?_
  have he2 : decide (errB (reachB x) ≠ 0) = true := by rw [hx]; rfl
  refine EC.seq ?_
  refine EC.region ?_
  refine EL.newP (bx_50 rfl) rfl ?_
  intro g1 w1 q1 hb1 hg1 hl1
  have bhbw_1 := Nat.le_trans hbw.size hg1
  replace hbw := Below.on hbw hb1 hbw.size
  clear hb1 hg1 hl1
  refine EL.newP (bx_23 rfl) rfl ?_
  intro g2 w2 q2 hb2 hg2 hl2
  have n1_2 : g1 ≠ g2 := Nat.ne_of_lt (Nat.lt_of_lt_of_le q1.lt hg2)
  have bhbw_2 := Nat.le_trans hbw.size hg2
  replace q1 := q1.below hb2 q1.lt
  replace hbw := Below.on hbw hb2 hbw.size
  clear hb2 hg2 hl2
  refine EL.newP al_23 rfl ?_
  intro g3 w3 q3 hb3 hg3 hl3
  have n1_3 : g1 ≠ g3 := Nat.ne_of_lt (Nat.lt_of_lt_of_le q1.lt hg3)
  have n2_3 : g2 ≠ g3 := Nat.ne_of_lt (Nat.lt_of_lt_of_le q2.lt hg3)
  have bhbw_3 := Nat.le_trans hbw.size hg3
  replace q1 := q1.below hb3 q1.lt
  replace q2 := q2.below hb3 q2.lt
  replace hbw := Below.on hbw hb3 hbw.size
  clear hb3 hg3 hl3
  refine EL.val (x_assign rfl) rfl ?_
  refine EL.nil ?_
  refine EX.seq ?_
  refine EC.seq ?_
  refine EC.block ?_
  refine EC.seq ?_
  refine EC.region ?_
  refine EL.val (ld_50 rfl (q1.at (j := 0) rfl) (q1.at (j := 1) rfl) (q1.at (j := 2) rfl) (q1.at (j := 3) rfl) (q1.at (j := 4) rfl) (q1.at (j := 5) rfl) (q1.at (j := 6) rfl) (q1.at (j := 7) rfl) (q1.at (j := 8) rfl)) rfl ?_
  refine EL.call (cl_66 rfl) rfl (checkReach_any x _ _ B (hr.below (hbw.mono hB)) (Nat.le_trans hB hbw.size) hl) ?_
  rintro e w4 ⟨rfl, hc4⟩
  refine ⟨_, rfl, ?_⟩
  replace q1 := q1.below hc4 q1.lt
  replace q2 := q2.below hc4 q2.lt
  replace q3 := q3.below hc4 q3.lt
  replace hbw := Below.on hbw hc4 hbw.size
  clear hc4
  refine EL.val (x_neq rfl rfl (by first | assumption | exact decide_eq_true (by omega))) rfl ?_
  refine EL.val (x_assign rfl) rfl ?_
  refine EL.nil ?_
  refine EX.seq ?_
  refine EC.yes rfl ?_
  refine EC.seq ?_
  refine EC.region ?_
  refine EL.val (bd_23_) rfl ?_
  refine EL.store rfl rfl q3 sz_23 rfl rfl rfl rfl ?_
  intro w5 hq5 hg5
  replace q1 := q1.grown hg5 (fun h => n1_3 (Option.some.inj h))
  replace q2 := q2.grown hg5 (fun h => n2_3 (Option.some.inj h))
  replace hbw := below_store hbw hg5 bhbw_3
  replace q3 := hq5
  clear hg5 hq5
  refine EL.val (x_assign rfl) rfl ?_
  refine EL.nil ?_
  refine EX.seq ?_
  refine EC.ret ?_
  refine EX.blk_ret ?_
  refine EX.seq_ret ?_
  exact EX.done (resct rfl rfl rfl (lv_23 (q3.at rfl) (q3.at rfl))) ⟨rfl, hbw⟩

theorem lev_far (x : Reach) (v : Value) (fl : Bd) (w : World) (B : Nat) (hr : Rd w B 2 v x.curve.length (rowsC x.curve)) (hB : B ≤ w.heap.size) (hl : x.curve.length ≤ 1048576) (hx : reachB x = true) (hf : bdOk 0 210000000000 fl = false) :
    Calls Try.prog 28 #[.agg (reachV x v), .agg #[.int .i64 fl.lo, .int .i64 fl.hi]] w fun e w' => e = .returned (.tuple #[.agg #[.int .i64 0, .int .i64 0], .int .i64 3]) ∧ Below w.heap.size w w' := by
  obtain ⟨A_, c_, rfl, _⟩ := hr.shape
  have hbw := Below.refl w.heap.size w
  refine EC.enter 20 Try.func28 rfl rfl rfl ?_
  have he2 : decide (errB (reachB x) ≠ 0) = false := by rw [hx]; rfl
  refine EC.seq ?_
  refine EC.region ?_
  refine EL.newP (bx_50 rfl) rfl ?_
  intro g1 w1 q1 hb1 hg1 hl1
  have bhbw_1 := Nat.le_trans hbw.size hg1
  replace hbw := Below.on hbw hb1 hbw.size
  clear hb1 hg1 hl1
  refine EL.newP (bx_23 rfl) rfl ?_
  intro g2 w2 q2 hb2 hg2 hl2
  have n1_2 : g1 ≠ g2 := Nat.ne_of_lt (Nat.lt_of_lt_of_le q1.lt hg2)
  have bhbw_2 := Nat.le_trans hbw.size hg2
  replace q1 := q1.below hb2 q1.lt
  replace hbw := Below.on hbw hb2 hbw.size
  clear hb2 hg2 hl2
  refine EL.newP al_23 rfl ?_
  intro g3 w3 q3 hb3 hg3 hl3
  have n1_3 : g1 ≠ g3 := Nat.ne_of_lt (Nat.lt_of_lt_of_le q1.lt hg3)
  have n2_3 : g2 ≠ g3 := Nat.ne_of_lt (Nat.lt_of_lt_of_le q2.lt hg3)
  have bhbw_3 := Nat.le_trans hbw.size hg3
  replace q1 := q1.below hb3 q1.lt
  replace q2 := q2.below hb3 q2.lt
  replace hbw := Below.on hbw hb3 hbw.size
  clear hb3 hg3 hl3
  refine EL.val (x_assign rfl) rfl ?_
  refine EL.nil ?_
  refine EX.seq ?_
  refine EC.seq ?_
  refine EC.block ?_
  refine EC.seq ?_
  refine EC.region ?_
  refine EL.val (ld_50 rfl (q1.at (j := 0) rfl) (q1.at (j := 1) rfl) (q1.at (j := 2) rfl) (q1.at (j := 3) rfl) (q1.at (j := 4) rfl) (q1.at (j := 5) rfl) (q1.at (j := 6) rfl) (q1.at (j := 7) rfl) (q1.at (j := 8) rfl)) rfl ?_
  refine EL.call (cl_66 rfl) rfl (checkReach_any x _ _ B (hr.below (hbw.mono hB)) (Nat.le_trans hB hbw.size) hl) ?_
  rintro e w4 ⟨rfl, hc4⟩
  refine ⟨_, rfl, ?_⟩
  replace q1 := q1.below hc4 q1.lt
  replace q2 := q2.below hc4 q2.lt
  replace q3 := q3.below hc4 q3.lt
  replace hbw := Below.on hbw hc4 hbw.size
  clear hc4
  refine EL.val (x_neq rfl rfl (by first | assumption | exact decide_eq_false (by omega))) rfl ?_
  refine EL.val (x_assign rfl) rfl ?_
  refine EL.nil ?_
  refine EX.seq ?_
  refine EC.no rfl ?_
  refine EC.seq ?_
  refine EC.region ?_
  refine EL.val (ld_23 rfl (q2.at (j := 0) rfl) (q2.at (j := 1) rfl)) rfl ?_
  refine EL.newS (bs_28_1 rfl) rfl ?_
  intro g5 w5 q5 hb5 hg5 hl5
  have n1_5 : g1 ≠ g5 := Nat.ne_of_lt (Nat.lt_of_lt_of_le q1.lt hg5)
  have n2_5 : g2 ≠ g5 := Nat.ne_of_lt (Nat.lt_of_lt_of_le q2.lt hg5)
  have n3_5 : g3 ≠ g5 := Nat.ne_of_lt (Nat.lt_of_lt_of_le q3.lt hg5)
  have bhbw_5 := Nat.le_trans hbw.size hg5
  replace q1 := q1.below hb5 q1.lt
  replace q2 := q2.below hb5 q2.lt
  replace q3 := q3.below hb5 q3.lt
  replace hbw := Below.on hbw hb5 hbw.size
  clear hb5 hg5 hl5
  refine EL.call (cl_58 rfl rfl rfl) rfl (isv_one fl _ _ false _ q5 hf) ?_
  rintro e w6 ⟨rfl, hc6⟩
  refine ⟨_, rfl, ?_⟩
  replace q1 := q1.below hc6 q1.lt
  replace q2 := q2.below hc6 q2.lt
  replace q3 := q3.below hc6 q3.lt
  replace q5 := q5.below hc6 q5.lt
  replace hbw := Below.on hbw hc6 hbw.size
  clear hc6
  refine EL.val (x_not rfl) rfl ?_
  refine EL.val (x_assign rfl) rfl ?_
  refine EL.nil ?_
  refine EX.seq ?_
  refine EC.yes rfl ?_
  refine EC.seq ?_
  refine EC.region ?_
  refine EL.val (bd_23_) rfl ?_
  refine EL.store rfl rfl q3 sz_23 rfl rfl rfl rfl ?_
  intro w7 hq7 hg7
  replace q1 := q1.grown hg7 (fun h => n1_3 (Option.some.inj h))
  replace q2 := q2.grown hg7 (fun h => n2_3 (Option.some.inj h))
  replace hbw := below_store hbw hg7 bhbw_3
  replace q3 := hq7
  clear hg7 hq7
  refine EL.val (x_assign rfl) rfl ?_
  refine EL.nil ?_
  refine EX.seq ?_
  refine EC.ret ?_
  refine EX.blk_ret ?_
  refine EX.seq_ret ?_
  exact EX.done (resct rfl rfl rfl (lv_23 (q3.at rfl) (q3.at rfl))) ⟨rfl, hbw⟩

theorem lev_ok (x : Reach) (v : Value) (fl : Bd) (w : World) (B : Nat) (hr : Rd w B 2 v x.curve.length (rowsC x.curve)) (hB : B ≤ w.heap.size) (hl : x.curve.length ≤ 1048576) (hx : reachB x = true) (hf : bdOk 0 210000000000 fl = true) :
    Calls Try.prog 28 #[.agg (reachV x v), .agg #[.int .i64 fl.lo, .int .i64 fl.hi]] w fun e w' => e = .returned (.tuple #[.agg #[.int .i64 (levelAt x fl).lo, .int .i64 (levelAt x fl).hi], .int .i64 0]) ∧ Below w.heap.size w w' := by
  obtain ⟨A_, c_, rfl, _⟩ := hr.shape
  have hbw := Below.refl w.heap.size w
  refine EC.enter 20 Try.func28 rfl rfl rfl ?_
  have he2 : decide (errB (reachB x) ≠ 0) = false := by rw [hx]; rfl
  refine EC.seq ?_
  refine EC.region ?_
  refine EL.newP (bx_50 rfl) rfl ?_
  intro g1 w1 q1 hb1 hg1 hl1
  have bhbw_1 := Nat.le_trans hbw.size hg1
  replace hbw := Below.on hbw hb1 hbw.size
  clear hb1 hg1 hl1
  refine EL.newP (bx_23 rfl) rfl ?_
  intro g2 w2 q2 hb2 hg2 hl2
  have n1_2 : g1 ≠ g2 := Nat.ne_of_lt (Nat.lt_of_lt_of_le q1.lt hg2)
  have bhbw_2 := Nat.le_trans hbw.size hg2
  replace q1 := q1.below hb2 q1.lt
  replace hbw := Below.on hbw hb2 hbw.size
  clear hb2 hg2 hl2
  refine EL.newP al_23 rfl ?_
  intro g3 w3 q3 hb3 hg3 hl3
  have n1_3 : g1 ≠ g3 := Nat.ne_of_lt (Nat.lt_of_lt_of_le q1.lt hg3)
  have n2_3 : g2 ≠ g3 := Nat.ne_of_lt (Nat.lt_of_lt_of_le q2.lt hg3)
  have bhbw_3 := Nat.le_trans hbw.size hg3
  replace q1 := q1.below hb3 q1.lt
  replace q2 := q2.below hb3 q2.lt
  replace hbw := Below.on hbw hb3 hbw.size
  clear hb3 hg3 hl3
  refine EL.val (x_assign rfl) rfl ?_
  refine EL.nil ?_
  refine EX.seq ?_
  refine EC.seq ?_
  refine EC.block ?_
  refine EC.seq ?_
  refine EC.region ?_
  refine EL.val (ld_50 rfl (q1.at (j := 0) rfl) (q1.at (j := 1) rfl) (q1.at (j := 2) rfl) (q1.at (j := 3) rfl) (q1.at (j := 4) rfl) (q1.at (j := 5) rfl) (q1.at (j := 6) rfl) (q1.at (j := 7) rfl) (q1.at (j := 8) rfl)) rfl ?_
  refine EL.call (cl_66 rfl) rfl (checkReach_any x _ _ B (hr.below (hbw.mono hB)) (Nat.le_trans hB hbw.size) hl) ?_
  rintro e w4 ⟨rfl, hc4⟩
  refine ⟨_, rfl, ?_⟩
  replace q1 := q1.below hc4 q1.lt
  replace q2 := q2.below hc4 q2.lt
  replace q3 := q3.below hc4 q3.lt
  replace hbw := Below.on hbw hc4 hbw.size
  clear hc4
  refine EL.val (x_neq rfl rfl (by first | assumption | exact decide_eq_false (by omega))) rfl ?_
  refine EL.val (x_assign rfl) rfl ?_
  refine EL.nil ?_
  refine EX.seq ?_
  refine EC.no rfl ?_
  refine EC.seq ?_
  refine EC.region ?_
  refine EL.val (ld_23 rfl (q2.at (j := 0) rfl) (q2.at (j := 1) rfl)) rfl ?_
  refine EL.newS (bs_28_1 rfl) rfl ?_
  intro g5 w5 q5 hb5 hg5 hl5
  have n1_5 : g1 ≠ g5 := Nat.ne_of_lt (Nat.lt_of_lt_of_le q1.lt hg5)
  have n2_5 : g2 ≠ g5 := Nat.ne_of_lt (Nat.lt_of_lt_of_le q2.lt hg5)
  have n3_5 : g3 ≠ g5 := Nat.ne_of_lt (Nat.lt_of_lt_of_le q3.lt hg5)
  have bhbw_5 := Nat.le_trans hbw.size hg5
  replace q1 := q1.below hb5 q1.lt
  replace q2 := q2.below hb5 q2.lt
  replace q3 := q3.below hb5 q3.lt
  replace hbw := Below.on hbw hb5 hbw.size
  clear hb5 hg5 hl5
  refine EL.call (cl_58 rfl rfl rfl) rfl (isv_one fl _ _ true _ q5 hf) ?_
  rintro e w6 ⟨rfl, hc6⟩
  refine ⟨_, rfl, ?_⟩
  replace q1 := q1.below hc6 q1.lt
  replace q2 := q2.below hc6 q2.lt
  replace q3 := q3.below hc6 q3.lt
  replace q5 := q5.below hc6 q5.lt
  replace hbw := Below.on hbw hc6 hbw.size
  clear hc6
  refine EL.val (x_not rfl) rfl ?_
  refine EL.val (x_assign rfl) rfl ?_
  refine EL.nil ?_
  refine EX.seq ?_
  refine EC.no rfl ?_
  refine EC.skip ?_
  refine EX.blk ?_
  refine EX.seq ?_
  refine EC.seq ?_
  refine EC.region ?_
  refine EL.val (ld_50 rfl (q1.at (j := 0) rfl) (q1.at (j := 1) rfl) (q1.at (j := 2) rfl) (q1.at (j := 3) rfl) (q1.at (j := 4) rfl) (q1.at (j := 5) rfl) (q1.at (j := 6) rfl) (q1.at (j := 7) rfl) (q1.at (j := 8) rfl)) rfl ?_
  refine EL.val (ld_23 rfl (q2.at (j := 0) rfl) (q2.at (j := 1) rfl)) rfl ?_
  refine EL.call (cl_69 rfl rfl) rfl (level_any x _ fl _ B (hr.below (hbw.mono hB)) (Nat.le_trans hB hbw.size) (reachB_ok hx) (by have := bdOk_iff.1 hf; omega)) ?_
  rintro e w7 ⟨rfl, hc7⟩
  refine ⟨_, rfl, ?_⟩
  replace q1 := q1.below hc7 q1.lt
  replace q2 := q2.below hc7 q2.lt
  replace q3 := q3.below hc7 q3.lt
  replace hbw := Below.on hbw hc7 hbw.size
  clear hc7
  refine EL.store rfl rfl q3 sz_23 rfl rfl rfl rfl ?_
  intro w8 hq8 hg8
  replace q1 := q1.grown hg8 (fun h => n1_3 (Option.some.inj h))
  replace q2 := q2.grown hg8 (fun h => n2_3 (Option.some.inj h))
  replace hbw := below_store hbw hg8 bhbw_3
  replace q3 := hq8
  clear hg8 hq8
  refine EL.val (x_assign rfl) rfl ?_
  refine EL.nil ?_
  refine EX.seq ?_
  refine EC.ret ?_
  exact EX.done (resct rfl rfl rfl (lv_23 (q3.at rfl) (q3.at rfl))) ⟨rfl, hbw⟩

theorem rnd_null (up : Bool) (k : Int) : rnd up 0 k = 0 := by cases up <;> simp [rnd, ceilD, floorD]
theorem rnd_exact (up : Bool) {k : Int} (hk : 0 < k) (m : Int) : rnd up (k * m) k = m := by
  have h : k ≠ 0 := by omega
  cases up
  · exact Int.mul_ediv_cancel_left m h
  · show -(-(k * m) / k) = m
    rw [← Int.mul_neg, Int.mul_ediv_cancel_left _ h, Int.neg_neg]
section
variable {c : List Row} {f : Int} {up : Bool} {i : Nat}
theorem curveAt_low (h : curveB c = true) (hl : 2 ≤ c.length) (hf : f ≤ (c.getD 0 row0).flow) : curveAt up c f = (c.getD 0 row0).level := by
  rcases Int.lt_or_eq_of_le hf with hlt | heq
  · have e : nextR c f = 0 := (nextR_eq (Nat.zero_le _) (fun j hj => absurd hj (Nat.not_lt_zero _)) (fun _ => hlt)).symm
    unfold curveAt
    rw [if_pos e]
  · have e : nextR c f = 1 := (nextR_eq (n := 1) (by omega) (fun j hj => by obtain rfl : j = 0 := (by omega); exact Int.le_of_eq heq.symm) (fun _ => by have := (curve_step h (k := 0) (by omega)).1; simp only [Nat.zero_add] at this; omega)).symm
    unfold curveAt
    rw [e, if_neg (by omega), if_neg (by omega), Nat.sub_self, show f - (c.getD 0 row0).flow = 0 by omega, Int.zero_mul, rnd_null, Int.add_zero]
theorem curveAt_high (h : curveB c = true) (hl : 2 ≤ c.length) (hf : (c.getD (c.length - 1) row0).flow ≤ f) : curveAt up c f = (c.getD (c.length - 1) row0).level := by
  have e : nextR c f = c.length := (nextR_eq (Nat.le_refl _) (fun j hj => by have := (curve_mono h (show j ≤ c.length - 1 by omega) (by omega)).1; omega) (fun h => absurd h (Nat.lt_irrefl _))).symm
  unfold curveAt
  rw [e, if_neg (by omega), if_pos rfl]
theorem curveAt_mid (h : curveB c = true) (hi : i + 1 < c.length) (h1 : (c.getD i row0).flow < f) (h2 : f ≤ (c.getD (i + 1) row0).flow) (h3 : f < (c.getD (c.length - 1) row0).flow) :
    curveAt up c f = (c.getD i row0).level + rnd up ((f - (c.getD i row0).flow) * ((c.getD (i + 1) row0).level - (c.getD i row0).level)) ((c.getD (i + 1) row0).flow - (c.getD i row0).flow) := by
  rcases Int.lt_or_eq_of_le h2 with hlt | heq
  · have e : nextR c f = i + 1 := (nextR_eq (n := i + 1) (by omega) (fun j hj => by have := (curve_mono h (show j ≤ i by omega) (by omega)).1; omega) (fun _ => hlt)).symm
    unfold curveAt
    rw [e, if_neg (by omega), if_neg (by omega), Nat.add_sub_cancel]
  · have hne : i + 1 ≠ c.length - 1 := by intro e; rw [← e] at h3; omega
    have e : nextR c f = i + 2 := (nextR_eq (n := i + 2) (by omega) (fun j hj => by have := (curve_mono h (show j ≤ i + 1 by omega) (by omega)).1; omega) (fun _ => by have := (curve_step h (k := i + 1) (by omega)).1; rw [heq]; exact this)).symm
    have hk : f - (c.getD i row0).flow = (c.getD (i + 1) row0).flow - (c.getD i row0).flow := by omega
    have hz : f - (c.getD (i + 1) row0).flow = 0 := by omega
    unfold curveAt
    rw [e, if_neg (by omega), if_neg (by omega), show i + 2 - 1 = i + 1 from rfl, hz, Int.zero_mul, rnd_null, hk, rnd_exact up (by omega)]
    omega
theorem mid_bd (h : curveB c = true) (hi : i + 1 < c.length) (h1 : (c.getD i row0).flow < f) (h2 : f ≤ (c.getD (i + 1) row0).flow) (up : Bool) :
    (0 ≤ (f - (c.getD i row0).flow) * ((c.getD (i + 1) row0).level - (c.getD i row0).level) ∧ (f - (c.getD i row0).flow) * ((c.getD (i + 1) row0).level - (c.getD i row0).level) ≤ 100000000000000) ∧
      0 ≤ rnd up ((f - (c.getD i row0).flow) * ((c.getD (i + 1) row0).level - (c.getD i row0).level)) ((c.getD (i + 1) row0).flow - (c.getD i row0).flow) ∧
      rnd up ((f - (c.getD i row0).flow) * ((c.getD (i + 1) row0).level - (c.getD i row0).level)) ((c.getD (i + 1) row0).flow - (c.getD i row0).flow) ≤ 10000 := by
  have a := curve_at h i (by omega)
  have b := curve_at h (i + 1) hi
  have s := curve_step h hi
  have p0 : 0 ≤ (f - (c.getD i row0).flow) * ((c.getD (i + 1) row0).level - (c.getD i row0).level) := Int.mul_nonneg (by omega) (by omega)
  have p1 : (f - (c.getD i row0).flow) * ((c.getD (i + 1) row0).level - (c.getD i row0).level) ≤ 10000000000 * 10000 := Int.mul_le_mul (by omega) (by omega) (by omega) (by omega)
  have hm : (f - (c.getD i row0).flow) * ((c.getD (i + 1) row0).level - (c.getD i row0).level) ≤ 10000 * ((c.getD (i + 1) row0).flow - (c.getD i row0).flow) := by
    rw [Int.mul_comm]
    exact Int.mul_le_mul (by omega) (by omega) (by omega) (by omega)
  refine ⟨⟨p0, by omega⟩, ?_⟩
  unfold rnd
  cases up
  · exact floor_bd p0 (by omega) hm
  · exact ceil_bd p0 (by omega) hm
end
theorem rows_all {w : World} {B : Nat} {A : Option Addr} {n c : Nat} {l : List Row} (hr : Rd w B 2 (.slice A n c) n (rowsC l)) (hl : 0 < l.length) :
    ∃ b off, A = some ⟨b, off, none⟩ ∧ b < B ∧ ∀ k, k < l.length → w.cell? ⟨b, off + k * 2, none⟩ = some (.int .i64 (l.getD k row0).flow) ∧ w.cell? ⟨b, off + k * 2 + 1, none⟩ = some (.int .i64 (l.getD k row0).level) := by
  obtain ⟨b, o, rfl, hb, _⟩ := rows_cells l 0 hl w B A n c hr
  refine ⟨b, o, rfl, hb, fun k hk => ?_⟩
  obtain ⟨b', o', e, _, h0, h1⟩ := rows_cells l k hk w B _ n c hr
  injection e with e
  injection e with e1 e2
  subst e1 e2
  exact ⟨h0, h1⟩

set_option maxRecDepth 100000 in
theorem rcurve_false (x : Reach) (v : Value) (fl : Int) (w : World) (B : Nat) (hr : Rd w B 2 v x.curve.length (rowsC x.curve)) (hB : B ≤ w.heap.size) (hx : ReachOk x) (hf : 0 ≤ fl ∧ fl ≤ 1000000000000) :
    Calls Try.prog 70 #[.agg (reachV x v), .int .i64 fl, .bool false] w fun e w' => e = .returned (.int .i64 (curveAt false x.curve fl)) ∧ Below w.heap.size w w' := by
  obtain ⟨A_, c_, rfl, _⟩ := hr.shape
  have hrow := hx.rows.1
  have hrow2 := hx.rows.2
  have hk0 : 0 < x.curve.length := by omega
  have hk1 : x.curve.length - 1 < x.curve.length := by omega
  have hsub : IntKind.i64.wrap ((x.curve.length : Nat) - 1 : Int) = ((x.curve.length - 1 : Nat) : Int) := (IntWalk.i64_in _ ⟨by omega, by omega⟩).trans (by omega)
  obtain ⟨b, o, rfl, hbB, cc⟩ := rows_all hr hk0
  have hbw := Below.refl w.heap.size w
  refine EC.enter 89 Try.func70 rfl rfl rfl ?_
  by_cases hA : fl ≤ (x.curve.getD 0 row0).flow
  ·
    refine EC.seq ?_
    refine EC.region ?_
    refine EL.newP (bx_50 rfl) rfl ?_
    intro g1 w1 q1 hb1 hg1 hl1
    have bhbw_1 := Nat.le_trans hbw.size hg1
    replace hbw := Below.on hbw hb1 hbw.size
    clear hb1 hg1 hl1
    refine EL.val (x_assign rfl) rfl ?_
    refine EL.nil ?_
    refine EX.seq ?_
    refine EC.seq ?_
    refine EC.region ?_
    refine EL.val (fa_50_3 rfl) rfl ?_
    refine EL.val (ld_48 rfl (q1.at (j := 4) rfl)) rfl ?_
    refine EL.val (fa_50_3 rfl) rfl ?_
    refine EL.val (ld_48 rfl (q1.at (j := 4) rfl)) rfl ?_
    refine EL.val (ln_48 rfl) rfl ?_
    refine EL.val (x_sub rfl rfl hsub) rfl ?_
    refine EL.val (ix_48 (k := x.curve.length - 1) rfl rfl hk1) rfl ?_
    refine EL.val (ld_126 rfl (below_load hbw (cc (x.curve.length - 1) hk1).1) (below_load hbw (cc (x.curve.length - 1) hk1).2)) rfl ?_
    refine EL.newP al_126 rfl ?_
    intro g2 w2 q2 hb2 hg2 hl2
    have n1_2 : g1 ≠ g2 := Nat.ne_of_lt (Nat.lt_of_lt_of_le q1.lt hg2)
    have bhbw_2 := Nat.le_trans hbw.size hg2
    replace q1 := q1.below hb2 q1.lt
    replace hbw := Below.on hbw hb2 hbw.size
    clear hb2 hg2 hl2
    refine EL.store rfl rfl q2 sz_126 rfl rfl rfl rfl ?_
    intro w3 hq3 hg3
    replace q1 := q1.grown hg3 (fun h => n1_2 (Option.some.inj h))
    replace hbw := below_store hbw hg3 bhbw_2
    replace q2 := hq3
    clear hg3 hq3
    refine EL.nil ?_
    refine EX.seq ?_
    refine EC.seq ?_
    refine EC.seq ?_
    refine EC.region ?_
    refine EL.val (x_move rfl) rfl ?_
    refine EL.val (fa_50_3 rfl) rfl ?_
    refine EL.val (ld_48 rfl (q1.at (j := 4) rfl)) rfl ?_
    refine EL.val (ix_48 (k := 0) rfl rfl hk0) rfl ?_
    refine EL.val (fa_126_0 rfl) rfl ?_
    refine EL.val (ld_3 rfl (below_load hbw (cc (0) hk0).1)) rfl ?_
    refine EL.val (x_leq rfl rfl (by first | assumption | exact decide_eq_true (by omega))) rfl ?_
    refine EL.nil ?_
    refine EX.seq ?_
    refine EC.yes rfl ?_
    refine EC.seq ?_
    refine EC.region ?_
    refine EL.val (fa_50_3 rfl) rfl ?_
    refine EL.val (ld_48 rfl (q1.at (j := 4) rfl)) rfl ?_
    refine EL.val (ix_48 (k := 0) rfl rfl hk0) rfl ?_
    refine EL.val (fa_126_1 rfl) rfl ?_
    refine EL.val (ld_3 rfl (below_load hbw (cc (0) hk0).2)) rfl ?_
    refine EL.val (x_assign rfl) rfl ?_
    refine EL.nil ?_
    refine EX.seq ?_
    refine EC.ret ?_
    refine EX.seq_ret ?_
    exact EX.done (res1 rfl rfl) ⟨by rw [curveAt_low hx.curve hrow hA], hbw⟩
  by_cases hZ : (x.curve.getD (x.curve.length - 1) row0).flow ≤ fl
  ·
    refine EC.seq ?_
    refine EC.region ?_
    refine EL.newP (bx_50 rfl) rfl ?_
    intro g4 w4 q4 hb4 hg4 hl4
    have bhbw_4 := Nat.le_trans hbw.size hg4
    replace hbw := Below.on hbw hb4 hbw.size
    clear hb4 hg4 hl4
    refine EL.val (x_assign rfl) rfl ?_
    refine EL.nil ?_
    refine EX.seq ?_
    refine EC.seq ?_
    refine EC.region ?_
    refine EL.val (fa_50_3 rfl) rfl ?_
    refine EL.val (ld_48 rfl (q4.at (j := 4) rfl)) rfl ?_
    refine EL.val (fa_50_3 rfl) rfl ?_
    refine EL.val (ld_48 rfl (q4.at (j := 4) rfl)) rfl ?_
    refine EL.val (ln_48 rfl) rfl ?_
    refine EL.val (x_sub rfl rfl hsub) rfl ?_
    refine EL.val (ix_48 (k := x.curve.length - 1) rfl rfl hk1) rfl ?_
    refine EL.val (ld_126 rfl (below_load hbw (cc (x.curve.length - 1) hk1).1) (below_load hbw (cc (x.curve.length - 1) hk1).2)) rfl ?_
    refine EL.newP al_126 rfl ?_
    intro g5 w5 q5 hb5 hg5 hl5
    have n4_5 : g4 ≠ g5 := Nat.ne_of_lt (Nat.lt_of_lt_of_le q4.lt hg5)
    have bhbw_5 := Nat.le_trans hbw.size hg5
    replace q4 := q4.below hb5 q4.lt
    replace hbw := Below.on hbw hb5 hbw.size
    clear hb5 hg5 hl5
    refine EL.store rfl rfl q5 sz_126 rfl rfl rfl rfl ?_
    intro w6 hq6 hg6
    replace q4 := q4.grown hg6 (fun h => n4_5 (Option.some.inj h))
    replace hbw := below_store hbw hg6 bhbw_5
    replace q5 := hq6
    clear hg6 hq6
    refine EL.nil ?_
    refine EX.seq ?_
    refine EC.seq ?_
    refine EC.seq ?_
    refine EC.region ?_
    refine EL.val (x_move rfl) rfl ?_
    refine EL.val (fa_50_3 rfl) rfl ?_
    refine EL.val (ld_48 rfl (q4.at (j := 4) rfl)) rfl ?_
    refine EL.val (ix_48 (k := 0) rfl rfl hk0) rfl ?_
    refine EL.val (fa_126_0 rfl) rfl ?_
    refine EL.val (ld_3 rfl (below_load hbw (cc (0) hk0).1)) rfl ?_
    refine EL.val (x_leq rfl rfl (by first | assumption | exact decide_eq_false (by omega))) rfl ?_
    refine EL.nil ?_
    refine EX.seq ?_
    refine EC.no rfl ?_
    refine EC.skip ?_
    refine EX.seq ?_
    refine EC.seq ?_
    refine EC.seq ?_
    refine EC.region ?_
    refine EL.val (x_move rfl) rfl ?_
    refine EL.val (fa_126_0 rfl) rfl ?_
    refine EL.val (ld_3 rfl (q5.at (j := 0) rfl)) rfl ?_
    refine EL.val (x_geq rfl rfl (by first | assumption | exact decide_eq_true (by omega))) rfl ?_
    refine EL.nil ?_
    refine EX.seq ?_
    refine EC.yes rfl ?_
    refine EC.seq ?_
    refine EC.region ?_
    refine EL.val (fa_126_1 rfl) rfl ?_
    refine EL.val (ld_3 rfl (q5.at (j := 1) rfl)) rfl ?_
    refine EL.val (x_assign rfl) rfl ?_
    refine EL.nil ?_
    refine EX.seq ?_
    refine EC.ret ?_
    refine EX.seq_ret ?_
    exact EX.done (res1 rfl rfl) ⟨by rw [curveAt_high hx.curve hrow hZ], hbw⟩
  refine EC.seq ?_
  refine EC.region ?_
  refine EL.newP (bx_50 rfl) rfl ?_
  intro g7 w7 q7 hb7 hg7 hl7
  have bhbw_7 := Nat.le_trans hbw.size hg7
  replace hbw := Below.on hbw hb7 hbw.size
  clear hb7 hg7 hl7
  refine EL.val (x_assign rfl) rfl ?_
  refine EL.nil ?_
  refine EX.seq ?_
  refine EC.seq ?_
  refine EC.region ?_
  refine EL.val (fa_50_3 rfl) rfl ?_
  refine EL.val (ld_48 rfl (q7.at (j := 4) rfl)) rfl ?_
  refine EL.val (fa_50_3 rfl) rfl ?_
  refine EL.val (ld_48 rfl (q7.at (j := 4) rfl)) rfl ?_
  refine EL.val (ln_48 rfl) rfl ?_
  refine EL.val (x_sub rfl rfl hsub) rfl ?_
  refine EL.val (ix_48 (k := x.curve.length - 1) rfl rfl hk1) rfl ?_
  refine EL.val (ld_126 rfl (below_load hbw (cc (x.curve.length - 1) hk1).1) (below_load hbw (cc (x.curve.length - 1) hk1).2)) rfl ?_
  refine EL.newP al_126 rfl ?_
  intro g8 w8 q8 hb8 hg8 hl8
  have n7_8 : g7 ≠ g8 := Nat.ne_of_lt (Nat.lt_of_lt_of_le q7.lt hg8)
  have bhbw_8 := Nat.le_trans hbw.size hg8
  replace q7 := q7.below hb8 q7.lt
  replace hbw := Below.on hbw hb8 hbw.size
  clear hb8 hg8 hl8
  refine EL.store rfl rfl q8 sz_126 rfl rfl rfl rfl ?_
  intro w9 hq9 hg9
  replace q7 := q7.grown hg9 (fun h => n7_8 (Option.some.inj h))
  replace hbw := below_store hbw hg9 bhbw_8
  replace q8 := hq9
  clear hg9 hq9
  refine EL.nil ?_
  refine EX.seq ?_
  refine EC.seq ?_
  refine EC.seq ?_
  refine EC.region ?_
  refine EL.val (x_move rfl) rfl ?_
  refine EL.val (fa_50_3 rfl) rfl ?_
  refine EL.val (ld_48 rfl (q7.at (j := 4) rfl)) rfl ?_
  refine EL.val (ix_48 (k := 0) rfl rfl hk0) rfl ?_
  refine EL.val (fa_126_0 rfl) rfl ?_
  refine EL.val (ld_3 rfl (below_load hbw (cc (0) hk0).1)) rfl ?_
  refine EL.val (x_leq rfl rfl (by first | assumption | exact decide_eq_false (by omega))) rfl ?_
  refine EL.nil ?_
  refine EX.seq ?_
  refine EC.no rfl ?_
  refine EC.skip ?_
  refine EX.seq ?_
  refine EC.seq ?_
  refine EC.seq ?_
  refine EC.region ?_
  refine EL.val (x_move rfl) rfl ?_
  refine EL.val (fa_126_0 rfl) rfl ?_
  refine EL.val (ld_3 rfl (q8.at (j := 0) rfl)) rfl ?_
  refine EL.val (x_geq rfl rfl (by first | assumption | exact decide_eq_false (by omega))) rfl ?_
  refine EL.nil ?_
  refine EX.seq ?_
  refine EC.no rfl ?_
  refine EC.skip ?_
  refine EX.seq ?_
  refine EC.seq ?_
  refine EC.region ?_
  refine EL.val (x_assign rfl) rfl ?_
  refine EL.nil ?_
  refine EX.seq ?_
  refine EC.seq ?_
  refine EC.block ?_
  refine EC.loopD [8, 39, 40, 41, 42, 43, 44, 45, 46, 47, 48, 49] (fun k : Nat => [(8, .int .i64 (k : Nat))]) (fun k W => k + 1 < x.curve.length ∧ (x.curve.getD k row0).flow < fl ∧ Blk W g7 50 #[.int .i64 x.len, .int .i64 x.delay, .int .i64 x.base.lo, .int .i64 x.base.hi, .slice (some ⟨b, o, none⟩) x.curve.length c_, .int .i64 x.weir, .int .i64 x.bottom.lo, .int .i64 x.bottom.hi, .int .i64 x.flood] ∧ Below w.heap.size w W) (fun k => x.curve.length - k) 0 ⟨by omega, by omega, q7, hbw⟩ ⟨rfl, trivial⟩ ?_
  clear q7 hbw
  rintro i wr ⟨hi, hfl, q7, hbw⟩
  have hi0 : i < x.curve.length := by omega
  have hi1 : IntKind.i64.wrap ((i : Nat) + 1 : Int) = ((i + 1 : Nat) : Int) := (IntWalk.i64_in _ ⟨by omega, by omega⟩).trans (by omega)
  by_cases hlt : (x.curve.getD (i + 1) row0).flow < fl
  ·
    refine EC.seq ?_
    refine EC.seq ?_
    refine EC.region ?_
    refine EL.val (fa_50_3 rfl) rfl ?_
    refine EL.val (ld_48 rfl (q7.at (j := 4) rfl)) rfl ?_
    refine EL.val (x_move rfl) rfl ?_
    refine EL.val (x_add rfl rfl hi1) rfl ?_
    refine EL.val (ix_48 (k := i + 1) rfl rfl hi) rfl ?_
    refine EL.val (fa_126_0 rfl) rfl ?_
    refine EL.val (ld_3 rfl (below_load hbw (cc (i + 1) hi).1)) rfl ?_
    refine EL.val (x_move rfl) rfl ?_
    refine EL.val (x_lss rfl rfl (by first | assumption | exact decide_eq_true (by omega))) rfl ?_
    refine EL.nil ?_
    refine EX.seq ?_
    refine EC.yes rfl ?_
    refine EC.skip ?_
    refine EX.seq ?_
    refine EC.block ?_
    refine EC.region ?_
    refine EL.val (x_move rfl) rfl ?_
    refine EL.val (x_add rfl rfl hi1) rfl ?_
    refine EL.val (x_assign rfl) rfl ?_
    refine EL.nil ?_
    refine EX.blk ?_
    have hne : i + 1 ≠ x.curve.length - 1 := by intro e; rw [← e] at hZ; omega
    refine EX.roundD (i + 1) ⟨rfl, trivial⟩ (by repeat first | exact Sub.refl _ | refine sub_past rfl ?_ | refine sub_del rfl ?_ | refine sub_insL_nil ?_) ⟨by omega, hlt, q7, hbw⟩ (by omega)
  ·
    have hge : fl ≤ (x.curve.getD (i + 1) row0).flow := by omega
    have hval := curveAt_mid (up := false) hx.curve hi hfl hge (by omega)
    have hmb := mid_bd hx.curve hi hfl hge false
    have hca := curve_at hx.curve i hi0
    have hcb := curve_at hx.curve (i + 1) hi
    have hcs := curve_step hx.curve hi
    have ci := cc i hi0
    have cj := cc (i + 1) hi
    have hlx : fl ≤ 10000000000 := by omega
    have s1 : IntKind.i64.wrap (fl - (x.curve.getD i row0).flow) = fl - (x.curve.getD i row0).flow := IntWalk.i64_in _ ⟨by omega, by omega⟩
    have s2 : IntKind.i64.wrap ((x.curve.getD (i + 1) row0).level - (x.curve.getD i row0).level) = (x.curve.getD (i + 1) row0).level - (x.curve.getD i row0).level := IntWalk.i64_in _ ⟨by omega, by omega⟩
    have s3 : IntKind.i64.wrap ((fl - (x.curve.getD i row0).flow) * ((x.curve.getD (i + 1) row0).level - (x.curve.getD i row0).level)) = (fl - (x.curve.getD i row0).flow) * ((x.curve.getD (i + 1) row0).level - (x.curve.getD i row0).level) := IntWalk.i64_in _ ⟨by omega, by omega⟩
    have s4 : IntKind.i64.wrap ((x.curve.getD (i + 1) row0).flow - (x.curve.getD i row0).flow) = (x.curve.getD (i + 1) row0).flow - (x.curve.getD i row0).flow := IntWalk.i64_in _ ⟨by omega, by omega⟩
    have s5 : IntKind.i64.wrap ((x.curve.getD i row0).level + floorD ((fl - (x.curve.getD i row0).flow) * ((x.curve.getD (i + 1) row0).level - (x.curve.getD i row0).level)) ((x.curve.getD (i + 1) row0).flow - (x.curve.getD i row0).flow)) = (x.curve.getD i row0).level + rnd false ((fl - (x.curve.getD i row0).flow) * ((x.curve.getD (i + 1) row0).level - (x.curve.getD i row0).level)) ((x.curve.getD (i + 1) row0).flow - (x.curve.getD i row0).flow) := IntWalk.i64_in _ ⟨by have := hmb.2.1; have := hca.2; change _ ≤ _ + rnd false _ _; omega, by have := hmb.2.2; have := hca.2; change _ + rnd false _ _ ≤ _; omega⟩
    refine EC.seq ?_
    refine EC.seq ?_
    refine EC.region ?_
    refine EL.val (fa_50_3 rfl) rfl ?_
    refine EL.val (ld_48 rfl (q7.at (j := 4) rfl)) rfl ?_
    refine EL.val (x_move rfl) rfl ?_
    refine EL.val (x_add rfl rfl hi1) rfl ?_
    refine EL.val (ix_48 (k := i + 1) rfl rfl hi) rfl ?_
    refine EL.val (fa_126_0 rfl) rfl ?_
    refine EL.val (ld_3 rfl (below_load hbw (cc (i + 1) hi).1)) rfl ?_
    refine EL.val (x_move rfl) rfl ?_
    refine EL.val (x_lss rfl rfl (by first | assumption | exact decide_eq_false (by omega))) rfl ?_
    refine EL.nil ?_
    refine EX.seq ?_
    refine EC.no rfl ?_
    refine EC.exit ?_
    refine EX.seq_exit ?_
    refine EX.seq_exit ?_
    refine EX.blk_here ?_
    refine EX.seq ?_
    refine EC.seq ?_
    have lt_7 := q7.lt
    refine EC.regionS [[], [0], [], [0, 1, 2], [0, 1, 2, 3], [], [5], [], [7], [5, 6, 7, 8], [5, 6, 7, 8, 9], [], [], [0, 1, 2, 3, 4, 11, 12], [0, 1, 2, 3, 4, 5, 6, 7, 8, 9, 10, 11, 12, 13]] 14 [11, 12] [13] (fun _ w_ => Below wr.heap.size wr w_) (phiS (fun i_ r => match i_ with | 0 => r 0 = .pointer (some ⟨g7, 4, none⟩) | 1 => r 1 = .slice (some ⟨b, o, none⟩) x.curve.length c_ | 2 => r 2 = .int .i64 (i : Nat) | 3 => r 3 = .pointer (some ⟨b, o + i * 2, none⟩) | 4 => r 4 = .agg #[.int .i64 (x.curve.getD (i) row0).flow, .int .i64 (x.curve.getD (i) row0).level] | 5 => r 5 = .pointer (some ⟨g7, 4, none⟩) | 6 => r 6 = .slice (some ⟨b, o, none⟩) x.curve.length c_ | 7 => r 7 = .int .i64 (i : Nat) | 8 => r 8 = .int .i64 ((i + 1 : Nat) : Int) | 9 => r 9 = .pointer (some ⟨b, o + (i + 1) * 2, none⟩) | 10 => r 10 = .agg #[.int .i64 (x.curve.getD (i + 1) row0).flow, .int .i64 (x.curve.getD (i + 1) row0).level] | _ => True) [(11, fun fl r w_ => ∃ g_, r 11 = .pointer (some ⟨g_, 0, none⟩) ∧ wr.heap.size ≤ g_ ∧ (fl 13 = false → Blk w_ g_ 126 #[.int .i64 0, .int .i64 0])), (12, fun _ r w_ => ∃ g_, r 12 = .pointer (some ⟨g_, 0, none⟩) ∧ wr.heap.size ≤ g_ ∧ Blk w_ g_ 126 #[.int .i64 0, .int .i64 0]), (13, fun _ r w_ => ∃ g_, r 11 = .pointer (some ⟨g_, 0, none⟩) ∧ Blk w_ g_ 126 #[.int .i64 (x.curve.getD (i) row0).flow, .int .i64 (x.curve.getD (i) row0).level])]) (by kernel_rfl) rfl rfl (by intro i hi; simp at hi; first | (subst hi; exact ⟨by simp, by omega⟩) | (rcases hi with rfl | rfl | rfl <;> exact ⟨by simp, by omega⟩) | (rcases hi with rfl | rfl <;> exact ⟨by simp, by omega⟩)) (base_below wr) (phiS_cons monoS_alloc (phiS_cons monoS_alloc0 (phiS_cons monoS_store (phiS_nil)))) (fun i_ hi_ hs_ => ?_) (fun i_ hi_ => ?_) ?_
    · match i_, hi_ with
      | 0, _ =>
        intro val fl w1 a hb ha hd hfl
        have ha := ha.sub (Sub.ins (d := 3) (Sub.nil _) rfl)
        exact ss_val ha rfl rfl (fa_50_3 rfl) rfl rfl
      | 1, _ =>
        intro val fl w1 a hb ha hd hfl
        have e0 : val 0 = .pointer (some ⟨g7, 4, none⟩) := hd 0 (memB_mem.1 rfl)
        have ha := ha.sub (Sub.ins (d := 50) (Sub.nil _) (dep_get rfl e0))
        exact ss_val ha rfl rfl (ld_48 rfl ((q7.below hb q7.lt).at (j := 4) rfl)) rfl rfl
      | 2, _ =>
        intro val fl w1 a hb ha hd hfl
        have ha := ha.sub (Sub.ins (d := 8) (Sub.nil _) rfl)
        exact ss_val ha rfl rfl (x_move rfl) rfl rfl
      | 3, _ =>
        intro val fl w1 a hb ha hd hfl
        have e1 : val 1 = .slice (some ⟨b, o, none⟩) x.curve.length c_ := hd 1 (memB_mem.1 rfl)
        have e2 : val 2 = .int .i64 (i : Nat) := hd 2 (memB_mem.1 rfl)
        have ha := ha.sub (Sub.ins (d := 52) (Sub.ins (d := 51) (Sub.nil _) (dep_get rfl e1)) (dep_get rfl e2))
        exact ss_val ha rfl rfl (ix_48 (k := i) rfl rfl hi0) rfl rfl
      | 4, _ =>
        intro val fl w1 a hb ha hd hfl
        have e3 : val 3 = .pointer (some ⟨b, o + i * 2, none⟩) := hd 3 (memB_mem.1 rfl)
        have ha := ha.sub (Sub.ins (d := 53) (Sub.nil _) (dep_get rfl e3))
        exact ss_val ha rfl rfl (ld_126 rfl (below_load (Below.on hbw hb hbw.size) (cc (i) hi0).1) (below_load (Below.on hbw hb hbw.size) (cc (i) hi0).2)) rfl rfl
      | 5, _ =>
        intro val fl w1 a hb ha hd hfl
        have ha := ha.sub (Sub.ins (d := 3) (Sub.nil _) rfl)
        exact ss_val ha rfl rfl (fa_50_3 rfl) rfl rfl
      | 6, _ =>
        intro val fl w1 a hb ha hd hfl
        have e5 : val 5 = .pointer (some ⟨g7, 4, none⟩) := hd 5 (memB_mem.1 rfl)
        have ha := ha.sub (Sub.ins (d := 55) (Sub.nil _) (dep_get rfl e5))
        exact ss_val ha rfl rfl (ld_48 rfl ((q7.below hb q7.lt).at (j := 4) rfl)) rfl rfl
      | 7, _ =>
        intro val fl w1 a hb ha hd hfl
        have ha := ha.sub (Sub.ins (d := 8) (Sub.nil _) rfl)
        exact ss_val ha rfl rfl (x_move rfl) rfl rfl
      | 8, _ =>
        intro val fl w1 a hb ha hd hfl
        have e7 : val 7 = .int .i64 (i : Nat) := hd 7 (memB_mem.1 rfl)
        have ha := ha.sub (Sub.ins (d := 57) (Sub.nil _) (dep_get rfl e7))
        exact ss_val ha rfl rfl (x_add rfl rfl hi1) rfl rfl
      | 9, _ =>
        intro val fl w1 a hb ha hd hfl
        have e6 : val 6 = .slice (some ⟨b, o, none⟩) x.curve.length c_ := hd 6 (memB_mem.1 rfl)
        have e8 : val 8 = .int .i64 ((i + 1 : Nat) : Int) := hd 8 (memB_mem.1 rfl)
        have ha := ha.sub (Sub.ins (d := 58) (Sub.ins (d := 56) (Sub.nil _) (dep_get rfl e6)) (dep_get rfl e8))
        exact ss_val ha rfl rfl (ix_48 (k := i + 1) rfl rfl hi) rfl rfl
      | 10, _ =>
        intro val fl w1 a hb ha hd hfl
        have e9 : val 9 = .pointer (some ⟨b, o + (i + 1) * 2, none⟩) := hd 9 (memB_mem.1 rfl)
        have ha := ha.sub (Sub.ins (d := 59) (Sub.nil _) (dep_get rfl e9))
        exact ss_val ha rfl rfl (ld_126 rfl (below_load (Below.on hbw hb hbw.size) (cc (i + 1) hi).1) (below_load (Below.on hbw hb hbw.size) (cc (i + 1) hi).2)) rfl rfl
      | 11, _ =>
        intro val fl w1 a hb ha hd hfl
        have ha := ha.sub (Sub.nil _)
        exact ss_newP ha rfl rfl al_126 (fun g w' hq _ hge => ⟨g, rfl, Nat.le_trans hb.size hge, fun _ => hq⟩)
      | 12, _ =>
        intro val fl w1 a hb ha hd hfl
        have ha := ha.sub (Sub.nil _)
        exact ss_newP ha rfl rfl al_126 (fun g w' hq _ hge => ⟨g, rfl, Nat.le_trans hb.size hge, hq⟩)
      | 13, _ =>
        exact absurd (by simp) hs_
      | k + 14, h => exact absurd h (by omega)
    · simp only [List.mem_singleton] at hi_; subst hi_
      intro val fl w1 a hb hfi ha hd hfl
      obtain ⟨g11_, e11, hg11_, q11_⟩ := hd 11 (memB_mem.1 rfl)
      change val 11 = _ at e11
      have e4 : val 4 = .agg #[.int .i64 (x.curve.getD (i) row0).flow, .int .i64 (x.curve.getD (i) row0).level] := hd 4 (memB_mem.1 rfl)
      have ha := ha.sub (Sub.ins (d := 54) (Sub.ins (d := 9) (Sub.nil _) (dep_get rfl e11)) (dep_get rfl e4))
      refine ts_store ha rfl rfl rfl (q11_ hfi) sz_126 rfl rfl rfl rfl ?_
      intro w' hq hgr
      refine ⟨undef, rfl, hgr.size, below_store hb hgr hg11_, ⟨g11_, e11, hq⟩, fun j _ hj hn hA => ?_⟩
      exact phiS_cons_st (C := fun j => j ≠ 13 ∧ 13 ∉ clsAt [[], [0], [], [0, 1, 2], [0, 1, 2, 3], [], [5], [], [7], [5, 6, 7, 8], [5, 6, 7, 8, 9], [], [], [0, 1, 2, 3, 4, 11, 12], [0, 1, 2, 3, 4, 5, 6, 7, 8, 9, 10, 11, 12, 13]] j ∧ ∀ p ∈ [11, 12], (p = j ∨ p ∈ clsAt [[], [0], [], [0, 1, 2], [0, 1, 2, 3], [], [5], [], [7], [5, 6, 7, 8], [5, 6, 7, 8, 9], [], [], [0, 1, 2, 3, 4, 11, 12], [0, 1, 2, 3, 4, 5, 6, 7, 8, 9, 10, 11, 12, 13]] j) → ∀ q ∈ [11, 12], (q = 13 ∨ q ∈ clsAt [[], [0], [], [0, 1, 2], [0, 1, 2, 3], [], [5], [], [7], [5, 6, 7, 8], [5, 6, 7, 8, 9], [], [], [0, 1, 2, 3, 4, 11, 12], [0, 1, 2, 3, 4, 5, 6, 7, 8, 9, 10, 11, 12, 13]] 13) → p ≠ q → val p ≠ val q) (fun _ ⟨g, h1, h2, _⟩ => ⟨g, h1, h2, fun h => by rw [fset_eq] at h; cases h⟩) (phiS_cons_st (C := fun j => j ≠ 13 ∧ 13 ∉ clsAt [[], [0], [], [0, 1, 2], [0, 1, 2, 3], [], [5], [], [7], [5, 6, 7, 8], [5, 6, 7, 8, 9], [], [], [0, 1, 2, 3, 4, 11, 12], [0, 1, 2, 3, 4, 5, 6, 7, 8, 9, 10, 11, 12, 13]] j ∧ ∀ p ∈ [11, 12], (p = j ∨ p ∈ clsAt [[], [0], [], [0, 1, 2], [0, 1, 2, 3], [], [5], [], [7], [5, 6, 7, 8], [5, 6, 7, 8, 9], [], [], [0, 1, 2, 3, 4, 11, 12], [0, 1, 2, 3, 4, 5, 6, 7, 8, 9, 10, 11, 12, 13]] j) → ∀ q ∈ [11, 12], (q = 13 ∨ q ∈ clsAt [[], [0], [], [0, 1, 2], [0, 1, 2, 3], [], [5], [], [7], [5, 6, 7, 8], [5, 6, 7, 8, 9], [], [], [0, 1, 2, 3, 4, 11, 12], [0, 1, 2, 3, 4, 5, 6, 7, 8, 9, 10, 11, 12, 13]] 13) → p ≠ q → val p ≠ val q) (fun hc ⟨g, h1, h2, h3⟩ => ⟨g, h1, h2, h3.grown hgr (fun h => hc.2.2 12 (by simp) (.inl rfl) 11 (by simp) (.inr (memB_mem.1 rfl)) (by simp) (by have h1' : val 12 = _ := h1; rw [h1', e11]; injection h with h; rw [h]))⟩) (phiS_cons_st (C := fun j => j ≠ 13 ∧ 13 ∉ clsAt [[], [0], [], [0, 1, 2], [0, 1, 2, 3], [], [5], [], [7], [5, 6, 7, 8], [5, 6, 7, 8, 9], [], [], [0, 1, 2, 3, 4, 11, 12], [0, 1, 2, 3, 4, 5, 6, 7, 8, 9, 10, 11, 12, 13]] j ∧ ∀ p ∈ [11, 12], (p = j ∨ p ∈ clsAt [[], [0], [], [0, 1, 2], [0, 1, 2, 3], [], [5], [], [7], [5, 6, 7, 8], [5, 6, 7, 8, 9], [], [], [0, 1, 2, 3, 4, 11, 12], [0, 1, 2, 3, 4, 5, 6, 7, 8, 9, 10, 11, 12, 13]] j) → ∀ q ∈ [11, 12], (q = 13 ∨ q ∈ clsAt [[], [0], [], [0, 1, 2], [0, 1, 2, 3], [], [5], [], [7], [5, 6, 7, 8], [5, 6, 7, 8, 9], [], [], [0, 1, 2, 3, 4, 11, 12], [0, 1, 2, 3, 4, 5, 6, 7, 8, 9, 10, 11, 12, 13]] 13) → p ≠ q → val p ≠ val q) (fun hc => absurd rfl hc.1) (fun _ _ h => h))) j ⟨hj, hn, hA⟩
    · intro val fl w' hfl hb halc hd
      have e0 : val 0 = .pointer (some ⟨g7, 4, none⟩) := hd 0 (by omega)
      have e1 : val 1 = .slice (some ⟨b, o, none⟩) x.curve.length c_ := hd 1 (by omega)
      have e2 : val 2 = .int .i64 (i : Nat) := hd 2 (by omega)
      have e3 : val 3 = .pointer (some ⟨b, o + i * 2, none⟩) := hd 3 (by omega)
      have e4 : val 4 = .agg #[.int .i64 (x.curve.getD (i) row0).flow, .int .i64 (x.curve.getD (i) row0).level] := hd 4 (by omega)
      have e5 : val 5 = .pointer (some ⟨g7, 4, none⟩) := hd 5 (by omega)
      have e6 : val 6 = .slice (some ⟨b, o, none⟩) x.curve.length c_ := hd 6 (by omega)
      have e7 : val 7 = .int .i64 (i : Nat) := hd 7 (by omega)
      have e8 : val 8 = .int .i64 ((i + 1 : Nat) : Int) := hd 8 (by omega)
      have e9 : val 9 = .pointer (some ⟨b, o + (i + 1) * 2, none⟩) := hd 9 (by omega)
      have e10 : val 10 = .agg #[.int .i64 (x.curve.getD (i + 1) row0).flow, .int .i64 (x.curve.getD (i + 1) row0).level] := hd 10 (by omega)
      obtain ⟨ga11, e11, qa11⟩ := hd 13 (by omega)
      change val 11 = _ at e11
      obtain ⟨ga12, e12, _, qa12⟩ := hd 12 (by omega)
      change val 12 = _ at e12
      refine EL.ends (cs := [.pointer (some ⟨g7, 4, none⟩), .slice (some ⟨b, o, none⟩) x.curve.length c_, .int .i64 (i : Nat), .pointer (some ⟨b, o + i * 2, none⟩), .agg #[.int .i64 (x.curve.getD (i) row0).flow, .int .i64 (x.curve.getD (i) row0).level], .pointer (some ⟨g7, 4, none⟩), .slice (some ⟨b, o, none⟩) x.curve.length c_, .int .i64 (i : Nat), .int .i64 ((i + 1 : Nat) : Int), .pointer (some ⟨b, o + (i + 1) * 2, none⟩), .agg #[.int .i64 (x.curve.getD (i + 1) row0).flow, .int .i64 (x.curve.getD (i + 1) row0).level], .pointer (some ⟨ga11, 0, none⟩), .pointer (some ⟨ga12, 0, none⟩), val 13]) ⟨e0, e1, e2, e3, e4, e5, e6, e7, e8, e9, e10, e11, e12, rfl, trivial⟩ rfl ?_
      replace q7 := q7.below hb q7.lt
      have bge10 := alc_ge halc (i := 11) rfl rfl e11
      have n7_10 : g7 ≠ ga11 := Nat.ne_of_lt (Nat.lt_of_lt_of_le lt_7 bge10)
      have bhbw_10 := Nat.le_trans hbw.size bge10
      have bge11 := alc_ge halc (i := 12) rfl rfl e12
      have n7_11 : g7 ≠ ga12 := Nat.ne_of_lt (Nat.lt_of_lt_of_le lt_7 bge11)
      have n10_11 : ga11 ≠ ga12 := alc_ne halc (i := 11) (j := 12) rfl rfl rfl rfl rfl e11 e12
      have bhbw_11 := Nat.le_trans hbw.size bge11
      replace hbw := Below.on hbw hb hbw.size
      refine EL.store rfl rfl qa12 sz_126 rfl rfl rfl rfl ?_
      intro w12 hq12 hg12
      replace q7 := q7.grown hg12 (fun h => n7_11 (Option.some.inj h))
      replace qa11 := qa11.grown hg12 (fun h => n10_11 (Option.some.inj h))
      replace hbw := below_store hbw hg12 bhbw_11
      replace qa12 := hq12
      clear hg12 hq12
      refine EL.nil ?_
      refine EX.seq ?_
      refine EC.seq ?_
      refine EC.regionQ (by kernel_rfl) (by kernel_rfl) ?_
      refine EQ.val (fun _ hw => (x_move rfl)) rfl ?_
      refine EQ.val (fun _ hw => (fa_126_0 rfl)) rfl ?_
      refine EQ.val (fun _ hw => (ld_3 rfl (below_load hw (qa11.at (j := 0) rfl)))) rfl ?_
      refine EQ.val (fun _ hw => (x_sub rfl rfl s1)) rfl ?_
      refine EQ.val (fun _ hw => (fa_126_1 rfl)) rfl ?_
      refine EQ.val (fun _ hw => (ld_3 rfl (below_load hw (qa12.at (j := 1) rfl)))) rfl ?_
      refine EQ.val (fun _ hw => (fa_126_1 rfl)) rfl ?_
      refine EQ.val (fun _ hw => (ld_3 rfl (below_load hw (qa11.at (j := 1) rfl)))) rfl ?_
      refine EQ.val (fun _ hw => (x_sub rfl rfl s2)) rfl ?_
      refine EQ.val (fun _ hw => (x_mul rfl rfl s3)) rfl ?_
      refine EQ.val (fun _ hw => (fa_126_0 rfl)) rfl ?_
      refine EQ.val (fun _ hw => (ld_3 rfl (below_load hw (qa12.at (j := 0) rfl)))) rfl ?_
      refine EQ.val (fun _ hw => (fa_126_0 rfl)) rfl ?_
      refine EQ.val (fun _ hw => (ld_3 rfl (below_load hw (qa11.at (j := 0) rfl)))) rfl ?_
      refine EQ.val (fun _ hw => (x_sub rfl rfl s4)) rfl ?_
      refine EQ.val (fun _ hw => (x_assign rfl)) rfl ?_
      refine EQ.val (fun _ hw => (x_assign rfl)) rfl ?_
      refine EQ.fin (fun w_ hw_ => ?_)
      replace q7 := q7.below hw_ q7.lt
      replace qa11 := qa11.below hw_ qa11.lt
      replace qa12 := qa12.below hw_ qa12.lt
      replace hbw := Below.on hbw hw_ hbw.size
      refine EX.seq ?_
      refine EC.seq ?_
      refine EC.seq ?_
      refine EC.region ?_
      refine EL.val (x_move rfl) rfl ?_
      refine EL.nil ?_
      refine EX.seq ?_
      refine EC.no rfl ?_
      refine EC.skip ?_
      refine EX.seq ?_
      refine EC.seq ?_
      refine EC.regionQ (by kernel_rfl) (by kernel_rfl) ?_
      refine EQ.val (fun _ hw => (fa_126_1 rfl)) rfl ?_
      refine EQ.val (fun _ hw => (ld_3 rfl (below_load hw (qa11.at (j := 1) rfl)))) rfl ?_
      refine EQ.val (fun _ hw => (x_move rfl)) rfl ?_
      refine EQ.val (fun _ hw => (x_move rfl)) rfl ?_
      refine EQ.call (fun _ _ _ ha => cl_63 rfl rfl _ ha) rfl (fun W hw => (rfloor_any _ _ W (by omega) (by omega) (by omega) (by omega)).mono fun e w' h => ⟨h.1, h.2 ▸ hw⟩) ?_
      refine EQ.val (fun _ hw => (x_add rfl rfl s5)) rfl ?_
      refine EQ.val (fun _ hw => (x_assign rfl)) rfl ?_
      refine EQ.fin (fun w_ hw_ => ?_)
      replace q7 := q7.below hw_ q7.lt
      replace qa11 := qa11.below hw_ qa11.lt
      replace qa12 := qa12.below hw_ qa12.lt
      replace hbw := Below.on hbw hw_ hbw.size
      refine EX.seq ?_
      refine EC.ret ?_
      exact EX.done (res1 rfl rfl) ⟨by rw [hval], hbw⟩

set_option maxRecDepth 100000 in
theorem rcurve_true (x : Reach) (v : Value) (fl : Int) (w : World) (B : Nat) (hr : Rd w B 2 v x.curve.length (rowsC x.curve)) (hB : B ≤ w.heap.size) (hx : ReachOk x) (hf : 0 ≤ fl ∧ fl ≤ 1000000000000) :
    Calls Try.prog 70 #[.agg (reachV x v), .int .i64 fl, .bool true] w fun e w' => e = .returned (.int .i64 (curveAt true x.curve fl)) ∧ Below w.heap.size w w' := by
  obtain ⟨A_, c_, rfl, _⟩ := hr.shape
  have hrow := hx.rows.1
  have hrow2 := hx.rows.2
  have hk0 : 0 < x.curve.length := by omega
  have hk1 : x.curve.length - 1 < x.curve.length := by omega
  have hsub : IntKind.i64.wrap ((x.curve.length : Nat) - 1 : Int) = ((x.curve.length - 1 : Nat) : Int) := (IntWalk.i64_in _ ⟨by omega, by omega⟩).trans (by omega)
  obtain ⟨b, o, rfl, hbB, cc⟩ := rows_all hr hk0
  have hbw := Below.refl w.heap.size w
  refine EC.enter 89 Try.func70 rfl rfl rfl ?_
  by_cases hA : fl ≤ (x.curve.getD 0 row0).flow
  ·
    refine EC.seq ?_
    refine EC.region ?_
    refine EL.newP (bx_50 rfl) rfl ?_
    intro g1 w1 q1 hb1 hg1 hl1
    have bhbw_1 := Nat.le_trans hbw.size hg1
    replace hbw := Below.on hbw hb1 hbw.size
    clear hb1 hg1 hl1
    refine EL.val (x_assign rfl) rfl ?_
    refine EL.nil ?_
    refine EX.seq ?_
    refine EC.seq ?_
    refine EC.region ?_
    refine EL.val (fa_50_3 rfl) rfl ?_
    refine EL.val (ld_48 rfl (q1.at (j := 4) rfl)) rfl ?_
    refine EL.val (fa_50_3 rfl) rfl ?_
    refine EL.val (ld_48 rfl (q1.at (j := 4) rfl)) rfl ?_
    refine EL.val (ln_48 rfl) rfl ?_
    refine EL.val (x_sub rfl rfl hsub) rfl ?_
    refine EL.val (ix_48 (k := x.curve.length - 1) rfl rfl hk1) rfl ?_
    refine EL.val (ld_126 rfl (below_load hbw (cc (x.curve.length - 1) hk1).1) (below_load hbw (cc (x.curve.length - 1) hk1).2)) rfl ?_
    refine EL.newP al_126 rfl ?_
    intro g2 w2 q2 hb2 hg2 hl2
    have n1_2 : g1 ≠ g2 := Nat.ne_of_lt (Nat.lt_of_lt_of_le q1.lt hg2)
    have bhbw_2 := Nat.le_trans hbw.size hg2
    replace q1 := q1.below hb2 q1.lt
    replace hbw := Below.on hbw hb2 hbw.size
    clear hb2 hg2 hl2
    refine EL.store rfl rfl q2 sz_126 rfl rfl rfl rfl ?_
    intro w3 hq3 hg3
    replace q1 := q1.grown hg3 (fun h => n1_2 (Option.some.inj h))
    replace hbw := below_store hbw hg3 bhbw_2
    replace q2 := hq3
    clear hg3 hq3
    refine EL.nil ?_
    refine EX.seq ?_
    refine EC.seq ?_
    refine EC.seq ?_
    refine EC.region ?_
    refine EL.val (x_move rfl) rfl ?_
    refine EL.val (fa_50_3 rfl) rfl ?_
    refine EL.val (ld_48 rfl (q1.at (j := 4) rfl)) rfl ?_
    refine EL.val (ix_48 (k := 0) rfl rfl hk0) rfl ?_
    refine EL.val (fa_126_0 rfl) rfl ?_
    refine EL.val (ld_3 rfl (below_load hbw (cc (0) hk0).1)) rfl ?_
    refine EL.val (x_leq rfl rfl (by first | assumption | exact decide_eq_true (by omega))) rfl ?_
    refine EL.nil ?_
    refine EX.seq ?_
    refine EC.yes rfl ?_
    refine EC.seq ?_
    refine EC.region ?_
    refine EL.val (fa_50_3 rfl) rfl ?_
    refine EL.val (ld_48 rfl (q1.at (j := 4) rfl)) rfl ?_
    refine EL.val (ix_48 (k := 0) rfl rfl hk0) rfl ?_
    refine EL.val (fa_126_1 rfl) rfl ?_
    refine EL.val (ld_3 rfl (below_load hbw (cc (0) hk0).2)) rfl ?_
    refine EL.val (x_assign rfl) rfl ?_
    refine EL.nil ?_
    refine EX.seq ?_
    refine EC.ret ?_
    refine EX.seq_ret ?_
    exact EX.done (res1 rfl rfl) ⟨by rw [curveAt_low hx.curve hrow hA], hbw⟩
  by_cases hZ : (x.curve.getD (x.curve.length - 1) row0).flow ≤ fl
  ·
    refine EC.seq ?_
    refine EC.region ?_
    refine EL.newP (bx_50 rfl) rfl ?_
    intro g4 w4 q4 hb4 hg4 hl4
    have bhbw_4 := Nat.le_trans hbw.size hg4
    replace hbw := Below.on hbw hb4 hbw.size
    clear hb4 hg4 hl4
    refine EL.val (x_assign rfl) rfl ?_
    refine EL.nil ?_
    refine EX.seq ?_
    refine EC.seq ?_
    refine EC.region ?_
    refine EL.val (fa_50_3 rfl) rfl ?_
    refine EL.val (ld_48 rfl (q4.at (j := 4) rfl)) rfl ?_
    refine EL.val (fa_50_3 rfl) rfl ?_
    refine EL.val (ld_48 rfl (q4.at (j := 4) rfl)) rfl ?_
    refine EL.val (ln_48 rfl) rfl ?_
    refine EL.val (x_sub rfl rfl hsub) rfl ?_
    refine EL.val (ix_48 (k := x.curve.length - 1) rfl rfl hk1) rfl ?_
    refine EL.val (ld_126 rfl (below_load hbw (cc (x.curve.length - 1) hk1).1) (below_load hbw (cc (x.curve.length - 1) hk1).2)) rfl ?_
    refine EL.newP al_126 rfl ?_
    intro g5 w5 q5 hb5 hg5 hl5
    have n4_5 : g4 ≠ g5 := Nat.ne_of_lt (Nat.lt_of_lt_of_le q4.lt hg5)
    have bhbw_5 := Nat.le_trans hbw.size hg5
    replace q4 := q4.below hb5 q4.lt
    replace hbw := Below.on hbw hb5 hbw.size
    clear hb5 hg5 hl5
    refine EL.store rfl rfl q5 sz_126 rfl rfl rfl rfl ?_
    intro w6 hq6 hg6
    replace q4 := q4.grown hg6 (fun h => n4_5 (Option.some.inj h))
    replace hbw := below_store hbw hg6 bhbw_5
    replace q5 := hq6
    clear hg6 hq6
    refine EL.nil ?_
    refine EX.seq ?_
    refine EC.seq ?_
    refine EC.seq ?_
    refine EC.region ?_
    refine EL.val (x_move rfl) rfl ?_
    refine EL.val (fa_50_3 rfl) rfl ?_
    refine EL.val (ld_48 rfl (q4.at (j := 4) rfl)) rfl ?_
    refine EL.val (ix_48 (k := 0) rfl rfl hk0) rfl ?_
    refine EL.val (fa_126_0 rfl) rfl ?_
    refine EL.val (ld_3 rfl (below_load hbw (cc (0) hk0).1)) rfl ?_
    refine EL.val (x_leq rfl rfl (by first | assumption | exact decide_eq_false (by omega))) rfl ?_
    refine EL.nil ?_
    refine EX.seq ?_
    refine EC.no rfl ?_
    refine EC.skip ?_
    refine EX.seq ?_
    refine EC.seq ?_
    refine EC.seq ?_
    refine EC.region ?_
    refine EL.val (x_move rfl) rfl ?_
    refine EL.val (fa_126_0 rfl) rfl ?_
    refine EL.val (ld_3 rfl (q5.at (j := 0) rfl)) rfl ?_
    refine EL.val (x_geq rfl rfl (by first | assumption | exact decide_eq_true (by omega))) rfl ?_
    refine EL.nil ?_
    refine EX.seq ?_
    refine EC.yes rfl ?_
    refine EC.seq ?_
    refine EC.region ?_
    refine EL.val (fa_126_1 rfl) rfl ?_
    refine EL.val (ld_3 rfl (q5.at (j := 1) rfl)) rfl ?_
    refine EL.val (x_assign rfl) rfl ?_
    refine EL.nil ?_
    refine EX.seq ?_
    refine EC.ret ?_
    refine EX.seq_ret ?_
    exact EX.done (res1 rfl rfl) ⟨by rw [curveAt_high hx.curve hrow hZ], hbw⟩
  refine EC.seq ?_
  refine EC.region ?_
  refine EL.newP (bx_50 rfl) rfl ?_
  intro g7 w7 q7 hb7 hg7 hl7
  have bhbw_7 := Nat.le_trans hbw.size hg7
  replace hbw := Below.on hbw hb7 hbw.size
  clear hb7 hg7 hl7
  refine EL.val (x_assign rfl) rfl ?_
  refine EL.nil ?_
  refine EX.seq ?_
  refine EC.seq ?_
  refine EC.region ?_
  refine EL.val (fa_50_3 rfl) rfl ?_
  refine EL.val (ld_48 rfl (q7.at (j := 4) rfl)) rfl ?_
  refine EL.val (fa_50_3 rfl) rfl ?_
  refine EL.val (ld_48 rfl (q7.at (j := 4) rfl)) rfl ?_
  refine EL.val (ln_48 rfl) rfl ?_
  refine EL.val (x_sub rfl rfl hsub) rfl ?_
  refine EL.val (ix_48 (k := x.curve.length - 1) rfl rfl hk1) rfl ?_
  refine EL.val (ld_126 rfl (below_load hbw (cc (x.curve.length - 1) hk1).1) (below_load hbw (cc (x.curve.length - 1) hk1).2)) rfl ?_
  refine EL.newP al_126 rfl ?_
  intro g8 w8 q8 hb8 hg8 hl8
  have n7_8 : g7 ≠ g8 := Nat.ne_of_lt (Nat.lt_of_lt_of_le q7.lt hg8)
  have bhbw_8 := Nat.le_trans hbw.size hg8
  replace q7 := q7.below hb8 q7.lt
  replace hbw := Below.on hbw hb8 hbw.size
  clear hb8 hg8 hl8
  refine EL.store rfl rfl q8 sz_126 rfl rfl rfl rfl ?_
  intro w9 hq9 hg9
  replace q7 := q7.grown hg9 (fun h => n7_8 (Option.some.inj h))
  replace hbw := below_store hbw hg9 bhbw_8
  replace q8 := hq9
  clear hg9 hq9
  refine EL.nil ?_
  refine EX.seq ?_
  refine EC.seq ?_
  refine EC.seq ?_
  refine EC.region ?_
  refine EL.val (x_move rfl) rfl ?_
  refine EL.val (fa_50_3 rfl) rfl ?_
  refine EL.val (ld_48 rfl (q7.at (j := 4) rfl)) rfl ?_
  refine EL.val (ix_48 (k := 0) rfl rfl hk0) rfl ?_
  refine EL.val (fa_126_0 rfl) rfl ?_
  refine EL.val (ld_3 rfl (below_load hbw (cc (0) hk0).1)) rfl ?_
  refine EL.val (x_leq rfl rfl (by first | assumption | exact decide_eq_false (by omega))) rfl ?_
  refine EL.nil ?_
  refine EX.seq ?_
  refine EC.no rfl ?_
  refine EC.skip ?_
  refine EX.seq ?_
  refine EC.seq ?_
  refine EC.seq ?_
  refine EC.region ?_
  refine EL.val (x_move rfl) rfl ?_
  refine EL.val (fa_126_0 rfl) rfl ?_
  refine EL.val (ld_3 rfl (q8.at (j := 0) rfl)) rfl ?_
  refine EL.val (x_geq rfl rfl (by first | assumption | exact decide_eq_false (by omega))) rfl ?_
  refine EL.nil ?_
  refine EX.seq ?_
  refine EC.no rfl ?_
  refine EC.skip ?_
  refine EX.seq ?_
  refine EC.seq ?_
  refine EC.region ?_
  refine EL.val (x_assign rfl) rfl ?_
  refine EL.nil ?_
  refine EX.seq ?_
  refine EC.seq ?_
  refine EC.block ?_
  refine EC.loopD [8, 39, 40, 41, 42, 43, 44, 45, 46, 47, 48, 49] (fun k : Nat => [(8, .int .i64 (k : Nat))]) (fun k W => k + 1 < x.curve.length ∧ (x.curve.getD k row0).flow < fl ∧ Blk W g7 50 #[.int .i64 x.len, .int .i64 x.delay, .int .i64 x.base.lo, .int .i64 x.base.hi, .slice (some ⟨b, o, none⟩) x.curve.length c_, .int .i64 x.weir, .int .i64 x.bottom.lo, .int .i64 x.bottom.hi, .int .i64 x.flood] ∧ Below w.heap.size w W) (fun k => x.curve.length - k) 0 ⟨by omega, by omega, q7, hbw⟩ ⟨rfl, trivial⟩ ?_
  clear q7 hbw
  rintro i wr ⟨hi, hfl, q7, hbw⟩
  have hi0 : i < x.curve.length := by omega
  have hi1 : IntKind.i64.wrap ((i : Nat) + 1 : Int) = ((i + 1 : Nat) : Int) := (IntWalk.i64_in _ ⟨by omega, by omega⟩).trans (by omega)
  by_cases hlt : (x.curve.getD (i + 1) row0).flow < fl
  ·
    refine EC.seq ?_
    refine EC.seq ?_
    refine EC.region ?_
    refine EL.val (fa_50_3 rfl) rfl ?_
    refine EL.val (ld_48 rfl (q7.at (j := 4) rfl)) rfl ?_
    refine EL.val (x_move rfl) rfl ?_
    refine EL.val (x_add rfl rfl hi1) rfl ?_
    refine EL.val (ix_48 (k := i + 1) rfl rfl hi) rfl ?_
    refine EL.val (fa_126_0 rfl) rfl ?_
    refine EL.val (ld_3 rfl (below_load hbw (cc (i + 1) hi).1)) rfl ?_
    refine EL.val (x_move rfl) rfl ?_
    refine EL.val (x_lss rfl rfl (by first | assumption | exact decide_eq_true (by omega))) rfl ?_
    refine EL.nil ?_
    refine EX.seq ?_
    refine EC.yes rfl ?_
    refine EC.skip ?_
    refine EX.seq ?_
    refine EC.block ?_
    refine EC.region ?_
    refine EL.val (x_move rfl) rfl ?_
    refine EL.val (x_add rfl rfl hi1) rfl ?_
    refine EL.val (x_assign rfl) rfl ?_
    refine EL.nil ?_
    refine EX.blk ?_
    have hne : i + 1 ≠ x.curve.length - 1 := by intro e; rw [← e] at hZ; omega
    refine EX.roundD (i + 1) ⟨rfl, trivial⟩ (by repeat first | exact Sub.refl _ | refine sub_past rfl ?_ | refine sub_del rfl ?_ | refine sub_insL_nil ?_) ⟨by omega, hlt, q7, hbw⟩ (by omega)
  ·
    have hge : fl ≤ (x.curve.getD (i + 1) row0).flow := by omega
    have hval := curveAt_mid (up := true) hx.curve hi hfl hge (by omega)
    have hmb := mid_bd hx.curve hi hfl hge true
    have hca := curve_at hx.curve i hi0
    have hcb := curve_at hx.curve (i + 1) hi
    have hcs := curve_step hx.curve hi
    have ci := cc i hi0
    have cj := cc (i + 1) hi
    have hlx : fl ≤ 10000000000 := by omega
    have s1 : IntKind.i64.wrap (fl - (x.curve.getD i row0).flow) = fl - (x.curve.getD i row0).flow := IntWalk.i64_in _ ⟨by omega, by omega⟩
    have s2 : IntKind.i64.wrap ((x.curve.getD (i + 1) row0).level - (x.curve.getD i row0).level) = (x.curve.getD (i + 1) row0).level - (x.curve.getD i row0).level := IntWalk.i64_in _ ⟨by omega, by omega⟩
    have s3 : IntKind.i64.wrap ((fl - (x.curve.getD i row0).flow) * ((x.curve.getD (i + 1) row0).level - (x.curve.getD i row0).level)) = (fl - (x.curve.getD i row0).flow) * ((x.curve.getD (i + 1) row0).level - (x.curve.getD i row0).level) := IntWalk.i64_in _ ⟨by omega, by omega⟩
    have s4 : IntKind.i64.wrap ((x.curve.getD (i + 1) row0).flow - (x.curve.getD i row0).flow) = (x.curve.getD (i + 1) row0).flow - (x.curve.getD i row0).flow := IntWalk.i64_in _ ⟨by omega, by omega⟩
    have s5 : IntKind.i64.wrap ((x.curve.getD i row0).level + ceilD ((fl - (x.curve.getD i row0).flow) * ((x.curve.getD (i + 1) row0).level - (x.curve.getD i row0).level)) ((x.curve.getD (i + 1) row0).flow - (x.curve.getD i row0).flow)) = (x.curve.getD i row0).level + rnd true ((fl - (x.curve.getD i row0).flow) * ((x.curve.getD (i + 1) row0).level - (x.curve.getD i row0).level)) ((x.curve.getD (i + 1) row0).flow - (x.curve.getD i row0).flow) := IntWalk.i64_in _ ⟨by have := hmb.2.1; have := hca.2; change _ ≤ _ + rnd true _ _; omega, by have := hmb.2.2; have := hca.2; change _ + rnd true _ _ ≤ _; omega⟩
    refine EC.seq ?_
    refine EC.seq ?_
    refine EC.region ?_
    refine EL.val (fa_50_3 rfl) rfl ?_
    refine EL.val (ld_48 rfl (q7.at (j := 4) rfl)) rfl ?_
    refine EL.val (x_move rfl) rfl ?_
    refine EL.val (x_add rfl rfl hi1) rfl ?_
    refine EL.val (ix_48 (k := i + 1) rfl rfl hi) rfl ?_
    refine EL.val (fa_126_0 rfl) rfl ?_
    refine EL.val (ld_3 rfl (below_load hbw (cc (i + 1) hi).1)) rfl ?_
    refine EL.val (x_move rfl) rfl ?_
    refine EL.val (x_lss rfl rfl (by first | assumption | exact decide_eq_false (by omega))) rfl ?_
    refine EL.nil ?_
    refine EX.seq ?_
    refine EC.no rfl ?_
    refine EC.exit ?_
    refine EX.seq_exit ?_
    refine EX.seq_exit ?_
    refine EX.blk_here ?_
    refine EX.seq ?_
    refine EC.seq ?_
    have lt_7 := q7.lt
    refine EC.regionS [[], [0], [], [0, 1, 2], [0, 1, 2, 3], [], [5], [], [7], [5, 6, 7, 8], [5, 6, 7, 8, 9], [], [], [0, 1, 2, 3, 4, 11, 12], [0, 1, 2, 3, 4, 5, 6, 7, 8, 9, 10, 11, 12, 13]] 14 [11, 12] [13] (fun _ w_ => Below wr.heap.size wr w_) (phiS (fun i_ r => match i_ with | 0 => r 0 = .pointer (some ⟨g7, 4, none⟩) | 1 => r 1 = .slice (some ⟨b, o, none⟩) x.curve.length c_ | 2 => r 2 = .int .i64 (i : Nat) | 3 => r 3 = .pointer (some ⟨b, o + i * 2, none⟩) | 4 => r 4 = .agg #[.int .i64 (x.curve.getD (i) row0).flow, .int .i64 (x.curve.getD (i) row0).level] | 5 => r 5 = .pointer (some ⟨g7, 4, none⟩) | 6 => r 6 = .slice (some ⟨b, o, none⟩) x.curve.length c_ | 7 => r 7 = .int .i64 (i : Nat) | 8 => r 8 = .int .i64 ((i + 1 : Nat) : Int) | 9 => r 9 = .pointer (some ⟨b, o + (i + 1) * 2, none⟩) | 10 => r 10 = .agg #[.int .i64 (x.curve.getD (i + 1) row0).flow, .int .i64 (x.curve.getD (i + 1) row0).level] | _ => True) [(11, fun fl r w_ => ∃ g_, r 11 = .pointer (some ⟨g_, 0, none⟩) ∧ wr.heap.size ≤ g_ ∧ (fl 13 = false → Blk w_ g_ 126 #[.int .i64 0, .int .i64 0])), (12, fun _ r w_ => ∃ g_, r 12 = .pointer (some ⟨g_, 0, none⟩) ∧ wr.heap.size ≤ g_ ∧ Blk w_ g_ 126 #[.int .i64 0, .int .i64 0]), (13, fun _ r w_ => ∃ g_, r 11 = .pointer (some ⟨g_, 0, none⟩) ∧ Blk w_ g_ 126 #[.int .i64 (x.curve.getD (i) row0).flow, .int .i64 (x.curve.getD (i) row0).level])]) (by kernel_rfl) rfl rfl (by intro i hi; simp at hi; first | (subst hi; exact ⟨by simp, by omega⟩) | (rcases hi with rfl | rfl | rfl <;> exact ⟨by simp, by omega⟩) | (rcases hi with rfl | rfl <;> exact ⟨by simp, by omega⟩)) (base_below wr) (phiS_cons monoS_alloc (phiS_cons monoS_alloc0 (phiS_cons monoS_store (phiS_nil)))) (fun i_ hi_ hs_ => ?_) (fun i_ hi_ => ?_) ?_
    · match i_, hi_ with
      | 0, _ =>
        intro val fl w1 a hb ha hd hfl
        have ha := ha.sub (Sub.ins (d := 3) (Sub.nil _) rfl)
        exact ss_val ha rfl rfl (fa_50_3 rfl) rfl rfl
      | 1, _ =>
        intro val fl w1 a hb ha hd hfl
        have e0 : val 0 = .pointer (some ⟨g7, 4, none⟩) := hd 0 (memB_mem.1 rfl)
        have ha := ha.sub (Sub.ins (d := 50) (Sub.nil _) (dep_get rfl e0))
        exact ss_val ha rfl rfl (ld_48 rfl ((q7.below hb q7.lt).at (j := 4) rfl)) rfl rfl
      | 2, _ =>
        intro val fl w1 a hb ha hd hfl
        have ha := ha.sub (Sub.ins (d := 8) (Sub.nil _) rfl)
        exact ss_val ha rfl rfl (x_move rfl) rfl rfl
      | 3, _ =>
        intro val fl w1 a hb ha hd hfl
        have e1 : val 1 = .slice (some ⟨b, o, none⟩) x.curve.length c_ := hd 1 (memB_mem.1 rfl)
        have e2 : val 2 = .int .i64 (i : Nat) := hd 2 (memB_mem.1 rfl)
        have ha := ha.sub (Sub.ins (d := 52) (Sub.ins (d := 51) (Sub.nil _) (dep_get rfl e1)) (dep_get rfl e2))
        exact ss_val ha rfl rfl (ix_48 (k := i) rfl rfl hi0) rfl rfl
      | 4, _ =>
        intro val fl w1 a hb ha hd hfl
        have e3 : val 3 = .pointer (some ⟨b, o + i * 2, none⟩) := hd 3 (memB_mem.1 rfl)
        have ha := ha.sub (Sub.ins (d := 53) (Sub.nil _) (dep_get rfl e3))
        exact ss_val ha rfl rfl (ld_126 rfl (below_load (Below.on hbw hb hbw.size) (cc (i) hi0).1) (below_load (Below.on hbw hb hbw.size) (cc (i) hi0).2)) rfl rfl
      | 5, _ =>
        intro val fl w1 a hb ha hd hfl
        have ha := ha.sub (Sub.ins (d := 3) (Sub.nil _) rfl)
        exact ss_val ha rfl rfl (fa_50_3 rfl) rfl rfl
      | 6, _ =>
        intro val fl w1 a hb ha hd hfl
        have e5 : val 5 = .pointer (some ⟨g7, 4, none⟩) := hd 5 (memB_mem.1 rfl)
        have ha := ha.sub (Sub.ins (d := 55) (Sub.nil _) (dep_get rfl e5))
        exact ss_val ha rfl rfl (ld_48 rfl ((q7.below hb q7.lt).at (j := 4) rfl)) rfl rfl
      | 7, _ =>
        intro val fl w1 a hb ha hd hfl
        have ha := ha.sub (Sub.ins (d := 8) (Sub.nil _) rfl)
        exact ss_val ha rfl rfl (x_move rfl) rfl rfl
      | 8, _ =>
        intro val fl w1 a hb ha hd hfl
        have e7 : val 7 = .int .i64 (i : Nat) := hd 7 (memB_mem.1 rfl)
        have ha := ha.sub (Sub.ins (d := 57) (Sub.nil _) (dep_get rfl e7))
        exact ss_val ha rfl rfl (x_add rfl rfl hi1) rfl rfl
      | 9, _ =>
        intro val fl w1 a hb ha hd hfl
        have e6 : val 6 = .slice (some ⟨b, o, none⟩) x.curve.length c_ := hd 6 (memB_mem.1 rfl)
        have e8 : val 8 = .int .i64 ((i + 1 : Nat) : Int) := hd 8 (memB_mem.1 rfl)
        have ha := ha.sub (Sub.ins (d := 58) (Sub.ins (d := 56) (Sub.nil _) (dep_get rfl e6)) (dep_get rfl e8))
        exact ss_val ha rfl rfl (ix_48 (k := i + 1) rfl rfl hi) rfl rfl
      | 10, _ =>
        intro val fl w1 a hb ha hd hfl
        have e9 : val 9 = .pointer (some ⟨b, o + (i + 1) * 2, none⟩) := hd 9 (memB_mem.1 rfl)
        have ha := ha.sub (Sub.ins (d := 59) (Sub.nil _) (dep_get rfl e9))
        exact ss_val ha rfl rfl (ld_126 rfl (below_load (Below.on hbw hb hbw.size) (cc (i + 1) hi).1) (below_load (Below.on hbw hb hbw.size) (cc (i + 1) hi).2)) rfl rfl
      | 11, _ =>
        intro val fl w1 a hb ha hd hfl
        have ha := ha.sub (Sub.nil _)
        exact ss_newP ha rfl rfl al_126 (fun g w' hq _ hge => ⟨g, rfl, Nat.le_trans hb.size hge, fun _ => hq⟩)
      | 12, _ =>
        intro val fl w1 a hb ha hd hfl
        have ha := ha.sub (Sub.nil _)
        exact ss_newP ha rfl rfl al_126 (fun g w' hq _ hge => ⟨g, rfl, Nat.le_trans hb.size hge, hq⟩)
      | 13, _ =>
        exact absurd (by simp) hs_
      | k + 14, h => exact absurd h (by omega)
    · simp only [List.mem_singleton] at hi_; subst hi_
      intro val fl w1 a hb hfi ha hd hfl
      obtain ⟨g11_, e11, hg11_, q11_⟩ := hd 11 (memB_mem.1 rfl)
      change val 11 = _ at e11
      have e4 : val 4 = .agg #[.int .i64 (x.curve.getD (i) row0).flow, .int .i64 (x.curve.getD (i) row0).level] := hd 4 (memB_mem.1 rfl)
      have ha := ha.sub (Sub.ins (d := 54) (Sub.ins (d := 9) (Sub.nil _) (dep_get rfl e11)) (dep_get rfl e4))
      refine ts_store ha rfl rfl rfl (q11_ hfi) sz_126 rfl rfl rfl rfl ?_
      intro w' hq hgr
      refine ⟨undef, rfl, hgr.size, below_store hb hgr hg11_, ⟨g11_, e11, hq⟩, fun j _ hj hn hA => ?_⟩
      exact phiS_cons_st (C := fun j => j ≠ 13 ∧ 13 ∉ clsAt [[], [0], [], [0, 1, 2], [0, 1, 2, 3], [], [5], [], [7], [5, 6, 7, 8], [5, 6, 7, 8, 9], [], [], [0, 1, 2, 3, 4, 11, 12], [0, 1, 2, 3, 4, 5, 6, 7, 8, 9, 10, 11, 12, 13]] j ∧ ∀ p ∈ [11, 12], (p = j ∨ p ∈ clsAt [[], [0], [], [0, 1, 2], [0, 1, 2, 3], [], [5], [], [7], [5, 6, 7, 8], [5, 6, 7, 8, 9], [], [], [0, 1, 2, 3, 4, 11, 12], [0, 1, 2, 3, 4, 5, 6, 7, 8, 9, 10, 11, 12, 13]] j) → ∀ q ∈ [11, 12], (q = 13 ∨ q ∈ clsAt [[], [0], [], [0, 1, 2], [0, 1, 2, 3], [], [5], [], [7], [5, 6, 7, 8], [5, 6, 7, 8, 9], [], [], [0, 1, 2, 3, 4, 11, 12], [0, 1, 2, 3, 4, 5, 6, 7, 8, 9, 10, 11, 12, 13]] 13) → p ≠ q → val p ≠ val q) (fun _ ⟨g, h1, h2, _⟩ => ⟨g, h1, h2, fun h => by rw [fset_eq] at h; cases h⟩) (phiS_cons_st (C := fun j => j ≠ 13 ∧ 13 ∉ clsAt [[], [0], [], [0, 1, 2], [0, 1, 2, 3], [], [5], [], [7], [5, 6, 7, 8], [5, 6, 7, 8, 9], [], [], [0, 1, 2, 3, 4, 11, 12], [0, 1, 2, 3, 4, 5, 6, 7, 8, 9, 10, 11, 12, 13]] j ∧ ∀ p ∈ [11, 12], (p = j ∨ p ∈ clsAt [[], [0], [], [0, 1, 2], [0, 1, 2, 3], [], [5], [], [7], [5, 6, 7, 8], [5, 6, 7, 8, 9], [], [], [0, 1, 2, 3, 4, 11, 12], [0, 1, 2, 3, 4, 5, 6, 7, 8, 9, 10, 11, 12, 13]] j) → ∀ q ∈ [11, 12], (q = 13 ∨ q ∈ clsAt [[], [0], [], [0, 1, 2], [0, 1, 2, 3], [], [5], [], [7], [5, 6, 7, 8], [5, 6, 7, 8, 9], [], [], [0, 1, 2, 3, 4, 11, 12], [0, 1, 2, 3, 4, 5, 6, 7, 8, 9, 10, 11, 12, 13]] 13) → p ≠ q → val p ≠ val q) (fun hc ⟨g, h1, h2, h3⟩ => ⟨g, h1, h2, h3.grown hgr (fun h => hc.2.2 12 (by simp) (.inl rfl) 11 (by simp) (.inr (memB_mem.1 rfl)) (by simp) (by have h1' : val 12 = _ := h1; rw [h1', e11]; injection h with h; rw [h]))⟩) (phiS_cons_st (C := fun j => j ≠ 13 ∧ 13 ∉ clsAt [[], [0], [], [0, 1, 2], [0, 1, 2, 3], [], [5], [], [7], [5, 6, 7, 8], [5, 6, 7, 8, 9], [], [], [0, 1, 2, 3, 4, 11, 12], [0, 1, 2, 3, 4, 5, 6, 7, 8, 9, 10, 11, 12, 13]] j ∧ ∀ p ∈ [11, 12], (p = j ∨ p ∈ clsAt [[], [0], [], [0, 1, 2], [0, 1, 2, 3], [], [5], [], [7], [5, 6, 7, 8], [5, 6, 7, 8, 9], [], [], [0, 1, 2, 3, 4, 11, 12], [0, 1, 2, 3, 4, 5, 6, 7, 8, 9, 10, 11, 12, 13]] j) → ∀ q ∈ [11, 12], (q = 13 ∨ q ∈ clsAt [[], [0], [], [0, 1, 2], [0, 1, 2, 3], [], [5], [], [7], [5, 6, 7, 8], [5, 6, 7, 8, 9], [], [], [0, 1, 2, 3, 4, 11, 12], [0, 1, 2, 3, 4, 5, 6, 7, 8, 9, 10, 11, 12, 13]] 13) → p ≠ q → val p ≠ val q) (fun hc => absurd rfl hc.1) (fun _ _ h => h))) j ⟨hj, hn, hA⟩
    · intro val fl w' hfl hb halc hd
      have e0 : val 0 = .pointer (some ⟨g7, 4, none⟩) := hd 0 (by omega)
      have e1 : val 1 = .slice (some ⟨b, o, none⟩) x.curve.length c_ := hd 1 (by omega)
      have e2 : val 2 = .int .i64 (i : Nat) := hd 2 (by omega)
      have e3 : val 3 = .pointer (some ⟨b, o + i * 2, none⟩) := hd 3 (by omega)
      have e4 : val 4 = .agg #[.int .i64 (x.curve.getD (i) row0).flow, .int .i64 (x.curve.getD (i) row0).level] := hd 4 (by omega)
      have e5 : val 5 = .pointer (some ⟨g7, 4, none⟩) := hd 5 (by omega)
      have e6 : val 6 = .slice (some ⟨b, o, none⟩) x.curve.length c_ := hd 6 (by omega)
      have e7 : val 7 = .int .i64 (i : Nat) := hd 7 (by omega)
      have e8 : val 8 = .int .i64 ((i + 1 : Nat) : Int) := hd 8 (by omega)
      have e9 : val 9 = .pointer (some ⟨b, o + (i + 1) * 2, none⟩) := hd 9 (by omega)
      have e10 : val 10 = .agg #[.int .i64 (x.curve.getD (i + 1) row0).flow, .int .i64 (x.curve.getD (i + 1) row0).level] := hd 10 (by omega)
      obtain ⟨ga11, e11, qa11⟩ := hd 13 (by omega)
      change val 11 = _ at e11
      obtain ⟨ga12, e12, _, qa12⟩ := hd 12 (by omega)
      change val 12 = _ at e12
      refine EL.ends (cs := [.pointer (some ⟨g7, 4, none⟩), .slice (some ⟨b, o, none⟩) x.curve.length c_, .int .i64 (i : Nat), .pointer (some ⟨b, o + i * 2, none⟩), .agg #[.int .i64 (x.curve.getD (i) row0).flow, .int .i64 (x.curve.getD (i) row0).level], .pointer (some ⟨g7, 4, none⟩), .slice (some ⟨b, o, none⟩) x.curve.length c_, .int .i64 (i : Nat), .int .i64 ((i + 1 : Nat) : Int), .pointer (some ⟨b, o + (i + 1) * 2, none⟩), .agg #[.int .i64 (x.curve.getD (i + 1) row0).flow, .int .i64 (x.curve.getD (i + 1) row0).level], .pointer (some ⟨ga11, 0, none⟩), .pointer (some ⟨ga12, 0, none⟩), val 13]) ⟨e0, e1, e2, e3, e4, e5, e6, e7, e8, e9, e10, e11, e12, rfl, trivial⟩ rfl ?_
      replace q7 := q7.below hb q7.lt
      have bge10 := alc_ge halc (i := 11) rfl rfl e11
      have n7_10 : g7 ≠ ga11 := Nat.ne_of_lt (Nat.lt_of_lt_of_le lt_7 bge10)
      have bhbw_10 := Nat.le_trans hbw.size bge10
      have bge11 := alc_ge halc (i := 12) rfl rfl e12
      have n7_11 : g7 ≠ ga12 := Nat.ne_of_lt (Nat.lt_of_lt_of_le lt_7 bge11)
      have n10_11 : ga11 ≠ ga12 := alc_ne halc (i := 11) (j := 12) rfl rfl rfl rfl rfl e11 e12
      have bhbw_11 := Nat.le_trans hbw.size bge11
      replace hbw := Below.on hbw hb hbw.size
      refine EL.store rfl rfl qa12 sz_126 rfl rfl rfl rfl ?_
      intro w12 hq12 hg12
      replace q7 := q7.grown hg12 (fun h => n7_11 (Option.some.inj h))
      replace qa11 := qa11.grown hg12 (fun h => n10_11 (Option.some.inj h))
      replace hbw := below_store hbw hg12 bhbw_11
      replace qa12 := hq12
      clear hg12 hq12
      refine EL.nil ?_
      refine EX.seq ?_
      refine EC.seq ?_
      refine EC.regionQ (by kernel_rfl) (by kernel_rfl) ?_
      refine EQ.val (fun _ hw => (x_move rfl)) rfl ?_
      refine EQ.val (fun _ hw => (fa_126_0 rfl)) rfl ?_
      refine EQ.val (fun _ hw => (ld_3 rfl (below_load hw (qa11.at (j := 0) rfl)))) rfl ?_
      refine EQ.val (fun _ hw => (x_sub rfl rfl s1)) rfl ?_
      refine EQ.val (fun _ hw => (fa_126_1 rfl)) rfl ?_
      refine EQ.val (fun _ hw => (ld_3 rfl (below_load hw (qa12.at (j := 1) rfl)))) rfl ?_
      refine EQ.val (fun _ hw => (fa_126_1 rfl)) rfl ?_
      refine EQ.val (fun _ hw => (ld_3 rfl (below_load hw (qa11.at (j := 1) rfl)))) rfl ?_
      refine EQ.val (fun _ hw => (x_sub rfl rfl s2)) rfl ?_
      refine EQ.val (fun _ hw => (x_mul rfl rfl s3)) rfl ?_
      refine EQ.val (fun _ hw => (fa_126_0 rfl)) rfl ?_
      refine EQ.val (fun _ hw => (ld_3 rfl (below_load hw (qa12.at (j := 0) rfl)))) rfl ?_
      refine EQ.val (fun _ hw => (fa_126_0 rfl)) rfl ?_
      refine EQ.val (fun _ hw => (ld_3 rfl (below_load hw (qa11.at (j := 0) rfl)))) rfl ?_
      refine EQ.val (fun _ hw => (x_sub rfl rfl s4)) rfl ?_
      refine EQ.val (fun _ hw => (x_assign rfl)) rfl ?_
      refine EQ.val (fun _ hw => (x_assign rfl)) rfl ?_
      refine EQ.fin (fun w_ hw_ => ?_)
      replace q7 := q7.below hw_ q7.lt
      replace qa11 := qa11.below hw_ qa11.lt
      replace qa12 := qa12.below hw_ qa12.lt
      replace hbw := Below.on hbw hw_ hbw.size
      refine EX.seq ?_
      refine EC.seq ?_
      refine EC.seq ?_
      refine EC.region ?_
      refine EL.val (x_move rfl) rfl ?_
      refine EL.nil ?_
      refine EX.seq ?_
      refine EC.yes rfl ?_
      refine EC.seq ?_
      refine EC.regionQ (by kernel_rfl) (by kernel_rfl) ?_
      refine EQ.val (fun _ hw => (fa_126_1 rfl)) rfl ?_
      refine EQ.val (fun _ hw => (ld_3 rfl (below_load hw (qa11.at (j := 1) rfl)))) rfl ?_
      refine EQ.val (fun _ hw => (x_move rfl)) rfl ?_
      refine EQ.val (fun _ hw => (x_move rfl)) rfl ?_
      refine EQ.call (fun _ _ _ ha => cl_64 rfl rfl _ ha) rfl (fun W hw => (rceil_any _ _ W (by omega) (by omega) (by omega) (by omega)).mono fun e w' h => ⟨h.1, h.2 ▸ hw⟩) ?_
      refine EQ.val (fun _ hw => (x_add rfl rfl s5)) rfl ?_
      refine EQ.val (fun _ hw => (x_assign rfl)) rfl ?_
      refine EQ.fin (fun w_ hw_ => ?_)
      replace q7 := q7.below hw_ q7.lt
      replace qa11 := qa11.below hw_ qa11.lt
      replace qa12 := qa12.below hw_ qa12.lt
      replace hbw := Below.on hbw hw_ hbw.size
      refine EX.seq ?_
      refine EC.ret ?_
      refine EX.seq_ret ?_
      exact EX.done (res1 rfl rfl) ⟨by rw [hval], hbw⟩

set_option maxRecDepth 100000 in
theorem rlevel_any (x : Reach) (v : Value) (fl : Bd) (w : World) (B : Nat) (hr : Rd w B 2 v x.curve.length (rowsC x.curve)) (hB : B ≤ w.heap.size) (hx : ReachOk x) (hf : 0 ≤ fl.lo ∧ fl.lo ≤ fl.hi ∧ fl.hi ≤ 1000000000000) :
    Calls Try.prog 31 #[.agg (reachV x v), .agg #[.int .i64 fl.lo, .int .i64 fl.hi]] w fun e w' => e = .returned (.agg #[.int .i64 (levelAt x fl).lo, .int .i64 (levelAt x fl).hi]) ∧ Below w.heap.size w w' := by
  have hlo := fun W (hb : Below w.heap.size w W) => rcurve_false x v fl.lo W B (hr.below (hb.mono hB)) (Nat.le_trans hB hb.size) hx (by omega)
  have hhi := fun W (hb : Below w.heap.size w W) => rcurve_true x v fl.hi W B (hr.below (hb.mono hB)) (Nat.le_trans hB hb.size) hx (by omega)
  obtain ⟨A_, c_, rfl, _⟩ := hr.shape
  have hbw := Below.refl w.heap.size w
  refine EC.enter 20 Try.func31 rfl rfl rfl ?_
  refine EC.seq ?_
  refine EC.region ?_
  refine EL.newP (bx_50 rfl) rfl ?_
  intro g1 w1 q1 hb1 hg1 hl1
  have bhbw_1 := Nat.le_trans hbw.size hg1
  replace hbw := Below.on hbw hb1 hbw.size
  clear hb1 hg1 hl1
  refine EL.newP (bx_23 rfl) rfl ?_
  intro g2 w2 q2 hb2 hg2 hl2
  have n1_2 : g1 ≠ g2 := Nat.ne_of_lt (Nat.lt_of_lt_of_le q1.lt hg2)
  have bhbw_2 := Nat.le_trans hbw.size hg2
  replace q1 := q1.below hb2 q1.lt
  replace hbw := Below.on hbw hb2 hbw.size
  clear hb2 hg2 hl2
  refine EL.newP al_23 rfl ?_
  intro g3 w3 q3 hb3 hg3 hl3
  have n1_3 : g1 ≠ g3 := Nat.ne_of_lt (Nat.lt_of_lt_of_le q1.lt hg3)
  have n2_3 : g2 ≠ g3 := Nat.ne_of_lt (Nat.lt_of_lt_of_le q2.lt hg3)
  have bhbw_3 := Nat.le_trans hbw.size hg3
  replace q1 := q1.below hb3 q1.lt
  replace q2 := q2.below hb3 q2.lt
  replace hbw := Below.on hbw hb3 hbw.size
  clear hb3 hg3 hl3
  refine EL.nil ?_
  refine EX.seq ?_
  refine EC.seq ?_
  have lt_1 := q1.lt
  have lt_2 := q2.lt
  have lt_3 := q3.lt
  refine EC.regionP [[], [0], [], [], [3], [2, 3, 4], [0, 1, 2, 3, 4, 5], [], [7], [], [], [10], [2, 3, 4, 5, 9, 10, 11], [2, 3, 4, 5, 7, 8, 9, 10, 11, 12], [0, 1, 2, 3, 4, 5, 6, 7, 8, 9, 10, 11, 12, 13], [0, 1, 2, 3, 4, 5, 6, 7, 8, 9, 10, 11, 12, 13, 14]] 14 [] (phi (fun i_ r => match i_ with | 0 => r 0 = .pointer (some ⟨g1, 5, none⟩) | 1 => r 1 = .int .i64 x.weir | 2 => r 2 = .agg #[.int .i64 x.len, .int .i64 x.delay, .int .i64 x.base.lo, .int .i64 x.base.hi, .slice A_ x.curve.length c_, .int .i64 x.weir, .int .i64 x.bottom.lo, .int .i64 x.bottom.hi, .int .i64 x.flood] | 3 => r 3 = .pointer (some ⟨g2, 0, none⟩) | 4 => r 4 = .int .i64 fl.lo | 5 => r 5 = .int .i64 (curveAt false x.curve fl.lo) | 6 => r 6 = .int .i64 (max x.weir (curveAt false x.curve fl.lo)) | 7 => r 7 = .pointer (some ⟨g1, 5, none⟩) | 8 => r 8 = .int .i64 x.weir | 9 => r 9 = .agg #[.int .i64 x.len, .int .i64 x.delay, .int .i64 x.base.lo, .int .i64 x.base.hi, .slice A_ x.curve.length c_, .int .i64 x.weir, .int .i64 x.bottom.lo, .int .i64 x.bottom.hi, .int .i64 x.flood] | 10 => r 10 = .pointer (some ⟨g2, 1, none⟩) | 11 => r 11 = .int .i64 fl.hi | 12 => r 12 = .int .i64 (curveAt true x.curve fl.hi) | 13 => r 13 = .int .i64 (max x.weir (curveAt true x.curve fl.hi)) | _ => True) []) (by kernel_rfl) rfl rfl (phi_nil) (fun i_ hi_ => ?_) ?_
  · match i_, hi_ with
    | 0, _ =>
      intro val w1 a hb ha hd
      have ha := ha.sub (Sub.ins (d := 2) (Sub.nil _) rfl)
      exact hs_val ha rfl rfl (fa_50_4 rfl) rfl rfl
    | 1, _ =>
      intro val w1 a hb ha hd
      have e0 : val 0 = .pointer (some ⟨g1, 5, none⟩) := hd 0 (memB_mem.1 rfl)
      have ha := ha.sub (Sub.ins (d := 5) (Sub.nil _) (dep_get rfl e0))
      exact hs_val ha rfl rfl (ld_3 rfl ((q1.below hb q1.lt).at (j := 5) rfl)) rfl rfl
    | 2, _ =>
      intro val w1 a hb ha hd
      have ha := ha.sub (Sub.ins (d := 2) (Sub.nil _) rfl)
      exact hs_val ha rfl rfl (ld_50 rfl ((q1.below hb q1.lt).at (j := 0) rfl) ((q1.below hb q1.lt).at (j := 1) rfl) ((q1.below hb q1.lt).at (j := 2) rfl) ((q1.below hb q1.lt).at (j := 3) rfl) ((q1.below hb q1.lt).at (j := 4) rfl) ((q1.below hb q1.lt).at (j := 5) rfl) ((q1.below hb q1.lt).at (j := 6) rfl) ((q1.below hb q1.lt).at (j := 7) rfl) ((q1.below hb q1.lt).at (j := 8) rfl)) rfl rfl
    | 3, _ =>
      intro val w1 a hb ha hd
      have ha := ha.sub (Sub.ins (d := 3) (Sub.nil _) rfl)
      exact hs_val ha rfl rfl (fa_23_0 rfl) rfl rfl
    | 4, _ =>
      intro val w1 a hb ha hd
      have e3 : val 3 = .pointer (some ⟨g2, 0, none⟩) := hd 3 (memB_mem.1 rfl)
      have ha := ha.sub (Sub.ins (d := 8) (Sub.nil _) (dep_get rfl e3))
      exact hs_val ha rfl rfl (ld_3 rfl ((q2.below hb q2.lt).at (j := 0) rfl)) rfl rfl
    | 5, _ =>
      intro val w1 a hb ha hd
      have e2 : val 2 = .agg #[.int .i64 x.len, .int .i64 x.delay, .int .i64 x.base.lo, .int .i64 x.base.hi, .slice A_ x.curve.length c_, .int .i64 x.weir, .int .i64 x.bottom.lo, .int .i64 x.bottom.hi, .int .i64 x.flood] := hd 2 (memB_mem.1 rfl)
      have e4 : val 4 = .int .i64 fl.lo := hd 4 (memB_mem.1 rfl)
      have ha := ha.sub (Sub.ins (d := 9) (Sub.ins (d := 7) (Sub.nil _) (dep_get rfl e2)) (dep_get rfl e4))
      refine hs_call ha rfl rfl (cl_70 rfl rfl rfl) (hlo _ (Below.on hbw hb hbw.size)) rfl ?_
      rintro e w' ⟨rfl, hb'⟩
      exact ⟨_, rfl, hb', rfl⟩
    | 6, _ =>
      intro val w1 a hb ha hd
      have e1 : val 1 = .int .i64 x.weir := hd 1 (memB_mem.1 rfl)
      have e5 : val 5 = .int .i64 (curveAt false x.curve fl.lo) := hd 5 (memB_mem.1 rfl)
      have ha := ha.sub (Sub.ins (d := 10) (Sub.ins (d := 6) (Sub.nil _) (dep_get rfl e1)) (dep_get rfl e5))
      exact hs_val ha rfl rfl (mm_max rfl rfl rfl) rfl rfl
    | 7, _ =>
      intro val w1 a hb ha hd
      have ha := ha.sub (Sub.ins (d := 2) (Sub.nil _) rfl)
      exact hs_val ha rfl rfl (fa_50_4 rfl) rfl rfl
    | 8, _ =>
      intro val w1 a hb ha hd
      have e7 : val 7 = .pointer (some ⟨g1, 5, none⟩) := hd 7 (memB_mem.1 rfl)
      have ha := ha.sub (Sub.ins (d := 12) (Sub.nil _) (dep_get rfl e7))
      exact hs_val ha rfl rfl (ld_3 rfl ((q1.below hb q1.lt).at (j := 5) rfl)) rfl rfl
    | 9, _ =>
      intro val w1 a hb ha hd
      have ha := ha.sub (Sub.ins (d := 2) (Sub.nil _) rfl)
      exact hs_val ha rfl rfl (ld_50 rfl ((q1.below hb q1.lt).at (j := 0) rfl) ((q1.below hb q1.lt).at (j := 1) rfl) ((q1.below hb q1.lt).at (j := 2) rfl) ((q1.below hb q1.lt).at (j := 3) rfl) ((q1.below hb q1.lt).at (j := 4) rfl) ((q1.below hb q1.lt).at (j := 5) rfl) ((q1.below hb q1.lt).at (j := 6) rfl) ((q1.below hb q1.lt).at (j := 7) rfl) ((q1.below hb q1.lt).at (j := 8) rfl)) rfl rfl
    | 10, _ =>
      intro val w1 a hb ha hd
      have ha := ha.sub (Sub.ins (d := 3) (Sub.nil _) rfl)
      exact hs_val ha rfl rfl (fa_23_1 rfl) rfl rfl
    | 11, _ =>
      intro val w1 a hb ha hd
      have e10 : val 10 = .pointer (some ⟨g2, 1, none⟩) := hd 10 (memB_mem.1 rfl)
      have ha := ha.sub (Sub.ins (d := 15) (Sub.nil _) (dep_get rfl e10))
      exact hs_val ha rfl rfl (ld_3 rfl ((q2.below hb q2.lt).at (j := 1) rfl)) rfl rfl
    | 12, _ =>
      intro val w1 a hb ha hd
      have e9 : val 9 = .agg #[.int .i64 x.len, .int .i64 x.delay, .int .i64 x.base.lo, .int .i64 x.base.hi, .slice A_ x.curve.length c_, .int .i64 x.weir, .int .i64 x.bottom.lo, .int .i64 x.bottom.hi, .int .i64 x.flood] := hd 9 (memB_mem.1 rfl)
      have e11 : val 11 = .int .i64 fl.hi := hd 11 (memB_mem.1 rfl)
      have ha := ha.sub (Sub.ins (d := 16) (Sub.ins (d := 14) (Sub.nil _) (dep_get rfl e9)) (dep_get rfl e11))
      refine hs_call ha rfl rfl (cl_70 rfl rfl rfl) (hhi _ (Below.on hbw hb hbw.size)) rfl ?_
      rintro e w' ⟨rfl, hb'⟩
      exact ⟨_, rfl, hb', rfl⟩
    | 13, _ =>
      intro val w1 a hb ha hd
      have e8 : val 8 = .int .i64 x.weir := hd 8 (memB_mem.1 rfl)
      have e12 : val 12 = .int .i64 (curveAt true x.curve fl.hi) := hd 12 (memB_mem.1 rfl)
      have ha := ha.sub (Sub.ins (d := 17) (Sub.ins (d := 13) (Sub.nil _) (dep_get rfl e8)) (dep_get rfl e12))
      exact hs_val ha rfl rfl (mm_max rfl rfl rfl) rfl rfl
    | k + 14, h => exact absurd h (by omega)
  · intro val w' hb halc hd
    have e0 : val 0 = .pointer (some ⟨g1, 5, none⟩) := hd 0 (by omega)
    have e1 : val 1 = .int .i64 x.weir := hd 1 (by omega)
    have e2 : val 2 = .agg #[.int .i64 x.len, .int .i64 x.delay, .int .i64 x.base.lo, .int .i64 x.base.hi, .slice A_ x.curve.length c_, .int .i64 x.weir, .int .i64 x.bottom.lo, .int .i64 x.bottom.hi, .int .i64 x.flood] := hd 2 (by omega)
    have e3 : val 3 = .pointer (some ⟨g2, 0, none⟩) := hd 3 (by omega)
    have e4 : val 4 = .int .i64 fl.lo := hd 4 (by omega)
    have e5 : val 5 = .int .i64 (curveAt false x.curve fl.lo) := hd 5 (by omega)
    have e6 : val 6 = .int .i64 (max x.weir (curveAt false x.curve fl.lo)) := hd 6 (by omega)
    have e7 : val 7 = .pointer (some ⟨g1, 5, none⟩) := hd 7 (by omega)
    have e8 : val 8 = .int .i64 x.weir := hd 8 (by omega)
    have e9 : val 9 = .agg #[.int .i64 x.len, .int .i64 x.delay, .int .i64 x.base.lo, .int .i64 x.base.hi, .slice A_ x.curve.length c_, .int .i64 x.weir, .int .i64 x.bottom.lo, .int .i64 x.bottom.hi, .int .i64 x.flood] := hd 9 (by omega)
    have e10 : val 10 = .pointer (some ⟨g2, 1, none⟩) := hd 10 (by omega)
    have e11 : val 11 = .int .i64 fl.hi := hd 11 (by omega)
    have e12 : val 12 = .int .i64 (curveAt true x.curve fl.hi) := hd 12 (by omega)
    have e13 : val 13 = .int .i64 (max x.weir (curveAt true x.curve fl.hi)) := hd 13 (by omega)
    refine EL.ends (cs := [.pointer (some ⟨g1, 5, none⟩), .int .i64 x.weir, .agg #[.int .i64 x.len, .int .i64 x.delay, .int .i64 x.base.lo, .int .i64 x.base.hi, .slice A_ x.curve.length c_, .int .i64 x.weir, .int .i64 x.bottom.lo, .int .i64 x.bottom.hi, .int .i64 x.flood], .pointer (some ⟨g2, 0, none⟩), .int .i64 fl.lo, .int .i64 (curveAt false x.curve fl.lo), .int .i64 (max x.weir (curveAt false x.curve fl.lo)), .pointer (some ⟨g1, 5, none⟩), .int .i64 x.weir, .agg #[.int .i64 x.len, .int .i64 x.delay, .int .i64 x.base.lo, .int .i64 x.base.hi, .slice A_ x.curve.length c_, .int .i64 x.weir, .int .i64 x.bottom.lo, .int .i64 x.bottom.hi, .int .i64 x.flood], .pointer (some ⟨g2, 1, none⟩), .int .i64 fl.hi, .int .i64 (curveAt true x.curve fl.hi), .int .i64 (max x.weir (curveAt true x.curve fl.hi))]) ⟨e0, e1, e2, e3, e4, e5, e6, e7, e8, e9, e10, e11, e12, e13, trivial⟩ rfl ?_
    replace q1 := q1.below hb q1.lt
    replace q2 := q2.below hb q2.lt
    replace q3 := q3.below hb q3.lt
    replace hbw := Below.on hbw hb hbw.size
    clear hb
    refine EL.val (bd_23_0_1 rfl rfl) rfl ?_
    refine EL.store rfl rfl q3 sz_23 rfl rfl rfl rfl ?_
    intro w4 hq4 hg4
    replace q1 := q1.grown hg4 (fun h => n1_3 (Option.some.inj h))
    replace q2 := q2.grown hg4 (fun h => n2_3 (Option.some.inj h))
    replace hbw := below_store hbw hg4 bhbw_3
    replace q3 := hq4
    clear hg4 hq4
    refine EL.nil ?_
    refine EX.seq ?_
    refine EC.ret ?_
    exact EX.done (resc1 rfl rfl (lv_23 (q3.at rfl) (q3.at rfl))) ⟨rfl, hbw⟩
end Go.Proofs.Ytncnlhkmdljgpaa
