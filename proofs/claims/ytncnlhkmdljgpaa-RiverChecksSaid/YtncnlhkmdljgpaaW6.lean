/- River: the law RiverRunoff, its walk (printed by gen_w6.py). -/
import Derived.Test.YtncnlhkmdljgpaaW5
import Derived.Test.YtncnlhkmdljgpaaExA
set_option linter.unusedVariables false
namespace Go.Proofs.Ytncnlhkmdljgpaa
open Go Go.RowKit

theorem sky_info : (Try.prog.info? 33).map (fun i => (i.zero, i.size, i.bytes)) = some (some (.agg #[.int .i64 0, .int .i64 0, .int .i64 0, .int .i64 0]), 4, 32) := by kernel_rfl
theorem sky_elem : Elem Try.prog 26 33 4 32 := Elem.mk' Try.underlying26 sky_info rfl (by omega)
theorem catch_ok {c : Land} {sky : List Sky} (h : catchErr c sky = 0) : LandOk c ∧ sky.length ≤ 400 ∧ ∀ j, j < sky.length → skyOk (sky.getD j sky0) = true := by
  unfold catchErr at h
  by_cases h1 : landOk c = false
  · rw [if_pos h1] at h; omega
  · rw [if_neg h1] at h
    by_cases h2 : 400 < sky.length
    · rw [if_pos h2] at h; omega
    · rw [if_neg h2] at h
      by_cases h3 : sky.all skyOk = false
      · rw [if_pos h3] at h; omega
      · refine ⟨landOk_iff (by simpa using h1), by omega, fun j hj => ?_⟩
        have h4 : sky.all skyOk = true := by simpa using h3
        exact List.all_eq_true.1 h4 _ (getD_mem hj)
theorem land_shape (c : Land) : landV c = #[.int .i64 c.area, .int .i64 c.percent, .int .i64 c.melt, .int .i64 c.snow.lo, .int .i64 c.snow.hi] := rfl

set_option maxRecDepth 100000 in
theorem runoffL_far1 (c : Land) (sky : List Sky) (v : Value) (w : World) (B : Nat) (hr : Rd w B 4 v sky.length (skysC sky)) (hB : B ≤ w.heap.size) (h1 : 100 < sky.length) (h2 : sky.length ≤ 400) :
    Calls Try.prog 3 #[.agg (landV c), v] w fun e w' => e = .returned (.bool true) ∧ Below w.heap.size w w' := by
  obtain ⟨A, cp, rfl, hnc⟩ := hr.shape
  have hbw := Below.refl w.heap.size w
  refine EC.enter 76 Try.func3 rfl rfl rfl ?_
  refine EC.seq ?_
  refine EC.region ?_
  refine EL.newP (bx_25 rfl) rfl ?_
  intro g1 w1 q1 hb1 hg1 hl1
  have bhbw_1 := Nat.le_trans hbw.size hg1
  replace hbw := Below.on hbw hb1 hbw.size
  clear hb1 hg1 hl1
  refine EL.val (x_assign rfl) rfl ?_
  refine EL.nil ?_
  refine EX.seq ?_
  refine EC.seq ?_
  refine EC.seq ?_
  refine EC.region ?_
  refine EL.val (x_move rfl) rfl ?_
  refine EL.val (ln_26 rfl) rfl ?_
  refine EL.val (x_gtr rfl rfl (by first | assumption | exact decide_eq_true (by omega))) rfl ?_
  refine EL.val (x_move rfl) rfl ?_
  refine EL.valg rfl rfl (x_move rfl) rfl ?_
  refine EL.valg rfl rfl (ln_26 rfl) rfl ?_
  refine EL.valg rfl rfl (x_leq rfl rfl (by first | assumption | exact decide_eq_true (by omega))) rfl ?_
  refine EL.val (x_pick_t rfl rfl) rfl ?_
  refine EL.val (x_move rfl) rfl ?_
  refine EL.skip rfl rfl rfl rfl ?_
  refine EL.skip rfl rfl rfl rfl ?_
  refine EL.skip rfl rfl rfl rfl ?_
  refine EL.val (x_pick_t rfl rfl) rfl ?_
  refine EL.nil ?_
  refine EX.seq ?_
  refine EC.yes rfl ?_
  refine EC.seq ?_
  refine EC.region ?_
  refine EL.call cl_16 rfl (known_any _) ?_
  rintro e w2 ⟨rfl, hc2⟩
  refine ⟨_, rfl, ?_⟩
  replace q1 := q1.below hc2 q1.lt
  replace hbw := Below.on hbw hc2 hbw.size
  clear hc2
  refine EL.val (x_assign rfl) rfl ?_
  refine EL.nil ?_
  refine EX.seq ?_
  refine EC.ret ?_
  refine EX.seq_ret ?_
  exact EX.done (res1 rfl rfl) ⟨rfl, hbw⟩

set_option maxRecDepth 100000 in
theorem runoffL_far2 (c : Land) (sky : List Sky) (v : Value) (w : World) (B : Nat) (hr : Rd w B 4 v sky.length (skysC sky)) (hB : B ≤ w.heap.size) (h1 : 450 < sky.length) :
    Calls Try.prog 3 #[.agg (landV c), v] w fun e w' => e = .returned (.bool true) ∧ Below w.heap.size w w' := by
  obtain ⟨A, cp, rfl, hnc⟩ := hr.shape
  have hbw := Below.refl w.heap.size w
  refine EC.enter 76 Try.func3 rfl rfl rfl ?_
  refine EC.seq ?_
  refine EC.region ?_
  refine EL.newP (bx_25 rfl) rfl ?_
  intro g1 w1 q1 hb1 hg1 hl1
  have bhbw_1 := Nat.le_trans hbw.size hg1
  replace hbw := Below.on hbw hb1 hbw.size
  clear hb1 hg1 hl1
  refine EL.val (x_assign rfl) rfl ?_
  refine EL.nil ?_
  refine EX.seq ?_
  refine EC.seq ?_
  refine EC.seq ?_
  refine EC.region ?_
  refine EL.val (x_move rfl) rfl ?_
  refine EL.val (ln_26 rfl) rfl ?_
  refine EL.val (x_gtr rfl rfl (by first | assumption | exact decide_eq_true (by omega))) rfl ?_
  refine EL.val (x_move rfl) rfl ?_
  refine EL.valg rfl rfl (x_move rfl) rfl ?_
  refine EL.valg rfl rfl (ln_26 rfl) rfl ?_
  refine EL.valg rfl rfl (x_leq rfl rfl (by first | assumption | exact decide_eq_false (by omega))) rfl ?_
  refine EL.val (x_pick_t rfl rfl) rfl ?_
  refine EL.val (x_move rfl) rfl ?_
  refine EL.valg rfl rfl (x_move rfl) rfl ?_
  refine EL.valg rfl rfl (ln_26 rfl) rfl ?_
  refine EL.valg rfl rfl (x_gtr rfl rfl (by first | assumption | exact decide_eq_true (by omega))) rfl ?_
  refine EL.val (x_pick_f rfl rfl) rfl ?_
  refine EL.nil ?_
  refine EX.seq ?_
  refine EC.yes rfl ?_
  refine EC.seq ?_
  refine EC.region ?_
  refine EL.call cl_16 rfl (known_any _) ?_
  rintro e w2 ⟨rfl, hc2⟩
  refine ⟨_, rfl, ?_⟩
  replace q1 := q1.below hc2 q1.lt
  replace hbw := Below.on hbw hc2 hbw.size
  clear hc2
  refine EL.val (x_assign rfl) rfl ?_
  refine EL.nil ?_
  refine EX.seq ?_
  refine EC.ret ?_
  refine EX.seq_ret ?_
  exact EX.done (res1 rfl rfl) ⟨rfl, hbw⟩

set_option maxRecDepth 100000 in
theorem runoffL_bad1 (c : Land) (sky : List Sky) (v : Value) (w : World) (B : Nat) (hr : Rd w B 4 v sky.length (skysC sky)) (hB : B ≤ w.heap.size) (h1 : sky.length ≤ 100) (he : catchErr c sky ≠ 0) :
    Calls Try.prog 3 #[.agg (landV c), v] w fun e w' => e = .returned (.bool true) ∧ Below w.heap.size w w' := by
  obtain ⟨A, cp, rfl, hnc⟩ := hr.shape
  have hbw := Below.refl w.heap.size w
  refine EC.enter 76 Try.func3 rfl rfl rfl ?_
  refine EC.seq ?_
  refine EC.region ?_
  refine EL.newP (bx_25 rfl) rfl ?_
  intro g1 w1 q1 hb1 hg1 hl1
  have bhbw_1 := Nat.le_trans hbw.size hg1
  replace hbw := Below.on hbw hb1 hbw.size
  clear hb1 hg1 hl1
  have lo_1 := q1.lt
  refine EL.val (x_assign rfl) rfl ?_
  refine EL.nil ?_
  refine EX.seq ?_
  refine EC.seq ?_
  refine EC.seq ?_
  refine EC.region ?_
  refine EL.val (x_move rfl) rfl ?_
  refine EL.val (ln_26 rfl) rfl ?_
  refine EL.val (x_gtr rfl rfl (by first | assumption | exact decide_eq_false (by omega))) rfl ?_
  refine EL.val (x_move rfl) rfl ?_
  refine EL.skip rfl rfl rfl rfl ?_
  refine EL.skip rfl rfl rfl rfl ?_
  refine EL.skip rfl rfl rfl rfl ?_
  refine EL.val (x_pick_f rfl rfl) rfl ?_
  refine EL.val (x_move rfl) rfl ?_
  refine EL.valg rfl rfl (x_move rfl) rfl ?_
  refine EL.valg rfl rfl (ln_26 rfl) rfl ?_
  refine EL.valg rfl rfl (x_gtr rfl rfl (by first | assumption | exact decide_eq_false (by omega))) rfl ?_
  refine EL.val (x_pick_f rfl rfl) rfl ?_
  refine EL.nil ?_
  refine EX.seq ?_
  refine EC.no rfl ?_
  refine EC.skip ?_
  refine EX.seq ?_
  refine EC.seq ?_
  refine EC.region ?_
  have st2_hbw := hbw.size
  refine EL.newS bs_26_0 rfl ?_
  intro g3 w3 q3 hb3 hg3 hl3
  have n1_3 : g1 ≠ g3 := Nat.ne_of_lt (Nat.lt_of_lt_of_le q1.lt hg3)
  have bhbw_3 := Nat.le_trans hbw.size hg3
  replace q1 := q1.below hb3 q1.lt
  replace hbw := Below.on hbw hb3 hbw.size
  clear hb3 hl3
  have hin := own_empty (base := w1.heap.size) 4 q3 hg3
  refine EL.val (x_move rfl) rfl ?_
  have lb_1 := lo_1
  refine EL.push sky_elem rfl rfl hin (hr.below (hbw.mono hB)) (skysC_one sky) (by omega) rfl (Nat.le_trans (Nat.le_trans (Nat.le_refl _) hg3) (Nat.le_of_lt q3.lt)) rfl ?_
  intro vin w4 ho hgr4 hb4 _
  replace q1 := q1.below hb4 lo_1
  replace hbw := hbw.trans (hb4.mono st2_hbw)
  rw [Nat.zero_add, List.nil_append] at ho
  replace ho := Rd.of_own ho
  obtain ⟨Ai, ci, rfl, _⟩ := ho.shape
  have hin2 := Below.refl w4.heap.size w4
  refine EL.val (x_assign rfl) rfl ?_
  refine EL.nil ?_
  refine EX.seq ?_
  refine EC.seq ?_
  refine EC.region ?_
  refine EL.val (ld_25 rfl (q1.at (j := 0) rfl) (q1.at (j := 1) rfl) (q1.at (j := 2) rfl) (q1.at (j := 3) rfl) (q1.at (j := 4) rfl)) rfl ?_
  refine EL.val (x_move rfl) rfl ?_
  refine EL.call (cl_17 rfl rfl) rfl (runoff_any c sky _ _ _ (ho.below hin2) hin2.size (by omega)) ?_
  rintro e w5 ⟨⟨vl, rfl, hl0, hl1⟩, hc5⟩
  refine ⟨_, rfl, ?_⟩
  replace q1 := q1.below hc5 q1.lt
  replace hbw := Below.on hbw hc5 hbw.size
  replace hin2 := Below.on hin2 hc5 hin2.size
  have hro := Below.refl w5.heap.size w5
  obtain rfl := hl0 he
  refine EL.val (x_move rfl) rfl ?_
  refine EL.val (x_extract rfl rfl) rfl ?_
  refine EL.val (x_extract rfl rfl) rfl ?_
  refine EL.val (x_assign rfl) rfl ?_
  refine EL.val (x_assign rfl) rfl ?_
  refine EL.nil ?_
  refine EX.seq ?_
  refine EC.seq ?_
  refine EC.seq ?_
  refine EC.region ?_
  refine EL.val (x_assign rfl) rfl ?_
  refine EL.nil ?_
  refine EX.seq ?_
  refine EC.block ?_
  refine EC.loopD [4, 8, 33, 34, 35, 36, 37, 38, 39, 40, 41, 42, 43, 44, 45, 46, 47] (fun x : Nat => [(8, .int .i64 (x : Nat))]) (fun x W => x ≤ sky.length ∧ Blk W g1 25 (landV c) ∧ Below w.heap.size w W ∧ Below w4.heap.size w4 W ∧ Below w5.heap.size w5 W) (fun x => sky.length - x) 0 ⟨Nat.zero_le _, q1, hbw, hin2, hro⟩ ⟨rfl, trivial⟩ ?_
  clear q1 hbw hin2 hro
  rintro i wr ⟨hi, q1, hbw, hin2, hro⟩
  by_cases hlt : i < sky.length
  ·
    obtain ⟨b, o, rfl, _, ⟨c0, c1, c2, c3⟩⟩ := skys_cells sky i hlt _ _ _ _ _ hr
    obtain ⟨b2, o2, rfl, _, ⟨d0, d1, d2, d3⟩⟩ := skys_cells sky i hlt _ _ _ _ _ ho
    refine EC.seq ?_
    refine EC.seq ?_
    refine EC.region ?_
    refine EL.val (x_move rfl) rfl ?_
    refine EL.val (x_move rfl) rfl ?_
    refine EL.val (ln_26 rfl) rfl ?_
    refine EL.val (x_lss rfl rfl (by first | assumption | exact decide_eq_true (by omega))) rfl ?_
    refine EL.nil ?_
    refine EX.seq ?_
    refine EC.yes rfl ?_
    refine EC.skip ?_
    refine EX.seq ?_
    refine EC.seq ?_
    refine EC.block ?_
    refine EC.seq ?_
    refine EC.regionQ (by kernel_rfl) (by kernel_rfl) ?_
    refine EQ.val (fun _ hw => (x_move rfl)) rfl ?_
    refine EQ.val (fun _ hw => (x_move rfl)) rfl ?_
    refine EQ.val (fun _ hw => (ix_26 rfl rfl hlt)) rfl ?_
    refine EQ.val (fun _ hw => (ld_33 rfl (below_load hw (below_load hin2 d0)) (below_load hw (below_load hin2 d1)) (below_load hw (below_load hin2 d2)) (below_load hw (below_load hin2 d3)))) rfl ?_
    refine EQ.val (fun _ hw => (x_move rfl)) rfl ?_
    refine EQ.val (fun _ hw => (x_move rfl)) rfl ?_
    refine EQ.val (fun _ hw => (ix_26 rfl rfl hlt)) rfl ?_
    refine EQ.val (fun _ hw => (ld_33 rfl (below_load hw (below_load hbw c0)) (below_load hw (below_load hbw c1)) (below_load hw (below_load hbw c2)) (below_load hw (below_load hbw c3)))) rfl ?_
    refine EQ.val (fun _ hw => (neq_33 (r := false) rfl rfl (by simp))) rfl ?_
    refine EQ.fin (fun w_ hw_ => ?_)
    replace q1 := q1.below hw_ q1.lt
    replace hbw := Below.on hbw hw_ hbw.size
    replace hin2 := Below.on hin2 hw_ hin2.size
    replace hro := Below.on hro hw_ hro.size
    refine EX.seq ?_
    refine EC.no rfl ?_
    refine EC.skip ?_
    refine EX.blk ?_
    refine EX.seq ?_
    refine EC.region ?_
    refine EL.val (x_move rfl) rfl ?_
    refine EL.val (x_add rfl rfl (by first | assumption | exact IntWalk.i64_in _ ⟨by omega, by omega⟩)) rfl ?_
    refine EL.val (x_assign rfl) rfl ?_
    refine EL.nil ?_
    refine EX.roundD (i + 1) ⟨rfl, trivial⟩ (by repeat first | exact Sub.refl _ | refine sub_past rfl ?_ | refine sub_del rfl ?_ | refine sub_insL_nil ?_) ⟨hlt, q1, hbw, hin2, hro⟩ (by omega)
  ·
    obtain rfl : i = sky.length := by omega
    refine EC.seq ?_
    refine EC.seq ?_
    refine EC.region ?_
    refine EL.val (x_move rfl) rfl ?_
    refine EL.val (x_move rfl) rfl ?_
    refine EL.val (ln_26 rfl) rfl ?_
    refine EL.val (x_lss rfl rfl (by first | assumption | exact decide_eq_false (by omega))) rfl ?_
    refine EL.nil ?_
    refine EX.seq ?_
    refine EC.no rfl ?_
    refine EC.exit ?_
    refine EX.seq_exit ?_
    refine EX.seq_exit ?_
    refine EX.blk_here ?_
    refine EX.seq ?_
    refine EC.seq ?_
    refine EC.seq ?_
    refine EC.region ?_
    refine EL.val (ld_25 rfl (q1.at (j := 0) rfl) (q1.at (j := 1) rfl) (q1.at (j := 2) rfl) (q1.at (j := 3) rfl) (q1.at (j := 4) rfl)) rfl ?_
    refine EL.val (x_move rfl) rfl ?_
    refine EL.call (cl_18 rfl rfl) rfl (rcatch_any c sky _ _ _ (hr.below (hbw.mono hB)) (Nat.le_trans hB hbw.size) (by omega)) ?_
    rintro e w6 ⟨rfl, hc6⟩
    refine ⟨_, rfl, ?_⟩
    replace q1 := q1.below hc6 q1.lt
    replace hbw := Below.on hbw hc6 hbw.size
    replace hin2 := Below.on hin2 hc6 hin2.size
    replace hro := Below.on hro hc6 hro.size
    clear hc6
    refine EL.val (x_assign rfl) rfl ?_
    refine EL.nil ?_
    refine EX.seq ?_
    refine EC.seq ?_
    refine EC.region ?_
    refine EL.val (x_move rfl) rfl ?_
    refine EL.val (x_neq rfl rfl (by first | assumption | exact decide_eq_true (by omega))) rfl ?_
    refine EL.nil ?_
    refine EX.seq ?_
    refine EC.yes rfl ?_
    refine EC.seq ?_
    refine EC.region ?_
    refine EL.val (x_move rfl) rfl ?_
    refine EL.val (x_move rfl) rfl ?_
    refine EL.val (x_eql rfl rfl (by first | assumption | exact decide_eq_true (by omega))) rfl ?_
    refine EL.val (x_move rfl) rfl ?_
    refine EL.valg rfl rfl (x_move rfl) rfl ?_
    refine EL.valg rfl rfl (ln_28 rfl) rfl ?_
    refine EL.valg rfl rfl (x_eql rfl rfl (by first | assumption | exact decide_eq_true (by omega))) rfl ?_
    refine EL.val (x_pick_t rfl rfl) rfl ?_
    refine EL.val (x_move rfl) rfl ?_
    refine EL.callg rfl rfl cl_16 rfl (known_any _) ?_
    rintro e w7 ⟨rfl, hc7⟩
    refine ⟨_, rfl, ?_⟩
    replace q1 := q1.below hc7 q1.lt
    replace hbw := Below.on hbw hc7 hbw.size
    replace hin2 := Below.on hin2 hc7 hin2.size
    replace hro := Below.on hro hc7 hro.size
    clear hc7
    refine EL.val (x_pick_t rfl rfl) rfl ?_
    refine EL.val (x_assign rfl) rfl ?_
    refine EL.nil ?_
    refine EX.seq ?_
    refine EC.ret ?_
    refine EX.seq_ret ?_
    exact EX.done (res1 rfl rfl) ⟨rfl, hbw⟩

set_option maxRecDepth 100000 in
theorem runoffL_bad2 (c : Land) (sky : List Sky) (v : Value) (w : World) (B : Nat) (hr : Rd w B 4 v sky.length (skysC sky)) (hB : B ≤ w.heap.size) (h1 : 400 < sky.length) (h2 : sky.length ≤ 450) (he : catchErr c sky ≠ 0) :
    Calls Try.prog 3 #[.agg (landV c), v] w fun e w' => e = .returned (.bool true) ∧ Below w.heap.size w w' := by
  obtain ⟨A, cp, rfl, hnc⟩ := hr.shape
  have hbw := Below.refl w.heap.size w
  refine EC.enter 76 Try.func3 rfl rfl rfl ?_
  refine EC.seq ?_
  refine EC.region ?_
  refine EL.newP (bx_25 rfl) rfl ?_
  intro g1 w1 q1 hb1 hg1 hl1
  have bhbw_1 := Nat.le_trans hbw.size hg1
  replace hbw := Below.on hbw hb1 hbw.size
  clear hb1 hg1 hl1
  have lo_1 := q1.lt
  refine EL.val (x_assign rfl) rfl ?_
  refine EL.nil ?_
  refine EX.seq ?_
  refine EC.seq ?_
  refine EC.seq ?_
  refine EC.region ?_
  refine EL.val (x_move rfl) rfl ?_
  refine EL.val (ln_26 rfl) rfl ?_
  refine EL.val (x_gtr rfl rfl (by first | assumption | exact decide_eq_true (by omega))) rfl ?_
  refine EL.val (x_move rfl) rfl ?_
  refine EL.valg rfl rfl (x_move rfl) rfl ?_
  refine EL.valg rfl rfl (ln_26 rfl) rfl ?_
  refine EL.valg rfl rfl (x_leq rfl rfl (by first | assumption | exact decide_eq_false (by omega))) rfl ?_
  refine EL.val (x_pick_t rfl rfl) rfl ?_
  refine EL.val (x_move rfl) rfl ?_
  refine EL.valg rfl rfl (x_move rfl) rfl ?_
  refine EL.valg rfl rfl (ln_26 rfl) rfl ?_
  refine EL.valg rfl rfl (x_gtr rfl rfl (by first | assumption | exact decide_eq_false (by omega))) rfl ?_
  refine EL.val (x_pick_f rfl rfl) rfl ?_
  refine EL.nil ?_
  refine EX.seq ?_
  refine EC.no rfl ?_
  refine EC.skip ?_
  refine EX.seq ?_
  refine EC.seq ?_
  refine EC.region ?_
  have st2_hbw := hbw.size
  refine EL.newS bs_26_0 rfl ?_
  intro g3 w3 q3 hb3 hg3 hl3
  have n1_3 : g1 ≠ g3 := Nat.ne_of_lt (Nat.lt_of_lt_of_le q1.lt hg3)
  have bhbw_3 := Nat.le_trans hbw.size hg3
  replace q1 := q1.below hb3 q1.lt
  replace hbw := Below.on hbw hb3 hbw.size
  clear hb3 hl3
  have hin := own_empty (base := w1.heap.size) 4 q3 hg3
  refine EL.val (x_move rfl) rfl ?_
  have lb_1 := lo_1
  refine EL.push sky_elem rfl rfl hin (hr.below (hbw.mono hB)) (skysC_one sky) (by omega) rfl (Nat.le_trans (Nat.le_trans (Nat.le_refl _) hg3) (Nat.le_of_lt q3.lt)) rfl ?_
  intro vin w4 ho hgr4 hb4 _
  replace q1 := q1.below hb4 lo_1
  replace hbw := hbw.trans (hb4.mono st2_hbw)
  rw [Nat.zero_add, List.nil_append] at ho
  replace ho := Rd.of_own ho
  obtain ⟨Ai, ci, rfl, _⟩ := ho.shape
  have hin2 := Below.refl w4.heap.size w4
  refine EL.val (x_assign rfl) rfl ?_
  refine EL.nil ?_
  refine EX.seq ?_
  refine EC.seq ?_
  refine EC.region ?_
  refine EL.val (ld_25 rfl (q1.at (j := 0) rfl) (q1.at (j := 1) rfl) (q1.at (j := 2) rfl) (q1.at (j := 3) rfl) (q1.at (j := 4) rfl)) rfl ?_
  refine EL.val (x_move rfl) rfl ?_
  refine EL.call (cl_17 rfl rfl) rfl (runoff_any c sky _ _ _ (ho.below hin2) hin2.size (by omega)) ?_
  rintro e w5 ⟨⟨vl, rfl, hl0, hl1⟩, hc5⟩
  refine ⟨_, rfl, ?_⟩
  replace q1 := q1.below hc5 q1.lt
  replace hbw := Below.on hbw hc5 hbw.size
  replace hin2 := Below.on hin2 hc5 hin2.size
  have hro := Below.refl w5.heap.size w5
  obtain rfl := hl0 he
  refine EL.val (x_move rfl) rfl ?_
  refine EL.val (x_extract rfl rfl) rfl ?_
  refine EL.val (x_extract rfl rfl) rfl ?_
  refine EL.val (x_assign rfl) rfl ?_
  refine EL.val (x_assign rfl) rfl ?_
  refine EL.nil ?_
  refine EX.seq ?_
  refine EC.seq ?_
  refine EC.seq ?_
  refine EC.region ?_
  refine EL.val (x_assign rfl) rfl ?_
  refine EL.nil ?_
  refine EX.seq ?_
  refine EC.block ?_
  refine EC.loopD [4, 8, 33, 34, 35, 36, 37, 38, 39, 40, 41, 42, 43, 44, 45, 46, 47] (fun x : Nat => [(8, .int .i64 (x : Nat))]) (fun x W => x ≤ sky.length ∧ Blk W g1 25 (landV c) ∧ Below w.heap.size w W ∧ Below w4.heap.size w4 W ∧ Below w5.heap.size w5 W) (fun x => sky.length - x) 0 ⟨Nat.zero_le _, q1, hbw, hin2, hro⟩ ⟨rfl, trivial⟩ ?_
  clear q1 hbw hin2 hro
  rintro i wr ⟨hi, q1, hbw, hin2, hro⟩
  by_cases hlt : i < sky.length
  ·
    obtain ⟨b, o, rfl, _, ⟨c0, c1, c2, c3⟩⟩ := skys_cells sky i hlt _ _ _ _ _ hr
    obtain ⟨b2, o2, rfl, _, ⟨d0, d1, d2, d3⟩⟩ := skys_cells sky i hlt _ _ _ _ _ ho
    refine EC.seq ?_
    refine EC.seq ?_
    refine EC.region ?_
    refine EL.val (x_move rfl) rfl ?_
    refine EL.val (x_move rfl) rfl ?_
    refine EL.val (ln_26 rfl) rfl ?_
    refine EL.val (x_lss rfl rfl (by first | assumption | exact decide_eq_true (by omega))) rfl ?_
    refine EL.nil ?_
    refine EX.seq ?_
    refine EC.yes rfl ?_
    refine EC.skip ?_
    refine EX.seq ?_
    refine EC.seq ?_
    refine EC.block ?_
    refine EC.seq ?_
    refine EC.regionQ (by kernel_rfl) (by kernel_rfl) ?_
    refine EQ.val (fun _ hw => (x_move rfl)) rfl ?_
    refine EQ.val (fun _ hw => (x_move rfl)) rfl ?_
    refine EQ.val (fun _ hw => (ix_26 rfl rfl hlt)) rfl ?_
    refine EQ.val (fun _ hw => (ld_33 rfl (below_load hw (below_load hin2 d0)) (below_load hw (below_load hin2 d1)) (below_load hw (below_load hin2 d2)) (below_load hw (below_load hin2 d3)))) rfl ?_
    refine EQ.val (fun _ hw => (x_move rfl)) rfl ?_
    refine EQ.val (fun _ hw => (x_move rfl)) rfl ?_
    refine EQ.val (fun _ hw => (ix_26 rfl rfl hlt)) rfl ?_
    refine EQ.val (fun _ hw => (ld_33 rfl (below_load hw (below_load hbw c0)) (below_load hw (below_load hbw c1)) (below_load hw (below_load hbw c2)) (below_load hw (below_load hbw c3)))) rfl ?_
    refine EQ.val (fun _ hw => (neq_33 (r := false) rfl rfl (by simp))) rfl ?_
    refine EQ.fin (fun w_ hw_ => ?_)
    replace q1 := q1.below hw_ q1.lt
    replace hbw := Below.on hbw hw_ hbw.size
    replace hin2 := Below.on hin2 hw_ hin2.size
    replace hro := Below.on hro hw_ hro.size
    refine EX.seq ?_
    refine EC.no rfl ?_
    refine EC.skip ?_
    refine EX.blk ?_
    refine EX.seq ?_
    refine EC.region ?_
    refine EL.val (x_move rfl) rfl ?_
    refine EL.val (x_add rfl rfl (by first | assumption | exact IntWalk.i64_in _ ⟨by omega, by omega⟩)) rfl ?_
    refine EL.val (x_assign rfl) rfl ?_
    refine EL.nil ?_
    refine EX.roundD (i + 1) ⟨rfl, trivial⟩ (by repeat first | exact Sub.refl _ | refine sub_past rfl ?_ | refine sub_del rfl ?_ | refine sub_insL_nil ?_) ⟨hlt, q1, hbw, hin2, hro⟩ (by omega)
  ·
    obtain rfl : i = sky.length := by omega
    refine EC.seq ?_
    refine EC.seq ?_
    refine EC.region ?_
    refine EL.val (x_move rfl) rfl ?_
    refine EL.val (x_move rfl) rfl ?_
    refine EL.val (ln_26 rfl) rfl ?_
    refine EL.val (x_lss rfl rfl (by first | assumption | exact decide_eq_false (by omega))) rfl ?_
    refine EL.nil ?_
    refine EX.seq ?_
    refine EC.no rfl ?_
    refine EC.exit ?_
    refine EX.seq_exit ?_
    refine EX.seq_exit ?_
    refine EX.blk_here ?_
    refine EX.seq ?_
    refine EC.seq ?_
    refine EC.seq ?_
    refine EC.region ?_
    refine EL.val (ld_25 rfl (q1.at (j := 0) rfl) (q1.at (j := 1) rfl) (q1.at (j := 2) rfl) (q1.at (j := 3) rfl) (q1.at (j := 4) rfl)) rfl ?_
    refine EL.val (x_move rfl) rfl ?_
    refine EL.call (cl_18 rfl rfl) rfl (rcatch_any c sky _ _ _ (hr.below (hbw.mono hB)) (Nat.le_trans hB hbw.size) (by omega)) ?_
    rintro e w6 ⟨rfl, hc6⟩
    refine ⟨_, rfl, ?_⟩
    replace q1 := q1.below hc6 q1.lt
    replace hbw := Below.on hbw hc6 hbw.size
    replace hin2 := Below.on hin2 hc6 hin2.size
    replace hro := Below.on hro hc6 hro.size
    clear hc6
    refine EL.val (x_assign rfl) rfl ?_
    refine EL.nil ?_
    refine EX.seq ?_
    refine EC.seq ?_
    refine EC.region ?_
    refine EL.val (x_move rfl) rfl ?_
    refine EL.val (x_neq rfl rfl (by first | assumption | exact decide_eq_true (by omega))) rfl ?_
    refine EL.nil ?_
    refine EX.seq ?_
    refine EC.yes rfl ?_
    refine EC.seq ?_
    refine EC.region ?_
    refine EL.val (x_move rfl) rfl ?_
    refine EL.val (x_move rfl) rfl ?_
    refine EL.val (x_eql rfl rfl (by first | assumption | exact decide_eq_true (by omega))) rfl ?_
    refine EL.val (x_move rfl) rfl ?_
    refine EL.valg rfl rfl (x_move rfl) rfl ?_
    refine EL.valg rfl rfl (ln_28 rfl) rfl ?_
    refine EL.valg rfl rfl (x_eql rfl rfl (by first | assumption | exact decide_eq_true (by omega))) rfl ?_
    refine EL.val (x_pick_t rfl rfl) rfl ?_
    refine EL.val (x_move rfl) rfl ?_
    refine EL.callg rfl rfl cl_16 rfl (known_any _) ?_
    rintro e w7 ⟨rfl, hc7⟩
    refine ⟨_, rfl, ?_⟩
    replace q1 := q1.below hc7 q1.lt
    replace hbw := Below.on hbw hc7 hbw.size
    replace hin2 := Below.on hin2 hc7 hin2.size
    replace hro := Below.on hro hc7 hro.size
    clear hc7
    refine EL.val (x_pick_t rfl rfl) rfl ?_
    refine EL.val (x_assign rfl) rfl ?_
    refine EL.nil ?_
    refine EX.seq ?_
    refine EC.ret ?_
    refine EX.seq_ret ?_
    exact EX.done (res1 rfl rfl) ⟨rfl, hbw⟩

set_option maxRecDepth 100000 in
theorem runoffL_ok (c : Land) (sky : List Sky) (v : Value) (w : World) (B : Nat) (hr : Rd w B 4 v sky.length (skysC sky)) (hB : B ≤ w.heap.size) (h1 : sky.length ≤ 100) (he : catchErr c sky = 0) :
    Calls Try.prog 3 #[.agg (landV c), v] w fun e w' => e = .returned (.bool true) ∧ Below w.heap.size w w' := by
  obtain ⟨A, cp, rfl, hnc⟩ := hr.shape
  have hbw := Below.refl w.heap.size w
  refine EC.enter 76 Try.func3 rfl rfl rfl ?_
  refine EC.seq ?_
  refine EC.region ?_
  refine EL.newP (bx_25 rfl) rfl ?_
  intro g1 w1 q1 hb1 hg1 hl1
  have bhbw_1 := Nat.le_trans hbw.size hg1
  replace hbw := Below.on hbw hb1 hbw.size
  clear hb1 hg1 hl1
  have lo_1 := q1.lt
  refine EL.val (x_assign rfl) rfl ?_
  refine EL.nil ?_
  refine EX.seq ?_
  refine EC.seq ?_
  refine EC.seq ?_
  refine EC.region ?_
  refine EL.val (x_move rfl) rfl ?_
  refine EL.val (ln_26 rfl) rfl ?_
  refine EL.val (x_gtr rfl rfl (by first | assumption | exact decide_eq_false (by omega))) rfl ?_
  refine EL.val (x_move rfl) rfl ?_
  refine EL.skip rfl rfl rfl rfl ?_
  refine EL.skip rfl rfl rfl rfl ?_
  refine EL.skip rfl rfl rfl rfl ?_
  refine EL.val (x_pick_f rfl rfl) rfl ?_
  refine EL.val (x_move rfl) rfl ?_
  refine EL.valg rfl rfl (x_move rfl) rfl ?_
  refine EL.valg rfl rfl (ln_26 rfl) rfl ?_
  refine EL.valg rfl rfl (x_gtr rfl rfl (by first | assumption | exact decide_eq_false (by omega))) rfl ?_
  refine EL.val (x_pick_f rfl rfl) rfl ?_
  refine EL.nil ?_
  refine EX.seq ?_
  refine EC.no rfl ?_
  refine EC.skip ?_
  refine EX.seq ?_
  refine EC.seq ?_
  refine EC.region ?_
  have st2_hbw := hbw.size
  refine EL.newS bs_26_0 rfl ?_
  intro g3 w3 q3 hb3 hg3 hl3
  have n1_3 : g1 ≠ g3 := Nat.ne_of_lt (Nat.lt_of_lt_of_le q1.lt hg3)
  have bhbw_3 := Nat.le_trans hbw.size hg3
  replace q1 := q1.below hb3 q1.lt
  replace hbw := Below.on hbw hb3 hbw.size
  clear hb3 hl3
  have hin := own_empty (base := w1.heap.size) 4 q3 hg3
  refine EL.val (x_move rfl) rfl ?_
  have lb_1 := lo_1
  refine EL.push sky_elem rfl rfl hin (hr.below (hbw.mono hB)) (skysC_one sky) (by omega) rfl (Nat.le_trans (Nat.le_trans (Nat.le_refl _) hg3) (Nat.le_of_lt q3.lt)) rfl ?_
  intro vin w4 ho hgr4 hb4 _
  replace q1 := q1.below hb4 lo_1
  replace hbw := hbw.trans (hb4.mono st2_hbw)
  rw [Nat.zero_add, List.nil_append] at ho
  replace ho := Rd.of_own ho
  obtain ⟨Ai, ci, rfl, _⟩ := ho.shape
  have hin2 := Below.refl w4.heap.size w4
  refine EL.val (x_assign rfl) rfl ?_
  refine EL.nil ?_
  refine EX.seq ?_
  refine EC.seq ?_
  refine EC.region ?_
  refine EL.val (ld_25 rfl (q1.at (j := 0) rfl) (q1.at (j := 1) rfl) (q1.at (j := 2) rfl) (q1.at (j := 3) rfl) (q1.at (j := 4) rfl)) rfl ?_
  refine EL.val (x_move rfl) rfl ?_
  refine EL.call (cl_17 rfl rfl) rfl (runoff_any c sky _ _ _ (ho.below hin2) hin2.size (by omega)) ?_
  rintro e w5 ⟨⟨vl, rfl, hl0, hl1⟩, hc5⟩
  refine ⟨_, rfl, ?_⟩
  replace q1 := q1.below hc5 q1.lt
  replace hbw := Below.on hbw hc5 hbw.size
  replace hin2 := Below.on hin2 hc5 hin2.size
  have hro := Below.refl w5.heap.size w5
  replace hl1 := Rd.of_own (hl1 he)
  obtain ⟨Al, cl, rfl, _⟩ := hl1.shape
  rw [he]
  refine EL.val (x_move rfl) rfl ?_
  refine EL.val (x_extract rfl rfl) rfl ?_
  refine EL.val (x_extract rfl rfl) rfl ?_
  refine EL.val (x_assign rfl) rfl ?_
  refine EL.val (x_assign rfl) rfl ?_
  refine EL.nil ?_
  refine EX.seq ?_
  refine EC.seq ?_
  refine EC.seq ?_
  refine EC.region ?_
  refine EL.val (x_assign rfl) rfl ?_
  refine EL.nil ?_
  refine EX.seq ?_
  refine EC.block ?_
  refine EC.loopD [4, 8, 33, 34, 35, 36, 37, 38, 39, 40, 41, 42, 43, 44, 45, 46, 47] (fun x : Nat => [(8, .int .i64 (x : Nat))]) (fun x W => x ≤ sky.length ∧ Blk W g1 25 (landV c) ∧ Below w.heap.size w W ∧ Below w4.heap.size w4 W ∧ Below w5.heap.size w5 W) (fun x => sky.length - x) 0 ⟨Nat.zero_le _, q1, hbw, hin2, hro⟩ ⟨rfl, trivial⟩ ?_
  clear q1 hbw hin2 hro
  rintro i wr ⟨hi, q1, hbw, hin2, hro⟩
  by_cases hlt : i < sky.length
  ·
    obtain ⟨b, o, rfl, _, ⟨c0, c1, c2, c3⟩⟩ := skys_cells sky i hlt _ _ _ _ _ hr
    obtain ⟨b2, o2, rfl, _, ⟨d0, d1, d2, d3⟩⟩ := skys_cells sky i hlt _ _ _ _ _ ho
    refine EC.seq ?_
    refine EC.seq ?_
    refine EC.region ?_
    refine EL.val (x_move rfl) rfl ?_
    refine EL.val (x_move rfl) rfl ?_
    refine EL.val (ln_26 rfl) rfl ?_
    refine EL.val (x_lss rfl rfl (by first | assumption | exact decide_eq_true (by omega))) rfl ?_
    refine EL.nil ?_
    refine EX.seq ?_
    refine EC.yes rfl ?_
    refine EC.skip ?_
    refine EX.seq ?_
    refine EC.seq ?_
    refine EC.block ?_
    refine EC.seq ?_
    refine EC.regionQ (by kernel_rfl) (by kernel_rfl) ?_
    refine EQ.val (fun _ hw => (x_move rfl)) rfl ?_
    refine EQ.val (fun _ hw => (x_move rfl)) rfl ?_
    refine EQ.val (fun _ hw => (ix_26 rfl rfl hlt)) rfl ?_
    refine EQ.val (fun _ hw => (ld_33 rfl (below_load hw (below_load hin2 d0)) (below_load hw (below_load hin2 d1)) (below_load hw (below_load hin2 d2)) (below_load hw (below_load hin2 d3)))) rfl ?_
    refine EQ.val (fun _ hw => (x_move rfl)) rfl ?_
    refine EQ.val (fun _ hw => (x_move rfl)) rfl ?_
    refine EQ.val (fun _ hw => (ix_26 rfl rfl hlt)) rfl ?_
    refine EQ.val (fun _ hw => (ld_33 rfl (below_load hw (below_load hbw c0)) (below_load hw (below_load hbw c1)) (below_load hw (below_load hbw c2)) (below_load hw (below_load hbw c3)))) rfl ?_
    refine EQ.val (fun _ hw => (neq_33 (r := false) rfl rfl (by simp))) rfl ?_
    refine EQ.fin (fun w_ hw_ => ?_)
    replace q1 := q1.below hw_ q1.lt
    replace hbw := Below.on hbw hw_ hbw.size
    replace hin2 := Below.on hin2 hw_ hin2.size
    replace hro := Below.on hro hw_ hro.size
    refine EX.seq ?_
    refine EC.no rfl ?_
    refine EC.skip ?_
    refine EX.blk ?_
    refine EX.seq ?_
    refine EC.region ?_
    refine EL.val (x_move rfl) rfl ?_
    refine EL.val (x_add rfl rfl (by first | assumption | exact IntWalk.i64_in _ ⟨by omega, by omega⟩)) rfl ?_
    refine EL.val (x_assign rfl) rfl ?_
    refine EL.nil ?_
    refine EX.roundD (i + 1) ⟨rfl, trivial⟩ (by repeat first | exact Sub.refl _ | refine sub_past rfl ?_ | refine sub_del rfl ?_ | refine sub_insL_nil ?_) ⟨hlt, q1, hbw, hin2, hro⟩ (by omega)
  ·
    obtain rfl : i = sky.length := by omega
    have hok := catch_ok he
    refine EC.seq ?_
    refine EC.seq ?_
    refine EC.region ?_
    refine EL.val (x_move rfl) rfl ?_
    refine EL.val (x_move rfl) rfl ?_
    refine EL.val (ln_26 rfl) rfl ?_
    refine EL.val (x_lss rfl rfl (by first | assumption | exact decide_eq_false (by omega))) rfl ?_
    refine EL.nil ?_
    refine EX.seq ?_
    refine EC.no rfl ?_
    refine EC.exit ?_
    refine EX.seq_exit ?_
    refine EX.seq_exit ?_
    refine EX.blk_here ?_
    refine EX.seq ?_
    refine EC.seq ?_
    refine EC.seq ?_
    refine EC.region ?_
    refine EL.val (ld_25 rfl (q1.at (j := 0) rfl) (q1.at (j := 1) rfl) (q1.at (j := 2) rfl) (q1.at (j := 3) rfl) (q1.at (j := 4) rfl)) rfl ?_
    refine EL.val (x_move rfl) rfl ?_
    refine EL.call (cl_18 rfl rfl) rfl (rcatch_any c sky _ _ _ (hr.below (hbw.mono hB)) (Nat.le_trans hB hbw.size) (by omega)) ?_
    rintro e w6 ⟨rfl, hc6⟩
    refine ⟨_, rfl, ?_⟩
    replace q1 := q1.below hc6 q1.lt
    replace hbw := Below.on hbw hc6 hbw.size
    replace hin2 := Below.on hin2 hc6 hin2.size
    replace hro := Below.on hro hc6 hro.size
    clear hc6
    refine EL.val (x_assign rfl) rfl ?_
    refine EL.nil ?_
    refine EX.seq ?_
    refine EC.seq ?_
    refine EC.region ?_
    refine EL.val (x_move rfl) rfl ?_
    refine EL.val (x_neq rfl rfl (by first | assumption | exact decide_eq_false (by omega))) rfl ?_
    refine EL.nil ?_
    refine EX.seq ?_
    refine EC.no rfl ?_
    refine EC.skip ?_
    refine EX.seq ?_
    refine EC.seq ?_
    refine EC.region ?_
    refine EL.val (x_move rfl) rfl ?_
    refine EL.val (x_eql rfl rfl (by first | assumption | exact decide_eq_true (by omega))) rfl ?_
    refine EL.val (x_move rfl) rfl ?_
    refine EL.valg rfl rfl (x_move rfl) rfl ?_
    refine EL.valg rfl rfl (ld_25 rfl (q1.at (j := 0) rfl) (q1.at (j := 1) rfl) (q1.at (j := 2) rfl) (q1.at (j := 3) rfl) (q1.at (j := 4) rfl)) rfl ?_
    refine EL.valg rfl rfl (x_move rfl) rfl ?_
    refine EL.callg rfl rfl (cl_20 rfl rfl) rfl (rrunoff_any c sky _ _ _ (hr.below (hbw.mono hB)) (Nat.le_trans hB hbw.size) hok.2.1 hok.1 hok.2.2) ?_
    rintro e w7 ⟨⟨vr, rfl, hor⟩, hc7⟩
    refine ⟨_, rfl, ?_⟩
    replace q1 := q1.below hc7 q1.lt
    replace hbw := Below.on hbw hc7 hbw.size
    replace hin2 := Below.on hin2 hc7 hin2.size
    replace hro := Below.on hro hc7 hro.size
    replace hor := Rd.of_own hor
    obtain ⟨Ar, cr, rfl, _⟩ := hor.shape
    refine EL.callg rfl rfl (cl_19 rfl rfl) rfl (same_eq (flowsTo c sky sky.length) _ _ _ _ _ (by rw [flowsTo_len]; exact hl1.below hro) (by rw [flowsTo_len]; exact hor) (by rw [flowsTo_len]; omega)) ?_
    rintro e w8 ⟨rfl, hc8⟩
    refine ⟨_, rfl, ?_⟩
    replace q1 := q1.below hc8 q1.lt
    replace hbw := Below.on hbw hc8 hbw.size
    replace hin2 := Below.on hin2 hc8 hin2.size
    replace hro := Below.on hro hc8 hro.size
    refine EL.val (x_pick_t rfl rfl) rfl ?_
    refine EL.val (x_move rfl) rfl ?_
    refine EL.callg rfl rfl cl_16 rfl (known_any _) ?_
    rintro e w9 ⟨rfl, hc9⟩
    refine ⟨_, rfl, ?_⟩
    replace q1 := q1.below hc9 q1.lt
    replace hbw := Below.on hbw hc9 hbw.size
    replace hin2 := Below.on hin2 hc9 hin2.size
    replace hro := Below.on hro hc9 hro.size
    clear hc9
    refine EL.val (x_pick_t rfl rfl) rfl ?_
    refine EL.val (x_assign rfl) rfl ?_
    refine EL.nil ?_
    refine EX.seq ?_
    refine EC.ret ?_
    exact EX.done (res1 rfl rfl) ⟨rfl, hbw⟩

theorem runoff_law (c : Land) (sky : List Sky) (v : Value) (w : World) (B : Nat) (hr : Rd w B 4 v sky.length (skysC sky)) (hB : B ≤ w.heap.size) (hm : sky.length ≤ 9223372036854775807) :
    Calls Try.prog 3 #[.agg (landV c), v] w fun e w' => e = .returned (.bool true) ∧ Below w.heap.size w w' := by
  by_cases h1 : sky.length ≤ 100
  · by_cases he : catchErr c sky = 0
    · exact runoffL_ok c sky v w B hr hB h1 he
    · exact runoffL_bad1 c sky v w B hr hB h1 he
  · by_cases h2 : sky.length ≤ 400
    · exact runoffL_far1 c sky v w B hr hB (by omega) h2
    · by_cases h3 : sky.length ≤ 450
      · by_cases he : catchErr c sky = 0
        · have := (catch_ok he).2.1; omega
        · exact runoffL_bad2 c sky v w B hr hB (by omega) h3 he
      · exact runoffL_far2 c sky v w B hr hB (by omega)
end Go.Proofs.Ytncnlhkmdljgpaa
