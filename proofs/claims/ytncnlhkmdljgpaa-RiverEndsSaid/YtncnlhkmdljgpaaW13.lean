/- River: the program's Bed (printed by gen_w13.py). -/
import Derived.Test.YtncnlhkmdljgpaaW2
set_option linter.unusedVariables false
namespace Go.Proofs.Ytncnlhkmdljgpaa
open Go Go.RowKit

theorem bed_fit {w : World} {C : Nat} {rv : River} {p t : Int} {A1 A : Option Addr} {n1 c1 n c : Nat} (hl : Rd w C 6 (.slice A n c) (shoalsAt rv.shoals p).length (shoalsC (shoalsAt rv.shoals p))) (hC : C ≤ w.heap.size) (hok : riverB rv = true) (hp : inB 0 (placesOf rv.reaches - 1) p = true) (ht : inB (-400) 400 t = true) :
    Calls Try.prog 72 #[.agg (placeV (rv.reaches.getD (reachOf rv.reaches p) reach0) (.slice A1 n1 c1) (reachOf rv.reaches p : Nat) (.slice A n c)), .int .i64 t] w fun e w' =>
      e = .returned (.agg #[.int .i64 (bedAt rv p t).lo, .int .i64 (bedAt rv p t).hi]) ∧ Below w.heap.size w w' := by
  have hR := riverB_ok hok
  have hp' := inB_iff.1 hp
  have ht' := inB_iff.1 ht
  have hlt : reachOf rv.reaches p < rv.reaches.length := reachOf_lt _ _ (by omega) (by omega)
  have en : n = (shoalsAt rv.shoals p).length := by obtain ⟨_, _, _, e, _⟩ := hl; injection e
  subst en
  have hbt := (hR.reach _ hlt).bottom
  have hfew : (shoalsAt rv.shoals p).length ≤ rv.shoals.length := List.length_filter_le _ _
  exact bed_any _ _ _ A c C _ t (placesOf rv.reaches) w hl hC ⟨_, _, _, rfl⟩ (fun j hj => by
    have hm : (shoalsAt rv.shoals p).getD j shoal0 ∈ rv.shoals := (List.mem_filter.1 (show _ ∈ rv.shoals.filter _ from getD_mem hj)).1
    have hok' := hok
    simp only [riverB, Bool.and_eq_true] at hok'
    exact List.all_eq_true.1 hok'.2.2.2 _ hm) (by omega) (by have := hR.few; omega) (by omega)

theorem pbed_bad (rv : River) (v u : Value) (vs : List Value) (p t : Int) (w : World) (B : Nat) (hr : RdRiver w B v u rv vs) (hB : B ≤ w.heap.size) (hl : rv.reaches.length ≤ 1048576) (hl2 : rv.shoals.length ≤ 1048576) (hcv : CurvesB rv.reaches) (hok : riverB rv = false) :
    Calls Try.prog 32 #[.agg #[v, u], .int .i64 p, .int .i64 t] w fun e w' => e = .returned (.tuple #[.agg #[.int .i64 0, .int .i64 0], .int .i64 2]) ∧ Below w.heap.size w w' := by
  obtain ⟨A_, c_, rfl, _⟩ := hr.reaches.shape
  obtain ⟨A_', c_', rfl, _⟩ := hr.shoals.shape
  have hbw := Below.refl w.heap.size w
  refine EC.enter 36 Try.func32 rfl rfl rfl ?_
  have he2 : decide (errB (riverB rv) ≠ 0) = true := by rw [hok]; rfl
  have he3 : errB (riverB rv) = 2 := by rw [hok]; rfl
  refine EC.seq ?_
  refine EC.region ?_
  refine EL.newP (bx_47 rfl) rfl ?_
  intro g1 w1 q1 hb1 hg1 hl1
  have bhbw_1 := Nat.le_trans hbw.size hg1
  replace hbw := Below.on hbw hb1 hbw.size
  clear hb1 hg1 hl1
  refine EL.newP al_23 rfl ?_
  intro g2 w2 q2 hb2 hg2 hl2
  have n1_2 : g1 ≠ g2 := Nat.ne_of_lt (Nat.lt_of_lt_of_le q1.lt hg2)
  have bhbw_2 := Nat.le_trans hbw.size hg2
  replace q1 := q1.below hb2 q1.lt
  replace hbw := Below.on hbw hb2 hbw.size
  clear hb2 hg2 hl2
  refine EL.val (x_assign rfl) rfl ?_
  refine EL.nil ?_
  refine EX.seq ?_
  refine EC.seq ?_
  refine EC.seq ?_
  refine EC.region ?_
  refine EL.val (ld_47 rfl (q1.at (j := 0) rfl) (q1.at (j := 1) rfl)) rfl ?_
  refine EL.call (cl_25 rfl) rfl (check_any rv _ _ vs _ B (hr.below (hbw.mono hB)) (Nat.le_trans hB hbw.size) hl hl2 hcv) ?_
  rintro e w3 ⟨rfl, hc3⟩
  refine ⟨_, rfl, ?_⟩
  replace q1 := q1.below hc3 q1.lt
  replace q2 := q2.below hc3 q2.lt
  replace hbw := Below.on hbw hc3 hbw.size
  clear hc3
  refine EL.val (x_assign rfl) rfl ?_
  refine EL.nil ?_
  refine EX.seq ?_
  refine EC.seq ?_
  refine EC.region ?_
  refine EL.val (x_move rfl) rfl ?_
  refine EL.val (x_neq rfl rfl (by first | assumption | exact decide_eq_true (by omega))) rfl ?_
  refine EL.nil ?_
  refine EX.seq ?_
  refine EC.yes rfl ?_
  refine EC.seq ?_
  refine EC.region ?_
  refine EL.val (bd_23_) rfl ?_
  refine EL.val (x_move rfl) rfl ?_
  refine EL.store rfl rfl q2 sz_23 rfl rfl rfl rfl ?_
  intro w4 hq4 hg4
  replace q1 := q1.grown hg4 (fun h => n1_2 (Option.some.inj h))
  replace hbw := below_store hbw hg4 bhbw_2
  replace q2 := hq4
  clear hg4 hq4
  refine EL.val (x_assign rfl) rfl ?_
  refine EL.nil ?_
  refine EX.seq ?_
  refine EC.ret ?_
  refine EX.seq_ret ?_
  exact EX.done (resct rfl rfl rfl (lv_23 (q2.at rfl) (q2.at rfl))) ⟨by rw [he3], hbw⟩

theorem pbed_none (rv : River) (v u : Value) (vs : List Value) (p t : Int) (w : World) (B : Nat) (hr : RdRiver w B v u rv vs) (hB : B ≤ w.heap.size) (hl : rv.reaches.length ≤ 1048576) (hl2 : rv.shoals.length ≤ 1048576) (hcv : CurvesB rv.reaches) (hok : riverB rv = true) (hp : inB 0 (placesOf rv.reaches - 1) p = false) :
    Calls Try.prog 32 #[.agg #[v, u], .int .i64 p, .int .i64 t] w fun e w' => e = .returned (.tuple #[.agg #[.int .i64 0, .int .i64 0], .int .i64 7]) ∧ Below w.heap.size w w' := by
  obtain ⟨A_, c_, rfl, _⟩ := hr.reaches.shape
  obtain ⟨A_', c_', rfl, _⟩ := hr.shoals.shape
  have hbw := Below.refl w.heap.size w
  refine EC.enter 36 Try.func32 rfl rfl rfl ?_
  have he2 : decide (errB (riverB rv) ≠ 0) = false := by rw [hok]; rfl
  refine EC.seq ?_
  refine EC.region ?_
  refine EL.newP (bx_47 rfl) rfl ?_
  intro g1 w1 q1 hb1 hg1 hl1
  have bhbw_1 := Nat.le_trans hbw.size hg1
  replace hbw := Below.on hbw hb1 hbw.size
  clear hb1 hg1 hl1
  refine EL.newP al_23 rfl ?_
  intro g2 w2 q2 hb2 hg2 hl2
  have n1_2 : g1 ≠ g2 := Nat.ne_of_lt (Nat.lt_of_lt_of_le q1.lt hg2)
  have bhbw_2 := Nat.le_trans hbw.size hg2
  replace q1 := q1.below hb2 q1.lt
  replace hbw := Below.on hbw hb2 hbw.size
  clear hb2 hg2 hl2
  refine EL.val (x_assign rfl) rfl ?_
  refine EL.nil ?_
  refine EX.seq ?_
  refine EC.seq ?_
  refine EC.seq ?_
  refine EC.region ?_
  refine EL.val (ld_47 rfl (q1.at (j := 0) rfl) (q1.at (j := 1) rfl)) rfl ?_
  refine EL.call (cl_25 rfl) rfl (check_any rv _ _ vs _ B (hr.below (hbw.mono hB)) (Nat.le_trans hB hbw.size) hl hl2 hcv) ?_
  rintro e w3 ⟨rfl, hc3⟩
  refine ⟨_, rfl, ?_⟩
  replace q1 := q1.below hc3 q1.lt
  replace q2 := q2.below hc3 q2.lt
  replace hbw := Below.on hbw hc3 hbw.size
  clear hc3
  refine EL.val (x_assign rfl) rfl ?_
  refine EL.nil ?_
  refine EX.seq ?_
  refine EC.seq ?_
  refine EC.region ?_
  refine EL.val (x_move rfl) rfl ?_
  refine EL.val (x_neq rfl rfl (by first | assumption | exact decide_eq_false (by omega))) rfl ?_
  refine EL.nil ?_
  refine EX.seq ?_
  refine EC.no rfl ?_
  refine EC.skip ?_
  refine EX.seq ?_
  refine EC.seq ?_
  refine EC.region ?_
  refine EL.val (ld_47 rfl (q1.at (j := 0) rfl) (q1.at (j := 1) rfl)) rfl ?_
  refine EL.val (x_move rfl) rfl ?_
  refine EL.call (cl_71 rfl rfl) rfl (find_bad rv _ _ vs p _ B (hr.below (hbw.mono hB)) (Nat.le_trans hB hbw.size) hok hp) ?_
  rintro e w4 ⟨rfl, hc4⟩
  refine ⟨_, rfl, ?_⟩
  replace q1 := q1.below hc4 q1.lt
  replace q2 := q2.below hc4 q2.lt
  replace hbw := Below.on hbw hc4 hbw.size
  clear hc4
  refine EL.val (x_move rfl) rfl ?_
  refine EL.val (x_extract rfl rfl) rfl ?_
  refine EL.val (x_extract rfl rfl) rfl ?_
  refine EL.newP al_129 rfl ?_
  intro g5 w5 q5 hb5 hg5 hl5
  have n1_5 : g1 ≠ g5 := Nat.ne_of_lt (Nat.lt_of_lt_of_le q1.lt hg5)
  have n2_5 : g2 ≠ g5 := Nat.ne_of_lt (Nat.lt_of_lt_of_le q2.lt hg5)
  have bhbw_5 := Nat.le_trans hbw.size hg5
  replace q1 := q1.below hb5 q1.lt
  replace q2 := q2.below hb5 q2.lt
  replace hbw := Below.on hbw hb5 hbw.size
  clear hb5 hg5 hl5
  refine EL.store rfl rfl q5 sz_129 rfl rfl rfl rfl ?_
  intro w6 hq6 hg6
  replace q1 := q1.grown hg6 (fun h => n1_5 (Option.some.inj h))
  replace q2 := q2.grown hg6 (fun h => n2_5 (Option.some.inj h))
  replace hbw := below_store hbw hg6 bhbw_5
  replace q5 := hq6
  clear hg6 hq6
  refine EL.val (x_assign rfl) rfl ?_
  refine EL.nil ?_
  refine EX.seq ?_
  refine EC.seq ?_
  refine EC.block ?_
  refine EC.seq ?_
  refine EC.region ?_
  refine EL.val (x_move rfl) rfl ?_
  refine EL.val (x_not rfl) rfl ?_
  refine EL.val (x_assign rfl) rfl ?_
  refine EL.nil ?_
  refine EX.seq ?_
  refine EC.yes rfl ?_
  refine EC.seq ?_
  refine EC.region ?_
  refine EL.val (bd_23_) rfl ?_
  refine EL.store rfl rfl q2 sz_23 rfl rfl rfl rfl ?_
  intro w7 hq7 hg7
  replace q1 := q1.grown hg7 (fun h => n1_2 (Option.some.inj h))
  replace q5 := q5.grown hg7 (fun h => n2_5.symm (Option.some.inj h))
  replace hbw := below_store hbw hg7 bhbw_2
  replace q2 := hq7
  clear hg7 hq7
  refine EL.val (x_assign rfl) rfl ?_
  refine EL.nil ?_
  refine EX.seq ?_
  refine EC.ret ?_
  refine EX.blk_ret ?_
  refine EX.seq_ret ?_
  exact EX.done (resct rfl rfl rfl (lv_23 (q2.at rfl) (q2.at rfl))) ⟨rfl, hbw⟩

theorem pbed_range (rv : River) (v u : Value) (vs : List Value) (p t : Int) (w : World) (B : Nat) (hr : RdRiver w B v u rv vs) (hB : B ≤ w.heap.size) (hl : rv.reaches.length ≤ 1048576) (hl2 : rv.shoals.length ≤ 1048576) (hcv : CurvesB rv.reaches) (hok : riverB rv = true) (hp : inB 0 (placesOf rv.reaches - 1) p = true) (ht : inB (-400) 400 t = false) :
    Calls Try.prog 32 #[.agg #[v, u], .int .i64 p, .int .i64 t] w fun e w' => e = .returned (.tuple #[.agg #[.int .i64 0, .int .i64 0], .int .i64 3]) ∧ Below w.heap.size w w' := by
  obtain ⟨A_, c_, rfl, _⟩ := hr.reaches.shape
  obtain ⟨A_', c_', rfl, _⟩ := hr.shoals.shape
  have hbw := Below.refl w.heap.size w
  refine EC.enter 36 Try.func32 rfl rfl rfl ?_
  have he2 : decide (errB (riverB rv) ≠ 0) = false := by rw [hok]; rfl
  refine EC.seq ?_
  refine EC.region ?_
  refine EL.newP (bx_47 rfl) rfl ?_
  intro g1 w1 q1 hb1 hg1 hl1
  have bhbw_1 := Nat.le_trans hbw.size hg1
  replace hbw := Below.on hbw hb1 hbw.size
  clear hb1 hg1 hl1
  refine EL.newP al_23 rfl ?_
  intro g2 w2 q2 hb2 hg2 hl2
  have n1_2 : g1 ≠ g2 := Nat.ne_of_lt (Nat.lt_of_lt_of_le q1.lt hg2)
  have bhbw_2 := Nat.le_trans hbw.size hg2
  replace q1 := q1.below hb2 q1.lt
  replace hbw := Below.on hbw hb2 hbw.size
  clear hb2 hg2 hl2
  refine EL.val (x_assign rfl) rfl ?_
  refine EL.nil ?_
  refine EX.seq ?_
  refine EC.seq ?_
  refine EC.seq ?_
  refine EC.region ?_
  refine EL.val (ld_47 rfl (q1.at (j := 0) rfl) (q1.at (j := 1) rfl)) rfl ?_
  refine EL.call (cl_25 rfl) rfl (check_any rv _ _ vs _ B (hr.below (hbw.mono hB)) (Nat.le_trans hB hbw.size) hl hl2 hcv) ?_
  rintro e w3 ⟨rfl, hc3⟩
  refine ⟨_, rfl, ?_⟩
  replace q1 := q1.below hc3 q1.lt
  replace q2 := q2.below hc3 q2.lt
  replace hbw := Below.on hbw hc3 hbw.size
  clear hc3
  refine EL.val (x_assign rfl) rfl ?_
  refine EL.nil ?_
  refine EX.seq ?_
  refine EC.seq ?_
  refine EC.region ?_
  refine EL.val (x_move rfl) rfl ?_
  refine EL.val (x_neq rfl rfl (by first | assumption | exact decide_eq_false (by omega))) rfl ?_
  refine EL.nil ?_
  refine EX.seq ?_
  refine EC.no rfl ?_
  refine EC.skip ?_
  refine EX.seq ?_
  refine EC.seq ?_
  refine EC.region ?_
  refine EL.val (ld_47 rfl (q1.at (j := 0) rfl) (q1.at (j := 1) rfl)) rfl ?_
  refine EL.val (x_move rfl) rfl ?_
  refine EL.call (cl_71 rfl rfl) rfl (find_ok rv _ _ vs p _ B (hr.below (hbw.mono hB)) (Nat.le_trans hB hbw.size) hok hp) ?_
  rintro e w4 ⟨⟨A1, n1, c1, A, n, c, rfl, ho⟩, hc4⟩
  refine ⟨_, rfl, ?_⟩
  replace q1 := q1.below hc4 q1.lt
  replace q2 := q2.below hc4 q2.lt
  replace hbw := Below.on hbw hc4 hbw.size
  clear hc4
  replace ho := Rd.of_own ho
  have hlo := Below.refl w4.heap.size w4
  refine EL.val (x_move rfl) rfl ?_
  refine EL.val (x_extract rfl rfl) rfl ?_
  refine EL.val (x_extract rfl rfl) rfl ?_
  refine EL.newP al_129 rfl ?_
  intro g5 w5 q5 hb5 hg5 hl5
  have n1_5 : g1 ≠ g5 := Nat.ne_of_lt (Nat.lt_of_lt_of_le q1.lt hg5)
  have n2_5 : g2 ≠ g5 := Nat.ne_of_lt (Nat.lt_of_lt_of_le q2.lt hg5)
  have bhbw_5 := Nat.le_trans hbw.size hg5
  have bhlo_5 := Nat.le_trans hlo.size hg5
  replace q1 := q1.below hb5 q1.lt
  replace q2 := q2.below hb5 q2.lt
  replace hbw := Below.on hbw hb5 hbw.size
  replace hlo := Below.on hlo hb5 hlo.size
  clear hb5 hg5 hl5
  refine EL.store rfl rfl q5 sz_129 rfl rfl rfl rfl ?_
  intro w6 hq6 hg6
  replace q1 := q1.grown hg6 (fun h => n1_5 (Option.some.inj h))
  replace q2 := q2.grown hg6 (fun h => n2_5 (Option.some.inj h))
  replace hbw := below_store hbw hg6 bhbw_5
  replace hlo := below_store hlo hg6 bhlo_5
  replace q5 := hq6
  clear hg6 hq6
  refine EL.val (x_assign rfl) rfl ?_
  refine EL.nil ?_
  refine EX.seq ?_
  refine EC.seq ?_
  refine EC.block ?_
  refine EC.seq ?_
  refine EC.region ?_
  refine EL.val (x_move rfl) rfl ?_
  refine EL.val (x_not rfl) rfl ?_
  refine EL.val (x_assign rfl) rfl ?_
  refine EL.nil ?_
  refine EX.seq ?_
  refine EC.no rfl ?_
  refine EC.seq ?_
  refine EC.region ?_
  refine EL.val (x_move rfl) rfl ?_
  refine EL.newS (bs_121_1 rfl) rfl ?_
  intro g7 w7 q7 hb7 hg7 hl7
  have n1_7 : g1 ≠ g7 := Nat.ne_of_lt (Nat.lt_of_lt_of_le q1.lt hg7)
  have n2_7 : g2 ≠ g7 := Nat.ne_of_lt (Nat.lt_of_lt_of_le q2.lt hg7)
  have n5_7 : g5 ≠ g7 := Nat.ne_of_lt (Nat.lt_of_lt_of_le q5.lt hg7)
  have bhbw_7 := Nat.le_trans hbw.size hg7
  have bhlo_7 := Nat.le_trans hlo.size hg7
  replace q1 := q1.below hb7 q1.lt
  replace q2 := q2.below hb7 q2.lt
  replace q5 := q5.below hb7 q5.lt
  replace hbw := Below.on hbw hb7 hbw.size
  replace hlo := Below.on hlo hb7 hlo.size
  clear hb7 hg7 hl7
  refine EL.call (cl_57 rfl rfl rfl) rfl (withinB1 _ _ _ false _ q7 ht) ?_
  rintro e w8 ⟨rfl, hc8⟩
  refine ⟨_, rfl, ?_⟩
  replace q1 := q1.below hc8 q1.lt
  replace q2 := q2.below hc8 q2.lt
  replace q5 := q5.below hc8 q5.lt
  replace q7 := q7.below hc8 q7.lt
  replace hbw := Below.on hbw hc8 hbw.size
  replace hlo := Below.on hlo hc8 hlo.size
  clear hc8
  refine EL.val (x_not rfl) rfl ?_
  refine EL.val (x_assign rfl) rfl ?_
  refine EL.nil ?_
  refine EX.seq ?_
  refine EC.yes rfl ?_
  refine EC.seq ?_
  refine EC.region ?_
  refine EL.val (bd_23_) rfl ?_
  refine EL.store rfl rfl q2 sz_23 rfl rfl rfl rfl ?_
  intro w9 hq9 hg9
  replace q1 := q1.grown hg9 (fun h => n1_2 (Option.some.inj h))
  replace q5 := q5.grown hg9 (fun h => n2_5.symm (Option.some.inj h))
  replace hbw := below_store hbw hg9 bhbw_2
  clear hlo
  replace q2 := hq9
  clear hg9 hq9
  refine EL.val (x_assign rfl) rfl ?_
  refine EL.nil ?_
  refine EX.seq ?_
  refine EC.ret ?_
  refine EX.blk_ret ?_
  refine EX.seq_ret ?_
  exact EX.done (resct rfl rfl rfl (lv_23 (q2.at rfl) (q2.at rfl))) ⟨rfl, hbw⟩

theorem pbed_ok (rv : River) (v u : Value) (vs : List Value) (p t : Int) (w : World) (B : Nat) (hr : RdRiver w B v u rv vs) (hB : B ≤ w.heap.size) (hl : rv.reaches.length ≤ 1048576) (hl2 : rv.shoals.length ≤ 1048576) (hcv : CurvesB rv.reaches) (hok : riverB rv = true) (hp : inB 0 (placesOf rv.reaches - 1) p = true) (ht : inB (-400) 400 t = true) :
    Calls Try.prog 32 #[.agg #[v, u], .int .i64 p, .int .i64 t] w fun e w' => e = .returned (.tuple #[.agg #[.int .i64 (bedAt rv p t).lo, .int .i64 (bedAt rv p t).hi], .int .i64 0]) ∧ Below w.heap.size w w' := by
  obtain ⟨A_, c_, rfl, _⟩ := hr.reaches.shape
  obtain ⟨A_', c_', rfl, _⟩ := hr.shoals.shape
  have hbw := Below.refl w.heap.size w
  refine EC.enter 36 Try.func32 rfl rfl rfl ?_
  have he2 : decide (errB (riverB rv) ≠ 0) = false := by rw [hok]; rfl
  refine EC.seq ?_
  refine EC.region ?_
  refine EL.newP (bx_47 rfl) rfl ?_
  intro g1 w1 q1 hb1 hg1 hl1
  have bhbw_1 := Nat.le_trans hbw.size hg1
  replace hbw := Below.on hbw hb1 hbw.size
  clear hb1 hg1 hl1
  refine EL.newP al_23 rfl ?_
  intro g2 w2 q2 hb2 hg2 hl2
  have n1_2 : g1 ≠ g2 := Nat.ne_of_lt (Nat.lt_of_lt_of_le q1.lt hg2)
  have bhbw_2 := Nat.le_trans hbw.size hg2
  replace q1 := q1.below hb2 q1.lt
  replace hbw := Below.on hbw hb2 hbw.size
  clear hb2 hg2 hl2
  refine EL.val (x_assign rfl) rfl ?_
  refine EL.nil ?_
  refine EX.seq ?_
  refine EC.seq ?_
  refine EC.seq ?_
  refine EC.region ?_
  refine EL.val (ld_47 rfl (q1.at (j := 0) rfl) (q1.at (j := 1) rfl)) rfl ?_
  refine EL.call (cl_25 rfl) rfl (check_any rv _ _ vs _ B (hr.below (hbw.mono hB)) (Nat.le_trans hB hbw.size) hl hl2 hcv) ?_
  rintro e w3 ⟨rfl, hc3⟩
  refine ⟨_, rfl, ?_⟩
  replace q1 := q1.below hc3 q1.lt
  replace q2 := q2.below hc3 q2.lt
  replace hbw := Below.on hbw hc3 hbw.size
  clear hc3
  refine EL.val (x_assign rfl) rfl ?_
  refine EL.nil ?_
  refine EX.seq ?_
  refine EC.seq ?_
  refine EC.region ?_
  refine EL.val (x_move rfl) rfl ?_
  refine EL.val (x_neq rfl rfl (by first | assumption | exact decide_eq_false (by omega))) rfl ?_
  refine EL.nil ?_
  refine EX.seq ?_
  refine EC.no rfl ?_
  refine EC.skip ?_
  refine EX.seq ?_
  refine EC.seq ?_
  refine EC.region ?_
  refine EL.val (ld_47 rfl (q1.at (j := 0) rfl) (q1.at (j := 1) rfl)) rfl ?_
  refine EL.val (x_move rfl) rfl ?_
  refine EL.call (cl_71 rfl rfl) rfl (find_ok rv _ _ vs p _ B (hr.below (hbw.mono hB)) (Nat.le_trans hB hbw.size) hok hp) ?_
  rintro e w4 ⟨⟨A1, n1, c1, A, n, c, rfl, ho⟩, hc4⟩
  refine ⟨_, rfl, ?_⟩
  replace q1 := q1.below hc4 q1.lt
  replace q2 := q2.below hc4 q2.lt
  replace hbw := Below.on hbw hc4 hbw.size
  clear hc4
  replace ho := Rd.of_own ho
  have hlo := Below.refl w4.heap.size w4
  refine EL.val (x_move rfl) rfl ?_
  refine EL.val (x_extract rfl rfl) rfl ?_
  refine EL.val (x_extract rfl rfl) rfl ?_
  refine EL.newP al_129 rfl ?_
  intro g5 w5 q5 hb5 hg5 hl5
  have n1_5 : g1 ≠ g5 := Nat.ne_of_lt (Nat.lt_of_lt_of_le q1.lt hg5)
  have n2_5 : g2 ≠ g5 := Nat.ne_of_lt (Nat.lt_of_lt_of_le q2.lt hg5)
  have bhbw_5 := Nat.le_trans hbw.size hg5
  have bhlo_5 := Nat.le_trans hlo.size hg5
  replace q1 := q1.below hb5 q1.lt
  replace q2 := q2.below hb5 q2.lt
  replace hbw := Below.on hbw hb5 hbw.size
  replace hlo := Below.on hlo hb5 hlo.size
  clear hb5 hg5 hl5
  refine EL.store rfl rfl q5 sz_129 rfl rfl rfl rfl ?_
  intro w6 hq6 hg6
  replace q1 := q1.grown hg6 (fun h => n1_5 (Option.some.inj h))
  replace q2 := q2.grown hg6 (fun h => n2_5 (Option.some.inj h))
  replace hbw := below_store hbw hg6 bhbw_5
  replace hlo := below_store hlo hg6 bhlo_5
  replace q5 := hq6
  clear hg6 hq6
  refine EL.val (x_assign rfl) rfl ?_
  refine EL.nil ?_
  refine EX.seq ?_
  refine EC.seq ?_
  refine EC.block ?_
  refine EC.seq ?_
  refine EC.region ?_
  refine EL.val (x_move rfl) rfl ?_
  refine EL.val (x_not rfl) rfl ?_
  refine EL.val (x_assign rfl) rfl ?_
  refine EL.nil ?_
  refine EX.seq ?_
  refine EC.no rfl ?_
  refine EC.seq ?_
  refine EC.region ?_
  refine EL.val (x_move rfl) rfl ?_
  refine EL.newS (bs_121_1 rfl) rfl ?_
  intro g7 w7 q7 hb7 hg7 hl7
  have n1_7 : g1 ≠ g7 := Nat.ne_of_lt (Nat.lt_of_lt_of_le q1.lt hg7)
  have n2_7 : g2 ≠ g7 := Nat.ne_of_lt (Nat.lt_of_lt_of_le q2.lt hg7)
  have n5_7 : g5 ≠ g7 := Nat.ne_of_lt (Nat.lt_of_lt_of_le q5.lt hg7)
  have bhbw_7 := Nat.le_trans hbw.size hg7
  have bhlo_7 := Nat.le_trans hlo.size hg7
  replace q1 := q1.below hb7 q1.lt
  replace q2 := q2.below hb7 q2.lt
  replace q5 := q5.below hb7 q5.lt
  replace hbw := Below.on hbw hb7 hbw.size
  replace hlo := Below.on hlo hb7 hlo.size
  clear hb7 hg7 hl7
  refine EL.call (cl_57 rfl rfl rfl) rfl (withinB1 _ _ _ true _ q7 ht) ?_
  rintro e w8 ⟨rfl, hc8⟩
  refine ⟨_, rfl, ?_⟩
  replace q1 := q1.below hc8 q1.lt
  replace q2 := q2.below hc8 q2.lt
  replace q5 := q5.below hc8 q5.lt
  replace q7 := q7.below hc8 q7.lt
  replace hbw := Below.on hbw hc8 hbw.size
  replace hlo := Below.on hlo hc8 hlo.size
  clear hc8
  refine EL.val (x_not rfl) rfl ?_
  refine EL.val (x_assign rfl) rfl ?_
  refine EL.nil ?_
  refine EX.seq ?_
  refine EC.no rfl ?_
  refine EC.skip ?_
  refine EX.blk ?_
  refine EX.seq ?_
  refine EC.seq ?_
  refine EC.region ?_
  refine EL.val (ld_129 rfl (q5.at (j := 0) rfl) (q5.at (j := 1) rfl) (q5.at (j := 2) rfl) (q5.at (j := 3) rfl) (q5.at (j := 4) rfl) (q5.at (j := 5) rfl) (q5.at (j := 6) rfl) (q5.at (j := 7) rfl) (q5.at (j := 8) rfl) (q5.at (j := 9) rfl) (q5.at (j := 10) rfl)) rfl ?_
  refine EL.val (x_move rfl) rfl ?_
  refine EL.call (cl_72 rfl rfl) rfl (bed_fit (ho.below hlo) hlo.size hok hp ht) ?_
  rintro e w9 ⟨rfl, hc9⟩
  refine ⟨_, rfl, ?_⟩
  replace q1 := q1.below hc9 q1.lt
  replace q2 := q2.below hc9 q2.lt
  replace q5 := q5.below hc9 q5.lt
  replace hbw := Below.on hbw hc9 hbw.size
  replace hlo := Below.on hlo hc9 hlo.size
  clear hc9
  refine EL.store rfl rfl q2 sz_23 rfl rfl rfl rfl ?_
  intro w10 hq10 hg10
  replace q1 := q1.grown hg10 (fun h => n1_2 (Option.some.inj h))
  replace q5 := q5.grown hg10 (fun h => n2_5.symm (Option.some.inj h))
  replace hbw := below_store hbw hg10 bhbw_2
  clear hlo
  replace q2 := hq10
  clear hg10 hq10
  refine EL.val (x_assign rfl) rfl ?_
  refine EL.nil ?_
  refine EX.seq ?_
  refine EC.ret ?_
  exact EX.done (resct rfl rfl rfl (lv_23 (q2.at rfl) (q2.at rfl))) ⟨rfl, hbw⟩
end Go.Proofs.Ytncnlhkmdljgpaa
