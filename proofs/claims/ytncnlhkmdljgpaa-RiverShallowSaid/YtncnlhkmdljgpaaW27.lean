/- River: the reference's Way and Shallowest, the law RiverShallow (printed by gen_w27.py). -/
import Derived.Test.YtncnlhkmdljgpaaW26
import Derived.Test.YtncnlhkmdljgpaaW22
import Derived.Test.YtncnlhkmdljgpaaW15
import Derived.Test.YtncnlhkmdljgpaaExB
set_option linter.unusedVariables false
set_option linter.unusedSimpArgs false
namespace Go.Proofs.Ytncnlhkmdljgpaa
open Go Go.RowKit

set_option maxHeartbeats 4000000 in
set_option maxRecDepth 100000 in
theorem rway_any (rv : River) (v u : Value) (vs : List Value) (l : List Pass) (vl : Value) (hh : Int) (w : World) (B : Nat) (hr : RdRiver w B v u rv vs) (hB : B ≤ w.heap.size) (hw : Rd w B 3 vl l.length (passesC l)) (hok : riverB rv = true) (hn : l.length ≤ 1048576) (hh1 : 0 ≤ hh) (hh2 : hh ≤ 1048576) :
    Calls Try.prog 52 #[.agg #[v, u], vl, .int .i64 hh] w fun e w' => e = .returned (.int .i64 (wayErr (placesOf rv.reaches) hh l)) ∧ Below w.heap.size w w' := by
  have hR := riverB_ok hok
  have hpl := hR.places
  have hsm := hR.some
  obtain ⟨Aw, cw, rfl, _⟩ := hw.shape
  obtain ⟨A, c, rfl, _⟩ := hr.reaches.shape
  obtain ⟨A', c', rfl, _⟩ := hr.shoals.shape
  have hbw := Below.refl w.heap.size w
  refine EC.enter 39 Try.func52 rfl rfl rfl ?_
  refine EC.seq ?_
  refine EC.region ?_
  refine EL.newP (bx_47 rfl) rfl ?_
  intro g1 w1 q1 hb1 hg1 hl1
  have bhbw_1 := Nat.le_trans hbw.size hg1
  replace hbw := Below.on hbw hb1 hbw.size
  clear hb1 hg1 hl1
  refine EL.val (x_assign rfl) rfl ?_
  refine EL.nil ?_
  refine EX.seq ?_
  refine EC.seq ?_
  refine EC.seq ?_
  refine EC.region ?_
  refine EL.val (x_move rfl) rfl ?_
  refine EL.val (ln_99 rfl) rfl ?_
  by_cases h1 : l.length = 0
  ·
    have hce : wayErr (placesOf rv.reaches) hh l = 4 := way_4 h1
    refine EL.val (x_eql rfl rfl (by first | assumption | exact decide_eq_true (by omega))) rfl ?_
    refine EL.nil ?_
    refine EX.seq ?_
    refine EC.yes rfl ?_
    refine EC.seq ?_
    refine EC.region ?_
    refine EL.val (x_assign rfl) rfl ?_
    refine EL.nil ?_
    refine EX.seq ?_
    refine EC.ret ?_
    refine EX.seq_ret ?_
    exact EX.done (res1 rfl rfl) ⟨by rw [hce], hbw⟩
  ·
    refine EL.val (x_eql rfl rfl (by first | assumption | exact decide_eq_false (by omega))) rfl ?_
    refine EL.nil ?_
    refine EX.seq ?_
    refine EC.no rfl ?_
    refine EC.skip ?_
    refine EX.seq ?_
    refine EC.seq ?_
    refine EC.seq ?_
    refine EC.region ?_
    refine EL.val (x_move rfl) rfl ?_
    refine EL.val (ln_99 rfl) rfl ?_
    by_cases h3 : 60 < l.length
    ·
      have hce : wayErr (placesOf rv.reaches) hh l = 5 := way_5 h3
      refine EL.val (x_gtr rfl rfl (by first | assumption | exact decide_eq_true (by omega))) rfl ?_
      refine EL.nil ?_
      refine EX.seq ?_
      refine EC.yes rfl ?_
      refine EC.seq ?_
      refine EC.region ?_
      refine EL.val (x_assign rfl) rfl ?_
      refine EL.nil ?_
      refine EX.seq ?_
      refine EC.ret ?_
      refine EX.seq_ret ?_
      exact EX.done (res1 rfl rfl) ⟨by rw [hce], hbw⟩
    ·
      refine EL.val (x_gtr rfl rfl (by first | assumption | exact decide_eq_false (by omega))) rfl ?_
      refine EL.nil ?_
      refine EX.seq ?_
      refine EC.no rfl ?_
      refine EC.skip ?_
      refine EX.seq ?_
      refine EC.seq ?_
      refine EC.seq ?_
      refine EC.region ?_
      refine EL.val (x_assign rfl) rfl ?_
      refine EL.nil ?_
      refine EX.seq ?_
      refine EC.block ?_
      refine EC.loopD [6, 7, 14, 15, 16, 17, 18, 19, 20, 21, 22, 23, 24, 25, 26, 27, 28, 29, 30, 31, 32, 33, 34, 35, 36, 37, 38] (fun x : Nat => [(7, .int .i64 (x : Nat))]) (fun x W => x ≤ l.length ∧ (∀ j, j < x → passOk (placesOf rv.reaches) hh (l.getD j pass0)) ∧ Blk W g1 47 #[.slice A rv.reaches.length c, .slice A' rv.shoals.length c'] ∧ Below w.heap.size w W) (fun x => l.length - x) 0 ⟨Nat.zero_le _, fun j hj => absurd hj (Nat.not_lt_zero _), q1, hbw⟩ ⟨rfl, trivial⟩ ?_
      clear q1 hbw
      rintro i wr ⟨hi, hI, q1, hbw⟩
      by_cases hlt : i < l.length
      ·
        obtain ⟨bc, oc, rfl, _, cc⟩ := passes_cells l i hlt _ _ _ _ _ hw
        obtain ⟨y, ey⟩ : ∃ y, y = l.getD i pass0 := ⟨_, rfl⟩
        rw [← ey] at cc
        refine EC.seq ?_
        refine EC.seq ?_
        refine EC.region ?_
        refine EL.val (x_move rfl) rfl ?_
        refine EL.val (x_move rfl) rfl ?_
        refine EL.val (ln_99 rfl) rfl ?_
        refine EL.val (x_lss rfl rfl (by first | assumption | exact decide_eq_true (by omega))) rfl ?_
        refine EL.nil ?_
        refine EX.seq ?_
        refine EC.yes rfl ?_
        refine EC.skip ?_
        refine EX.seq ?_
        refine EC.seq ?_
        refine EC.block ?_
        refine EC.seq ?_
        refine EC.seq ?_
        cases hp : inB 0 (placesOf rv.reaches - 1) y.place
        ·
          have hce : wayErr (placesOf rv.reaches) hh l = 7 := by rw [way_in h1 h3]; exact passBad_7 hlt hI (by rw [← ey]; exact hp)
          refine EC.regionQ (by kernel_rfl) (by kernel_rfl) ?_
          refine EQ.val (fun _ hw => (x_move rfl)) rfl ?_
          refine EQ.val (fun _ hw => (x_move rfl)) rfl ?_
          refine EQ.val (fun _ hw => (ix_99 rfl rfl hlt)) rfl ?_
          refine EQ.val (fun _ hw => (fa_101_0 rfl)) rfl ?_
          refine EQ.val (fun _ hw => (ld_3 rfl (below_load hw (below_load hbw cc.c0)))) rfl ?_
          refine EQ.val (fun _ hw => (ld_47 rfl (below_load hw (q1.at (j := 0) rfl)) (below_load hw (q1.at (j := 1) rfl)))) rfl ?_
          refine EQ.call (fun _ _ _ ha => cl_36 rfl _ ha) rfl (fun W hw => (places_any rv _ _ vs W B (hr.below ((hbw.trans (hw.mono hbw.size)).mono hB)) (Nat.le_trans hB (Nat.le_trans hbw.size hw.size)) (by omega) (river_lens hok)).mono fun e w' h => ⟨h.1, hw.trans (h.2.mono hw.size)⟩) ?_
          refine EQ.val (fun _ hw => (x_sub rfl rfl (by first | assumption | exact IntWalk.i64_in _ ⟨by omega, by omega⟩))) rfl ?_
          refine EQ.call (fun _ _ _ ha => cl_35 rfl rfl rfl _ ha) rfl (fun W hw => (in_eq hp W).mono fun e w' h => ⟨h.1, hw.trans (h.2.mono hw.size)⟩) ?_
          refine EQ.val (fun _ hw => (x_not rfl)) rfl ?_
          refine EQ.fin (fun w2 hw_ => ?_)
          replace q1 := q1.below hw_ q1.lt
          replace hbw := Below.on hbw hw_ hbw.size
          clear hw_
          refine EX.seq ?_
          refine EC.yes rfl ?_
          refine EC.seq ?_
          refine EC.region ?_
          refine EL.val (x_assign rfl) rfl ?_
          refine EL.nil ?_
          refine EX.seq ?_
          refine EC.ret ?_
          refine EX.seq_ret ?_
          refine EX.blk_ret ?_
          refine EX.seq_ret ?_
          refine EX.seq_ret ?_
          refine EX.blk_ret ?_
          refine EX.seq_ret ?_
          exact EX.done (res1 rfl rfl) ⟨by rw [hce], hbw⟩
        ·
          refine EC.regionQ (by kernel_rfl) (by kernel_rfl) ?_
          refine EQ.val (fun _ hw => (x_move rfl)) rfl ?_
          refine EQ.val (fun _ hw => (x_move rfl)) rfl ?_
          refine EQ.val (fun _ hw => (ix_99 rfl rfl hlt)) rfl ?_
          refine EQ.val (fun _ hw => (fa_101_0 rfl)) rfl ?_
          refine EQ.val (fun _ hw => (ld_3 rfl (below_load hw (below_load hbw cc.c0)))) rfl ?_
          refine EQ.val (fun _ hw => (ld_47 rfl (below_load hw (q1.at (j := 0) rfl)) (below_load hw (q1.at (j := 1) rfl)))) rfl ?_
          refine EQ.call (fun _ _ _ ha => cl_36 rfl _ ha) rfl (fun W hw => (places_any rv _ _ vs W B (hr.below ((hbw.trans (hw.mono hbw.size)).mono hB)) (Nat.le_trans hB (Nat.le_trans hbw.size hw.size)) (by omega) (river_lens hok)).mono fun e w' h => ⟨h.1, hw.trans (h.2.mono hw.size)⟩) ?_
          refine EQ.val (fun _ hw => (x_sub rfl rfl (by first | assumption | exact IntWalk.i64_in _ ⟨by omega, by omega⟩))) rfl ?_
          refine EQ.call (fun _ _ _ ha => cl_35 rfl rfl rfl _ ha) rfl (fun W hw => (in_eq hp W).mono fun e w' h => ⟨h.1, hw.trans (h.2.mono hw.size)⟩) ?_
          refine EQ.val (fun _ hw => (x_not rfl)) rfl ?_
          refine EQ.fin (fun w3 hw_ => ?_)
          replace q1 := q1.below hw_ q1.lt
          replace hbw := Below.on hbw hw_ hbw.size
          clear hw_
          refine EX.seq ?_
          refine EC.no rfl ?_
          refine EC.skip ?_
          refine EX.seq ?_
          refine EC.seq ?_
          refine EC.region ?_
          refine EL.val (x_move rfl) rfl ?_
          refine EL.val (x_move rfl) rfl ?_
          refine EL.val (ix_99 rfl rfl hlt) rfl ?_
          refine EL.val (fa_101_1 rfl) rfl ?_
          refine EL.val (ld_23 rfl (below_load hbw cc.c1) (below_load hbw cc.c2)) rfl ?_
          refine EL.val (x_move rfl) rfl ?_
          refine EL.val (x_sub rfl rfl (by first | assumption | exact IntWalk.i64_in _ ⟨by omega, by omega⟩)) rfl ?_
          cases hv : bdOk 0 (hh - 1) y.hours
          ·
            have hce : wayErr (placesOf rv.reaches) hh l = 3 := by rw [way_in h1 h3]; exact passBad_3 hlt hI (by rw [← ey]; exact hp) (by rw [← ey]; exact hv)
            refine EL.call (cl_30 rfl rfl rfl) rfl (rvalid_eq hv _) ?_
            rintro e w4 ⟨rfl, hc4⟩
            refine ⟨_, rfl, ?_⟩
            replace q1 := q1.below hc4 q1.lt
            replace hbw := Below.on hbw hc4 hbw.size
            clear hc4
            refine EL.val (x_not rfl) rfl ?_
            refine EL.nil ?_
            refine EX.seq ?_
            refine EC.yes rfl ?_
            refine EC.seq ?_
            refine EC.region ?_
            refine EL.val (x_assign rfl) rfl ?_
            refine EL.nil ?_
            refine EX.seq ?_
            refine EC.ret ?_
            refine EX.blk_ret ?_
            refine EX.seq_ret ?_
            refine EX.seq_ret ?_
            refine EX.blk_ret ?_
            refine EX.seq_ret ?_
            exact EX.done (res1 rfl rfl) ⟨by rw [hce], hbw⟩
          ·
            refine EL.call (cl_30 rfl rfl rfl) rfl (rvalid_eq hv _) ?_
            rintro e w5 ⟨rfl, hc5⟩
            refine ⟨_, rfl, ?_⟩
            replace q1 := q1.below hc5 q1.lt
            replace hbw := Below.on hbw hc5 hbw.size
            clear hc5
            refine EL.val (x_not rfl) rfl ?_
            refine EL.nil ?_
            refine EX.seq ?_
            refine EC.no rfl ?_
            refine EC.skip ?_
            refine EX.blk ?_
            refine EX.seq ?_
            refine EC.region ?_
            refine EL.val (x_move rfl) rfl ?_
            refine EL.val (x_add rfl rfl (by first | assumption | exact IntWalk.i64_in _ ⟨by omega, by omega⟩)) rfl ?_
            refine EL.val (x_assign rfl) rfl ?_
            refine EL.nil ?_
            refine EX.roundD (i + 1) ⟨rfl, trivial⟩ (by repeat first | exact Sub.refl _ | refine sub_past rfl ?_ | refine sub_del rfl ?_ | refine sub_insL_nil ?_) ⟨hlt, fun j hj => ?_, q1, hbw⟩ (by omega)
            rcases Nat.lt_or_ge j i with h | h
            · exact hI j h
            · obtain rfl : j = i := by omega
              rw [← ey]
              exact ⟨hp, hv⟩
      ·
        obtain rfl : i = l.length := by omega
        have hce : wayErr (placesOf rv.reaches) hh l = 0 := by rw [way_in h1 h3]; exact passBad_ok hI
        refine EC.seq ?_
        refine EC.seq ?_
        refine EC.region ?_
        refine EL.val (x_move rfl) rfl ?_
        refine EL.val (x_move rfl) rfl ?_
        refine EL.val (ln_99 rfl) rfl ?_
        refine EL.val (x_lss rfl rfl (by first | assumption | exact decide_eq_false (by omega))) rfl ?_
        refine EL.nil ?_
        refine EX.seq ?_
        refine EC.no rfl ?_
        refine EC.exit ?_
        refine EX.seq_exit ?_
        refine EX.seq_exit ?_
        refine EX.blk_here ?_
        refine EX.seq ?_
        refine EC.seq ?_
        refine EC.region ?_
        refine EL.val (x_assign rfl) rfl ?_
        refine EL.nil ?_
        refine EX.seq ?_
        refine EC.ret ?_
        exact EX.done (res1 rfl rfl) ⟨by rw [hce], hbw⟩

theorem shUp_succ (rv : River) (sides : List (List Bd)) (l : List Pass) (j : Nat) : shUp rv sides l (j + 1) = ⟨(shIn (depthAt rv sides (l.getD j pass0).place) j (l.getD j pass0).hours.lo ⟨(shUp rv sides l j).lo, (shUp rv sides l j).pass, (shUp rv sides l j).hour, 0⟩ (hoursN (l.getD j pass0).hours)).lo, min (shUp rv sides l j).hi (shIn (depthAt rv sides (l.getD j pass0).place) j (l.getD j pass0).hours.lo ⟨(shUp rv sides l j).lo, (shUp rv sides l j).pass, (shUp rv sides l j).hour, 0⟩ (hoursN (l.getD j pass0).hours)).most, (shIn (depthAt rv sides (l.getD j pass0).place) j (l.getD j pass0).hours.lo ⟨(shUp rv sides l j).lo, (shUp rv sides l j).pass, (shUp rv sides l j).hour, 0⟩ (hoursN (l.getD j pass0).hours)).pass, (shIn (depthAt rv sides (l.getD j pass0).place) j (l.getD j pass0).hours.lo ⟨(shUp rv sides l j).lo, (shUp rv sides l j).pass, (shUp rv sides l j).hour, 0⟩ (hoursN (l.getD j pass0).hours)).hour⟩ := rfl
theorem shIn_succ (D : Int → Bd) (i k0 : Int) (s : Sh) (n : Nat) : shIn D i k0 s (n + 1) = shStep i (k0 + n) (D (k0 + n)) (shIn D i k0 s n) := rfl

set_option maxHeartbeats 4000000 in
set_option maxRecDepth 100000 in
theorem rshallow_any (rv : River) (sides : List (List Bd)) (v u s : Value) (vs ss : List Value) (l : List Pass) (vl : Value) (w : World) (B : Nat) (hr : RdRiver w B v u rv vs) (hs : RdSides w B s sides ss) (hB : B ≤ w.heap.size) (hw : Rd w B 3 vl l.length (passesC l)) (hn : l.length ≤ 1048576) (hS : StartOk rv sides) (hI : ∀ j, j < l.length → passOk (placesOf rv.reaches) ((sides.getD 0 []).length : Nat) (l.getD j pass0)) :
    Calls Try.prog 53 #[.agg #[v, u], s, vl] w fun e w' => e = .returned (.tuple #[.agg #[.int .i64 (shUp rv sides l l.length).lo, .int .i64 (shUp rv sides l l.length).hi], .int .i64 (shUp rv sides l l.length).pass, .int .i64 (shUp rv sides l l.length).hour]) ∧ Below w.heap.size w w' := by
  have hhr := hS.hours
  obtain ⟨Aw, cw, rfl, _⟩ := hw.shape
  obtain ⟨A, c, rfl, _⟩ := hr.reaches.shape
  obtain ⟨A', c', rfl, _⟩ := hr.shoals.shape
  obtain ⟨D, d, rfl, _⟩ := hs.rd.shape
  have hbw := Below.refl w.heap.size w
  refine EC.enter 70 Try.func53 rfl rfl rfl ?_
  refine EC.seq ?_
  refine EC.region ?_
  refine EL.newP (bx_47 rfl) rfl ?_
  intro g1 w1 q1 hb1 hg1 hl1
  have bhbw_1 := Nat.le_trans hbw.size hg1
  replace hbw := Below.on hbw hb1 hbw.size
  clear hb1 hg1 hl1
  refine EL.newP al_23 rfl ?_
  intro g2 w2 q2 hb2 hg2 hl2
  have n1_2 : g1 ≠ g2 := Nat.ne_of_lt (Nat.lt_of_lt_of_le q1.lt hg2)
  have bhbw_2 := Nat.le_trans hbw.size hg2
  replace q1 := q1.below hb2 q1.lt
  replace hbw := Below.on hbw hb2 hbw.size
  clear hb2 hg2 hl2
  refine EL.val (x_assign rfl) rfl ?_
  refine EL.val (x_assign rfl) rfl ?_
  refine EL.nil ?_
  refine EX.seq ?_
  refine EC.seq ?_
  refine EC.region ?_
  refine EL.val (bd_23_0_1 rfl rfl) rfl ?_
  refine EL.newP al_23 rfl ?_
  intro g3 w3 q3 hb3 hg3 hl3
  have n1_3 : g1 ≠ g3 := Nat.ne_of_lt (Nat.lt_of_lt_of_le q1.lt hg3)
  have n2_3 : g2 ≠ g3 := Nat.ne_of_lt (Nat.lt_of_lt_of_le q2.lt hg3)
  have bhbw_3 := Nat.le_trans hbw.size hg3
  replace q1 := q1.below hb3 q1.lt
  replace q2 := q2.below hb3 q2.lt
  replace hbw := Below.on hbw hb3 hbw.size
  clear hb3 hg3 hl3
  refine EL.store rfl rfl q3 sz_23 rfl rfl rfl rfl ?_
  intro w4 hq4 hg4
  replace q1 := q1.grown hg4 (fun h => n1_3 (Option.some.inj h))
  replace q2 := q2.grown hg4 (fun h => n2_3 (Option.some.inj h))
  replace hbw := below_store hbw hg4 bhbw_3
  replace q3 := hq4
  clear hg4 hq4
  refine EL.val (x_assign rfl) rfl ?_
  refine EL.val (x_assign rfl) rfl ?_
  refine EL.nil ?_
  refine EX.seq ?_
  refine EC.seq ?_
  refine EC.seq ?_
  refine EC.region ?_
  refine EL.val (x_assign rfl) rfl ?_
  refine EL.nil ?_
  refine EX.seq ?_
  refine EC.block ?_
  refine EC.loopD [10, 11, 12, 13, 14, 15, 17, 18, 19, 20, 21, 22, 23, 24, 25, 26, 27, 28, 29, 30, 31, 32, 33, 34, 35, 36, 37, 38, 39, 40, 41, 42, 43, 44, 45, 46, 47, 48, 49, 50, 51, 52, 53, 54, 55, 56, 57, 58, 59, 60, 61, 62, 63, 64, 65, 66] (fun x : Nat × Shal => [(12, .int .i64 (x.1 : Nat)), (10, .int .i64 x.2.pass), (11, .int .i64 x.2.hour)]) (fun x W => x.1 ≤ l.length ∧ x.2 = shUp rv sides l x.1 ∧ Blk W g3 23 #[.int .i64 x.2.lo, .int .i64 x.2.hi] ∧ Blk W g1 47 #[.slice A rv.reaches.length c, .slice A' rv.shoals.length c'] ∧ Blk W g2 23 #[.int .i64 0, .int .i64 0] ∧ Below w.heap.size w W) (fun x => l.length - x.1) (0, ⟨1000000, 1000000, 0, 0⟩) ⟨Nat.zero_le _, rfl, q3, q1, q2, hbw⟩ ⟨rfl, rfl, rfl, trivial⟩ ?_
  clear q3 q1 q2 hbw
  rintro ⟨i, st⟩ wr ⟨hi, hst, q3, q1, q2, hbw⟩
  simp only at hi hst
  by_cases hlt : i < l.length
  ·
    obtain ⟨bc, oc, rfl, _, cc⟩ := passes_cells l i hlt _ _ _ _ _ hw
    obtain ⟨hp, hv⟩ := hI i hlt
    have hp_ := inB_iff.1 hp
    have hv_ := bdOk_iff.1 hv
    have hN := hoursN_eq hv_.2.1
    have hnx := shUp_succ rv sides l i
    rw [← hst] at hnx
    obtain ⟨y, ey⟩ : ∃ y, y = l.getD i pass0 := ⟨_, rfl⟩
    rw [← ey] at cc hp hv hp_ hv_ hN hnx
    refine EC.seq ?_
    refine EC.seq ?_
    refine EC.region ?_
    refine EL.val (x_move rfl) rfl ?_
    refine EL.val (x_move rfl) rfl ?_
    refine EL.val (ln_99 rfl) rfl ?_
    refine EL.val (x_lss rfl rfl (by first | assumption | exact decide_eq_true (by omega))) rfl ?_
    refine EL.nil ?_
    refine EX.seq ?_
    refine EC.yes rfl ?_
    refine EC.skip ?_
    refine EX.seq ?_
    refine EC.seq ?_
    refine EC.block ?_
    refine EC.seq ?_
    refine EC.region ?_
    refine EL.val (x_assign rfl) rfl ?_
    refine EL.nil ?_
    refine EX.seq ?_
    refine EC.seq ?_
    refine EC.seq ?_
    refine EC.region ?_
    refine EL.val (x_move rfl) rfl ?_
    refine EL.val (x_move rfl) rfl ?_
    refine EL.val (ix_99 rfl rfl hlt) rfl ?_
    refine EL.val (fa_101_1 rfl) rfl ?_
    refine EL.val (fa_23_0 rfl) rfl ?_
    refine EL.val (ld_3 rfl (below_load hbw cc.c1)) rfl ?_
    refine EL.val (x_assign rfl) rfl ?_
    refine EL.nil ?_
    refine EX.seq ?_
    refine EC.block ?_
    refine EC.loopD [10, 11, 13, 14, 15, 29, 30, 31, 32, 33, 34, 35, 36, 37, 38, 39, 40, 41, 42, 43, 44, 45, 46, 47, 48, 49, 50, 51, 52, 53, 54, 55, 56, 57, 58, 59, 60, 61] (fun x : Nat × Sh => [(14, .int .i64 (y.hours.lo + (x.1 : Nat))), (13, .int .i64 x.2.most), (10, .int .i64 x.2.pass), (11, .int .i64 x.2.hour)]) (fun x W => x.1 ≤ hoursN y.hours ∧ x.2 = shIn (depthAt rv sides y.place) i y.hours.lo ⟨st.lo, st.pass, st.hour, 0⟩ x.1 ∧ Blk W g3 23 #[.int .i64 x.2.lo, .int .i64 st.hi] ∧ Blk W g1 47 #[.slice A rv.reaches.length c, .slice A' rv.shoals.length c'] ∧ Blk W g2 23 #[.int .i64 0, .int .i64 0] ∧ Below w.heap.size w W) (fun x => hoursN y.hours - x.1) (0, ⟨st.lo, st.pass, st.hour, 0⟩) ⟨Nat.zero_le _, rfl, q3, q1, q2, hbw⟩ ⟨by simp only [Int.natCast_zero, Int.add_zero]; rfl, rfl, rfl, rfl, trivial⟩ ?_
    clear q3 q1 q2 hbw
    rintro ⟨n, s⟩ wk ⟨hn, hs_, q3, q1, q2, hbw⟩
    simp only at hn hs_
    by_cases hnl : n < hoursN y.hours
    ·
      have hnx2 := shIn_succ (depthAt rv sides y.place) i y.hours.lo ⟨st.lo, st.pass, st.hour, 0⟩ n
      rw [← hs_] at hnx2
      have hdb := depth_bd hS (p := y.place) (t := y.hours.lo + (n : Nat)) (by omega) (by omega) (by omega) (by omega)
      obtain ⟨dd, ed⟩ : ∃ d, d = depthAt rv sides y.place (y.hours.lo + (n : Nat)) := ⟨_, rfl⟩
      rw [← ed, shStep] at hnx2
      rw [← ed] at hdb
      refine EC.seq ?_
      refine EC.seq ?_
      refine EC.region ?_
      refine EL.val (x_move rfl) rfl ?_
      refine EL.val (x_move rfl) rfl ?_
      refine EL.val (x_move rfl) rfl ?_
      refine EL.val (ix_99 rfl rfl hlt) rfl ?_
      refine EL.val (fa_101_1 rfl) rfl ?_
      refine EL.val (fa_23_1 rfl) rfl ?_
      refine EL.val (ld_3 rfl (below_load hbw cc.c2)) rfl ?_
      refine EL.val (x_leq rfl rfl (by first | assumption | exact decide_eq_true (by omega))) rfl ?_
      refine EL.nil ?_
      refine EX.seq ?_
      refine EC.yes rfl ?_
      refine EC.skip ?_
      refine EX.seq ?_
      refine EC.seq ?_
      refine EC.block ?_
      refine EC.seq ?_
      have lt_3 := q3.lt
      have lt_1 := q1.lt
      have lt_2 := q2.lt
      refine EC.regionP [[], [], [], [], [2, 3], [2, 3, 4], [2, 3, 4, 5], [], [0, 1, 2, 3, 4, 5, 6, 7], [], [0, 1, 2, 3, 4, 5, 6, 7, 8, 9]] 10 [9] (phi (fun i_ r => match i_ with | 0 => r 0 = .agg #[.slice A rv.reaches.length c, .slice A' rv.shoals.length c'] | 1 => r 1 = .slice D sides.length d | 2 => r 2 = .slice (some ⟨bc, oc, none⟩) l.length cw | 3 => r 3 = .int .i64 (i : Nat) | 4 => r 4 = .pointer (some ⟨bc, oc + i * 3, none⟩) | 5 => r 5 = .pointer (some ⟨bc, oc + i * 3, none⟩) | 6 => r 6 = .int .i64 y.place | 7 => r 7 = .int .i64 (y.hours.lo + (n : Nat)) | 8 => r 8 = .agg #[.int .i64 dd.lo, .int .i64 dd.hi] | _ => True) [(9, fun r w_ => ∃ g_, r 9 = .pointer (some ⟨g_, 0, none⟩) ∧ Blk w_ g_ 23 #[.int .i64 0, .int .i64 0])]) (by kernel_rfl) rfl rfl (phi_cons mono_alloc (phi_nil)) (fun i_ hi_ => ?_) ?_
      · match i_, hi_ with
        | 0, _ =>
          intro val w1 a hb ha hd
          have ha := ha.sub (Sub.ins (d := 3) (Sub.nil _) rfl)
          exact hs_val ha rfl rfl (ld_47 rfl ((q1.below hb q1.lt).at (j := 0) rfl) ((q1.below hb q1.lt).at (j := 1) rfl)) rfl rfl
        | 1, _ =>
          intro val w1 a hb ha hd
          have ha := ha.sub (Sub.ins (d := 1) (Sub.nil _) rfl)
          exact hs_val ha rfl rfl (x_move rfl) rfl rfl
        | 2, _ =>
          intro val w1 a hb ha hd
          have ha := ha.sub (Sub.ins (d := 2) (Sub.nil _) rfl)
          exact hs_val ha rfl rfl (x_move rfl) rfl rfl
        | 3, _ =>
          intro val w1 a hb ha hd
          have ha := ha.sub (Sub.ins (d := 12) (Sub.nil _) rfl)
          exact hs_val ha rfl rfl (x_move rfl) rfl rfl
        | 4, _ =>
          intro val w1 a hb ha hd
          have e2 : val 2 = .slice (some ⟨bc, oc, none⟩) l.length cw := hd 2 (memB_mem.1 rfl)
          have e3 : val 3 = .int .i64 (i : Nat) := hd 3 (memB_mem.1 rfl)
          have ha := ha.sub (Sub.ins (d := 42) (Sub.ins (d := 41) (Sub.nil _) (dep_get rfl e2)) (dep_get rfl e3))
          exact hs_val ha rfl rfl (ix_99 rfl rfl hlt) rfl rfl
        | 5, _ =>
          intro val w1 a hb ha hd
          have e4 : val 4 = .pointer (some ⟨bc, oc + i * 3, none⟩) := hd 4 (memB_mem.1 rfl)
          have ha := ha.sub (Sub.ins (d := 43) (Sub.nil _) (dep_get rfl e4))
          exact hs_val ha rfl rfl (fa_101_0 rfl) rfl rfl
        | 6, _ =>
          intro val w1 a hb ha hd
          have e5 : val 5 = .pointer (some ⟨bc, oc + i * 3, none⟩) := hd 5 (memB_mem.1 rfl)
          have ha := ha.sub (Sub.ins (d := 44) (Sub.nil _) (dep_get rfl e5))
          exact hs_val ha rfl rfl (ld_3 rfl (below_load (Below.on hbw hb hbw.size) cc.c0)) rfl rfl
        | 7, _ =>
          intro val w1 a hb ha hd
          have ha := ha.sub (Sub.ins (d := 14) (Sub.nil _) rfl)
          exact hs_val ha rfl rfl (x_move rfl) rfl rfl
        | 8, _ =>
          intro val w1 a hb ha hd
          have e0 : val 0 = .agg #[.slice A rv.reaches.length c, .slice A' rv.shoals.length c'] := hd 0 (memB_mem.1 rfl)
          have e1 : val 1 = .slice D sides.length d := hd 1 (memB_mem.1 rfl)
          have e6 : val 6 = .int .i64 y.place := hd 6 (memB_mem.1 rfl)
          have e7 : val 7 = .int .i64 (y.hours.lo + (n : Nat)) := hd 7 (memB_mem.1 rfl)
          have ha := ha.sub (Sub.ins (d := 46) (Sub.ins (d := 45) (Sub.ins (d := 40) (Sub.ins (d := 39) (Sub.nil _) (dep_get rfl e0)) (dep_get rfl e1)) (dep_get rfl e6)) (dep_get rfl e7))
          refine hs_call ha rfl rfl (cl_39 rfl rfl rfl rfl) ((by have key := rdepth_any rv sides _ _ _ vs ss y.place (y.hours.lo + (n : Nat)) w1 B (hr.below ((Below.on hbw hb hbw.size).mono hB)) (hs.below ((Below.on hbw hb hbw.size).mono hB)) (Nat.le_trans hB (Below.on hbw hb hbw.size).size) hS (by omega) (by omega) (by omega) (by omega); rw [← ed] at key; exact key)) rfl ?_
          rintro e w' ⟨rfl, hb'⟩
          exact ⟨_, rfl, hb', rfl⟩
        | 9, _ =>
          intro val w1 a hb ha hd
          have ha := ha.sub (Sub.nil _)
          exact hs_newP ha rfl rfl al_23 (fun g w' hq _ _ => ⟨g, rfl, hq⟩)
        | k + 10, h => exact absurd h (by omega)
      · intro val wR9 hb halc hd
        have e0 : val 0 = .agg #[.slice A rv.reaches.length c, .slice A' rv.shoals.length c'] := hd 0 (by omega)
        have e1 : val 1 = .slice D sides.length d := hd 1 (by omega)
        have e2 : val 2 = .slice (some ⟨bc, oc, none⟩) l.length cw := hd 2 (by omega)
        have e3 : val 3 = .int .i64 (i : Nat) := hd 3 (by omega)
        have e4 : val 4 = .pointer (some ⟨bc, oc + i * 3, none⟩) := hd 4 (by omega)
        have e5 : val 5 = .pointer (some ⟨bc, oc + i * 3, none⟩) := hd 5 (by omega)
        have e6 : val 6 = .int .i64 y.place := hd 6 (by omega)
        have e7 : val 7 = .int .i64 (y.hours.lo + (n : Nat)) := hd 7 (by omega)
        have e8 : val 8 = .agg #[.int .i64 dd.lo, .int .i64 dd.hi] := hd 8 (by omega)
        obtain ⟨ga9_9, e9, qa9_9⟩ := hd 9 (by omega)
        refine EL.ends (cs := [.agg #[.slice A rv.reaches.length c, .slice A' rv.shoals.length c'], .slice D sides.length d, .slice (some ⟨bc, oc, none⟩) l.length cw, .int .i64 (i : Nat), .pointer (some ⟨bc, oc + i * 3, none⟩), .pointer (some ⟨bc, oc + i * 3, none⟩), .int .i64 y.place, .int .i64 (y.hours.lo + (n : Nat)), .agg #[.int .i64 dd.lo, .int .i64 dd.hi], .pointer (some ⟨ga9_9, 0, none⟩)]) ⟨e0, e1, e2, e3, e4, e5, e6, e7, e8, e9, trivial⟩ rfl ?_
        replace q3 := q3.below hb q3.lt
        replace q1 := q1.below hb q1.lt
        replace q2 := q2.below hb q2.lt
        have bge5 := alc_ge halc (i := 9) rfl rfl e9
        have n3_5 : g3 ≠ ga9_9 := Nat.ne_of_lt (Nat.lt_of_lt_of_le lt_3 bge5)
        have n1_5 : g1 ≠ ga9_9 := Nat.ne_of_lt (Nat.lt_of_lt_of_le lt_1 bge5)
        have n2_5 : g2 ≠ ga9_9 := Nat.ne_of_lt (Nat.lt_of_lt_of_le lt_2 bge5)
        have bhbw_5 := Nat.le_trans hbw.size bge5
        replace hbw := Below.on hbw hb hbw.size
        clear hb
        refine EL.store rfl rfl qa9_9 sz_23 rfl rfl rfl rfl ?_
        intro w6 hq6 hg6
        replace q3 := q3.grown hg6 (fun h => n3_5 (Option.some.inj h))
        replace q1 := q1.grown hg6 (fun h => n1_5 (Option.some.inj h))
        replace q2 := q2.grown hg6 (fun h => n2_5 (Option.some.inj h))
        replace hbw := below_store hbw hg6 bhbw_5
        replace qa9_9 := hq6
        clear hg6 hq6
        refine EL.nil ?_
        refine EX.seq ?_
        refine EC.seq ?_
        refine EC.seq ?_
        refine EC.region ?_
        refine EL.val (fa_23_0 rfl) rfl ?_
        refine EL.val (ld_3 rfl (qa9_9.at (j := 0) rfl)) rfl ?_
        refine EL.val (fa_23_0 rfl) rfl ?_
        refine EL.val (ld_3 rfl (q3.at (j := 0) rfl)) rfl ?_
        by_cases hdl : dd.lo < s.lo
        ·
          rw [if_pos hdl] at hnx2
          refine EL.val (x_lss rfl rfl (by first | assumption | exact decide_eq_true (by omega))) rfl ?_
          refine EL.nil ?_
          refine EX.seq ?_
          refine EC.yes rfl ?_
          refine EC.region ?_
          refine EL.val (fa_23_0 rfl) rfl ?_
          refine EL.val (ld_3 rfl (qa9_9.at (j := 0) rfl)) rfl ?_
          refine EL.val (x_move rfl) rfl ?_
          refine EL.val (x_move rfl) rfl ?_
          refine EL.val (fa_23_0 rfl) rfl ?_
          refine EL.store rfl rfl q3 sz_3 rfl rfl rfl rfl ?_
          intro w7 hq7 hg7
          replace q1 := q1.grown hg7 (fun h => n1_3 (Option.some.inj h))
          replace q2 := q2.grown hg7 (fun h => n2_3 (Option.some.inj h))
          replace qa9_9 := qa9_9.grown hg7 (fun h => n3_5.symm (Option.some.inj h))
          replace hbw := below_store hbw hg7 bhbw_3
          replace q3 := hq7
          clear hg7 hq7
          refine EL.val (x_assign rfl) rfl ?_
          refine EL.val (x_assign rfl) rfl ?_
          refine EL.nil ?_
          refine EX.seq ?_
          refine EC.region ?_
          refine EL.val (x_move rfl) rfl ?_
          refine EL.val (fa_23_1 rfl) rfl ?_
          refine EL.val (ld_3 rfl (qa9_9.at (j := 1) rfl)) rfl ?_
          refine EL.val (mm_max rfl rfl rfl) rfl ?_
          refine EL.val (x_assign rfl) rfl ?_
          refine EL.nil ?_
          refine EX.blk ?_
          refine EX.seq ?_
          refine EC.region ?_
          refine EL.val (x_move rfl) rfl ?_
          refine EL.val (x_add rfl rfl (by first | assumption | exact IntWalk.i64_in _ ⟨by omega, by omega⟩)) rfl ?_
          refine EL.val (x_assign rfl) rfl ?_
          refine EL.nil ?_
          refine EX.roundD (n + 1, ⟨dd.lo, (i : Nat), y.hours.lo + (n : Nat), max s.most dd.hi⟩) ⟨by rw [show y.hours.lo + ((n + 1 : Nat) : Int) = y.hours.lo + ((n : Nat) : Int) + 1 by omega]; rfl, rfl, rfl, rfl, trivial⟩ (by repeat first | exact Sub.refl _ | refine sub_past rfl ?_ | refine sub_del rfl ?_ | refine sub_insL_nil ?_) ⟨by omega, hnx2.symm, q3, q1, q2, hbw⟩ (by simp only; omega)
        ·
          rw [if_neg hdl] at hnx2
          refine EL.val (x_lss rfl rfl (by first | assumption | exact decide_eq_false (by omega))) rfl ?_
          refine EL.nil ?_
          refine EX.seq ?_
          refine EC.no rfl ?_
          refine EC.skip ?_
          refine EX.seq ?_
          refine EC.region ?_
          refine EL.val (x_move rfl) rfl ?_
          refine EL.val (fa_23_1 rfl) rfl ?_
          refine EL.val (ld_3 rfl (qa9_9.at (j := 1) rfl)) rfl ?_
          refine EL.val (mm_max rfl rfl rfl) rfl ?_
          refine EL.val (x_assign rfl) rfl ?_
          refine EL.nil ?_
          refine EX.blk ?_
          refine EX.seq ?_
          refine EC.region ?_
          refine EL.val (x_move rfl) rfl ?_
          refine EL.val (x_add rfl rfl (by first | assumption | exact IntWalk.i64_in _ ⟨by omega, by omega⟩)) rfl ?_
          refine EL.val (x_assign rfl) rfl ?_
          refine EL.nil ?_
          refine EX.roundD (n + 1, ⟨s.lo, s.pass, s.hour, max s.most dd.hi⟩) ⟨by rw [show y.hours.lo + ((n + 1 : Nat) : Int) = y.hours.lo + ((n : Nat) : Int) + 1 by omega]; rfl, rfl, rfl, rfl, trivial⟩ (by repeat first | exact Sub.refl _ | refine sub_past rfl ?_ | refine sub_del rfl ?_ | refine sub_insL_nil ?_) ⟨by omega, hnx2.symm, q3, q1, q2, hbw⟩ (by simp only; omega)
    ·
      obtain rfl : n = hoursN y.hours := by omega
      refine EC.seq ?_
      refine EC.seq ?_
      refine EC.region ?_
      refine EL.val (x_move rfl) rfl ?_
      refine EL.val (x_move rfl) rfl ?_
      refine EL.val (x_move rfl) rfl ?_
      refine EL.val (ix_99 rfl rfl hlt) rfl ?_
      refine EL.val (fa_101_1 rfl) rfl ?_
      refine EL.val (fa_23_1 rfl) rfl ?_
      refine EL.val (ld_3 rfl (below_load hbw cc.c2)) rfl ?_
      refine EL.val (x_leq rfl rfl (by first | assumption | exact decide_eq_false (by omega))) rfl ?_
      refine EL.nil ?_
      refine EX.seq ?_
      refine EC.no rfl ?_
      refine EC.exit ?_
      refine EX.seq_exit ?_
      refine EX.seq_exit ?_
      refine EX.blk_here ?_
      refine EX.seq ?_
      refine EC.region ?_
      refine EL.val (fa_23_1 rfl) rfl ?_
      refine EL.val (ld_3 rfl (q3.at (j := 1) rfl)) rfl ?_
      refine EL.val (x_move rfl) rfl ?_
      refine EL.val (mm_min rfl rfl rfl) rfl ?_
      refine EL.val (fa_23_1 rfl) rfl ?_
      refine EL.store rfl rfl q3 sz_3 rfl rfl rfl rfl ?_
      intro w8 hq8 hg8
      replace q1 := q1.grown hg8 (fun h => n1_3 (Option.some.inj h))
      replace q2 := q2.grown hg8 (fun h => n2_3 (Option.some.inj h))
      replace hbw := below_store hbw hg8 bhbw_3
      replace q3 := hq8
      clear hg8 hq8
      refine EL.nil ?_
      refine EX.blk ?_
      refine EX.seq ?_
      refine EC.region ?_
      refine EL.val (x_move rfl) rfl ?_
      refine EL.val (x_add rfl rfl (by first | assumption | exact IntWalk.i64_in _ ⟨by omega, by omega⟩)) rfl ?_
      refine EL.val (x_assign rfl) rfl ?_
      refine EL.nil ?_
      refine EX.roundD (i + 1, ⟨s.lo, min st.hi s.most, s.pass, s.hour⟩) ⟨rfl, rfl, rfl, trivial⟩ (by repeat first | exact Sub.refl _ | refine sub_past rfl ?_ | refine sub_del rfl ?_ | refine sub_insL_nil ?_) ⟨hlt, by rw [hnx, hs_], q3, q1, q2, hbw⟩ (by simp only; omega)
  ·
    obtain rfl : i = l.length := by omega
    refine EC.seq ?_
    refine EC.seq ?_
    refine EC.region ?_
    refine EL.val (x_move rfl) rfl ?_
    refine EL.val (x_move rfl) rfl ?_
    refine EL.val (ln_99 rfl) rfl ?_
    refine EL.val (x_lss rfl rfl (by first | assumption | exact decide_eq_false (by omega))) rfl ?_
    refine EL.nil ?_
    refine EX.seq ?_
    refine EC.no rfl ?_
    refine EC.exit ?_
    refine EX.seq_exit ?_
    refine EX.seq_exit ?_
    refine EX.blk_here ?_
    refine EX.seq ?_
    refine EC.seq ?_
    refine EC.region ?_
    refine EL.val (ld_23 rfl (q3.at (j := 0) rfl) (q3.at (j := 1) rfl)) rfl ?_
    refine EL.val (x_move rfl) rfl ?_
    refine EL.val (x_move rfl) rfl ?_
    refine EL.store rfl rfl q2 sz_23 rfl rfl rfl rfl ?_
    intro w9 hq9 hg9
    replace q3 := q3.grown hg9 (fun h => n2_3.symm (Option.some.inj h))
    replace q1 := q1.grown hg9 (fun h => n1_2 (Option.some.inj h))
    replace hbw := below_store hbw hg9 bhbw_2
    replace q2 := hq9
    clear hg9 hq9
    refine EL.val (x_assign rfl) rfl ?_
    refine EL.val (x_assign rfl) rfl ?_
    refine EL.nil ?_
    refine EX.seq ?_
    refine EC.ret ?_
    exact EX.done (resc2 rfl rfl rfl rfl (lv_23 (q2.at rfl) (q2.at rfl))) ⟨by rw [hst], hbw⟩

theorem pass_info : (Try.prog.info? 101).map (fun i => (i.zero, i.size, i.bytes)) = some (some (.agg #[.int .i64 0, .int .i64 0, .int .i64 0]), 3, 24) := by kernel_rfl
theorem pass_elem : Elem Try.prog 99 101 3 24 := Elem.mk' Try.underlying99 pass_info rfl (by omega)

set_option maxHeartbeats 8000000 in
set_option maxRecDepth 100000 in
theorem shallow_law (rv : River) (sides : List (List Bd)) (v u s : Value) (vs ss : List Value) (l : List Pass) (vl : Value) (w : World) (B : Nat) (hr : RdRiver w B v u rv vs) (hs : RdSides w B s sides ss) (hB : B ≤ w.heap.size) (hw : Rd w B 3 vl l.length (passesC l)) :
    Calls Try.prog 13 #[.agg #[v, u, s], vl] w fun e w' => e = .returned (.bool true) ∧ Below w.heap.size w w' := by
  obtain ⟨Aw, cw, rfl, _⟩ := hw.shape
  have hw0 := hw
  obtain ⟨A, c, rfl, _⟩ := hr.reaches.shape
  obtain ⟨A', c', rfl, _⟩ := hr.shoals.shape
  obtain ⟨D, d, rfl, _⟩ := hs.rd.shape
  have hbw := Below.refl w.heap.size w
  refine EC.enter 147 Try.func13 rfl rfl rfl ?_
  refine EC.seq ?_
  refine EC.region ?_
  refine EL.newP (bx_54 rfl) rfl ?_
  intro g1 w1 q1 hb1 hg1 hl1
  have bhbw_1 := Nat.le_trans hbw.size hg1
  replace hbw := Below.on hbw hb1 hbw.size
  clear hb1 hg1 hl1
  refine EL.val (x_assign rfl) rfl ?_
  refine EL.nil ?_
  refine EX.seq ?_
  refine EC.seq ?_
  refine EC.seq ?_
  refine EC.region ?_
  refine EL.val (ld_54 rfl (q1.at (j := 0) rfl) (q1.at (j := 1) rfl) (q1.at (j := 2) rfl)) rfl ?_
  refine EL.call (cl_23 rfl) rfl (large_any rv sides _ _ _ vs ss _ _ (hr.below (hbw.mono hB)) (hs.below (hbw.mono hB)) (Nat.le_trans hB hbw.size)) ?_
  rintro e w_l ⟨rfl | ⟨rfl, hfine⟩, hc_⟩
  ·
    refine ⟨_, rfl, ?_⟩
    replace q1 := q1.below hc_ q1.lt
    replace hbw := Below.on hbw hc_ hbw.size
    clear hc_
    refine EL.val (x_move rfl) rfl ?_
    refine EL.skip rfl rfl rfl rfl ?_
    refine EL.skip rfl rfl rfl rfl ?_
    refine EL.skip rfl rfl rfl rfl ?_
    refine EL.val (x_pick_t rfl rfl) rfl ?_
    refine EL.nil ?_
    refine EX.seq ?_
    refine EC.yes rfl ?_
    refine EC.seq ?_
    refine EC.region ?_
    refine EL.call cl_16 rfl (known_any _) ?_
    rintro e w2 ⟨rfl, hc2⟩
    refine ⟨_, rfl, ?_⟩
    replace q1 := q1.below hc2 q1.lt
    replace hbw := Below.on hbw hc2 hbw.size
    clear hc2
    refine EL.val (x_assign rfl) rfl ?_
    refine EL.nil ?_
    refine EX.seq ?_
    refine EC.ret ?_
    refine EX.seq_ret ?_
    exact EX.done (res1 rfl rfl) ⟨rfl, hbw⟩
  ·
    have f1 := hfine.nreaches
    have f2 := hfine.nshoals
    have f3 := hfine.curves
    have f4 := hfine.sidesB
    have f5 := hfine.nsides
    refine ⟨_, rfl, ?_⟩
    replace q1 := q1.below hc_ q1.lt
    replace hbw := Below.on hbw hc_ hbw.size
    clear hc_
    refine EL.val (x_move rfl) rfl ?_
    refine EL.valg rfl rfl (x_move rfl) rfl ?_
    refine EL.valg rfl rfl (ln_99 rfl) rfl ?_
    by_cases h70 : 70 < l.length
    ·
      refine EL.valg rfl rfl (x_gtr rfl rfl (by first | assumption | exact decide_eq_true (by omega))) rfl ?_
      refine EL.val (x_pick_f rfl rfl) rfl ?_
      refine EL.nil ?_
      refine EX.seq ?_
      refine EC.yes rfl ?_
      refine EC.seq ?_
      refine EC.region ?_
      refine EL.call cl_16 rfl (known_any _) ?_
      rintro e w3 ⟨rfl, hc3⟩
      refine ⟨_, rfl, ?_⟩
      replace q1 := q1.below hc3 q1.lt
      replace hbw := Below.on hbw hc3 hbw.size
      clear hc3
      refine EL.val (x_assign rfl) rfl ?_
      refine EL.nil ?_
      refine EX.seq ?_
      refine EC.ret ?_
      refine EX.seq_ret ?_
      exact EX.done (res1 rfl rfl) ⟨rfl, hbw⟩
    ·
      refine EL.valg rfl rfl (x_gtr rfl rfl (by first | assumption | exact decide_eq_false (by omega))) rfl ?_
      refine EL.val (x_pick_f rfl rfl) rfl ?_
      refine EL.nil ?_
      refine EX.seq ?_
      refine EC.no rfl ?_
      refine EC.skip ?_
      refine EX.seq ?_
      refine EC.seq ?_
      refine EC.region ?_
      refine EL.val (x_assign rfl) rfl ?_
      refine EL.nil ?_
      refine EX.seq ?_
      refine EC.seq ?_
      refine EC.seq ?_
      refine EC.region ?_
      refine EL.val (x_assign rfl) rfl ?_
      refine EL.nil ?_
      refine EX.seq ?_
      refine EC.block ?_
      refine EC.loopD [5, 6, 7, 26, 27, 28, 29, 30, 31, 32, 33, 34, 35, 36, 37, 38, 39, 40, 41, 42, 43, 44, 45] (fun x : Nat × Int => [(6, .int .i64 (x.1 : Nat)), (5, .int .i64 x.2)]) (fun x W => x.1 ≤ l.length ∧ (0 ≤ x.2 ∧ x.2 ≤ 400 * (x.1 : Nat)) ∧ Blk W g1 54 #[.slice A rv.reaches.length c, .slice A' rv.shoals.length c', .slice D sides.length d] ∧ Below w.heap.size w W) (fun x => l.length - x.1) (0, 0) ⟨Nat.zero_le _, by simp, q1, hbw⟩ ⟨rfl, rfl, trivial⟩ ?_
      clear q1 hbw
      rintro ⟨i, m⟩ wr ⟨hi, hm, q1, hbw⟩
      simp only at hi hm
      by_cases hlt : i < l.length
      ·
        obtain ⟨bc, oc, rfl, _, cc⟩ := passes_cells l i hlt _ _ _ _ _ hw
        obtain ⟨y, ey⟩ : ∃ y, y = l.getD i pass0 := ⟨_, rfl⟩
        rw [← ey] at cc
        refine EC.seq ?_
        refine EC.seq ?_
        refine EC.region ?_
        refine EL.val (x_move rfl) rfl ?_
        refine EL.val (x_move rfl) rfl ?_
        refine EL.val (ln_99 rfl) rfl ?_
        refine EL.val (x_lss rfl rfl (by first | assumption | exact decide_eq_true (by omega))) rfl ?_
        refine EL.nil ?_
        refine EX.seq ?_
        refine EC.yes rfl ?_
        refine EC.skip ?_
        refine EX.seq ?_
        refine EC.seq ?_
        refine EC.block ?_
        refine EC.seq ?_
        refine EC.region ?_
        refine EL.val (x_move rfl) rfl ?_
        refine EL.val (x_move rfl) rfl ?_
        refine EL.val (ix_99 rfl rfl hlt) rfl ?_
        refine EL.val (fa_101_1 rfl) rfl ?_
        refine EL.val (ld_23 rfl (below_load hbw cc.c1) (below_load hbw cc.c2)) rfl ?_
        refine EL.newP al_23 rfl ?_
        intro g4 w4 q4 hb4 hg4 hl4
        have n1_4 : g1 ≠ g4 := Nat.ne_of_lt (Nat.lt_of_lt_of_le q1.lt hg4)
        have bhbw_4 := Nat.le_trans hbw.size hg4
        replace q1 := q1.below hb4 q1.lt
        replace hbw := Below.on hbw hb4 hbw.size
        clear hb4 hg4 hl4
        refine EL.store rfl rfl q4 sz_23 rfl rfl rfl rfl ?_
        intro w5 hq5 hg5
        replace q1 := q1.grown hg5 (fun h => n1_4 (Option.some.inj h))
        replace hbw := below_store hbw hg5 bhbw_4
        replace q4 := hq5
        clear hg5 hq5
        refine EL.nil ?_
        refine EX.seq ?_
        refine EC.seq ?_
        refine EC.region ?_
        refine EL.val (ld_23 rfl (q4.at (j := 0) rfl) (q4.at (j := 1) rfl)) rfl ?_
        cases hv : bdOk 0 400 y.hours
        ·
          refine EL.call (cl_30 rfl rfl rfl) rfl (rvalid_eq hv _) ?_
          rintro e w6 ⟨rfl, hc6⟩
          refine ⟨_, rfl, ?_⟩
          replace q1 := q1.below hc6 q1.lt
          replace q4 := q4.below hc6 q4.lt
          replace hbw := Below.on hbw hc6 hbw.size
          clear hc6
          refine EL.nil ?_
          refine EX.seq ?_
          refine EC.no rfl ?_
          refine EC.skip ?_
          refine EX.blk ?_
          refine EX.seq ?_
          refine EC.region ?_
          refine EL.val (x_move rfl) rfl ?_
          refine EL.val (x_add rfl rfl (by first | assumption | exact IntWalk.i64_in _ ⟨by omega, by omega⟩)) rfl ?_
          refine EL.val (x_assign rfl) rfl ?_
          refine EL.nil ?_
          refine EX.roundD (i + 1, m) ⟨rfl, rfl, trivial⟩ (by repeat first | exact Sub.refl _ | refine sub_past rfl ?_ | refine sub_del rfl ?_ | refine sub_insL_nil ?_) ⟨hlt, by simp only; omega, q1, hbw⟩ (by simp only; omega)
        ·
          have hv_ := bdOk_iff.1 hv
          refine EL.call (cl_30 rfl rfl rfl) rfl (rvalid_eq hv _) ?_
          rintro e w7 ⟨rfl, hc7⟩
          refine ⟨_, rfl, ?_⟩
          replace q1 := q1.below hc7 q1.lt
          replace q4 := q4.below hc7 q4.lt
          replace hbw := Below.on hbw hc7 hbw.size
          clear hc7
          refine EL.nil ?_
          refine EX.seq ?_
          refine EC.yes rfl ?_
          refine EC.region ?_
          refine EL.val (x_move rfl) rfl ?_
          refine EL.val (fa_23_1 rfl) rfl ?_
          refine EL.val (ld_3 rfl (q4.at (j := 1) rfl)) rfl ?_
          refine EL.val (fa_23_0 rfl) rfl ?_
          refine EL.val (ld_3 rfl (q4.at (j := 0) rfl)) rfl ?_
          refine EL.val (x_sub rfl rfl (by first | assumption | exact IntWalk.i64_in _ ⟨by omega, by omega⟩)) rfl ?_
          refine EL.val (x_add rfl rfl (by first | assumption | exact IntWalk.i64_in _ ⟨by omega, by omega⟩)) rfl ?_
          refine EL.val (x_assign rfl) rfl ?_
          refine EL.nil ?_
          refine EX.blk ?_
          refine EX.seq ?_
          refine EC.region ?_
          refine EL.val (x_move rfl) rfl ?_
          refine EL.val (x_add rfl rfl (by first | assumption | exact IntWalk.i64_in _ ⟨by omega, by omega⟩)) rfl ?_
          refine EL.val (x_assign rfl) rfl ?_
          refine EL.nil ?_
          refine EX.roundD (i + 1, m + (y.hours.hi - y.hours.lo)) ⟨rfl, rfl, trivial⟩ (by repeat first | exact Sub.refl _ | refine sub_past rfl ?_ | refine sub_del rfl ?_ | refine sub_insL_nil ?_) ⟨hlt, by simp only; omega, q1, hbw⟩ (by simp only; omega)
      ·
        refine EC.seq ?_
        refine EC.seq ?_
        refine EC.region ?_
        refine EL.val (x_move rfl) rfl ?_
        refine EL.val (x_move rfl) rfl ?_
        refine EL.val (ln_99 rfl) rfl ?_
        refine EL.val (x_lss rfl rfl (by first | assumption | exact decide_eq_false (by omega))) rfl ?_
        refine EL.nil ?_
        refine EX.seq ?_
        refine EC.no rfl ?_
        refine EC.exit ?_
        refine EX.seq_exit ?_
        refine EX.seq_exit ?_
        refine EX.blk_here ?_
        refine EX.seq ?_
        refine EC.seq ?_
        refine EC.seq ?_
        refine EC.region ?_
        refine EL.val (x_move rfl) rfl ?_
        by_cases hmany : 2000 < m
        ·
          refine EL.val (x_gtr rfl rfl (by first | assumption | exact decide_eq_true (by omega))) rfl ?_
          refine EL.nil ?_
          refine EX.seq ?_
          refine EC.yes rfl ?_
          refine EC.seq ?_
          refine EC.region ?_
          refine EL.call cl_16 rfl (known_any _) ?_
          rintro e w8 ⟨rfl, hc8⟩
          refine ⟨_, rfl, ?_⟩
          replace q1 := q1.below hc8 q1.lt
          replace hbw := Below.on hbw hc8 hbw.size
          clear hc8
          refine EL.val (x_assign rfl) rfl ?_
          refine EL.nil ?_
          refine EX.seq ?_
          refine EC.ret ?_
          refine EX.seq_ret ?_
          exact EX.done (res1 rfl rfl) ⟨rfl, hbw⟩
        ·
          refine EL.val (x_gtr rfl rfl (by first | assumption | exact decide_eq_false (by omega))) rfl ?_
          refine EL.nil ?_
          refine EX.seq ?_
          refine EC.no rfl ?_
          refine EC.skip ?_
          refine EX.seq ?_
          refine EC.seq ?_
          refine EC.region ?_
          have lo_1 := q1.lt
          have sz_hbw := hbw.size
          refine EL.newS bs_99_0 rfl ?_
          intro g9 w9 q9 hb9 hg9 hl9
          have n1_9 : g1 ≠ g9 := Nat.ne_of_lt (Nat.lt_of_lt_of_le q1.lt hg9)
          have bhbw_9 := Nat.le_trans hbw.size hg9
          replace q1 := q1.below hb9 q1.lt
          replace hbw := Below.on hbw hb9 hbw.size
          clear hb9 hl9
          have oin := own_empty (base := wr.heap.size) 3 q9 hg9
          refine EL.val (x_move rfl) rfl ?_
          refine EL.push pass_elem rfl rfl oin (hw.below (hbw.mono hB)) (passesC_one _) (by omega) rfl (Nat.le_trans hg9 (Nat.le_of_lt q9.lt)) rfl ?_
          intro vin w10 ho hgr10 hb10 _
          replace q1 := q1.below hb10 lo_1
          replace hbw := hbw.trans (hb10.mono sz_hbw)
          rw [Nat.zero_add, List.nil_append] at ho
          obtain ⟨Aho, cho, ei, _⟩ := (Rd.of_own ho).shape
          subst ei
          clear oin
          refine EL.val (x_assign rfl) rfl ?_
          refine EL.nil ?_
          refine EX.seq ?_
          refine EC.seq ?_
          have lt_1 := q1.lt
          refine EC.regionS [[], [0], [0, 1], [], [3], [0, 1, 2, 3, 4], [], [0, 1, 2, 3, 4, 5, 6], [0, 1, 2, 3, 4, 5, 6, 7], [0, 1, 2, 3, 4, 5, 6, 7, 8], [0, 1, 2, 3, 4, 5, 6, 7, 8], [0, 1, 2, 3, 4, 5, 6, 7, 8], [0, 1, 2, 3, 4, 5, 6, 7, 8], [], [0, 1, 2, 3, 4, 5, 6, 7, 8, 9, 13], [0, 1, 2, 3, 4, 5, 6, 7, 8, 9, 10, 13, 14], [0, 1, 2, 3, 4, 5, 6, 7, 8, 9, 10, 11, 13, 14, 15], [0, 1, 2, 3, 4, 5, 6, 7, 8, 9, 10, 11, 12, 13, 14, 15, 16]] 17 [13] [14] (fun _ w_ => Below w10.heap.size w10 w_) (phiS (fun i_ r => match i_ with | 0 => r 0 = .pointer (some ⟨g1, 0, none⟩) | 1 => r 1 = .agg #[.slice A rv.reaches.length c, .slice A' rv.shoals.length c'] | 3 => r 3 = .pointer (some ⟨g1, 2, none⟩) | 4 => r 4 = .slice D sides.length d | 6 => r 6 = .slice Aho l.length cho | 7 => r 7 = .tuple #[.agg #[.int .i64 (shaRes rv sides l).lo, .int .i64 (shaRes rv sides l).hi], .int .i64 (shaRes rv sides l).pass, .int .i64 (shaRes rv sides l).hour, .int .i64 (shaErr rv sides l)] | 8 => r 8 = .tuple #[.agg #[.int .i64 (shaRes rv sides l).lo, .int .i64 (shaRes rv sides l).hi], .int .i64 (shaRes rv sides l).pass, .int .i64 (shaRes rv sides l).hour, .int .i64 (shaErr rv sides l)] | 9 => r 9 = .agg #[.int .i64 (shaRes rv sides l).lo, .int .i64 (shaRes rv sides l).hi] | 10 => r 10 = .int .i64 (shaRes rv sides l).pass | 11 => r 11 = .int .i64 (shaRes rv sides l).hour | 12 => r 12 = .int .i64 (shaErr rv sides l) | 15 => r 15 = .int .i64 (shaRes rv sides l).pass | 16 => r 16 = .int .i64 (shaRes rv sides l).hour | _ => True) [(2, fun fl r w_ => fl 14 = false → (∃ a b vs, r 2 = .agg #[a, b] ∧ RdRiver w_ w_.heap.size a b rv vs)), (5, fun fl r w_ => fl 14 = false → (∃ v ss, r 5 = v ∧ RdSides w_ w_.heap.size v sides ss)), (13, fun fl r w_ => ∃ g_, r 13 = .pointer (some ⟨g_, 0, none⟩) ∧ w10.heap.size ≤ g_ ∧ (fl 14 = false → Blk w_ g_ 23 #[.int .i64 0, .int .i64 0])), (14, fun _ r w_ => ∃ g_, r 13 = .pointer (some ⟨g_, 0, none⟩) ∧ Blk w_ g_ 23 #[.int .i64 (shaRes rv sides l).lo, .int .i64 (shaRes rv sides l).hi])]) (by kernel_rfl) rfl rfl (by intro i hi; simp at hi; first | (subst hi; exact ⟨by simp, by omega⟩) | (rcases hi with rfl | rfl | rfl <;> exact ⟨by simp, by omega⟩) | (rcases hi with rfl | rfl <;> exact ⟨by simp, by omega⟩)) (base_below w10) (phiS_cons (monoS_till mono_riv) (phiS_cons (monoS_till mono_sid) (phiS_cons monoS_alloc (phiS_cons monoS_store (phiS_nil))))) (fun i_ hi_ hs_ => ?_) (fun i_ hi_ => ?_) ?_
          · match i_, hi_ with
            | 0, _ =>
              intro val fl w1 a hb ha hd hfl
              have ha := ha.sub (Sub.ins (d := 2) (Sub.nil _) rfl)
              exact ss_val ha rfl rfl (fa_54_0 rfl) rfl rfl
            | 1, _ =>
              intro val fl w1 a hb ha hd hfl
              have e0 : val 0 = .pointer (some ⟨g1, 0, none⟩) := hd 0 (memB_mem.1 rfl)
              have ha := ha.sub (Sub.ins (d := 53) (Sub.nil _) (dep_get rfl e0))
              exact ss_val ha rfl rfl (ld_47 rfl ((q1.below hb q1.lt).at (j := 0) rfl) ((q1.below hb q1.lt).at (j := 1) rfl)) rfl rfl
            | 2, _ =>
              intro val fl w1 a hb ha hd hfl
              have e1 : val 1 = .agg #[.slice A rv.reaches.length c, .slice A' rv.shoals.length c'] := hd 1 (memB_mem.1 rfl)
              have ha := ha.sub (Sub.ins (d := 54) (Sub.nil _) (dep_get rfl e1))
              refine ss_call ha rfl rfl (cl_24 rfl) (copied_any rv _ _ vs _ B (hr.below ((Below.on hbw hb hbw.size).mono hB)) (Nat.le_trans hB (Below.on hbw hb hbw.size).size) (by omega) (by omega) f3) rfl ?_
              rintro e w' ⟨⟨v1, u1, vs1, rfl, hcp⟩, hb'⟩
              exact ⟨_, rfl, hb', fun _ => ⟨_, _, _, rfl, hcp⟩⟩
            | 3, _ =>
              intro val fl w1 a hb ha hd hfl
              have ha := ha.sub (Sub.ins (d := 2) (Sub.nil _) rfl)
              exact ss_val ha rfl rfl (fa_54_1 rfl) rfl rfl
            | 4, _ =>
              intro val fl w1 a hb ha hd hfl
              have e3 : val 3 = .pointer (some ⟨g1, 2, none⟩) := hd 3 (memB_mem.1 rfl)
              have ha := ha.sub (Sub.ins (d := 56) (Sub.nil _) (dep_get rfl e3))
              exact ss_val ha rfl rfl (ld_52 rfl ((q1.below hb q1.lt).at (j := 2) rfl)) rfl rfl
            | 5, _ =>
              intro val fl w1 a hb ha hd hfl
              have e4 : val 4 = .slice D sides.length d := hd 4 (memB_mem.1 rfl)
              have ha := ha.sub (Sub.ins (d := 57) (Sub.nil _) (dep_get rfl e4))
              refine ss_call ha rfl rfl (cl_34 rfl) (forecast_any sides _ ss _ B (hs.below ((Below.on hbw hb hbw.size).mono hB)) (Nat.le_trans hB (Below.on hbw hb hbw.size).size) (by omega) f4) rfl ?_
              rintro e w' ⟨⟨v1, ss1, rfl, hcp⟩, hb'⟩
              exact ⟨_, rfl, hb', fun _ => ⟨_, _, rfl, hcp⟩⟩
            | 6, _ =>
              intro val fl w1 a hb ha hd hfl
              have ha := ha.sub (Sub.ins (d := 8) (Sub.nil _) rfl)
              exact ss_val ha rfl rfl (x_move rfl) rfl rfl
            | 7, _ =>
              intro val fl w1 a hb ha hd hfl
              obtain ⟨a2_, b2_, vs2_, e2, q2_⟩ := hd 2 (memB_mem.1 rfl) (hfl 14 (by simp) (memB_mem.1 rfl))
              obtain ⟨v5_, ss5_, e5, q5_⟩ := hd 5 (memB_mem.1 rfl) (hfl 14 (by simp) (memB_mem.1 rfl))
              have e6 : val 6 = .slice Aho l.length cho := hd 6 (memB_mem.1 rfl)
              have ha := ha.sub (Sub.ins (d := 59) (Sub.ins (d := 58) (Sub.ins (d := 55) (Sub.nil _) (dep_get rfl e2)) (dep_get rfl e5)) (dep_get rfl e6))
              refine ss_call ha rfl rfl (cl_51 rfl rfl rfl) (shallow_any rv sides _ _ _ _ _ l _ _ w1.heap.size q2_ q5_ (Nat.le_refl _) (Rd.of_own (own_below ho hb (Nat.le_refl _))) (by omega) (by omega) f3 (by omega) f4) rfl ?_
              rintro e w' ⟨rfl, hb'⟩
              exact ⟨_, rfl, hb', rfl⟩
            | 8, _ =>
              intro val fl w1 a hb ha hd hfl
              have e7 : val 7 = .tuple #[.agg #[.int .i64 (shaRes rv sides l).lo, .int .i64 (shaRes rv sides l).hi], .int .i64 (shaRes rv sides l).pass, .int .i64 (shaRes rv sides l).hour, .int .i64 (shaErr rv sides l)] := hd 7 (memB_mem.1 rfl)
              have ha := ha.sub (Sub.ins (d := 60) (Sub.nil _) (dep_get rfl e7))
              exact ss_val ha rfl rfl (x_move rfl) rfl rfl
            | 9, _ =>
              intro val fl w1 a hb ha hd hfl
              have e8 : val 8 = .tuple #[.agg #[.int .i64 (shaRes rv sides l).lo, .int .i64 (shaRes rv sides l).hi], .int .i64 (shaRes rv sides l).pass, .int .i64 (shaRes rv sides l).hour, .int .i64 (shaErr rv sides l)] := hd 8 (memB_mem.1 rfl)
              have ha := ha.sub (Sub.ins (d := 52) (Sub.nil _) (dep_get rfl e8))
              exact ss_val ha rfl rfl (x_extract rfl rfl) rfl rfl
            | 10, _ =>
              intro val fl w1 a hb ha hd hfl
              have e8 : val 8 = .tuple #[.agg #[.int .i64 (shaRes rv sides l).lo, .int .i64 (shaRes rv sides l).hi], .int .i64 (shaRes rv sides l).pass, .int .i64 (shaRes rv sides l).hour, .int .i64 (shaErr rv sides l)] := hd 8 (memB_mem.1 rfl)
              have ha := ha.sub (Sub.ins (d := 52) (Sub.nil _) (dep_get rfl e8))
              exact ss_val ha rfl rfl (x_extract rfl rfl) rfl rfl
            | 11, _ =>
              intro val fl w1 a hb ha hd hfl
              have e8 : val 8 = .tuple #[.agg #[.int .i64 (shaRes rv sides l).lo, .int .i64 (shaRes rv sides l).hi], .int .i64 (shaRes rv sides l).pass, .int .i64 (shaRes rv sides l).hour, .int .i64 (shaErr rv sides l)] := hd 8 (memB_mem.1 rfl)
              have ha := ha.sub (Sub.ins (d := 52) (Sub.nil _) (dep_get rfl e8))
              exact ss_val ha rfl rfl (x_extract rfl rfl) rfl rfl
            | 12, _ =>
              intro val fl w1 a hb ha hd hfl
              have e8 : val 8 = .tuple #[.agg #[.int .i64 (shaRes rv sides l).lo, .int .i64 (shaRes rv sides l).hi], .int .i64 (shaRes rv sides l).pass, .int .i64 (shaRes rv sides l).hour, .int .i64 (shaErr rv sides l)] := hd 8 (memB_mem.1 rfl)
              have ha := ha.sub (Sub.ins (d := 52) (Sub.nil _) (dep_get rfl e8))
              exact ss_val ha rfl rfl (x_extract rfl rfl) rfl rfl
            | 13, _ =>
              intro val fl w1 a hb ha hd hfl
              have ha := ha.sub (Sub.nil _)
              exact ss_newP ha rfl rfl al_23 (fun g w' hq _ hge => ⟨g, rfl, Nat.le_trans hb.size hge, fun _ => hq⟩)
            | 14, _ =>
              exact absurd (by simp) hs_
            | 15, _ =>
              intro val fl w1 a hb ha hd hfl
              have e10 : val 10 = .int .i64 (shaRes rv sides l).pass := hd 10 (memB_mem.1 rfl)
              have ha := ha.sub (Sub.ins (d := 62) (Sub.nil _) (dep_get rfl e10))
              exact ss_val ha rfl rfl (x_assign rfl) rfl rfl
            | 16, _ =>
              intro val fl w1 a hb ha hd hfl
              have e11 : val 11 = .int .i64 (shaRes rv sides l).hour := hd 11 (memB_mem.1 rfl)
              have ha := ha.sub (Sub.ins (d := 63) (Sub.nil _) (dep_get rfl e11))
              exact ss_val ha rfl rfl (x_assign rfl) rfl rfl
            | k + 17, h => exact absurd h (by omega)
          · simp only [List.mem_singleton] at hi_; subst hi_
            intro val fl w1 a hb hfi ha hd hfl
            obtain ⟨g13_, e13, hg13_, q13_⟩ := hd 13 (memB_mem.1 rfl)
            change val 13 = _ at e13
            have e9 : val 9 = .agg #[.int .i64 (shaRes rv sides l).lo, .int .i64 (shaRes rv sides l).hi] := hd 9 (memB_mem.1 rfl)
            have ha := ha.sub (Sub.ins (d := 61) (Sub.ins (d := 9) (Sub.nil _) (dep_get rfl e13)) (dep_get rfl e9))
            refine ts_store ha rfl rfl rfl (q13_ hfi) sz_23 rfl rfl rfl rfl ?_
            intro w' hq hgr
            refine ⟨undef, rfl, hgr.size, below_store hb hgr hg13_, ⟨g13_, e13, hq⟩, fun j _ hj hn hA => ?_⟩
            exact phiS_cons_st (C := fun j => j ≠ 14 ∧ 14 ∉ clsAt [[], [0], [0, 1], [], [3], [0, 1, 2, 3, 4], [], [0, 1, 2, 3, 4, 5, 6], [0, 1, 2, 3, 4, 5, 6, 7], [0, 1, 2, 3, 4, 5, 6, 7, 8], [0, 1, 2, 3, 4, 5, 6, 7, 8], [0, 1, 2, 3, 4, 5, 6, 7, 8], [0, 1, 2, 3, 4, 5, 6, 7, 8], [], [0, 1, 2, 3, 4, 5, 6, 7, 8, 9, 13], [0, 1, 2, 3, 4, 5, 6, 7, 8, 9, 10, 13, 14], [0, 1, 2, 3, 4, 5, 6, 7, 8, 9, 10, 11, 13, 14, 15], [0, 1, 2, 3, 4, 5, 6, 7, 8, 9, 10, 11, 12, 13, 14, 15, 16]] j ∧ ∀ p ∈ [13], (p = j ∨ p ∈ clsAt [[], [0], [0, 1], [], [3], [0, 1, 2, 3, 4], [], [0, 1, 2, 3, 4, 5, 6], [0, 1, 2, 3, 4, 5, 6, 7], [0, 1, 2, 3, 4, 5, 6, 7, 8], [0, 1, 2, 3, 4, 5, 6, 7, 8], [0, 1, 2, 3, 4, 5, 6, 7, 8], [0, 1, 2, 3, 4, 5, 6, 7, 8], [], [0, 1, 2, 3, 4, 5, 6, 7, 8, 9, 13], [0, 1, 2, 3, 4, 5, 6, 7, 8, 9, 10, 13, 14], [0, 1, 2, 3, 4, 5, 6, 7, 8, 9, 10, 11, 13, 14, 15], [0, 1, 2, 3, 4, 5, 6, 7, 8, 9, 10, 11, 12, 13, 14, 15, 16]] j) → ∀ q ∈ [13], (q = 14 ∨ q ∈ clsAt [[], [0], [0, 1], [], [3], [0, 1, 2, 3, 4], [], [0, 1, 2, 3, 4, 5, 6], [0, 1, 2, 3, 4, 5, 6, 7], [0, 1, 2, 3, 4, 5, 6, 7, 8], [0, 1, 2, 3, 4, 5, 6, 7, 8], [0, 1, 2, 3, 4, 5, 6, 7, 8], [0, 1, 2, 3, 4, 5, 6, 7, 8], [], [0, 1, 2, 3, 4, 5, 6, 7, 8, 9, 13], [0, 1, 2, 3, 4, 5, 6, 7, 8, 9, 10, 13, 14], [0, 1, 2, 3, 4, 5, 6, 7, 8, 9, 10, 11, 13, 14, 15], [0, 1, 2, 3, 4, 5, 6, 7, 8, 9, 10, 11, 12, 13, 14, 15, 16]] 14) → p ≠ q → val p ≠ val q) (fun _ _ h => by rw [fset_eq] at h; cases h) (phiS_cons_st (C := fun j => j ≠ 14 ∧ 14 ∉ clsAt [[], [0], [0, 1], [], [3], [0, 1, 2, 3, 4], [], [0, 1, 2, 3, 4, 5, 6], [0, 1, 2, 3, 4, 5, 6, 7], [0, 1, 2, 3, 4, 5, 6, 7, 8], [0, 1, 2, 3, 4, 5, 6, 7, 8], [0, 1, 2, 3, 4, 5, 6, 7, 8], [0, 1, 2, 3, 4, 5, 6, 7, 8], [], [0, 1, 2, 3, 4, 5, 6, 7, 8, 9, 13], [0, 1, 2, 3, 4, 5, 6, 7, 8, 9, 10, 13, 14], [0, 1, 2, 3, 4, 5, 6, 7, 8, 9, 10, 11, 13, 14, 15], [0, 1, 2, 3, 4, 5, 6, 7, 8, 9, 10, 11, 12, 13, 14, 15, 16]] j ∧ ∀ p ∈ [13], (p = j ∨ p ∈ clsAt [[], [0], [0, 1], [], [3], [0, 1, 2, 3, 4], [], [0, 1, 2, 3, 4, 5, 6], [0, 1, 2, 3, 4, 5, 6, 7], [0, 1, 2, 3, 4, 5, 6, 7, 8], [0, 1, 2, 3, 4, 5, 6, 7, 8], [0, 1, 2, 3, 4, 5, 6, 7, 8], [0, 1, 2, 3, 4, 5, 6, 7, 8], [], [0, 1, 2, 3, 4, 5, 6, 7, 8, 9, 13], [0, 1, 2, 3, 4, 5, 6, 7, 8, 9, 10, 13, 14], [0, 1, 2, 3, 4, 5, 6, 7, 8, 9, 10, 11, 13, 14, 15], [0, 1, 2, 3, 4, 5, 6, 7, 8, 9, 10, 11, 12, 13, 14, 15, 16]] j) → ∀ q ∈ [13], (q = 14 ∨ q ∈ clsAt [[], [0], [0, 1], [], [3], [0, 1, 2, 3, 4], [], [0, 1, 2, 3, 4, 5, 6], [0, 1, 2, 3, 4, 5, 6, 7], [0, 1, 2, 3, 4, 5, 6, 7, 8], [0, 1, 2, 3, 4, 5, 6, 7, 8], [0, 1, 2, 3, 4, 5, 6, 7, 8], [0, 1, 2, 3, 4, 5, 6, 7, 8], [], [0, 1, 2, 3, 4, 5, 6, 7, 8, 9, 13], [0, 1, 2, 3, 4, 5, 6, 7, 8, 9, 10, 13, 14], [0, 1, 2, 3, 4, 5, 6, 7, 8, 9, 10, 11, 13, 14, 15], [0, 1, 2, 3, 4, 5, 6, 7, 8, 9, 10, 11, 12, 13, 14, 15, 16]] 14) → p ≠ q → val p ≠ val q) (fun _ _ h => by rw [fset_eq] at h; cases h) (phiS_cons_st (C := fun j => j ≠ 14 ∧ 14 ∉ clsAt [[], [0], [0, 1], [], [3], [0, 1, 2, 3, 4], [], [0, 1, 2, 3, 4, 5, 6], [0, 1, 2, 3, 4, 5, 6, 7], [0, 1, 2, 3, 4, 5, 6, 7, 8], [0, 1, 2, 3, 4, 5, 6, 7, 8], [0, 1, 2, 3, 4, 5, 6, 7, 8], [0, 1, 2, 3, 4, 5, 6, 7, 8], [], [0, 1, 2, 3, 4, 5, 6, 7, 8, 9, 13], [0, 1, 2, 3, 4, 5, 6, 7, 8, 9, 10, 13, 14], [0, 1, 2, 3, 4, 5, 6, 7, 8, 9, 10, 11, 13, 14, 15], [0, 1, 2, 3, 4, 5, 6, 7, 8, 9, 10, 11, 12, 13, 14, 15, 16]] j ∧ ∀ p ∈ [13], (p = j ∨ p ∈ clsAt [[], [0], [0, 1], [], [3], [0, 1, 2, 3, 4], [], [0, 1, 2, 3, 4, 5, 6], [0, 1, 2, 3, 4, 5, 6, 7], [0, 1, 2, 3, 4, 5, 6, 7, 8], [0, 1, 2, 3, 4, 5, 6, 7, 8], [0, 1, 2, 3, 4, 5, 6, 7, 8], [0, 1, 2, 3, 4, 5, 6, 7, 8], [], [0, 1, 2, 3, 4, 5, 6, 7, 8, 9, 13], [0, 1, 2, 3, 4, 5, 6, 7, 8, 9, 10, 13, 14], [0, 1, 2, 3, 4, 5, 6, 7, 8, 9, 10, 11, 13, 14, 15], [0, 1, 2, 3, 4, 5, 6, 7, 8, 9, 10, 11, 12, 13, 14, 15, 16]] j) → ∀ q ∈ [13], (q = 14 ∨ q ∈ clsAt [[], [0], [0, 1], [], [3], [0, 1, 2, 3, 4], [], [0, 1, 2, 3, 4, 5, 6], [0, 1, 2, 3, 4, 5, 6, 7], [0, 1, 2, 3, 4, 5, 6, 7, 8], [0, 1, 2, 3, 4, 5, 6, 7, 8], [0, 1, 2, 3, 4, 5, 6, 7, 8], [0, 1, 2, 3, 4, 5, 6, 7, 8], [], [0, 1, 2, 3, 4, 5, 6, 7, 8, 9, 13], [0, 1, 2, 3, 4, 5, 6, 7, 8, 9, 10, 13, 14], [0, 1, 2, 3, 4, 5, 6, 7, 8, 9, 10, 11, 13, 14, 15], [0, 1, 2, 3, 4, 5, 6, 7, 8, 9, 10, 11, 12, 13, 14, 15, 16]] 14) → p ≠ q → val p ≠ val q) (fun _ ⟨g, h1, h2, _⟩ => ⟨g, h1, h2, fun h => by rw [fset_eq] at h; cases h⟩) (phiS_cons_st (C := fun j => j ≠ 14 ∧ 14 ∉ clsAt [[], [0], [0, 1], [], [3], [0, 1, 2, 3, 4], [], [0, 1, 2, 3, 4, 5, 6], [0, 1, 2, 3, 4, 5, 6, 7], [0, 1, 2, 3, 4, 5, 6, 7, 8], [0, 1, 2, 3, 4, 5, 6, 7, 8], [0, 1, 2, 3, 4, 5, 6, 7, 8], [0, 1, 2, 3, 4, 5, 6, 7, 8], [], [0, 1, 2, 3, 4, 5, 6, 7, 8, 9, 13], [0, 1, 2, 3, 4, 5, 6, 7, 8, 9, 10, 13, 14], [0, 1, 2, 3, 4, 5, 6, 7, 8, 9, 10, 11, 13, 14, 15], [0, 1, 2, 3, 4, 5, 6, 7, 8, 9, 10, 11, 12, 13, 14, 15, 16]] j ∧ ∀ p ∈ [13], (p = j ∨ p ∈ clsAt [[], [0], [0, 1], [], [3], [0, 1, 2, 3, 4], [], [0, 1, 2, 3, 4, 5, 6], [0, 1, 2, 3, 4, 5, 6, 7], [0, 1, 2, 3, 4, 5, 6, 7, 8], [0, 1, 2, 3, 4, 5, 6, 7, 8], [0, 1, 2, 3, 4, 5, 6, 7, 8], [0, 1, 2, 3, 4, 5, 6, 7, 8], [], [0, 1, 2, 3, 4, 5, 6, 7, 8, 9, 13], [0, 1, 2, 3, 4, 5, 6, 7, 8, 9, 10, 13, 14], [0, 1, 2, 3, 4, 5, 6, 7, 8, 9, 10, 11, 13, 14, 15], [0, 1, 2, 3, 4, 5, 6, 7, 8, 9, 10, 11, 12, 13, 14, 15, 16]] j) → ∀ q ∈ [13], (q = 14 ∨ q ∈ clsAt [[], [0], [0, 1], [], [3], [0, 1, 2, 3, 4], [], [0, 1, 2, 3, 4, 5, 6], [0, 1, 2, 3, 4, 5, 6, 7], [0, 1, 2, 3, 4, 5, 6, 7, 8], [0, 1, 2, 3, 4, 5, 6, 7, 8], [0, 1, 2, 3, 4, 5, 6, 7, 8], [0, 1, 2, 3, 4, 5, 6, 7, 8], [], [0, 1, 2, 3, 4, 5, 6, 7, 8, 9, 13], [0, 1, 2, 3, 4, 5, 6, 7, 8, 9, 10, 13, 14], [0, 1, 2, 3, 4, 5, 6, 7, 8, 9, 10, 11, 13, 14, 15], [0, 1, 2, 3, 4, 5, 6, 7, 8, 9, 10, 11, 12, 13, 14, 15, 16]] 14) → p ≠ q → val p ≠ val q) (fun hc => absurd rfl hc.1) (fun _ _ h => h)))) j ⟨hj, hn, hA⟩
          · intro val fl wR13 hfl hb halc hd
            have e0 : val 0 = .pointer (some ⟨g1, 0, none⟩) := hd 0 (by omega)
            have e1 : val 1 = .agg #[.slice A rv.reaches.length c, .slice A' rv.shoals.length c'] := hd 1 (by omega)
            have e3 : val 3 = .pointer (some ⟨g1, 2, none⟩) := hd 3 (by omega)
            have e4 : val 4 = .slice D sides.length d := hd 4 (by omega)
            have e6 : val 6 = .slice Aho l.length cho := hd 6 (by omega)
            have e7 : val 7 = .tuple #[.agg #[.int .i64 (shaRes rv sides l).lo, .int .i64 (shaRes rv sides l).hi], .int .i64 (shaRes rv sides l).pass, .int .i64 (shaRes rv sides l).hour, .int .i64 (shaErr rv sides l)] := hd 7 (by omega)
            have e8 : val 8 = .tuple #[.agg #[.int .i64 (shaRes rv sides l).lo, .int .i64 (shaRes rv sides l).hi], .int .i64 (shaRes rv sides l).pass, .int .i64 (shaRes rv sides l).hour, .int .i64 (shaErr rv sides l)] := hd 8 (by omega)
            have e9 : val 9 = .agg #[.int .i64 (shaRes rv sides l).lo, .int .i64 (shaRes rv sides l).hi] := hd 9 (by omega)
            have e10 : val 10 = .int .i64 (shaRes rv sides l).pass := hd 10 (by omega)
            have e11 : val 11 = .int .i64 (shaRes rv sides l).hour := hd 11 (by omega)
            have e12 : val 12 = .int .i64 (shaErr rv sides l) := hd 12 (by omega)
            obtain ⟨ga13_13, e13, qa13_13⟩ := hd 14 (by omega)
            change val 13 = _ at e13
            have e15 : val 15 = .int .i64 (shaRes rv sides l).pass := hd 15 (by omega)
            have e16 : val 16 = .int .i64 (shaRes rv sides l).hour := hd 16 (by omega)
            refine EL.ends (cs := [.pointer (some ⟨g1, 0, none⟩), .agg #[.slice A rv.reaches.length c, .slice A' rv.shoals.length c'], val 2, .pointer (some ⟨g1, 2, none⟩), .slice D sides.length d, val 5, .slice Aho l.length cho, .tuple #[.agg #[.int .i64 (shaRes rv sides l).lo, .int .i64 (shaRes rv sides l).hi], .int .i64 (shaRes rv sides l).pass, .int .i64 (shaRes rv sides l).hour, .int .i64 (shaErr rv sides l)], .tuple #[.agg #[.int .i64 (shaRes rv sides l).lo, .int .i64 (shaRes rv sides l).hi], .int .i64 (shaRes rv sides l).pass, .int .i64 (shaRes rv sides l).hour, .int .i64 (shaErr rv sides l)], .agg #[.int .i64 (shaRes rv sides l).lo, .int .i64 (shaRes rv sides l).hi], .int .i64 (shaRes rv sides l).pass, .int .i64 (shaRes rv sides l).hour, .int .i64 (shaErr rv sides l), .pointer (some ⟨ga13_13, 0, none⟩), val 14, .int .i64 (shaRes rv sides l).pass, .int .i64 (shaRes rv sides l).hour]) ⟨e0, e1, rfl, e3, e4, rfl, e6, e7, e8, e9, e10, e11, e12, e13, rfl, e15, e16, trivial⟩ rfl ?_
            replace q1 := q1.below hb q1.lt
            replace ho := own_below ho hb (Nat.le_refl _)
            have bge11 := alc_ge halc (i := 13) rfl rfl e13
            have n1_11 : g1 ≠ ga13_13 := Nat.ne_of_lt (Nat.lt_of_lt_of_le lt_1 bge11)
            have bhbw_11 := Nat.le_trans hbw.size bge11
            replace hbw := Below.on hbw hb hbw.size
            refine EL.val (x_assign rfl) rfl ?_
            refine EL.nil ?_
            refine EX.seq ?_
            refine EC.seq ?_
            refine EC.seq ?_
            refine EC.region ?_
            refine EL.val (x_assign rfl) rfl ?_
            refine EL.nil ?_
            refine EX.seq ?_
            refine EC.block ?_
            refine EC.loopD [4, 13, 65, 66, 67, 68, 69, 70, 71, 72, 73, 74, 75, 76, 77, 78, 79] (fun x : Nat => [(13, .int .i64 (x : Nat))]) (fun x W => x ≤ l.length ∧ Blk W g1 54 #[.slice A rv.reaches.length c, .slice A' rv.shoals.length c', .slice D sides.length d] ∧ Blk W ga13_13 23 #[.int .i64 (shaRes rv sides l).lo, .int .i64 (shaRes rv sides l).hi] ∧ Rd W wR13.heap.size 3 (.slice Aho l.length cho) l.length (passesC l) ∧ wR13.heap.size ≤ W.heap.size ∧ Below w.heap.size w W) (fun x => l.length - x) 0 ⟨Nat.zero_le _, q1, qa13_13, Rd.of_own ho, Nat.le_refl _, hbw⟩ ⟨rfl, trivial⟩ ?_
            clear q1 qa13_13 ho hbw
            rintro x wr ⟨hx, q1, qa13_13, hrd, hsz, hbw⟩
            by_cases hlt : x < l.length
            ·
              obtain ⟨b1, o1, rfl, _, cc⟩ := passes_cells l x hlt _ _ _ _ _ hrd
              obtain ⟨b2, o2, rfl, _, cd⟩ := passes_cells l x hlt _ _ _ _ _ hw
              refine EC.seq ?_
              refine EC.seq ?_
              refine EC.region ?_
              refine EL.val (x_move rfl) rfl ?_
              refine EL.val (x_move rfl) rfl ?_
              refine EL.val (ln_99 rfl) rfl ?_
              refine EL.val (x_lss rfl rfl (by first | assumption | exact decide_eq_true (by omega))) rfl ?_
              refine EL.nil ?_
              refine EX.seq ?_
              refine EC.yes rfl ?_
              refine EC.skip ?_
              refine EX.seq ?_
              refine EC.seq ?_
              refine EC.block ?_
              refine EC.seq ?_
              refine EC.regionQ (by kernel_rfl) (by kernel_rfl) ?_
              refine EQ.val (fun _ hw => (x_move rfl)) rfl ?_
              refine EQ.val (fun _ hw => (x_move rfl)) rfl ?_
              refine EQ.val (fun _ hw => (ix_99 rfl rfl hlt)) rfl ?_
              refine EQ.val (fun _ hw => (ld_101 rfl (below_load hw cc.c0) (below_load hw cc.c1) (below_load hw cc.c2))) rfl ?_
              refine EQ.val (fun _ hw => (x_move rfl)) rfl ?_
              refine EQ.val (fun _ hw => (x_move rfl)) rfl ?_
              refine EQ.val (fun _ hw => (ix_99 rfl rfl hlt)) rfl ?_
              refine EQ.val (fun _ hw => (ld_101 rfl (below_load hw (below_load hbw cd.c0)) (below_load hw (below_load hbw cd.c1)) (below_load hw (below_load hbw cd.c2)))) rfl ?_
              refine EQ.val (fun _ hw => (neq_101 (r := false) rfl rfl (by simp))) rfl ?_
              refine EQ.fin (fun w12 hw_ => ?_)
              replace q1 := q1.below hw_ q1.lt
              replace qa13_13 := qa13_13.below hw_ qa13_13.lt
              replace hrd := hrd.below (hw_.mono hsz)
              replace hsz := Nat.le_trans hsz hw_.size
              replace hbw := Below.on hbw hw_ hbw.size
              clear hw_
              refine EX.seq ?_
              refine EC.no rfl ?_
              refine EC.skip ?_
              refine EX.blk ?_
              refine EX.seq ?_
              refine EC.region ?_
              refine EL.val (x_move rfl) rfl ?_
              refine EL.val (x_add rfl rfl (by first | assumption | exact IntWalk.i64_in _ ⟨by omega, by omega⟩)) rfl ?_
              refine EL.val (x_assign rfl) rfl ?_
              refine EL.nil ?_
              refine EX.roundD (x + 1) ⟨rfl, trivial⟩ (by repeat first | exact Sub.refl _ | refine sub_past rfl ?_ | refine sub_del rfl ?_ | refine sub_insL_nil ?_) ⟨hlt, q1, qa13_13, hrd, hsz, hbw⟩ (by omega)
            ·
              clear hrd hsz
              refine EC.seq ?_
              refine EC.seq ?_
              refine EC.region ?_
              refine EL.val (x_move rfl) rfl ?_
              refine EL.val (x_move rfl) rfl ?_
              refine EL.val (ln_99 rfl) rfl ?_
              refine EL.val (x_lss rfl rfl (by first | assumption | exact decide_eq_false (by omega))) rfl ?_
              refine EL.nil ?_
              refine EX.seq ?_
              refine EC.no rfl ?_
              refine EC.exit ?_
              refine EX.seq_exit ?_
              refine EX.seq_exit ?_
              refine EX.blk_here ?_
              refine EX.seq ?_
              refine EC.seq ?_
              refine EC.region ?_
              refine EL.val (fa_54_0 rfl) rfl ?_
              refine EL.val (ld_47 rfl (q1.at (j := 0) rfl) (q1.at (j := 1) rfl)) rfl ?_
              refine EL.val (fa_54_1 rfl) rfl ?_
              refine EL.val (ld_52 rfl (q1.at (j := 2) rfl)) rfl ?_
              refine EL.call (cl_38 rfl rfl) rfl (rstart_any rv sides _ _ _ vs ss _ B (hr.below (hbw.mono hB)) (hs.below (hbw.mono hB)) (Nat.le_trans hB hbw.size) (by omega) (by omega) f3 (by omega) f4) ?_
              rintro e w13 ⟨rfl, hc13⟩
              refine ⟨_, rfl, ?_⟩
              replace q1 := q1.below hc13 q1.lt
              replace qa13_13 := qa13_13.below hc13 qa13_13.lt
              replace hbw := Below.on hbw hc13 hbw.size
              clear hc13
              refine EL.val (x_assign rfl) rfl ?_
              refine EL.nil ?_
              refine EX.seq ?_
              refine EC.seq ?_
              refine EC.seq ?_
              refine EC.region ?_
              refine EL.val (x_move rfl) rfl ?_
              by_cases hst : startErr rv sides = 0
              ·
                obtain ⟨hok, hS⟩ := startErr_ok hst
                have hhr := hS.hours
                have hmany_ := hS.many
                have hsm := hS.river.some
                obtain ⟨bS, oS, rfl, _, c0⟩ := sides_cell hs 0 (by omega)
                have hs0 := hs.side 0 (by omega)
                obtain ⟨As, cs, es, _⟩ := hs0.shape
                rw [es] at c0
                refine EL.val (x_eql rfl rfl (by first | assumption | exact decide_eq_true (by omega))) rfl ?_
                refine EL.nil ?_
                refine EX.seq ?_
                refine EC.yes rfl ?_
                refine EC.regionQ (by kernel_rfl) (by kernel_rfl) ?_
                refine EQ.val (fun _ hw => (fa_54_0 rfl)) rfl ?_
                refine EQ.val (fun _ hw => (ld_47 rfl (below_load hw (q1.at (j := 0) rfl)) (below_load hw (q1.at (j := 1) rfl)))) rfl ?_
                refine EQ.val (fun _ hw => (x_move rfl)) rfl ?_
                refine EQ.val (fun _ hw => (fa_54_1 rfl)) rfl ?_
                refine EQ.val (fun _ hw => (ld_52 rfl (below_load hw (q1.at (j := 2) rfl)))) rfl ?_
                refine EQ.val (fun _ hw => (ix_52 (k := 0) rfl rfl (by omega))) rfl ?_
                refine EQ.val (fun _ hw => (ld_28 rfl (below_load hw (below_load hbw c0)))) rfl ?_
                refine EQ.val (fun _ hw => (ln_28 rfl)) rfl ?_
                refine EQ.call (fun _ _ _ ha => cl_52 rfl rfl rfl _ ha) rfl (fun W hw => (rway_any rv _ _ vs l _ ((sides.getD 0 []).length : Nat) W B (hr.below ((hbw.trans (hw.mono hbw.size)).mono hB)) (Nat.le_trans hB (Nat.le_trans hbw.size hw.size)) (hw0.below ((hbw.trans (hw.mono hbw.size)).mono hB)) hok (by omega) (by omega) (by omega)).mono fun e w' h => ⟨h.1, hw.trans (h.2.mono hw.size)⟩) ?_
                refine EQ.val (fun _ hw => (x_assign rfl)) rfl ?_
                refine EQ.fin (fun w14 hw_ => ?_)
                replace q1 := q1.below hw_ q1.lt
                replace qa13_13 := qa13_13.below hw_ qa13_13.lt
                replace hbw := Below.on hbw hw_ hbw.size
                clear hw_
                refine EX.seq ?_
                refine EC.seq ?_
                refine EC.seq ?_
                refine EC.region ?_
                refine EL.val (x_move rfl) rfl ?_
                by_cases hce : wayErr (placesOf rv.reaches) ((sides.getD 0 []).length : Nat) l = 0
                ·
                  obtain ⟨hve, hvr⟩ := sha_ok (l := l) hst hce
                  have hv1 := congrArg Shal.pass hvr
                  have hv2 := congrArg Shal.hour hvr
                  have hI : ∀ j, j < l.length → passOk (placesOf rv.reaches) ((sides.getD 0 []).length : Nat) (l.getD j pass0) := by
                    unfold wayErr at hce
                    split at hce
                    · omega
                    · split at hce
                      · omega
                      · exact passBad_mem hce
                  refine EL.val (x_neq rfl rfl (by first | assumption | exact decide_eq_false (by omega))) rfl ?_
                  refine EL.nil ?_
                  refine EX.seq ?_
                  refine EC.no rfl ?_
                  refine EC.skip ?_
                  refine EX.seq ?_
                  refine EC.seq ?_
                  refine EC.region ?_
                  refine EL.val (fa_54_0 rfl) rfl ?_
                  refine EL.val (ld_47 rfl (q1.at (j := 0) rfl) (q1.at (j := 1) rfl)) rfl ?_
                  refine EL.val (fa_54_1 rfl) rfl ?_
                  refine EL.val (ld_52 rfl (q1.at (j := 2) rfl)) rfl ?_
                  refine EL.val (x_move rfl) rfl ?_
                  refine EL.call (cl_53 rfl rfl rfl) rfl (rshallow_any rv sides _ _ _ vs ss l _ _ B (hr.below (hbw.mono hB)) (hs.below (hbw.mono hB)) (Nat.le_trans hB hbw.size) (hw0.below (hbw.mono hB)) (by omega) hS hI) ?_
                  rintro e w15 ⟨rfl, hc15⟩
                  refine ⟨_, rfl, ?_⟩
                  replace q1 := q1.below hc15 q1.lt
                  replace qa13_13 := qa13_13.below hc15 qa13_13.lt
                  replace hbw := Below.on hbw hc15 hbw.size
                  clear hc15
                  refine EL.val (x_move rfl) rfl ?_
                  refine EL.val (x_extract rfl rfl) rfl ?_
                  refine EL.val (x_extract rfl rfl) rfl ?_
                  refine EL.val (x_extract rfl rfl) rfl ?_
                  refine EL.newP al_23 rfl ?_
                  intro g16 w16 q16 hb16 hg16 hl16
                  have n1_16 : g1 ≠ g16 := Nat.ne_of_lt (Nat.lt_of_lt_of_le q1.lt hg16)
                  have n11_16 : ga13_13 ≠ g16 := Nat.ne_of_lt (Nat.lt_of_lt_of_le qa13_13.lt hg16)
                  have bhbw_16 := Nat.le_trans hbw.size hg16
                  replace q1 := q1.below hb16 q1.lt
                  replace qa13_13 := qa13_13.below hb16 qa13_13.lt
                  replace hbw := Below.on hbw hb16 hbw.size
                  clear hb16 hg16 hl16
                  refine EL.store rfl rfl q16 sz_23 rfl rfl rfl rfl ?_
                  intro w17 hq17 hg17
                  replace q1 := q1.grown hg17 (fun h => n1_16 (Option.some.inj h))
                  replace qa13_13 := qa13_13.grown hg17 (fun h => n11_16 (Option.some.inj h))
                  replace hbw := below_store hbw hg17 bhbw_16
                  replace q16 := hq17
                  clear hg17 hq17
                  refine EL.val (x_assign rfl) rfl ?_
                  refine EL.val (x_assign rfl) rfl ?_
                  refine EL.nil ?_
                  refine EX.seq ?_
                  refine EC.seq ?_
                  refine EC.region ?_
                  refine EL.val (x_move rfl) rfl ?_
                  refine EL.val (x_eql rfl rfl (by first | assumption | exact decide_eq_true (by omega))) rfl ?_
                  refine EL.val (x_move rfl) rfl ?_
                  refine EL.valg rfl rfl (ld_23 rfl (qa13_13.at (j := 0) rfl) (qa13_13.at (j := 1) rfl)) rfl ?_
                  refine EL.valg rfl rfl (ld_23 rfl (q16.at (j := 0) rfl) (q16.at (j := 1) rfl)) rfl ?_
                  refine EL.valg rfl rfl (eql_23 (r := true) rfl rfl (by simp [hvr])) rfl ?_
                  refine EL.val (x_pick_t rfl rfl) rfl ?_
                  refine EL.val (x_move rfl) rfl ?_
                  refine EL.valg rfl rfl (x_move rfl) rfl ?_
                  refine EL.valg rfl rfl (x_move rfl) rfl ?_
                  refine EL.valg rfl rfl (x_eql rfl rfl (by first | assumption | exact decide_eq_true (by omega))) rfl ?_
                  refine EL.val (x_pick_t rfl rfl) rfl ?_
                  refine EL.val (x_move rfl) rfl ?_
                  refine EL.valg rfl rfl (x_move rfl) rfl ?_
                  refine EL.valg rfl rfl (x_move rfl) rfl ?_
                  refine EL.valg rfl rfl (x_eql rfl rfl (by first | assumption | exact decide_eq_true (by omega))) rfl ?_
                  refine EL.val (x_pick_t rfl rfl) rfl ?_
                  refine EL.val (x_move rfl) rfl ?_
                  refine EL.callg rfl rfl cl_16 rfl (known_any _) ?_
                  rintro e w18 ⟨rfl, hc18⟩
                  refine ⟨_, rfl, ?_⟩
                  replace q1 := q1.below hc18 q1.lt
                  replace qa13_13 := qa13_13.below hc18 qa13_13.lt
                  replace q16 := q16.below hc18 q16.lt
                  replace hbw := Below.on hbw hc18 hbw.size
                  clear hc18
                  refine EL.val (x_pick_t rfl rfl) rfl ?_
                  refine EL.val (x_assign rfl) rfl ?_
                  refine EL.nil ?_
                  refine EX.seq ?_
                  refine EC.ret ?_
                  exact EX.done (res1 rfl rfl) ⟨rfl, hbw⟩
                ·
                  obtain ⟨hve, hvr⟩ := sha_way (l := l) hst rfl hce
                  have hv1 := congrArg Shal.pass hvr
                  have hv2 := congrArg Shal.hour hvr
                  simp only at hv1 hv2
                  refine EL.val (x_neq rfl rfl (by first | assumption | exact decide_eq_true (by omega))) rfl ?_
                  refine EL.nil ?_
                  refine EX.seq ?_
                  refine EC.yes rfl ?_
                  refine EC.seq ?_
                  refine EC.region ?_
                  refine EL.val (x_move rfl) rfl ?_
                  refine EL.val (x_move rfl) rfl ?_
                  refine EL.val (x_eql rfl rfl (by first | assumption | exact decide_eq_true (by omega))) rfl ?_
                  refine EL.val (x_move rfl) rfl ?_
                  refine EL.valg rfl rfl (ld_23 rfl (qa13_13.at (j := 0) rfl) (qa13_13.at (j := 1) rfl)) rfl ?_
                  refine EL.valg rfl rfl (bd_23_) rfl ?_
                  refine EL.valg rfl rfl (eql_23 (r := true) rfl rfl (by simp [hvr])) rfl ?_
                  refine EL.val (x_pick_t rfl rfl) rfl ?_
                  refine EL.val (x_move rfl) rfl ?_
                  refine EL.valg rfl rfl (x_move rfl) rfl ?_
                  refine EL.valg rfl rfl (x_eql rfl rfl (by first | assumption | exact decide_eq_true (by omega))) rfl ?_
                  refine EL.val (x_pick_t rfl rfl) rfl ?_
                  refine EL.val (x_move rfl) rfl ?_
                  refine EL.valg rfl rfl (x_move rfl) rfl ?_
                  refine EL.valg rfl rfl (x_eql rfl rfl (by first | assumption | exact decide_eq_true (by omega))) rfl ?_
                  refine EL.val (x_pick_t rfl rfl) rfl ?_
                  refine EL.val (x_move rfl) rfl ?_
                  refine EL.callg rfl rfl cl_16 rfl (known_any _) ?_
                  rintro e w19 ⟨rfl, hc19⟩
                  refine ⟨_, rfl, ?_⟩
                  replace q1 := q1.below hc19 q1.lt
                  replace qa13_13 := qa13_13.below hc19 qa13_13.lt
                  replace hbw := Below.on hbw hc19 hbw.size
                  clear hc19
                  refine EL.val (x_pick_t rfl rfl) rfl ?_
                  refine EL.val (x_assign rfl) rfl ?_
                  refine EL.nil ?_
                  refine EX.seq ?_
                  refine EC.ret ?_
                  refine EX.seq_ret ?_
                  exact EX.done (res1 rfl rfl) ⟨rfl, hbw⟩
              ·
                obtain ⟨hve, hvr⟩ := sha_open (l := l) hst
                have hv1 := congrArg Shal.pass hvr
                have hv2 := congrArg Shal.hour hvr
                simp only at hv1 hv2
                refine EL.val (x_eql rfl rfl (by first | assumption | exact decide_eq_false (by omega))) rfl ?_
                refine EL.nil ?_
                refine EX.seq ?_
                refine EC.no rfl ?_
                refine EC.skip ?_
                refine EX.seq ?_
                refine EC.seq ?_
                refine EC.seq ?_
                refine EC.region ?_
                refine EL.val (x_move rfl) rfl ?_
                refine EL.val (x_neq rfl rfl (by first | assumption | exact decide_eq_true (by omega))) rfl ?_
                refine EL.nil ?_
                refine EX.seq ?_
                refine EC.yes rfl ?_
                refine EC.seq ?_
                refine EC.region ?_
                refine EL.val (x_move rfl) rfl ?_
                refine EL.val (x_move rfl) rfl ?_
                refine EL.val (x_eql rfl rfl (by first | assumption | exact decide_eq_true (by omega))) rfl ?_
                refine EL.val (x_move rfl) rfl ?_
                refine EL.valg rfl rfl (ld_23 rfl (qa13_13.at (j := 0) rfl) (qa13_13.at (j := 1) rfl)) rfl ?_
                refine EL.valg rfl rfl (bd_23_) rfl ?_
                refine EL.valg rfl rfl (eql_23 (r := true) rfl rfl (by simp [hvr])) rfl ?_
                refine EL.val (x_pick_t rfl rfl) rfl ?_
                refine EL.val (x_move rfl) rfl ?_
                refine EL.valg rfl rfl (x_move rfl) rfl ?_
                refine EL.valg rfl rfl (x_eql rfl rfl (by first | assumption | exact decide_eq_true (by omega))) rfl ?_
                refine EL.val (x_pick_t rfl rfl) rfl ?_
                refine EL.val (x_move rfl) rfl ?_
                refine EL.valg rfl rfl (x_move rfl) rfl ?_
                refine EL.valg rfl rfl (x_eql rfl rfl (by first | assumption | exact decide_eq_true (by omega))) rfl ?_
                refine EL.val (x_pick_t rfl rfl) rfl ?_
                refine EL.val (x_move rfl) rfl ?_
                refine EL.callg rfl rfl cl_16 rfl (known_any _) ?_
                rintro e w20 ⟨rfl, hc20⟩
                refine ⟨_, rfl, ?_⟩
                replace q1 := q1.below hc20 q1.lt
                replace qa13_13 := qa13_13.below hc20 qa13_13.lt
                replace hbw := Below.on hbw hc20 hbw.size
                clear hc20
                refine EL.val (x_pick_t rfl rfl) rfl ?_
                refine EL.val (x_assign rfl) rfl ?_
                refine EL.nil ?_
                refine EX.seq ?_
                refine EC.ret ?_
                refine EX.seq_ret ?_
                exact EX.done (res1 rfl rfl) ⟨rfl, hbw⟩
end Go.Proofs.Ytncnlhkmdljgpaa
