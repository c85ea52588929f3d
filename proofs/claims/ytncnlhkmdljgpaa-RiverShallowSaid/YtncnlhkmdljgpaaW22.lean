/- River: the reference's Closures and Closed (printed by gen_w22.py). -/
import Derived.Test.YtncnlhkmdljgpaaW21
import Derived.Test.YtncnlhkmdljgpaaW11
import Derived.Test.YtncnlhkmdljgpaaW12
import Derived.Test.YtncnlhkmdljgpaaW9
import Derived.Test.YtncnlhkmdljgpaaExB
set_option linter.unusedVariables false
set_option linter.unusedSimpArgs false
namespace Go.Proofs.Ytncnlhkmdljgpaa
open Go Go.RowKit

theorem in_eq {n lo hi : Int} {r : Bool} (h : inB lo hi n = r) (w : World) : Calls Try.prog 35 #[.int .i64 n, .int .i64 lo, .int .i64 hi] w fun e w' => e = .returned (.bool r) ∧ Below w.heap.size w w' := by
  subst h
  exact in_bel n lo hi w
theorem rvalid_eq {b : Bd} {lo hi : Int} {r : Bool} (h : bdOk lo hi b = r) (w : World) : Calls Try.prog 30 #[.agg #[.int .i64 b.lo, .int .i64 b.hi], .int .i64 lo, .int .i64 hi] w fun e w' => e = .returned (.bool r) ∧ Below w.heap.size w w' := by
  subst h
  exact rvalid_any b lo hi w

set_option maxHeartbeats 4000000 in
set_option maxRecDepth 100000 in
theorem rclosures_any (rv : River) (v u : Value) (vs : List Value) (l : List Clos) (vl : Value) (w : World) (B : Nat) (hr : RdRiver w B v u rv vs) (hB : B ≤ w.heap.size) (hcl : Rd w B 6 vl l.length (closesC l)) (hok : riverB rv = true) (hn : l.length ≤ 1048576) :
    Calls Try.prog 49 #[.agg #[v, u], vl] w fun e w' => e = .returned (.int .i64 (closErr (placesOf rv.reaches) l)) ∧ Below w.heap.size w w' := by
  have hR := riverB_ok hok
  have hpl := hR.places
  have hsm := hR.some
  obtain ⟨Ac, cac, rfl, _⟩ := hcl.shape
  obtain ⟨A, c, rfl, _⟩ := hr.reaches.shape
  obtain ⟨A', c', rfl, _⟩ := hr.shoals.shape
  have hbw := Below.refl w.heap.size w
  refine EC.enter 50 Try.func49 rfl rfl rfl ?_
  refine EC.seq ?_
  refine EC.region ?_
  refine EL.newP (bx_47 rfl) rfl ?_
  intro g1 w1 q1 hb1 hg1 hl1
  have bhbw_1 := Nat.le_trans hbw.size hg1
  replace hbw := Below.on hbw hb1 hbw.size
  clear hb1 hg1 hl1
  refine EL.val (x_assign rfl) rfl ?_
  refine EL.nil ?_
  refine EX.seq ?_
  refine EC.seq ?_
  refine EC.seq ?_
  refine EC.region ?_
  refine EL.val (x_move rfl) rfl ?_
  refine EL.val (ln_86 rfl) rfl ?_
  by_cases h40 : 40 < l.length
  ·
    have hce : closErr (placesOf rv.reaches) l = 5 := by rw [closErr, if_pos (by omega)]
    refine EL.val (x_gtr rfl rfl (by first | assumption | exact decide_eq_true (by omega))) rfl ?_
    refine EL.nil ?_
    refine EX.seq ?_
    refine EC.yes rfl ?_
    refine EC.seq ?_
    refine EC.region ?_
    refine EL.val (x_assign rfl) rfl ?_
    refine EL.nil ?_
    refine EX.seq ?_
    refine EC.ret ?_
    refine EX.seq_ret ?_
    exact EX.done (res1 rfl rfl) ⟨by rw [hce], hbw⟩
  ·
    refine EL.val (x_gtr rfl rfl (by first | assumption | exact decide_eq_false (by omega))) rfl ?_
    refine EL.nil ?_
    refine EX.seq ?_
    refine EC.no rfl ?_
    refine EC.skip ?_
    refine EX.seq ?_
    refine EC.seq ?_
    refine EC.seq ?_
    refine EC.region ?_
    refine EL.val (x_assign rfl) rfl ?_
    refine EL.nil ?_
    refine EX.seq ?_
    refine EC.block ?_
    refine EC.loopD [4, 5, 6, 10, 11, 12, 13, 14, 15, 16, 17, 18, 19, 20, 21, 22, 23, 24, 25, 26, 27, 28, 29, 30, 31, 32, 33, 34, 35, 36, 37, 38, 39, 40, 41, 42, 43, 44, 45, 46, 47, 48, 49] (fun x : Nat => [(5, .int .i64 (x : Nat))]) (fun x W => x ≤ l.length ∧ (∀ j, j < x → closOk (placesOf rv.reaches) (l.getD j clos0) = true) ∧ Blk W g1 47 #[.slice A rv.reaches.length c, .slice A' rv.shoals.length c'] ∧ Below w.heap.size w W) (fun x => l.length - x) 0 ⟨Nat.zero_le _, fun j hj => absurd hj (Nat.not_lt_zero _), q1, hbw⟩ ⟨rfl, trivial⟩ ?_
    clear q1 hbw
    rintro j wr ⟨hj, hI, q1, hbw⟩
    by_cases hlt : j < l.length
    ·
      obtain ⟨bc, oc, rfl, _, cc⟩ := closes_cells l j hlt _ _ _ _ _ hcl
      obtain ⟨y, ey⟩ : ∃ y, y = l.getD j clos0 := ⟨_, rfl⟩
      rw [← ey] at cc
      refine EC.seq ?_
      refine EC.seq ?_
      refine EC.region ?_
      refine EL.val (x_move rfl) rfl ?_
      refine EL.val (x_move rfl) rfl ?_
      refine EL.val (ln_86 rfl) rfl ?_
      refine EL.val (x_lss rfl rfl (by first | assumption | exact decide_eq_true (by omega))) rfl ?_
      refine EL.nil ?_
      refine EX.seq ?_
      refine EC.yes rfl ?_
      refine EC.skip ?_
      refine EX.seq ?_
      refine EC.seq ?_
      refine EC.block ?_
      refine EC.seq ?_
      refine EC.region ?_
      refine EL.val (x_move rfl) rfl ?_
      refine EL.val (x_move rfl) rfl ?_
      refine EL.val (ix_86 rfl rfl hlt) rfl ?_
      refine EL.val (ld_90 rfl (below_load hbw cc.c0) (below_load hbw cc.c1) (below_load hbw cc.c2) (below_load hbw cc.c3) (below_load hbw cc.c4) (below_load hbw cc.c5)) rfl ?_
      refine EL.newP al_90 rfl ?_
      intro g2 w2 q2 hb2 hg2 hl2
      have n1_2 : g1 ≠ g2 := Nat.ne_of_lt (Nat.lt_of_lt_of_le q1.lt hg2)
      have bhbw_2 := Nat.le_trans hbw.size hg2
      replace q1 := q1.below hb2 q1.lt
      replace hbw := Below.on hbw hb2 hbw.size
      clear hb2 hg2 hl2
      refine EL.store rfl rfl q2 sz_90 rfl rfl rfl rfl ?_
      intro w3 hq3 hg3
      replace q1 := q1.grown hg3 (fun h => n1_2 (Option.some.inj h))
      replace hbw := below_store hbw hg3 bhbw_2
      replace q2 := hq3
      clear hg3 hq3
      refine EL.nil ?_
      refine EX.seq ?_
      refine EC.seq ?_
      cases h1 : inB 0 (placesOf rv.reaches - 1) y.fr
      ·
        have hce : closErr (placesOf rv.reaches) l = 2 := by
          rw [closErr, if_neg h40, if_pos (clos_all_not hlt (by rw [← ey]; simp [closOk, h1]))]
        refine EC.regionQ (by kernel_rfl) (by kernel_rfl) ?_
        refine EQ.val (fun _ hw => (fa_90_0 rfl)) rfl ?_
        refine EQ.val (fun _ hw => (ld_3 rfl (below_load hw (q2.at (j := 0) rfl)))) rfl ?_
        refine EQ.val (fun _ hw => (ld_47 rfl (below_load hw (q1.at (j := 0) rfl)) (below_load hw (q1.at (j := 1) rfl)))) rfl ?_
        refine EQ.call (fun _ _ _ ha => cl_36 rfl _ ha) rfl (fun W hw => (places_any rv _ _ vs W B (hr.below ((hbw.trans (hw.mono hbw.size)).mono hB)) (Nat.le_trans hB (Nat.le_trans hbw.size hw.size)) (by omega) (river_lens hok)).mono fun e w' h => ⟨h.1, hw.trans (h.2.mono hw.size)⟩) ?_
        refine EQ.val (fun _ hw => (x_sub rfl rfl (by first | assumption | exact IntWalk.i64_in _ ⟨by omega, by omega⟩))) rfl ?_
        refine EQ.call (fun _ _ _ ha => cl_35 rfl rfl rfl _ ha) rfl (fun W hw => (in_eq h1 W).mono fun e w' h => ⟨h.1, hw.trans (h.2.mono hw.size)⟩) ?_
        refine EQ.val (fun _ hw => (x_not rfl)) rfl ?_
        refine EQ.val (fun _ hw => (x_move rfl)) rfl ?_
        refine EQ.skip rfl rfl rfl rfl ?_
        refine EQ.skip rfl rfl rfl rfl ?_
        refine EQ.skip rfl rfl rfl rfl ?_
        refine EQ.skip rfl rfl rfl rfl ?_
        refine EQ.skip rfl rfl rfl rfl ?_
        refine EQ.skip rfl rfl rfl rfl ?_
        refine EQ.skip rfl rfl rfl rfl ?_
        refine EQ.skip rfl rfl rfl rfl ?_
        refine EQ.skip rfl rfl rfl rfl ?_
        refine EQ.val (fun _ hw => (x_pick_t rfl rfl)) rfl ?_
        refine EQ.val (fun _ hw => (x_move rfl)) rfl ?_
        refine EQ.skip rfl rfl rfl rfl ?_
        refine EQ.skip rfl rfl rfl rfl ?_
        refine EQ.skip rfl rfl rfl rfl ?_
        refine EQ.skip rfl rfl rfl rfl ?_
        refine EQ.val (fun _ hw => (x_pick_t rfl rfl)) rfl ?_
        refine EQ.val (fun _ hw => (x_move rfl)) rfl ?_
        refine EQ.skip rfl rfl rfl rfl ?_
        refine EQ.skip rfl rfl rfl rfl ?_
        refine EQ.skip rfl rfl rfl rfl ?_
        refine EQ.skip rfl rfl rfl rfl ?_
        refine EQ.val (fun _ hw => (x_pick_t rfl rfl)) rfl ?_
        refine EQ.fin (fun w4 hw_ => ?_)
        replace q1 := q1.below hw_ q1.lt
        replace q2 := q2.below hw_ q2.lt
        replace hbw := Below.on hbw hw_ hbw.size
        clear hw_
        refine EX.seq ?_
        refine EC.yes rfl ?_
        refine EC.seq ?_
        refine EC.region ?_
        refine EL.val (x_assign rfl) rfl ?_
        refine EL.nil ?_
        refine EX.seq ?_
        refine EC.ret ?_
        refine EX.blk_ret ?_
        refine EX.seq_ret ?_
        refine EX.seq_ret ?_
        refine EX.blk_ret ?_
        refine EX.seq_ret ?_
        exact EX.done (res1 rfl rfl) ⟨by rw [hce], hbw⟩
      ·
        cases h2 : inB y.fr (placesOf rv.reaches - 1) y.to
        ·
          have hce : closErr (placesOf rv.reaches) l = 2 := by
            rw [closErr, if_neg h40, if_pos (clos_all_not hlt (by rw [← ey]; simp [closOk, h1, h2]))]
          refine EC.regionQ (by kernel_rfl) (by kernel_rfl) ?_
          refine EQ.val (fun _ hw => (fa_90_0 rfl)) rfl ?_
          refine EQ.val (fun _ hw => (ld_3 rfl (below_load hw (q2.at (j := 0) rfl)))) rfl ?_
          refine EQ.val (fun _ hw => (ld_47 rfl (below_load hw (q1.at (j := 0) rfl)) (below_load hw (q1.at (j := 1) rfl)))) rfl ?_
          refine EQ.call (fun _ _ _ ha => cl_36 rfl _ ha) rfl (fun W hw => (places_any rv _ _ vs W B (hr.below ((hbw.trans (hw.mono hbw.size)).mono hB)) (Nat.le_trans hB (Nat.le_trans hbw.size hw.size)) (by omega) (river_lens hok)).mono fun e w' h => ⟨h.1, hw.trans (h.2.mono hw.size)⟩) ?_
          refine EQ.val (fun _ hw => (x_sub rfl rfl (by first | assumption | exact IntWalk.i64_in _ ⟨by omega, by omega⟩))) rfl ?_
          refine EQ.call (fun _ _ _ ha => cl_35 rfl rfl rfl _ ha) rfl (fun W hw => (in_eq h1 W).mono fun e w' h => ⟨h.1, hw.trans (h.2.mono hw.size)⟩) ?_
          refine EQ.val (fun _ hw => (x_not rfl)) rfl ?_
          refine EQ.val (fun _ hw => (x_move rfl)) rfl ?_
          refine EQ.valg rfl rfl (fun _ hw => (fa_90_1 rfl)) rfl ?_
          refine EQ.valg rfl rfl (fun _ hw => (ld_3 rfl (below_load hw (q2.at (j := 1) rfl)))) rfl ?_
          refine EQ.valg rfl rfl (fun _ hw => (fa_90_0 rfl)) rfl ?_
          refine EQ.valg rfl rfl (fun _ hw => (ld_3 rfl (below_load hw (q2.at (j := 0) rfl)))) rfl ?_
          refine EQ.valg rfl rfl (fun _ hw => (ld_47 rfl (below_load hw (q1.at (j := 0) rfl)) (below_load hw (q1.at (j := 1) rfl)))) rfl ?_
          refine EQ.callg rfl rfl (fun _ _ _ ha => cl_36 rfl _ ha) rfl (fun W hw => (places_any rv _ _ vs W B (hr.below ((hbw.trans (hw.mono hbw.size)).mono hB)) (Nat.le_trans hB (Nat.le_trans hbw.size hw.size)) (by omega) (river_lens hok)).mono fun e w' h => ⟨h.1, hw.trans (h.2.mono hw.size)⟩) ?_
          refine EQ.valg rfl rfl (fun _ hw => (x_sub rfl rfl (by first | assumption | exact IntWalk.i64_in _ ⟨by omega, by omega⟩))) rfl ?_
          refine EQ.callg rfl rfl (fun _ _ _ ha => cl_35 rfl rfl rfl _ ha) rfl (fun W hw => (in_eq h2 W).mono fun e w' h => ⟨h.1, hw.trans (h.2.mono hw.size)⟩) ?_
          refine EQ.valg rfl rfl (fun _ hw => (x_not rfl)) rfl ?_
          refine EQ.val (fun _ hw => (x_pick_f rfl rfl)) rfl ?_
          refine EQ.val (fun _ hw => (x_move rfl)) rfl ?_
          refine EQ.skip rfl rfl rfl rfl ?_
          refine EQ.skip rfl rfl rfl rfl ?_
          refine EQ.skip rfl rfl rfl rfl ?_
          refine EQ.skip rfl rfl rfl rfl ?_
          refine EQ.val (fun _ hw => (x_pick_t rfl rfl)) rfl ?_
          refine EQ.val (fun _ hw => (x_move rfl)) rfl ?_
          refine EQ.skip rfl rfl rfl rfl ?_
          refine EQ.skip rfl rfl rfl rfl ?_
          refine EQ.skip rfl rfl rfl rfl ?_
          refine EQ.skip rfl rfl rfl rfl ?_
          refine EQ.val (fun _ hw => (x_pick_t rfl rfl)) rfl ?_
          refine EQ.fin (fun w5 hw_ => ?_)
          replace q1 := q1.below hw_ q1.lt
          replace q2 := q2.below hw_ q2.lt
          replace hbw := Below.on hbw hw_ hbw.size
          clear hw_
          refine EX.seq ?_
          refine EC.yes rfl ?_
          refine EC.seq ?_
          refine EC.region ?_
          refine EL.val (x_assign rfl) rfl ?_
          refine EL.nil ?_
          refine EX.seq ?_
          refine EC.ret ?_
          refine EX.blk_ret ?_
          refine EX.seq_ret ?_
          refine EX.seq_ret ?_
          refine EX.blk_ret ?_
          refine EX.seq_ret ?_
          exact EX.done (res1 rfl rfl) ⟨by rw [hce], hbw⟩
        ·
          cases h3 : bdOk (-400) 800 y.bg
          ·
            have hce : closErr (placesOf rv.reaches) l = 2 := by
              rw [closErr, if_neg h40, if_pos (clos_all_not hlt (by rw [← ey]; simp [closOk, h1, h2, h3]))]
            refine EC.regionQ (by kernel_rfl) (by kernel_rfl) ?_
            refine EQ.val (fun _ hw => (fa_90_0 rfl)) rfl ?_
            refine EQ.val (fun _ hw => (ld_3 rfl (below_load hw (q2.at (j := 0) rfl)))) rfl ?_
            refine EQ.val (fun _ hw => (ld_47 rfl (below_load hw (q1.at (j := 0) rfl)) (below_load hw (q1.at (j := 1) rfl)))) rfl ?_
            refine EQ.call (fun _ _ _ ha => cl_36 rfl _ ha) rfl (fun W hw => (places_any rv _ _ vs W B (hr.below ((hbw.trans (hw.mono hbw.size)).mono hB)) (Nat.le_trans hB (Nat.le_trans hbw.size hw.size)) (by omega) (river_lens hok)).mono fun e w' h => ⟨h.1, hw.trans (h.2.mono hw.size)⟩) ?_
            refine EQ.val (fun _ hw => (x_sub rfl rfl (by first | assumption | exact IntWalk.i64_in _ ⟨by omega, by omega⟩))) rfl ?_
            refine EQ.call (fun _ _ _ ha => cl_35 rfl rfl rfl _ ha) rfl (fun W hw => (in_eq h1 W).mono fun e w' h => ⟨h.1, hw.trans (h.2.mono hw.size)⟩) ?_
            refine EQ.val (fun _ hw => (x_not rfl)) rfl ?_
            refine EQ.val (fun _ hw => (x_move rfl)) rfl ?_
            refine EQ.valg rfl rfl (fun _ hw => (fa_90_1 rfl)) rfl ?_
            refine EQ.valg rfl rfl (fun _ hw => (ld_3 rfl (below_load hw (q2.at (j := 1) rfl)))) rfl ?_
            refine EQ.valg rfl rfl (fun _ hw => (fa_90_0 rfl)) rfl ?_
            refine EQ.valg rfl rfl (fun _ hw => (ld_3 rfl (below_load hw (q2.at (j := 0) rfl)))) rfl ?_
            refine EQ.valg rfl rfl (fun _ hw => (ld_47 rfl (below_load hw (q1.at (j := 0) rfl)) (below_load hw (q1.at (j := 1) rfl)))) rfl ?_
            refine EQ.callg rfl rfl (fun _ _ _ ha => cl_36 rfl _ ha) rfl (fun W hw => (places_any rv _ _ vs W B (hr.below ((hbw.trans (hw.mono hbw.size)).mono hB)) (Nat.le_trans hB (Nat.le_trans hbw.size hw.size)) (by omega) (river_lens hok)).mono fun e w' h => ⟨h.1, hw.trans (h.2.mono hw.size)⟩) ?_
            refine EQ.valg rfl rfl (fun _ hw => (x_sub rfl rfl (by first | assumption | exact IntWalk.i64_in _ ⟨by omega, by omega⟩))) rfl ?_
            refine EQ.callg rfl rfl (fun _ _ _ ha => cl_35 rfl rfl rfl _ ha) rfl (fun W hw => (in_eq h2 W).mono fun e w' h => ⟨h.1, hw.trans (h.2.mono hw.size)⟩) ?_
            refine EQ.valg rfl rfl (fun _ hw => (x_not rfl)) rfl ?_
            refine EQ.val (fun _ hw => (x_pick_f rfl rfl)) rfl ?_
            refine EQ.val (fun _ hw => (x_move rfl)) rfl ?_
            refine EQ.valg rfl rfl (fun _ hw => (fa_90_2 rfl)) rfl ?_
            refine EQ.valg rfl rfl (fun _ hw => (ld_23 rfl (below_load hw (q2.at (j := 2) rfl)) (below_load hw (q2.at (j := 3) rfl)))) rfl ?_
            refine EQ.callg rfl rfl (fun _ _ _ ha => cl_30 rfl rfl rfl _ ha) rfl (fun W hw => (rvalid_eq h3 W).mono fun e w' h => ⟨h.1, hw.trans (h.2.mono hw.size)⟩) ?_
            refine EQ.valg rfl rfl (fun _ hw => (x_not rfl)) rfl ?_
            refine EQ.val (fun _ hw => (x_pick_f rfl rfl)) rfl ?_
            refine EQ.val (fun _ hw => (x_move rfl)) rfl ?_
            refine EQ.skip rfl rfl rfl rfl ?_
            refine EQ.skip rfl rfl rfl rfl ?_
            refine EQ.skip rfl rfl rfl rfl ?_
            refine EQ.skip rfl rfl rfl rfl ?_
            refine EQ.val (fun _ hw => (x_pick_t rfl rfl)) rfl ?_
            refine EQ.fin (fun w6 hw_ => ?_)
            replace q1 := q1.below hw_ q1.lt
            replace q2 := q2.below hw_ q2.lt
            replace hbw := Below.on hbw hw_ hbw.size
            clear hw_
            refine EX.seq ?_
            refine EC.yes rfl ?_
            refine EC.seq ?_
            refine EC.region ?_
            refine EL.val (x_assign rfl) rfl ?_
            refine EL.nil ?_
            refine EX.seq ?_
            refine EC.ret ?_
            refine EX.blk_ret ?_
            refine EX.seq_ret ?_
            refine EX.seq_ret ?_
            refine EX.blk_ret ?_
            refine EX.seq_ret ?_
            exact EX.done (res1 rfl rfl) ⟨by rw [hce], hbw⟩
          ·
            cases h4 : bdOk (-400) 800 y.en
            ·
              have hce : closErr (placesOf rv.reaches) l = 2 := by
                rw [closErr, if_neg h40, if_pos (clos_all_not hlt (by rw [← ey]; simp [closOk, h1, h2, h3, h4]))]
              refine EC.regionQ (by kernel_rfl) (by kernel_rfl) ?_
              refine EQ.val (fun _ hw => (fa_90_0 rfl)) rfl ?_
              refine EQ.val (fun _ hw => (ld_3 rfl (below_load hw (q2.at (j := 0) rfl)))) rfl ?_
              refine EQ.val (fun _ hw => (ld_47 rfl (below_load hw (q1.at (j := 0) rfl)) (below_load hw (q1.at (j := 1) rfl)))) rfl ?_
              refine EQ.call (fun _ _ _ ha => cl_36 rfl _ ha) rfl (fun W hw => (places_any rv _ _ vs W B (hr.below ((hbw.trans (hw.mono hbw.size)).mono hB)) (Nat.le_trans hB (Nat.le_trans hbw.size hw.size)) (by omega) (river_lens hok)).mono fun e w' h => ⟨h.1, hw.trans (h.2.mono hw.size)⟩) ?_
              refine EQ.val (fun _ hw => (x_sub rfl rfl (by first | assumption | exact IntWalk.i64_in _ ⟨by omega, by omega⟩))) rfl ?_
              refine EQ.call (fun _ _ _ ha => cl_35 rfl rfl rfl _ ha) rfl (fun W hw => (in_eq h1 W).mono fun e w' h => ⟨h.1, hw.trans (h.2.mono hw.size)⟩) ?_
              refine EQ.val (fun _ hw => (x_not rfl)) rfl ?_
              refine EQ.val (fun _ hw => (x_move rfl)) rfl ?_
              refine EQ.valg rfl rfl (fun _ hw => (fa_90_1 rfl)) rfl ?_
              refine EQ.valg rfl rfl (fun _ hw => (ld_3 rfl (below_load hw (q2.at (j := 1) rfl)))) rfl ?_
              refine EQ.valg rfl rfl (fun _ hw => (fa_90_0 rfl)) rfl ?_
              refine EQ.valg rfl rfl (fun _ hw => (ld_3 rfl (below_load hw (q2.at (j := 0) rfl)))) rfl ?_
              refine EQ.valg rfl rfl (fun _ hw => (ld_47 rfl (below_load hw (q1.at (j := 0) rfl)) (below_load hw (q1.at (j := 1) rfl)))) rfl ?_
              refine EQ.callg rfl rfl (fun _ _ _ ha => cl_36 rfl _ ha) rfl (fun W hw => (places_any rv _ _ vs W B (hr.below ((hbw.trans (hw.mono hbw.size)).mono hB)) (Nat.le_trans hB (Nat.le_trans hbw.size hw.size)) (by omega) (river_lens hok)).mono fun e w' h => ⟨h.1, hw.trans (h.2.mono hw.size)⟩) ?_
              refine EQ.valg rfl rfl (fun _ hw => (x_sub rfl rfl (by first | assumption | exact IntWalk.i64_in _ ⟨by omega, by omega⟩))) rfl ?_
              refine EQ.callg rfl rfl (fun _ _ _ ha => cl_35 rfl rfl rfl _ ha) rfl (fun W hw => (in_eq h2 W).mono fun e w' h => ⟨h.1, hw.trans (h.2.mono hw.size)⟩) ?_
              refine EQ.valg rfl rfl (fun _ hw => (x_not rfl)) rfl ?_
              refine EQ.val (fun _ hw => (x_pick_f rfl rfl)) rfl ?_
              refine EQ.val (fun _ hw => (x_move rfl)) rfl ?_
              refine EQ.valg rfl rfl (fun _ hw => (fa_90_2 rfl)) rfl ?_
              refine EQ.valg rfl rfl (fun _ hw => (ld_23 rfl (below_load hw (q2.at (j := 2) rfl)) (below_load hw (q2.at (j := 3) rfl)))) rfl ?_
              refine EQ.callg rfl rfl (fun _ _ _ ha => cl_30 rfl rfl rfl _ ha) rfl (fun W hw => (rvalid_eq h3 W).mono fun e w' h => ⟨h.1, hw.trans (h.2.mono hw.size)⟩) ?_
              refine EQ.valg rfl rfl (fun _ hw => (x_not rfl)) rfl ?_
              refine EQ.val (fun _ hw => (x_pick_f rfl rfl)) rfl ?_
              refine EQ.val (fun _ hw => (x_move rfl)) rfl ?_
              refine EQ.valg rfl rfl (fun _ hw => (fa_90_3 rfl)) rfl ?_
              refine EQ.valg rfl rfl (fun _ hw => (ld_23 rfl (below_load hw (q2.at (j := 4) rfl)) (below_load hw (q2.at (j := 5) rfl)))) rfl ?_
              refine EQ.callg rfl rfl (fun _ _ _ ha => cl_30 rfl rfl rfl _ ha) rfl (fun W hw => (rvalid_eq h4 W).mono fun e w' h => ⟨h.1, hw.trans (h.2.mono hw.size)⟩) ?_
              refine EQ.valg rfl rfl (fun _ hw => (x_not rfl)) rfl ?_
              refine EQ.val (fun _ hw => (x_pick_f rfl rfl)) rfl ?_
              refine EQ.fin (fun w7 hw_ => ?_)
              replace q1 := q1.below hw_ q1.lt
              replace q2 := q2.below hw_ q2.lt
              replace hbw := Below.on hbw hw_ hbw.size
              clear hw_
              refine EX.seq ?_
              refine EC.yes rfl ?_
              refine EC.seq ?_
              refine EC.region ?_
              refine EL.val (x_assign rfl) rfl ?_
              refine EL.nil ?_
              refine EX.seq ?_
              refine EC.ret ?_
              refine EX.blk_ret ?_
              refine EX.seq_ret ?_
              refine EX.seq_ret ?_
              refine EX.blk_ret ?_
              refine EX.seq_ret ?_
              exact EX.done (res1 rfl rfl) ⟨by rw [hce], hbw⟩
            ·
              refine EC.regionQ (by kernel_rfl) (by kernel_rfl) ?_
              refine EQ.val (fun _ hw => (fa_90_0 rfl)) rfl ?_
              refine EQ.val (fun _ hw => (ld_3 rfl (below_load hw (q2.at (j := 0) rfl)))) rfl ?_
              refine EQ.val (fun _ hw => (ld_47 rfl (below_load hw (q1.at (j := 0) rfl)) (below_load hw (q1.at (j := 1) rfl)))) rfl ?_
              refine EQ.call (fun _ _ _ ha => cl_36 rfl _ ha) rfl (fun W hw => (places_any rv _ _ vs W B (hr.below ((hbw.trans (hw.mono hbw.size)).mono hB)) (Nat.le_trans hB (Nat.le_trans hbw.size hw.size)) (by omega) (river_lens hok)).mono fun e w' h => ⟨h.1, hw.trans (h.2.mono hw.size)⟩) ?_
              refine EQ.val (fun _ hw => (x_sub rfl rfl (by first | assumption | exact IntWalk.i64_in _ ⟨by omega, by omega⟩))) rfl ?_
              refine EQ.call (fun _ _ _ ha => cl_35 rfl rfl rfl _ ha) rfl (fun W hw => (in_eq h1 W).mono fun e w' h => ⟨h.1, hw.trans (h.2.mono hw.size)⟩) ?_
              refine EQ.val (fun _ hw => (x_not rfl)) rfl ?_
              refine EQ.val (fun _ hw => (x_move rfl)) rfl ?_
              refine EQ.valg rfl rfl (fun _ hw => (fa_90_1 rfl)) rfl ?_
              refine EQ.valg rfl rfl (fun _ hw => (ld_3 rfl (below_load hw (q2.at (j := 1) rfl)))) rfl ?_
              refine EQ.valg rfl rfl (fun _ hw => (fa_90_0 rfl)) rfl ?_
              refine EQ.valg rfl rfl (fun _ hw => (ld_3 rfl (below_load hw (q2.at (j := 0) rfl)))) rfl ?_
              refine EQ.valg rfl rfl (fun _ hw => (ld_47 rfl (below_load hw (q1.at (j := 0) rfl)) (below_load hw (q1.at (j := 1) rfl)))) rfl ?_
              refine EQ.callg rfl rfl (fun _ _ _ ha => cl_36 rfl _ ha) rfl (fun W hw => (places_any rv _ _ vs W B (hr.below ((hbw.trans (hw.mono hbw.size)).mono hB)) (Nat.le_trans hB (Nat.le_trans hbw.size hw.size)) (by omega) (river_lens hok)).mono fun e w' h => ⟨h.1, hw.trans (h.2.mono hw.size)⟩) ?_
              refine EQ.valg rfl rfl (fun _ hw => (x_sub rfl rfl (by first | assumption | exact IntWalk.i64_in _ ⟨by omega, by omega⟩))) rfl ?_
              refine EQ.callg rfl rfl (fun _ _ _ ha => cl_35 rfl rfl rfl _ ha) rfl (fun W hw => (in_eq h2 W).mono fun e w' h => ⟨h.1, hw.trans (h.2.mono hw.size)⟩) ?_
              refine EQ.valg rfl rfl (fun _ hw => (x_not rfl)) rfl ?_
              refine EQ.val (fun _ hw => (x_pick_f rfl rfl)) rfl ?_
              refine EQ.val (fun _ hw => (x_move rfl)) rfl ?_
              refine EQ.valg rfl rfl (fun _ hw => (fa_90_2 rfl)) rfl ?_
              refine EQ.valg rfl rfl (fun _ hw => (ld_23 rfl (below_load hw (q2.at (j := 2) rfl)) (below_load hw (q2.at (j := 3) rfl)))) rfl ?_
              refine EQ.callg rfl rfl (fun _ _ _ ha => cl_30 rfl rfl rfl _ ha) rfl (fun W hw => (rvalid_eq h3 W).mono fun e w' h => ⟨h.1, hw.trans (h.2.mono hw.size)⟩) ?_
              refine EQ.valg rfl rfl (fun _ hw => (x_not rfl)) rfl ?_
              refine EQ.val (fun _ hw => (x_pick_f rfl rfl)) rfl ?_
              refine EQ.val (fun _ hw => (x_move rfl)) rfl ?_
              refine EQ.valg rfl rfl (fun _ hw => (fa_90_3 rfl)) rfl ?_
              refine EQ.valg rfl rfl (fun _ hw => (ld_23 rfl (below_load hw (q2.at (j := 4) rfl)) (below_load hw (q2.at (j := 5) rfl)))) rfl ?_
              refine EQ.callg rfl rfl (fun _ _ _ ha => cl_30 rfl rfl rfl _ ha) rfl (fun W hw => (rvalid_eq h4 W).mono fun e w' h => ⟨h.1, hw.trans (h.2.mono hw.size)⟩) ?_
              refine EQ.valg rfl rfl (fun _ hw => (x_not rfl)) rfl ?_
              refine EQ.val (fun _ hw => (x_pick_f rfl rfl)) rfl ?_
              refine EQ.fin (fun w8 hw_ => ?_)
              replace q1 := q1.below hw_ q1.lt
              replace q2 := q2.below hw_ q2.lt
              replace hbw := Below.on hbw hw_ hbw.size
              clear hw_
              refine EX.seq ?_
              refine EC.no rfl ?_
              refine EC.skip ?_
              refine EX.blk ?_
              refine EX.seq ?_
              refine EC.region ?_
              refine EL.val (x_move rfl) rfl ?_
              refine EL.val (x_add rfl rfl (by first | assumption | exact IntWalk.i64_in _ ⟨by omega, by omega⟩)) rfl ?_
              refine EL.val (x_assign rfl) rfl ?_
              refine EL.nil ?_
              refine EX.roundD (j + 1) ⟨rfl, trivial⟩ (by repeat first | exact Sub.refl _ | refine sub_past rfl ?_ | refine sub_del rfl ?_ | refine sub_insL_nil ?_) ⟨hlt, fun i hi => ?_, q1, hbw⟩ (by omega)
              rcases Nat.lt_or_ge i j with h | h
              · exact hI i h
              · obtain rfl : i = j := by omega
                rw [← ey]
                simp [closOk, h1, h2, h3, h4]
    ·
      obtain rfl : j = l.length := by omega
      have hce : closErr (placesOf rv.reaches) l = 0 := by rw [closErr, if_neg h40, if_neg (by rw [all_of_getD hI]; simp)]
      refine EC.seq ?_
      refine EC.seq ?_
      refine EC.region ?_
      refine EL.val (x_move rfl) rfl ?_
      refine EL.val (x_move rfl) rfl ?_
      refine EL.val (ln_86 rfl) rfl ?_
      refine EL.val (x_lss rfl rfl (by first | assumption | exact decide_eq_false (by omega))) rfl ?_
      refine EL.nil ?_
      refine EX.seq ?_
      refine EC.no rfl ?_
      refine EC.exit ?_
      refine EX.seq_exit ?_
      refine EX.seq_exit ?_
      refine EX.blk_here ?_
      refine EX.seq ?_
      refine EC.seq ?_
      refine EC.region ?_
      refine EL.val (x_assign rfl) rfl ?_
      refine EL.nil ?_
      refine EX.seq ?_
      refine EC.ret ?_
      exact EX.done (res1 rfl rfl) ⟨by rw [hce], hbw⟩

set_option maxHeartbeats 4000000 in
set_option maxRecDepth 100000 in
theorem rclosed_any (rv : River) (sides : List (List Bd)) (v u s : Value) (vs ss : List Value) (l : List Clos) (vl : Value) (p t : Int) (w : World) (B : Nat) (hr : RdRiver w B v u rv vs) (hs : RdSides w B s sides ss) (hB : B ≤ w.heap.size) (hcl : Rd w B 6 vl l.length (closesC l)) (hn : l.length ≤ 1048576) (hS : StartOk rv sides) (hp1 : 0 ≤ p) (hp2 : p < placesOf rv.reaches) (ht1 : 0 ≤ t) (ht2 : t < (sides.getD 0 []).length) :
    Calls Try.prog 50 #[.agg #[v, u], s, vl, .int .i64 p, .int .i64 t] w fun e w' => e = .returned (.tuple #[.bool (mayAny (lvAt rv sides p t) (flAt rv p) p t l), .bool (mustAny (lvAt rv sides p t) (flAt rv p) p t l)]) ∧ Below w.heap.size w w' := by
  have hR := hS.river
  have hlt : reachOf rv.reaches p < rv.reaches.length := reachOf_lt _ _ hp1 hp2
  have hfb := flowIn_small hS (reachOf rv.reaches p) t hlt ht2
  have hx := hR.reach _ hlt
  have hcv := hr.reaches.curve _ hlt
  obtain ⟨Ac, cac, rfl, _⟩ := hcl.shape
  obtain ⟨A, c, rfl, _⟩ := hr.reaches.shape
  obtain ⟨A', c', rfl, _⟩ := hr.shoals.shape
  obtain ⟨D, d, rfl, _⟩ := hs.rd.shape
  have hbw := Below.refl w.heap.size w
  obtain ⟨b, o, rfl, _, cc⟩ := reaches_cells hr.reaches _ hlt
  obtain ⟨As, cs, es, _⟩ := hcv.shape
  rw [es] at cc hcv
  obtain ⟨fb, ef⟩ : ∃ y, y = flowIn rv.reaches sides (reachOf rv.reaches p) t := ⟨_, rfl⟩
  rw [← ef] at hfb
  obtain ⟨x, ex⟩ : ∃ y, y = rv.reaches.getD (reachOf rv.reaches p) reach0 := ⟨_, rfl⟩
  rw [← ex] at cc hcv hx
  refine EC.enter 99 Try.func50 rfl rfl rfl ?_
  refine EC.seq ?_
  refine EC.region ?_
  refine EL.newP (bx_47 rfl) rfl ?_
  intro g1 w1 q1 hb1 hg1 hl1
  have bhbw_1 := Nat.le_trans hbw.size hg1
  replace hbw := Below.on hbw hb1 hbw.size
  clear hb1 hg1 hl1
  refine EL.val (x_assign rfl) rfl ?_
  refine EL.val (x_assign rfl) rfl ?_
  refine EL.nil ?_
  refine EX.seq ?_
  refine EC.seq ?_
  refine EC.region ?_
  refine EL.val (ld_47 rfl (q1.at (j := 0) rfl) (q1.at (j := 1) rfl)) rfl ?_
  refine EL.val (x_move rfl) rfl ?_
  refine EL.call (cl_76 rfl rfl) rfl (rof_any rv _ _ vs p _ B (hr.below (hbw.mono hB)) (Nat.le_trans hB hbw.size) hR ⟨hp1, hp2⟩) ?_
  rintro e w2 ⟨rfl, hc2⟩
  refine ⟨_, rfl, ?_⟩
  replace q1 := q1.below hc2 q1.lt
  replace hbw := Below.on hbw hc2 hbw.size
  clear hc2
  refine EL.val (x_assign rfl) rfl ?_
  refine EL.nil ?_
  refine EX.seq ?_
  refine EC.seq ?_
  have lt_1 := q1.lt
  refine EC.regionP [[], [0], [], [0, 1, 2], [0, 1, 2, 3], [], [], [], [], [5, 6, 7, 8], [0, 1, 2, 3, 4, 5, 6, 7, 8, 9], [], [0, 1, 2, 3, 4, 5, 6, 7, 8, 9, 10, 11]] 12 [11] (phi (fun i_ r => match i_ with | 0 => r 0 = .pointer (some ⟨g1, 0, none⟩) | 1 => r 1 = .slice (some ⟨b, o, none⟩) rv.reaches.length c | 2 => r 2 = .int .i64 (reachOf rv.reaches p : Nat) | 3 => r 3 = .pointer (some ⟨b, o + reachOf rv.reaches p * 9, none⟩) | 4 => r 4 = .agg (reachV x (.slice As x.curve.length cs)) | 5 => r 5 = .agg #[.slice (some ⟨b, o, none⟩) rv.reaches.length c, .slice A' rv.shoals.length c'] | 6 => r 6 = .slice D sides.length d | 7 => r 7 = .int .i64 (reachOf rv.reaches p : Nat) | 8 => r 8 = .int .i64 t | 9 => r 9 = .agg #[.int .i64 fb.lo, .int .i64 fb.hi] | 10 => r 10 = .agg #[.int .i64 (levelAt x fb).lo, .int .i64 (levelAt x fb).hi] | _ => True) [(11, fun r w_ => ∃ g_, r 11 = .pointer (some ⟨g_, 0, none⟩) ∧ Blk w_ g_ 23 #[.int .i64 0, .int .i64 0])]) (by kernel_rfl) rfl rfl (phi_cons mono_alloc (phi_nil)) (fun i_ hi_ => ?_) ?_
  · match i_, hi_ with
    | 0, _ =>
      intro val w1 a hb ha hd
      have ha := ha.sub (Sub.ins (d := 5) (Sub.nil _) rfl)
      exact hs_val ha rfl rfl (fa_47_0 rfl) rfl rfl
    | 1, _ =>
      intro val w1 a hb ha hd
      have e0 : val 0 = .pointer (some ⟨g1, 0, none⟩) := hd 0 (memB_mem.1 rfl)
      have ha := ha.sub (Sub.ins (d := 21) (Sub.nil _) (dep_get rfl e0))
      exact hs_val ha rfl rfl (ld_44 rfl ((q1.below hb q1.lt).at (j := 0) rfl)) rfl rfl
    | 2, _ =>
      intro val w1 a hb ha hd
      have ha := ha.sub (Sub.ins (d := 12) (Sub.nil _) rfl)
      exact hs_val ha rfl rfl (x_move rfl) rfl rfl
    | 3, _ =>
      intro val w1 a hb ha hd
      have e1 : val 1 = .slice (some ⟨b, o, none⟩) rv.reaches.length c := hd 1 (memB_mem.1 rfl)
      have e2 : val 2 = .int .i64 (reachOf rv.reaches p : Nat) := hd 2 (memB_mem.1 rfl)
      have ha := ha.sub (Sub.ins (d := 23) (Sub.ins (d := 22) (Sub.nil _) (dep_get rfl e1)) (dep_get rfl e2))
      exact hs_val ha rfl rfl (ix_44 (k := reachOf rv.reaches p) rfl rfl hlt) rfl rfl
    | 4, _ =>
      intro val w1 a hb ha hd
      have e3 : val 3 = .pointer (some ⟨b, o + reachOf rv.reaches p * 9, none⟩) := hd 3 (memB_mem.1 rfl)
      have ha := ha.sub (Sub.ins (d := 24) (Sub.nil _) (dep_get rfl e3))
      exact hs_val ha rfl rfl (ld_50 rfl (below_load (Below.on hbw hb hbw.size) cc.c0) (below_load (Below.on hbw hb hbw.size) cc.c1) (below_load (Below.on hbw hb hbw.size) cc.c2) (below_load (Below.on hbw hb hbw.size) cc.c3) (below_load (Below.on hbw hb hbw.size) cc.c4) (below_load (Below.on hbw hb hbw.size) cc.c5) (below_load (Below.on hbw hb hbw.size) cc.c6) (below_load (Below.on hbw hb hbw.size) cc.c7) (below_load (Below.on hbw hb hbw.size) cc.c8)) rfl rfl
    | 5, _ =>
      intro val w1 a hb ha hd
      have ha := ha.sub (Sub.ins (d := 5) (Sub.nil _) rfl)
      exact hs_val ha rfl rfl (ld_47 rfl ((q1.below hb q1.lt).at (j := 0) rfl) ((q1.below hb q1.lt).at (j := 1) rfl)) rfl rfl
    | 6, _ =>
      intro val w1 a hb ha hd
      have ha := ha.sub (Sub.ins (d := 1) (Sub.nil _) rfl)
      exact hs_val ha rfl rfl (x_move rfl) rfl rfl
    | 7, _ =>
      intro val w1 a hb ha hd
      have ha := ha.sub (Sub.ins (d := 12) (Sub.nil _) rfl)
      exact hs_val ha rfl rfl (x_move rfl) rfl rfl
    | 8, _ =>
      intro val w1 a hb ha hd
      have ha := ha.sub (Sub.ins (d := 4) (Sub.nil _) rfl)
      exact hs_val ha rfl rfl (x_move rfl) rfl rfl
    | 9, _ =>
      intro val w1 a hb ha hd
      have e5 : val 5 = .agg #[.slice (some ⟨b, o, none⟩) rv.reaches.length c, .slice A' rv.shoals.length c'] := hd 5 (memB_mem.1 rfl)
      have e6 : val 6 = .slice D sides.length d := hd 6 (memB_mem.1 rfl)
      have e7 : val 7 = .int .i64 (reachOf rv.reaches p : Nat) := hd 7 (memB_mem.1 rfl)
      have e8 : val 8 = .int .i64 t := hd 8 (memB_mem.1 rfl)
      have ha := ha.sub (Sub.ins (d := 29) (Sub.ins (d := 28) (Sub.ins (d := 27) (Sub.ins (d := 26) (Sub.nil _) (dep_get rfl e5)) (dep_get rfl e6)) (dep_get rfl e7)) (dep_get rfl e8))
      refine hs_call ha rfl rfl (cl_47 rfl rfl rfl rfl) ((by have key := rflow_any rv sides _ _ _ vs ss B hS (reachOf rv.reaches p) t _ (hr.below ((Below.on hbw hb hbw.size).mono hB)) (hs.below ((Below.on hbw hb hbw.size).mono hB)) (Nat.le_trans hB (Below.on hbw hb hbw.size).size) hlt ht2; rw [← ef] at key; exact key)) rfl ?_
      rintro e w' ⟨rfl, hb'⟩
      exact ⟨_, rfl, hb', rfl⟩
    | 10, _ =>
      intro val w1 a hb ha hd
      have e4 : val 4 = .agg (reachV x (.slice As x.curve.length cs)) := hd 4 (memB_mem.1 rfl)
      have e9 : val 9 = .agg #[.int .i64 fb.lo, .int .i64 fb.hi] := hd 9 (memB_mem.1 rfl)
      have ha := ha.sub (Sub.ins (d := 30) (Sub.ins (d := 25) (Sub.nil _) (dep_get rfl e4)) (dep_get rfl e9))
      refine hs_call ha rfl rfl (cl_31 rfl rfl) (rlevel_any x _ fb _ B (hcv.below ((Below.on hbw hb hbw.size).mono hB)) (Nat.le_trans hB (Below.on hbw hb hbw.size).size) hx (by omega)) rfl ?_
      rintro e w' ⟨rfl, hb'⟩
      exact ⟨_, rfl, hb', rfl⟩
    | 11, _ =>
      intro val w1 a hb ha hd
      have ha := ha.sub (Sub.nil _)
      exact hs_newP ha rfl rfl al_23 (fun g w' hq _ _ => ⟨g, rfl, hq⟩)
    | k + 12, h => exact absurd h (by omega)
  · intro val wR2 hb halc hd
    have e0 : val 0 = .pointer (some ⟨g1, 0, none⟩) := hd 0 (by omega)
    have e1 : val 1 = .slice (some ⟨b, o, none⟩) rv.reaches.length c := hd 1 (by omega)
    have e2 : val 2 = .int .i64 (reachOf rv.reaches p : Nat) := hd 2 (by omega)
    have e3 : val 3 = .pointer (some ⟨b, o + reachOf rv.reaches p * 9, none⟩) := hd 3 (by omega)
    have e4 : val 4 = .agg (reachV x (.slice As x.curve.length cs)) := hd 4 (by omega)
    have e5 : val 5 = .agg #[.slice (some ⟨b, o, none⟩) rv.reaches.length c, .slice A' rv.shoals.length c'] := hd 5 (by omega)
    have e6 : val 6 = .slice D sides.length d := hd 6 (by omega)
    have e7 : val 7 = .int .i64 (reachOf rv.reaches p : Nat) := hd 7 (by omega)
    have e8 : val 8 = .int .i64 t := hd 8 (by omega)
    have e9 : val 9 = .agg #[.int .i64 fb.lo, .int .i64 fb.hi] := hd 9 (by omega)
    have e10 : val 10 = .agg #[.int .i64 (levelAt x fb).lo, .int .i64 (levelAt x fb).hi] := hd 10 (by omega)
    obtain ⟨ga11_2, e11, qa11_2⟩ := hd 11 (by omega)
    refine EL.ends (cs := [.pointer (some ⟨g1, 0, none⟩), .slice (some ⟨b, o, none⟩) rv.reaches.length c, .int .i64 (reachOf rv.reaches p : Nat), .pointer (some ⟨b, o + reachOf rv.reaches p * 9, none⟩), .agg (reachV x (.slice As x.curve.length cs)), .agg #[.slice (some ⟨b, o, none⟩) rv.reaches.length c, .slice A' rv.shoals.length c'], .slice D sides.length d, .int .i64 (reachOf rv.reaches p : Nat), .int .i64 t, .agg #[.int .i64 fb.lo, .int .i64 fb.hi], .agg #[.int .i64 (levelAt x fb).lo, .int .i64 (levelAt x fb).hi], .pointer (some ⟨ga11_2, 0, none⟩)]) ⟨e0, e1, e2, e3, e4, e5, e6, e7, e8, e9, e10, e11, trivial⟩ rfl ?_
    replace q1 := q1.below hb q1.lt
    have bge3 := alc_ge halc (i := 11) rfl rfl e11
    have n1_3 : g1 ≠ ga11_2 := Nat.ne_of_lt (Nat.lt_of_lt_of_le lt_1 bge3)
    have bhbw_3 := Nat.le_trans hbw.size bge3
    replace hbw := Below.on hbw hb hbw.size
    clear hb
    refine EL.store rfl rfl qa11_2 sz_23 rfl rfl rfl rfl ?_
    intro w4 hq4 hg4
    replace q1 := q1.grown hg4 (fun h => n1_3 (Option.some.inj h))
    replace hbw := below_store hbw hg4 bhbw_3
    replace qa11_2 := hq4
    clear hg4 hq4
    refine EL.nil ?_
    refine EX.seq ?_
    refine EC.seq ?_
    refine EC.regionQ (by kernel_rfl) (by kernel_rfl) ?_
    refine EQ.val (fun _ hw => (fa_23_1 rfl)) rfl ?_
    refine EQ.val (fun _ hw => (ld_3 rfl (below_load hw (qa11_2.at (j := 1) rfl)))) rfl ?_
    refine EQ.val (fun _ hw => (fa_47_0 rfl)) rfl ?_
    refine EQ.val (fun _ hw => (ld_44 rfl (below_load hw (q1.at (j := 0) rfl)))) rfl ?_
    refine EQ.val (fun _ hw => (x_move rfl)) rfl ?_
    refine EQ.val (fun _ hw => (ix_44 (k := reachOf rv.reaches p) rfl rfl hlt)) rfl ?_
    refine EQ.val (fun _ hw => (fa_50_6 rfl)) rfl ?_
    refine EQ.val (fun _ hw => (ld_3 rfl (below_load hw (below_load hbw cc.c8)))) rfl ?_
    refine EQ.val (fun _ hw => (x_gtr rfl rfl rfl)) rfl ?_
    refine EQ.val (fun _ hw => (fa_23_0 rfl)) rfl ?_
    refine EQ.val (fun _ hw => (ld_3 rfl (below_load hw (qa11_2.at (j := 0) rfl)))) rfl ?_
    refine EQ.val (fun _ hw => (fa_47_0 rfl)) rfl ?_
    refine EQ.val (fun _ hw => (ld_44 rfl (below_load hw (q1.at (j := 0) rfl)))) rfl ?_
    refine EQ.val (fun _ hw => (x_move rfl)) rfl ?_
    refine EQ.val (fun _ hw => (ix_44 (k := reachOf rv.reaches p) rfl rfl hlt)) rfl ?_
    refine EQ.val (fun _ hw => (fa_50_6 rfl)) rfl ?_
    refine EQ.val (fun _ hw => (ld_3 rfl (below_load hw (below_load hbw cc.c8)))) rfl ?_
    refine EQ.val (fun _ hw => (x_gtr rfl rfl rfl)) rfl ?_
    refine EQ.val (fun _ hw => (x_assign rfl)) rfl ?_
    refine EQ.val (fun _ hw => (x_assign rfl)) rfl ?_
    refine EQ.fin (fun w5 hw_ => ?_)
    replace q1 := q1.below hw_ q1.lt
    replace qa11_2 := qa11_2.below hw_ qa11_2.lt
    replace hbw := Below.on hbw hw_ hbw.size
    clear hw_
    refine EX.seq ?_
    refine EC.seq ?_
    refine EC.seq ?_
    refine EC.region ?_
    refine EL.val (x_assign rfl) rfl ?_
    refine EL.nil ?_
    refine EX.seq ?_
    refine EC.block ?_
    refine EC.loopD [14, 15, 16, 17, 50, 51, 52, 53, 54, 55, 56, 57, 58, 59, 60, 61, 62, 63, 64, 65, 66, 67, 68, 69, 70, 71, 72, 73, 74, 75, 76, 77, 78, 79, 80, 81, 82, 83, 84, 85, 86, 87, 88, 89, 90, 91, 92, 93, 94, 95, 96] (fun x : Nat × Bool × Bool => [(16, .int .i64 (x.1 : Nat)), (14, .bool x.2.1), (15, .bool x.2.2)]) (fun y W => y.1 ≤ l.length ∧ y.2.1 = mayAny (levelAt x fb) x.flood p t (l.take y.1) ∧ y.2.2 = mustAny (levelAt x fb) x.flood p t (l.take y.1) ∧ Below w.heap.size w W) (fun x => l.length - x.1) (0, decide (x.flood < (levelAt x fb).hi), decide (x.flood < (levelAt x fb).lo)) ⟨Nat.zero_le _, by simp [mayAny], by simp [mustAny], hbw⟩ ⟨rfl, rfl, rfl, trivial⟩ ?_
    clear hbw
    rintro ⟨j, P, S⟩ wr ⟨hj, hP, hM, hbw⟩
    simp only at hj hP hM
    by_cases hlj : j < l.length
    ·
      obtain ⟨bc, oc, rfl, _, cd⟩ := closes_cells l j hlj _ _ _ _ _ hcl
      have h1 := mayAny_take (lv := levelAt x fb) (fl := x.flood) (p := p) (t := t) hlj
      have h2 := mustAny_take (lv := levelAt x fb) (fl := x.flood) (p := p) (t := t) hlj
      rw [← hP] at h1
      rw [← hM] at h2
      obtain ⟨y, ey⟩ : ∃ y, y = l.getD j clos0 := ⟨_, rfl⟩
      rw [← ey] at cd h1 h2
      clear hP hM
      cases P <;> cases S
      ·
        refine EC.seq ?_
        refine EC.seq ?_
        refine EC.region ?_
        refine EL.val (x_move rfl) rfl ?_
        refine EL.val (x_move rfl) rfl ?_
        refine EL.val (ln_86 rfl) rfl ?_
        refine EL.val (x_lss rfl rfl (by first | assumption | exact decide_eq_true (by omega))) rfl ?_
        refine EL.nil ?_
        refine EX.seq ?_
        refine EC.yes rfl ?_
        refine EC.skip ?_
        refine EX.seq ?_
        refine EC.seq ?_
        refine EC.block ?_
        refine EC.seq ?_
        refine EC.region ?_
        refine EL.val (x_move rfl) rfl ?_
        refine EL.val (x_move rfl) rfl ?_
        refine EL.val (ix_86 rfl rfl hlj) rfl ?_
        refine EL.val (ld_90 rfl (below_load hbw cd.c0) (below_load hbw cd.c1) (below_load hbw cd.c2) (below_load hbw cd.c3) (below_load hbw cd.c4) (below_load hbw cd.c5)) rfl ?_
        refine EL.newP al_90 rfl ?_
        intro g6 w6 q6 hb6 hg6 hl6
        have bhbw_6 := Nat.le_trans hbw.size hg6
        replace hbw := Below.on hbw hb6 hbw.size
        clear hb6 hg6 hl6
        refine EL.store rfl rfl q6 sz_90 rfl rfl rfl rfl ?_
        intro w7 hq7 hg7
        replace hbw := below_store hbw hg7 bhbw_6
        replace q6 := hq7
        clear hg7 hq7
        refine EL.nil ?_
        refine EX.seq ?_
        refine EC.seq ?_
        refine EC.seq ?_
        refine EC.region ?_
        refine EL.val (x_move rfl) rfl ?_
        refine EL.val (fa_90_0 rfl) rfl ?_
        refine EL.val (ld_3 rfl (q6.at (j := 0) rfl)) rfl ?_
        refine EL.val (fa_90_1 rfl) rfl ?_
        refine EL.val (ld_3 rfl (q6.at (j := 1) rfl)) rfl ?_
        cases hin : inB y.fr y.to p
        ·
          refine EL.call (cl_35 rfl rfl rfl) rfl (in_eq hin _) ?_
          rintro e w8 ⟨rfl, hc8⟩
          refine ⟨_, rfl, ?_⟩
          replace q6 := q6.below hc8 q6.lt
          replace hbw := Below.on hbw hc8 hbw.size
          clear hc8
          refine EL.val (x_not rfl) rfl ?_
          refine EL.nil ?_
          refine EX.seq ?_
          refine EC.yes rfl ?_
          refine EC.exit ?_
          refine EX.seq_exit ?_
          refine EX.blk_here ?_
          refine EX.seq ?_
          refine EC.region ?_
          refine EL.val (x_move rfl) rfl ?_
          refine EL.val (x_add rfl rfl (by first | assumption | exact IntWalk.i64_in _ ⟨by omega, by omega⟩)) rfl ?_
          refine EL.val (x_assign rfl) rfl ?_
          refine EL.nil ?_
          refine EX.roundD (j + 1, false, false) ⟨rfl, rfl, rfl, trivial⟩ (by repeat first | exact Sub.refl _ | refine sub_past rfl ?_ | refine sub_del rfl ?_ | refine sub_insL_nil ?_) ⟨hlj, by rw [h1]; simp [mayShut, hin], by rw [h2]; simp [mustShut, hin], hbw⟩ (by simp only; omega)
        ·
          refine EL.call (cl_35 rfl rfl rfl) rfl (in_eq hin _) ?_
          rintro e w9 ⟨rfl, hc9⟩
          refine ⟨_, rfl, ?_⟩
          replace q6 := q6.below hc9 q6.lt
          replace hbw := Below.on hbw hc9 hbw.size
          clear hc9
          refine EL.val (x_not rfl) rfl ?_
          refine EL.nil ?_
          refine EX.seq ?_
          refine EC.no rfl ?_
          refine EC.skip ?_
          refine EX.seq ?_
          refine EC.seq ?_
          refine EC.region ?_
          refine EL.val (x_move rfl) rfl ?_
          refine EL.val (x_move rfl) rfl ?_
          refine EL.valg rfl rfl (x_move rfl) rfl ?_
          refine EL.valg rfl rfl (fa_90_2 rfl) rfl ?_
          refine EL.valg rfl rfl (fa_23_0 rfl) rfl ?_
          refine EL.valg rfl rfl (ld_3 rfl (q6.at (j := 2) rfl)) rfl ?_
          by_cases g9 : y.bg.lo ≤ t
          ·
            refine EL.valg rfl rfl (x_geq rfl rfl (by first | assumption | exact decide_eq_true (by omega))) rfl ?_
            refine EL.valg rfl rfl (x_move rfl) rfl ?_
            refine EL.valg rfl rfl (x_move rfl) rfl ?_
            refine EL.valg rfl rfl (fa_90_3 rfl) rfl ?_
            refine EL.valg rfl rfl (fa_23_1 rfl) rfl ?_
            refine EL.valg rfl rfl (ld_3 rfl (q6.at (j := 5) rfl)) rfl ?_
            refine EL.valg rfl rfl (x_lss rfl rfl rfl) rfl ?_
            refine EL.valg rfl rfl (x_pick_t rfl rfl) rfl ?_
            refine EL.val (x_pick_f rfl rfl) rfl ?_
            refine EL.val (x_assign rfl) rfl ?_
            refine EL.nil ?_
            refine EX.seq ?_
            refine EC.region ?_
            refine EL.val (x_move rfl) rfl ?_
            refine EL.val (x_move rfl) rfl ?_
            refine EL.valg rfl rfl (x_move rfl) rfl ?_
            refine EL.valg rfl rfl (fa_90_2 rfl) rfl ?_
            refine EL.valg rfl rfl (fa_23_1 rfl) rfl ?_
            refine EL.valg rfl rfl (ld_3 rfl (q6.at (j := 3) rfl)) rfl ?_
            by_cases g10 : y.bg.hi ≤ t
            ·
              refine EL.valg rfl rfl (x_geq rfl rfl (by first | assumption | exact decide_eq_true (by omega))) rfl ?_
              refine EL.valg rfl rfl (x_move rfl) rfl ?_
              refine EL.valg rfl rfl (x_move rfl) rfl ?_
              refine EL.valg rfl rfl (fa_90_3 rfl) rfl ?_
              refine EL.valg rfl rfl (fa_23_0 rfl) rfl ?_
              refine EL.valg rfl rfl (ld_3 rfl (q6.at (j := 4) rfl)) rfl ?_
              refine EL.valg rfl rfl (x_lss rfl rfl rfl) rfl ?_
              refine EL.valg rfl rfl (x_pick_t rfl rfl) rfl ?_
              refine EL.val (x_pick_f rfl rfl) rfl ?_
              refine EL.val (x_assign rfl) rfl ?_
              refine EL.nil ?_
              refine EX.blk ?_
              refine EX.seq ?_
              refine EC.region ?_
              refine EL.val (x_move rfl) rfl ?_
              refine EL.val (x_add rfl rfl (by first | assumption | exact IntWalk.i64_in _ ⟨by omega, by omega⟩)) rfl ?_
              refine EL.val (x_assign rfl) rfl ?_
              refine EL.nil ?_
              refine EX.roundD (j + 1, decide (t < y.en.hi), decide (t < y.en.lo)) ⟨rfl, rfl, rfl, trivial⟩ (by repeat first | exact Sub.refl _ | refine sub_past rfl ?_ | refine sub_del rfl ?_ | refine sub_insL_nil ?_) ⟨hlj, by rw [h1]; simp [mayShut, hin, g9, g10], by rw [h2]; simp [mustShut, hin, g9, g10], hbw⟩ (by simp only; omega)
            ·
              refine EL.valg rfl rfl (x_geq rfl rfl (by first | assumption | exact decide_eq_false (by omega))) rfl ?_
              refine EL.valg rfl rfl (x_move rfl) rfl ?_
              refine EL.skip rfl rfl rfl rfl ?_
              refine EL.skip rfl rfl rfl rfl ?_
              refine EL.skip rfl rfl rfl rfl ?_
              refine EL.skip rfl rfl rfl rfl ?_
              refine EL.skip rfl rfl rfl rfl ?_
              refine EL.valg rfl rfl (x_pick_f rfl rfl) rfl ?_
              refine EL.val (x_pick_f rfl rfl) rfl ?_
              refine EL.val (x_assign rfl) rfl ?_
              refine EL.nil ?_
              refine EX.blk ?_
              refine EX.seq ?_
              refine EC.region ?_
              refine EL.val (x_move rfl) rfl ?_
              refine EL.val (x_add rfl rfl (by first | assumption | exact IntWalk.i64_in _ ⟨by omega, by omega⟩)) rfl ?_
              refine EL.val (x_assign rfl) rfl ?_
              refine EL.nil ?_
              refine EX.roundD (j + 1, decide (t < y.en.hi), false) ⟨rfl, rfl, rfl, trivial⟩ (by repeat first | exact Sub.refl _ | refine sub_past rfl ?_ | refine sub_del rfl ?_ | refine sub_insL_nil ?_) ⟨hlj, by rw [h1]; simp [mayShut, hin, g9, g10], by rw [h2]; simp [mustShut, hin, g9, g10], hbw⟩ (by simp only; omega)
          ·
            refine EL.valg rfl rfl (x_geq rfl rfl (by first | assumption | exact decide_eq_false (by omega))) rfl ?_
            refine EL.valg rfl rfl (x_move rfl) rfl ?_
            refine EL.skip rfl rfl rfl rfl ?_
            refine EL.skip rfl rfl rfl rfl ?_
            refine EL.skip rfl rfl rfl rfl ?_
            refine EL.skip rfl rfl rfl rfl ?_
            refine EL.skip rfl rfl rfl rfl ?_
            refine EL.valg rfl rfl (x_pick_f rfl rfl) rfl ?_
            refine EL.val (x_pick_f rfl rfl) rfl ?_
            refine EL.val (x_assign rfl) rfl ?_
            refine EL.nil ?_
            refine EX.seq ?_
            refine EC.region ?_
            refine EL.val (x_move rfl) rfl ?_
            refine EL.val (x_move rfl) rfl ?_
            refine EL.valg rfl rfl (x_move rfl) rfl ?_
            refine EL.valg rfl rfl (fa_90_2 rfl) rfl ?_
            refine EL.valg rfl rfl (fa_23_1 rfl) rfl ?_
            refine EL.valg rfl rfl (ld_3 rfl (q6.at (j := 3) rfl)) rfl ?_
            by_cases g10 : y.bg.hi ≤ t
            ·
              refine EL.valg rfl rfl (x_geq rfl rfl (by first | assumption | exact decide_eq_true (by omega))) rfl ?_
              refine EL.valg rfl rfl (x_move rfl) rfl ?_
              refine EL.valg rfl rfl (x_move rfl) rfl ?_
              refine EL.valg rfl rfl (fa_90_3 rfl) rfl ?_
              refine EL.valg rfl rfl (fa_23_0 rfl) rfl ?_
              refine EL.valg rfl rfl (ld_3 rfl (q6.at (j := 4) rfl)) rfl ?_
              refine EL.valg rfl rfl (x_lss rfl rfl rfl) rfl ?_
              refine EL.valg rfl rfl (x_pick_t rfl rfl) rfl ?_
              refine EL.val (x_pick_f rfl rfl) rfl ?_
              refine EL.val (x_assign rfl) rfl ?_
              refine EL.nil ?_
              refine EX.blk ?_
              refine EX.seq ?_
              refine EC.region ?_
              refine EL.val (x_move rfl) rfl ?_
              refine EL.val (x_add rfl rfl (by first | assumption | exact IntWalk.i64_in _ ⟨by omega, by omega⟩)) rfl ?_
              refine EL.val (x_assign rfl) rfl ?_
              refine EL.nil ?_
              refine EX.roundD (j + 1, false, decide (t < y.en.lo)) ⟨rfl, rfl, rfl, trivial⟩ (by repeat first | exact Sub.refl _ | refine sub_past rfl ?_ | refine sub_del rfl ?_ | refine sub_insL_nil ?_) ⟨hlj, by rw [h1]; simp [mayShut, hin, g9, g10], by rw [h2]; simp [mustShut, hin, g9, g10], hbw⟩ (by simp only; omega)
            ·
              refine EL.valg rfl rfl (x_geq rfl rfl (by first | assumption | exact decide_eq_false (by omega))) rfl ?_
              refine EL.valg rfl rfl (x_move rfl) rfl ?_
              refine EL.skip rfl rfl rfl rfl ?_
              refine EL.skip rfl rfl rfl rfl ?_
              refine EL.skip rfl rfl rfl rfl ?_
              refine EL.skip rfl rfl rfl rfl ?_
              refine EL.skip rfl rfl rfl rfl ?_
              refine EL.valg rfl rfl (x_pick_f rfl rfl) rfl ?_
              refine EL.val (x_pick_f rfl rfl) rfl ?_
              refine EL.val (x_assign rfl) rfl ?_
              refine EL.nil ?_
              refine EX.blk ?_
              refine EX.seq ?_
              refine EC.region ?_
              refine EL.val (x_move rfl) rfl ?_
              refine EL.val (x_add rfl rfl (by first | assumption | exact IntWalk.i64_in _ ⟨by omega, by omega⟩)) rfl ?_
              refine EL.val (x_assign rfl) rfl ?_
              refine EL.nil ?_
              refine EX.roundD (j + 1, false, false) ⟨rfl, rfl, rfl, trivial⟩ (by repeat first | exact Sub.refl _ | refine sub_past rfl ?_ | refine sub_del rfl ?_ | refine sub_insL_nil ?_) ⟨hlj, by rw [h1]; simp [mayShut, hin, g9, g10], by rw [h2]; simp [mustShut, hin, g9, g10], hbw⟩ (by simp only; omega)
      ·
        refine EC.seq ?_
        refine EC.seq ?_
        refine EC.region ?_
        refine EL.val (x_move rfl) rfl ?_
        refine EL.val (x_move rfl) rfl ?_
        refine EL.val (ln_86 rfl) rfl ?_
        refine EL.val (x_lss rfl rfl (by first | assumption | exact decide_eq_true (by omega))) rfl ?_
        refine EL.nil ?_
        refine EX.seq ?_
        refine EC.yes rfl ?_
        refine EC.skip ?_
        refine EX.seq ?_
        refine EC.seq ?_
        refine EC.block ?_
        refine EC.seq ?_
        refine EC.region ?_
        refine EL.val (x_move rfl) rfl ?_
        refine EL.val (x_move rfl) rfl ?_
        refine EL.val (ix_86 rfl rfl hlj) rfl ?_
        refine EL.val (ld_90 rfl (below_load hbw cd.c0) (below_load hbw cd.c1) (below_load hbw cd.c2) (below_load hbw cd.c3) (below_load hbw cd.c4) (below_load hbw cd.c5)) rfl ?_
        refine EL.newP al_90 rfl ?_
        intro g10 w10 q10 hb10 hg10 hl10
        have bhbw_10 := Nat.le_trans hbw.size hg10
        replace hbw := Below.on hbw hb10 hbw.size
        clear hb10 hg10 hl10
        refine EL.store rfl rfl q10 sz_90 rfl rfl rfl rfl ?_
        intro w11 hq11 hg11
        replace hbw := below_store hbw hg11 bhbw_10
        replace q10 := hq11
        clear hg11 hq11
        refine EL.nil ?_
        refine EX.seq ?_
        refine EC.seq ?_
        refine EC.seq ?_
        refine EC.region ?_
        refine EL.val (x_move rfl) rfl ?_
        refine EL.val (fa_90_0 rfl) rfl ?_
        refine EL.val (ld_3 rfl (q10.at (j := 0) rfl)) rfl ?_
        refine EL.val (fa_90_1 rfl) rfl ?_
        refine EL.val (ld_3 rfl (q10.at (j := 1) rfl)) rfl ?_
        cases hin : inB y.fr y.to p
        ·
          refine EL.call (cl_35 rfl rfl rfl) rfl (in_eq hin _) ?_
          rintro e w12 ⟨rfl, hc12⟩
          refine ⟨_, rfl, ?_⟩
          replace q10 := q10.below hc12 q10.lt
          replace hbw := Below.on hbw hc12 hbw.size
          clear hc12
          refine EL.val (x_not rfl) rfl ?_
          refine EL.nil ?_
          refine EX.seq ?_
          refine EC.yes rfl ?_
          refine EC.exit ?_
          refine EX.seq_exit ?_
          refine EX.blk_here ?_
          refine EX.seq ?_
          refine EC.region ?_
          refine EL.val (x_move rfl) rfl ?_
          refine EL.val (x_add rfl rfl (by first | assumption | exact IntWalk.i64_in _ ⟨by omega, by omega⟩)) rfl ?_
          refine EL.val (x_assign rfl) rfl ?_
          refine EL.nil ?_
          refine EX.roundD (j + 1, false, true) ⟨rfl, rfl, rfl, trivial⟩ (by repeat first | exact Sub.refl _ | refine sub_past rfl ?_ | refine sub_del rfl ?_ | refine sub_insL_nil ?_) ⟨hlj, by rw [h1]; simp [mayShut, hin], by rw [h2]; simp [mustShut, hin], hbw⟩ (by simp only; omega)
        ·
          refine EL.call (cl_35 rfl rfl rfl) rfl (in_eq hin _) ?_
          rintro e w13 ⟨rfl, hc13⟩
          refine ⟨_, rfl, ?_⟩
          replace q10 := q10.below hc13 q10.lt
          replace hbw := Below.on hbw hc13 hbw.size
          clear hc13
          refine EL.val (x_not rfl) rfl ?_
          refine EL.nil ?_
          refine EX.seq ?_
          refine EC.no rfl ?_
          refine EC.skip ?_
          refine EX.seq ?_
          refine EC.seq ?_
          refine EC.region ?_
          refine EL.val (x_move rfl) rfl ?_
          refine EL.val (x_move rfl) rfl ?_
          refine EL.valg rfl rfl (x_move rfl) rfl ?_
          refine EL.valg rfl rfl (fa_90_2 rfl) rfl ?_
          refine EL.valg rfl rfl (fa_23_0 rfl) rfl ?_
          refine EL.valg rfl rfl (ld_3 rfl (q10.at (j := 2) rfl)) rfl ?_
          by_cases g9 : y.bg.lo ≤ t
          ·
            refine EL.valg rfl rfl (x_geq rfl rfl (by first | assumption | exact decide_eq_true (by omega))) rfl ?_
            refine EL.valg rfl rfl (x_move rfl) rfl ?_
            refine EL.valg rfl rfl (x_move rfl) rfl ?_
            refine EL.valg rfl rfl (fa_90_3 rfl) rfl ?_
            refine EL.valg rfl rfl (fa_23_1 rfl) rfl ?_
            refine EL.valg rfl rfl (ld_3 rfl (q10.at (j := 5) rfl)) rfl ?_
            refine EL.valg rfl rfl (x_lss rfl rfl rfl) rfl ?_
            refine EL.valg rfl rfl (x_pick_t rfl rfl) rfl ?_
            refine EL.val (x_pick_f rfl rfl) rfl ?_
            refine EL.val (x_assign rfl) rfl ?_
            refine EL.nil ?_
            refine EX.seq ?_
            refine EC.region ?_
            refine EL.val (x_move rfl) rfl ?_
            refine EL.val (x_move rfl) rfl ?_
            refine EL.skip rfl rfl rfl rfl ?_
            refine EL.skip rfl rfl rfl rfl ?_
            refine EL.skip rfl rfl rfl rfl ?_
            refine EL.skip rfl rfl rfl rfl ?_
            refine EL.skip rfl rfl rfl rfl ?_
            refine EL.skip rfl rfl rfl rfl ?_
            refine EL.skip rfl rfl rfl rfl ?_
            refine EL.skip rfl rfl rfl rfl ?_
            refine EL.skip rfl rfl rfl rfl ?_
            refine EL.skip rfl rfl rfl rfl ?_
            refine EL.skip rfl rfl rfl rfl ?_
            refine EL.skip rfl rfl rfl rfl ?_
            refine EL.val (x_pick_t rfl rfl) rfl ?_
            refine EL.val (x_assign rfl) rfl ?_
            refine EL.nil ?_
            refine EX.blk ?_
            refine EX.seq ?_
            refine EC.region ?_
            refine EL.val (x_move rfl) rfl ?_
            refine EL.val (x_add rfl rfl (by first | assumption | exact IntWalk.i64_in _ ⟨by omega, by omega⟩)) rfl ?_
            refine EL.val (x_assign rfl) rfl ?_
            refine EL.nil ?_
            refine EX.roundD (j + 1, decide (t < y.en.hi), true) ⟨rfl, rfl, rfl, trivial⟩ (by repeat first | exact Sub.refl _ | refine sub_past rfl ?_ | refine sub_del rfl ?_ | refine sub_insL_nil ?_) ⟨hlj, by rw [h1]; simp [mayShut, hin, g9], by rw [h2]; simp [mustShut, hin, g9], hbw⟩ (by simp only; omega)
          ·
            refine EL.valg rfl rfl (x_geq rfl rfl (by first | assumption | exact decide_eq_false (by omega))) rfl ?_
            refine EL.valg rfl rfl (x_move rfl) rfl ?_
            refine EL.skip rfl rfl rfl rfl ?_
            refine EL.skip rfl rfl rfl rfl ?_
            refine EL.skip rfl rfl rfl rfl ?_
            refine EL.skip rfl rfl rfl rfl ?_
            refine EL.skip rfl rfl rfl rfl ?_
            refine EL.valg rfl rfl (x_pick_f rfl rfl) rfl ?_
            refine EL.val (x_pick_f rfl rfl) rfl ?_
            refine EL.val (x_assign rfl) rfl ?_
            refine EL.nil ?_
            refine EX.seq ?_
            refine EC.region ?_
            refine EL.val (x_move rfl) rfl ?_
            refine EL.val (x_move rfl) rfl ?_
            refine EL.skip rfl rfl rfl rfl ?_
            refine EL.skip rfl rfl rfl rfl ?_
            refine EL.skip rfl rfl rfl rfl ?_
            refine EL.skip rfl rfl rfl rfl ?_
            refine EL.skip rfl rfl rfl rfl ?_
            refine EL.skip rfl rfl rfl rfl ?_
            refine EL.skip rfl rfl rfl rfl ?_
            refine EL.skip rfl rfl rfl rfl ?_
            refine EL.skip rfl rfl rfl rfl ?_
            refine EL.skip rfl rfl rfl rfl ?_
            refine EL.skip rfl rfl rfl rfl ?_
            refine EL.skip rfl rfl rfl rfl ?_
            refine EL.val (x_pick_t rfl rfl) rfl ?_
            refine EL.val (x_assign rfl) rfl ?_
            refine EL.nil ?_
            refine EX.blk ?_
            refine EX.seq ?_
            refine EC.region ?_
            refine EL.val (x_move rfl) rfl ?_
            refine EL.val (x_add rfl rfl (by first | assumption | exact IntWalk.i64_in _ ⟨by omega, by omega⟩)) rfl ?_
            refine EL.val (x_assign rfl) rfl ?_
            refine EL.nil ?_
            refine EX.roundD (j + 1, false, true) ⟨rfl, rfl, rfl, trivial⟩ (by repeat first | exact Sub.refl _ | refine sub_past rfl ?_ | refine sub_del rfl ?_ | refine sub_insL_nil ?_) ⟨hlj, by rw [h1]; simp [mayShut, hin, g9], by rw [h2]; simp [mustShut, hin, g9], hbw⟩ (by simp only; omega)
      ·
        refine EC.seq ?_
        refine EC.seq ?_
        refine EC.region ?_
        refine EL.val (x_move rfl) rfl ?_
        refine EL.val (x_move rfl) rfl ?_
        refine EL.val (ln_86 rfl) rfl ?_
        refine EL.val (x_lss rfl rfl (by first | assumption | exact decide_eq_true (by omega))) rfl ?_
        refine EL.nil ?_
        refine EX.seq ?_
        refine EC.yes rfl ?_
        refine EC.skip ?_
        refine EX.seq ?_
        refine EC.seq ?_
        refine EC.block ?_
        refine EC.seq ?_
        refine EC.region ?_
        refine EL.val (x_move rfl) rfl ?_
        refine EL.val (x_move rfl) rfl ?_
        refine EL.val (ix_86 rfl rfl hlj) rfl ?_
        refine EL.val (ld_90 rfl (below_load hbw cd.c0) (below_load hbw cd.c1) (below_load hbw cd.c2) (below_load hbw cd.c3) (below_load hbw cd.c4) (below_load hbw cd.c5)) rfl ?_
        refine EL.newP al_90 rfl ?_
        intro g14 w14 q14 hb14 hg14 hl14
        have bhbw_14 := Nat.le_trans hbw.size hg14
        replace hbw := Below.on hbw hb14 hbw.size
        clear hb14 hg14 hl14
        refine EL.store rfl rfl q14 sz_90 rfl rfl rfl rfl ?_
        intro w15 hq15 hg15
        replace hbw := below_store hbw hg15 bhbw_14
        replace q14 := hq15
        clear hg15 hq15
        refine EL.nil ?_
        refine EX.seq ?_
        refine EC.seq ?_
        refine EC.seq ?_
        refine EC.region ?_
        refine EL.val (x_move rfl) rfl ?_
        refine EL.val (fa_90_0 rfl) rfl ?_
        refine EL.val (ld_3 rfl (q14.at (j := 0) rfl)) rfl ?_
        refine EL.val (fa_90_1 rfl) rfl ?_
        refine EL.val (ld_3 rfl (q14.at (j := 1) rfl)) rfl ?_
        cases hin : inB y.fr y.to p
        ·
          refine EL.call (cl_35 rfl rfl rfl) rfl (in_eq hin _) ?_
          rintro e w16 ⟨rfl, hc16⟩
          refine ⟨_, rfl, ?_⟩
          replace q14 := q14.below hc16 q14.lt
          replace hbw := Below.on hbw hc16 hbw.size
          clear hc16
          refine EL.val (x_not rfl) rfl ?_
          refine EL.nil ?_
          refine EX.seq ?_
          refine EC.yes rfl ?_
          refine EC.exit ?_
          refine EX.seq_exit ?_
          refine EX.blk_here ?_
          refine EX.seq ?_
          refine EC.region ?_
          refine EL.val (x_move rfl) rfl ?_
          refine EL.val (x_add rfl rfl (by first | assumption | exact IntWalk.i64_in _ ⟨by omega, by omega⟩)) rfl ?_
          refine EL.val (x_assign rfl) rfl ?_
          refine EL.nil ?_
          refine EX.roundD (j + 1, true, false) ⟨rfl, rfl, rfl, trivial⟩ (by repeat first | exact Sub.refl _ | refine sub_past rfl ?_ | refine sub_del rfl ?_ | refine sub_insL_nil ?_) ⟨hlj, by rw [h1]; simp [mayShut, hin], by rw [h2]; simp [mustShut, hin], hbw⟩ (by simp only; omega)
        ·
          refine EL.call (cl_35 rfl rfl rfl) rfl (in_eq hin _) ?_
          rintro e w17 ⟨rfl, hc17⟩
          refine ⟨_, rfl, ?_⟩
          replace q14 := q14.below hc17 q14.lt
          replace hbw := Below.on hbw hc17 hbw.size
          clear hc17
          refine EL.val (x_not rfl) rfl ?_
          refine EL.nil ?_
          refine EX.seq ?_
          refine EC.no rfl ?_
          refine EC.skip ?_
          refine EX.seq ?_
          refine EC.seq ?_
          refine EC.region ?_
          refine EL.val (x_move rfl) rfl ?_
          refine EL.val (x_move rfl) rfl ?_
          refine EL.skip rfl rfl rfl rfl ?_
          refine EL.skip rfl rfl rfl rfl ?_
          refine EL.skip rfl rfl rfl rfl ?_
          refine EL.skip rfl rfl rfl rfl ?_
          refine EL.skip rfl rfl rfl rfl ?_
          refine EL.skip rfl rfl rfl rfl ?_
          refine EL.skip rfl rfl rfl rfl ?_
          refine EL.skip rfl rfl rfl rfl ?_
          refine EL.skip rfl rfl rfl rfl ?_
          refine EL.skip rfl rfl rfl rfl ?_
          refine EL.skip rfl rfl rfl rfl ?_
          refine EL.skip rfl rfl rfl rfl ?_
          refine EL.val (x_pick_t rfl rfl) rfl ?_
          refine EL.val (x_assign rfl) rfl ?_
          refine EL.nil ?_
          refine EX.seq ?_
          refine EC.region ?_
          refine EL.val (x_move rfl) rfl ?_
          refine EL.val (x_move rfl) rfl ?_
          refine EL.valg rfl rfl (x_move rfl) rfl ?_
          refine EL.valg rfl rfl (fa_90_2 rfl) rfl ?_
          refine EL.valg rfl rfl (fa_23_1 rfl) rfl ?_
          refine EL.valg rfl rfl (ld_3 rfl (q14.at (j := 3) rfl)) rfl ?_
          by_cases g10 : y.bg.hi ≤ t
          ·
            refine EL.valg rfl rfl (x_geq rfl rfl (by first | assumption | exact decide_eq_true (by omega))) rfl ?_
            refine EL.valg rfl rfl (x_move rfl) rfl ?_
            refine EL.valg rfl rfl (x_move rfl) rfl ?_
            refine EL.valg rfl rfl (fa_90_3 rfl) rfl ?_
            refine EL.valg rfl rfl (fa_23_0 rfl) rfl ?_
            refine EL.valg rfl rfl (ld_3 rfl (q14.at (j := 4) rfl)) rfl ?_
            refine EL.valg rfl rfl (x_lss rfl rfl rfl) rfl ?_
            refine EL.valg rfl rfl (x_pick_t rfl rfl) rfl ?_
            refine EL.val (x_pick_f rfl rfl) rfl ?_
            refine EL.val (x_assign rfl) rfl ?_
            refine EL.nil ?_
            refine EX.blk ?_
            refine EX.seq ?_
            refine EC.region ?_
            refine EL.val (x_move rfl) rfl ?_
            refine EL.val (x_add rfl rfl (by first | assumption | exact IntWalk.i64_in _ ⟨by omega, by omega⟩)) rfl ?_
            refine EL.val (x_assign rfl) rfl ?_
            refine EL.nil ?_
            refine EX.roundD (j + 1, true, decide (t < y.en.lo)) ⟨rfl, rfl, rfl, trivial⟩ (by repeat first | exact Sub.refl _ | refine sub_past rfl ?_ | refine sub_del rfl ?_ | refine sub_insL_nil ?_) ⟨hlj, by rw [h1]; simp [mayShut, hin, g10], by rw [h2]; simp [mustShut, hin, g10], hbw⟩ (by simp only; omega)
          ·
            refine EL.valg rfl rfl (x_geq rfl rfl (by first | assumption | exact decide_eq_false (by omega))) rfl ?_
            refine EL.valg rfl rfl (x_move rfl) rfl ?_
            refine EL.skip rfl rfl rfl rfl ?_
            refine EL.skip rfl rfl rfl rfl ?_
            refine EL.skip rfl rfl rfl rfl ?_
            refine EL.skip rfl rfl rfl rfl ?_
            refine EL.skip rfl rfl rfl rfl ?_
            refine EL.valg rfl rfl (x_pick_f rfl rfl) rfl ?_
            refine EL.val (x_pick_f rfl rfl) rfl ?_
            refine EL.val (x_assign rfl) rfl ?_
            refine EL.nil ?_
            refine EX.blk ?_
            refine EX.seq ?_
            refine EC.region ?_
            refine EL.val (x_move rfl) rfl ?_
            refine EL.val (x_add rfl rfl (by first | assumption | exact IntWalk.i64_in _ ⟨by omega, by omega⟩)) rfl ?_
            refine EL.val (x_assign rfl) rfl ?_
            refine EL.nil ?_
            refine EX.roundD (j + 1, true, false) ⟨rfl, rfl, rfl, trivial⟩ (by repeat first | exact Sub.refl _ | refine sub_past rfl ?_ | refine sub_del rfl ?_ | refine sub_insL_nil ?_) ⟨hlj, by rw [h1]; simp [mayShut, hin, g10], by rw [h2]; simp [mustShut, hin, g10], hbw⟩ (by simp only; omega)
      ·
        refine EC.seq ?_
        refine EC.seq ?_
        refine EC.region ?_
        refine EL.val (x_move rfl) rfl ?_
        refine EL.val (x_move rfl) rfl ?_
        refine EL.val (ln_86 rfl) rfl ?_
        refine EL.val (x_lss rfl rfl (by first | assumption | exact decide_eq_true (by omega))) rfl ?_
        refine EL.nil ?_
        refine EX.seq ?_
        refine EC.yes rfl ?_
        refine EC.skip ?_
        refine EX.seq ?_
        refine EC.seq ?_
        refine EC.block ?_
        refine EC.seq ?_
        refine EC.region ?_
        refine EL.val (x_move rfl) rfl ?_
        refine EL.val (x_move rfl) rfl ?_
        refine EL.val (ix_86 rfl rfl hlj) rfl ?_
        refine EL.val (ld_90 rfl (below_load hbw cd.c0) (below_load hbw cd.c1) (below_load hbw cd.c2) (below_load hbw cd.c3) (below_load hbw cd.c4) (below_load hbw cd.c5)) rfl ?_
        refine EL.newP al_90 rfl ?_
        intro g18 w18 q18 hb18 hg18 hl18
        have bhbw_18 := Nat.le_trans hbw.size hg18
        replace hbw := Below.on hbw hb18 hbw.size
        clear hb18 hg18 hl18
        refine EL.store rfl rfl q18 sz_90 rfl rfl rfl rfl ?_
        intro w19 hq19 hg19
        replace hbw := below_store hbw hg19 bhbw_18
        replace q18 := hq19
        clear hg19 hq19
        refine EL.nil ?_
        refine EX.seq ?_
        refine EC.seq ?_
        refine EC.seq ?_
        refine EC.region ?_
        refine EL.val (x_move rfl) rfl ?_
        refine EL.val (fa_90_0 rfl) rfl ?_
        refine EL.val (ld_3 rfl (q18.at (j := 0) rfl)) rfl ?_
        refine EL.val (fa_90_1 rfl) rfl ?_
        refine EL.val (ld_3 rfl (q18.at (j := 1) rfl)) rfl ?_
        cases hin : inB y.fr y.to p
        ·
          refine EL.call (cl_35 rfl rfl rfl) rfl (in_eq hin _) ?_
          rintro e w20 ⟨rfl, hc20⟩
          refine ⟨_, rfl, ?_⟩
          replace q18 := q18.below hc20 q18.lt
          replace hbw := Below.on hbw hc20 hbw.size
          clear hc20
          refine EL.val (x_not rfl) rfl ?_
          refine EL.nil ?_
          refine EX.seq ?_
          refine EC.yes rfl ?_
          refine EC.exit ?_
          refine EX.seq_exit ?_
          refine EX.blk_here ?_
          refine EX.seq ?_
          refine EC.region ?_
          refine EL.val (x_move rfl) rfl ?_
          refine EL.val (x_add rfl rfl (by first | assumption | exact IntWalk.i64_in _ ⟨by omega, by omega⟩)) rfl ?_
          refine EL.val (x_assign rfl) rfl ?_
          refine EL.nil ?_
          refine EX.roundD (j + 1, true, true) ⟨rfl, rfl, rfl, trivial⟩ (by repeat first | exact Sub.refl _ | refine sub_past rfl ?_ | refine sub_del rfl ?_ | refine sub_insL_nil ?_) ⟨hlj, by rw [h1]; simp [mayShut, hin], by rw [h2]; simp [mustShut, hin], hbw⟩ (by simp only; omega)
        ·
          refine EL.call (cl_35 rfl rfl rfl) rfl (in_eq hin _) ?_
          rintro e w21 ⟨rfl, hc21⟩
          refine ⟨_, rfl, ?_⟩
          replace q18 := q18.below hc21 q18.lt
          replace hbw := Below.on hbw hc21 hbw.size
          clear hc21
          refine EL.val (x_not rfl) rfl ?_
          refine EL.nil ?_
          refine EX.seq ?_
          refine EC.no rfl ?_
          refine EC.skip ?_
          refine EX.seq ?_
          refine EC.seq ?_
          refine EC.region ?_
          refine EL.val (x_move rfl) rfl ?_
          refine EL.val (x_move rfl) rfl ?_
          refine EL.skip rfl rfl rfl rfl ?_
          refine EL.skip rfl rfl rfl rfl ?_
          refine EL.skip rfl rfl rfl rfl ?_
          refine EL.skip rfl rfl rfl rfl ?_
          refine EL.skip rfl rfl rfl rfl ?_
          refine EL.skip rfl rfl rfl rfl ?_
          refine EL.skip rfl rfl rfl rfl ?_
          refine EL.skip rfl rfl rfl rfl ?_
          refine EL.skip rfl rfl rfl rfl ?_
          refine EL.skip rfl rfl rfl rfl ?_
          refine EL.skip rfl rfl rfl rfl ?_
          refine EL.skip rfl rfl rfl rfl ?_
          refine EL.val (x_pick_t rfl rfl) rfl ?_
          refine EL.val (x_assign rfl) rfl ?_
          refine EL.nil ?_
          refine EX.seq ?_
          refine EC.region ?_
          refine EL.val (x_move rfl) rfl ?_
          refine EL.val (x_move rfl) rfl ?_
          refine EL.skip rfl rfl rfl rfl ?_
          refine EL.skip rfl rfl rfl rfl ?_
          refine EL.skip rfl rfl rfl rfl ?_
          refine EL.skip rfl rfl rfl rfl ?_
          refine EL.skip rfl rfl rfl rfl ?_
          refine EL.skip rfl rfl rfl rfl ?_
          refine EL.skip rfl rfl rfl rfl ?_
          refine EL.skip rfl rfl rfl rfl ?_
          refine EL.skip rfl rfl rfl rfl ?_
          refine EL.skip rfl rfl rfl rfl ?_
          refine EL.skip rfl rfl rfl rfl ?_
          refine EL.skip rfl rfl rfl rfl ?_
          refine EL.val (x_pick_t rfl rfl) rfl ?_
          refine EL.val (x_assign rfl) rfl ?_
          refine EL.nil ?_
          refine EX.blk ?_
          refine EX.seq ?_
          refine EC.region ?_
          refine EL.val (x_move rfl) rfl ?_
          refine EL.val (x_add rfl rfl (by first | assumption | exact IntWalk.i64_in _ ⟨by omega, by omega⟩)) rfl ?_
          refine EL.val (x_assign rfl) rfl ?_
          refine EL.nil ?_
          refine EX.roundD (j + 1, true, true) ⟨rfl, rfl, rfl, trivial⟩ (by repeat first | exact Sub.refl _ | refine sub_past rfl ?_ | refine sub_del rfl ?_ | refine sub_insL_nil ?_) ⟨hlj, by rw [h1]; simp [mayShut, hin], by rw [h2]; simp [mustShut, hin], hbw⟩ (by simp only; omega)
    ·
      obtain rfl : j = l.length := by omega
      rw [List.take_length] at hP hM
      refine EC.seq ?_
      refine EC.seq ?_
      refine EC.region ?_
      refine EL.val (x_move rfl) rfl ?_
      refine EL.val (x_move rfl) rfl ?_
      refine EL.val (ln_86 rfl) rfl ?_
      refine EL.val (x_lss rfl rfl (by first | assumption | exact decide_eq_false (by omega))) rfl ?_
      refine EL.nil ?_
      refine EX.seq ?_
      refine EC.no rfl ?_
      refine EC.exit ?_
      refine EX.seq_exit ?_
      refine EX.seq_exit ?_
      refine EX.blk_here ?_
      refine EX.seq ?_
      refine EC.seq ?_
      refine EC.region ?_
      refine EL.val (x_move rfl) rfl ?_
      refine EL.val (x_move rfl) rfl ?_
      refine EL.val (x_assign rfl) rfl ?_
      refine EL.val (x_assign rfl) rfl ?_
      refine EL.nil ?_
      refine EX.seq ?_
      refine EC.ret ?_
      exact EX.done (res2 rfl rfl rfl) ⟨by rw [lvAt, flAt, ← ex, ← ef, hP, hM], hbw⟩
end Go.Proofs.Ytncnlhkmdljgpaa
