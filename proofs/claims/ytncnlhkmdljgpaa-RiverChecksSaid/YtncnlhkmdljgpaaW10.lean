/- River: the law RiverChecks, its walk (printed by gen_w10.py). -/
import Derived.Test.YtncnlhkmdljgpaaW9
import Derived.Test.YtncnlhkmdljgpaaExA
set_option linter.unusedVariables false
namespace Go.Proofs.Ytncnlhkmdljgpaa
open Go Go.RowKit

section
variable {n : Nat} {σ : Sg} {w : World} {dst : Option Tmp} {ty : TypeId} {pos : String} {af : Array Edge} {g : Option (Nat × Bool)} {x y : Operand} {t' : TypeId}
theorem neq_bool {p q r : Bool} (hx : evS σ x = some (.bool p)) (hy : evS σ y = some (.bool q)) (hr : (p != q) = r) : Gives Try.prog n σ w ⟨dst, .binOp .neq 4 x y t', ty, pos, af, g⟩ (.bool r) := fun a ha => by
  subst hr
  simp only [execOp, ha.eval hx, ha.eval hy]
  cases p <;> cases q <;> simp [go_sem]
end
theorem rd_nosides (w : World) : RdSides w w.heap.size (.slice none 0 0) [] [] := ⟨rfl, Rd.nil_ _ _ _, fun i hi => absurd hi (Nat.not_lt_zero _)⟩

set_option maxRecDepth 100000 in
theorem checksL_t_bad (rv : River) (x : Reach) (fl : Bd) (v u vx : Value) (vs : List Value) (w : World) (B : Nat) (hr : RdRiver w B v u rv vs) (hrx : Rd w B 2 vx x.curve.length (rowsC x.curve)) (hB : B ≤ w.heap.size) (hok : riverB rv = true) (hx : reachB x = false) :
    Calls Try.prog 5 #[.agg #[v, u], .agg (reachV x vx), .agg #[.int .i64 fl.lo, .int .i64 fl.hi]] w fun e w' => e = .returned (.bool true) ∧ Below w.heap.size w w' := by
  obtain ⟨A, c, rfl, _⟩ := hr.reaches.shape
  obtain ⟨A', c', rfl, _⟩ := hr.shoals.shape
  obtain ⟨Ax, cx, rfl, _⟩ := hrx.shape
  have hbw := Below.refl w.heap.size w
  refine EC.enter 96 Try.func5 rfl rfl rfl ?_
  refine EC.seq ?_
  refine EC.region ?_
  refine EL.newP (bx_47 rfl) rfl ?_
  intro g1 w1 q1 hb1 hg1 hl1
  have bhbw_1 := Nat.le_trans hbw.size hg1
  replace hbw := Below.on hbw hb1 hbw.size
  clear hb1 hg1 hl1
  refine EL.newP (bx_50 rfl) rfl ?_
  intro g2 w2 q2 hb2 hg2 hl2
  have n1_2 : g1 ≠ g2 := Nat.ne_of_lt (Nat.lt_of_lt_of_le q1.lt hg2)
  have bhbw_2 := Nat.le_trans hbw.size hg2
  replace q1 := q1.below hb2 q1.lt
  replace hbw := Below.on hbw hb2 hbw.size
  clear hb2 hg2 hl2
  refine EL.newP (bx_23 rfl) rfl ?_
  intro g3 w3 q3 hb3 hg3 hl3
  have n1_3 : g1 ≠ g3 := Nat.ne_of_lt (Nat.lt_of_lt_of_le q1.lt hg3)
  have n2_3 : g2 ≠ g3 := Nat.ne_of_lt (Nat.lt_of_lt_of_le q2.lt hg3)
  have bhbw_3 := Nat.le_trans hbw.size hg3
  replace q1 := q1.below hb3 q1.lt
  replace q2 := q2.below hb3 q2.lt
  replace hbw := Below.on hbw hb3 hbw.size
  clear hb3 hg3 hl3
  refine EL.val (x_assign rfl) rfl ?_
  refine EL.nil ?_
  refine EX.seq ?_
  refine EC.seq ?_
  refine EC.seq ?_
  refine EC.region ?_
  refine EL.val (ld_47 rfl (q1.at (j := 0) rfl) (q1.at (j := 1) rfl)) rfl ?_
  refine EL.val (bd_54_0 rfl) rfl ?_
  refine EL.call (cl_23 rfl) rfl (large_any rv [] _ _ (.slice none 0 0) vs [] _ _ ((hr.below (hbw.mono hB)).more (Nat.le_trans hB hbw.size)) (rd_nosides _) (Nat.le_refl _)) ?_
  rintro e w_l ⟨rfl | ⟨rfl, hfine⟩, hc_⟩
  ·
    refine ⟨_, rfl, ?_⟩
    replace q1 := q1.below hc_ q1.lt
    replace q2 := q2.below hc_ q2.lt
    replace q3 := q3.below hc_ q3.lt
    replace hbw := Below.on hbw hc_ hbw.size
    clear hc_
    refine EL.val (x_move rfl) rfl ?_
    refine EL.skip rfl rfl rfl rfl ?_
    refine EL.skip rfl rfl rfl rfl ?_
    refine EL.skip rfl rfl rfl rfl ?_
    refine EL.skip rfl rfl rfl rfl ?_
    refine EL.val (x_pick_t rfl rfl) rfl ?_
    refine EL.nil ?_
    refine EX.seq ?_
    refine EC.yes rfl ?_
    refine EC.seq ?_
    refine EC.region ?_
    refine EL.call cl_16 rfl (known_any _) ?_
    rintro e w4 ⟨rfl, hc4⟩
    refine ⟨_, rfl, ?_⟩
    replace q1 := q1.below hc4 q1.lt
    replace q2 := q2.below hc4 q2.lt
    replace q3 := q3.below hc4 q3.lt
    replace hbw := Below.on hbw hc4 hbw.size
    clear hc4
    refine EL.val (x_assign rfl) rfl ?_
    refine EL.nil ?_
    refine EX.seq ?_
    refine EC.ret ?_
    refine EX.seq_ret ?_
    exact EX.done (res1 rfl rfl) ⟨rfl, hbw⟩
  ·
    by_cases h40 : 40 < x.curve.length
    ·
      refine ⟨_, rfl, ?_⟩
      replace q1 := q1.below hc_ q1.lt
      replace q2 := q2.below hc_ q2.lt
      replace q3 := q3.below hc_ q3.lt
      replace hbw := Below.on hbw hc_ hbw.size
      clear hc_
      refine EL.val (x_move rfl) rfl ?_
      refine EL.valg rfl rfl (fa_50_3 rfl) rfl ?_
      refine EL.valg rfl rfl (ld_48 rfl (q2.at (j := 4) rfl)) rfl ?_
      refine EL.valg rfl rfl (ln_48 rfl) rfl ?_
      refine EL.valg rfl rfl (x_gtr rfl rfl (by first | assumption | exact decide_eq_true (by omega))) rfl ?_
      refine EL.val (x_pick_f rfl rfl) rfl ?_
      refine EL.nil ?_
      refine EX.seq ?_
      refine EC.yes rfl ?_
      refine EC.seq ?_
      refine EC.region ?_
      refine EL.call cl_16 rfl (known_any _) ?_
      rintro e w5 ⟨rfl, hc5⟩
      refine ⟨_, rfl, ?_⟩
      replace q1 := q1.below hc5 q1.lt
      replace q2 := q2.below hc5 q2.lt
      replace q3 := q3.below hc5 q3.lt
      replace hbw := Below.on hbw hc5 hbw.size
      clear hc5
      refine EL.val (x_assign rfl) rfl ?_
      refine EL.nil ?_
      refine EX.seq ?_
      refine EC.ret ?_
      refine EX.seq_ret ?_
      exact EX.done (res1 rfl rfl) ⟨rfl, hbw⟩
    ·
      have f1 := hfine.nreaches
      have f2 := hfine.nshoals
      have f3 : CurvesB rv.reaches := fun i hi => Nat.le_trans (hfine.curve i hi) (by decide)
      have hd1 : decide (errB (riverB rv) ≠ 0) = false := by rw [hok]; rfl
      have hd2 : decide (errB (riverB rv) ≠ 2) = true := by rw [hok]; rfl
      have hd3 : decide (errB (riverB rv) = 0) = true := by rw [hok]; rfl
      refine ⟨_, rfl, ?_⟩
      replace q1 := q1.below hc_ q1.lt
      replace q2 := q2.below hc_ q2.lt
      replace q3 := q3.below hc_ q3.lt
      replace hbw := Below.on hbw hc_ hbw.size
      clear hc_
      refine EL.val (x_move rfl) rfl ?_
      refine EL.valg rfl rfl (fa_50_3 rfl) rfl ?_
      refine EL.valg rfl rfl (ld_48 rfl (q2.at (j := 4) rfl)) rfl ?_
      refine EL.valg rfl rfl (ln_48 rfl) rfl ?_
      refine EL.valg rfl rfl (x_gtr rfl rfl (by first | assumption | exact decide_eq_false (by omega))) rfl ?_
      refine EL.val (x_pick_f rfl rfl) rfl ?_
      refine EL.nil ?_
      refine EX.seq ?_
      refine EC.no rfl ?_
      refine EC.skip ?_
      refine EX.seq ?_
      refine EC.seq ?_
      refine EC.region ?_
      refine EL.val (ld_47 rfl (q1.at (j := 0) rfl) (q1.at (j := 1) rfl)) rfl ?_
      refine EL.call (cl_24 rfl) rfl (copied_any rv _ _ vs _ B (hr.below (hbw.mono hB)) (Nat.le_trans hB hbw.size) (by omega) (by omega) f3) ?_
      rintro e w6 ⟨⟨v1, u1, vs1, rfl, hcp⟩, hc6⟩
      refine ⟨_, rfl, ?_⟩
      replace q1 := q1.below hc6 q1.lt
      replace q2 := q2.below hc6 q2.lt
      replace q3 := q3.below hc6 q3.lt
      replace hbw := Below.on hbw hc6 hbw.size
      clear hc6
      have hin := Below.refl w6.heap.size w6
      obtain ⟨Ac, cc1, rfl, _⟩ := hcp.reaches.shape
      obtain ⟨Ac', cc2, rfl, _⟩ := hcp.shoals.shape
      refine EL.newP al_47 rfl ?_
      intro g7 w7 q7 hb7 hg7 hl7
      have n1_7 : g1 ≠ g7 := Nat.ne_of_lt (Nat.lt_of_lt_of_le q1.lt hg7)
      have n2_7 : g2 ≠ g7 := Nat.ne_of_lt (Nat.lt_of_lt_of_le q2.lt hg7)
      have n3_7 : g3 ≠ g7 := Nat.ne_of_lt (Nat.lt_of_lt_of_le q3.lt hg7)
      have bhbw_7 := Nat.le_trans hbw.size hg7
      have bhin_7 := Nat.le_trans hin.size hg7
      replace q1 := q1.below hb7 q1.lt
      replace q2 := q2.below hb7 q2.lt
      replace q3 := q3.below hb7 q3.lt
      replace hbw := Below.on hbw hb7 hbw.size
      replace hin := Below.on hin hb7 hin.size
      clear hb7 hg7 hl7
      refine EL.store rfl rfl q7 sz_47 rfl rfl rfl rfl ?_
      intro w8 hq8 hg8
      replace q1 := q1.grown hg8 (fun h => n1_7 (Option.some.inj h))
      replace q2 := q2.grown hg8 (fun h => n2_7 (Option.some.inj h))
      replace q3 := q3.grown hg8 (fun h => n3_7 (Option.some.inj h))
      replace hbw := below_store hbw hg8 bhbw_7
      replace hin := below_store hin hg8 bhin_7
      replace q7 := hq8
      clear hg8 hq8
      refine EL.nil ?_
      refine EX.seq ?_
      refine EC.seq ?_
      refine EC.region ?_
      refine EL.val (ld_47 rfl (q7.at (j := 0) rfl) (q7.at (j := 1) rfl)) rfl ?_
      refine EL.call (cl_25 rfl) rfl (check_any rv _ _ vs1 _ _ (hcp.below hin) hin.size (by omega) (by omega) f3) ?_
      rintro e w9 ⟨rfl, hc9⟩
      refine ⟨_, rfl, ?_⟩
      replace q1 := q1.below hc9 q1.lt
      replace q2 := q2.below hc9 q2.lt
      replace q3 := q3.below hc9 q3.lt
      replace q7 := q7.below hc9 q7.lt
      replace hbw := Below.on hbw hc9 hbw.size
      replace hin := Below.on hin hc9 hin.size
      clear hc9
      refine EL.val (x_assign rfl) rfl ?_
      refine EL.nil ?_
      refine EX.seq ?_
      refine EC.seq ?_
      refine EC.seq ?_
      refine EC.region ?_
      refine EL.val (x_move rfl) rfl ?_
      refine EL.val (x_neq rfl rfl (by first | assumption | exact decide_eq_false (by omega))) rfl ?_
      refine EL.val (x_move rfl) rfl ?_
      refine EL.skip rfl rfl rfl rfl ?_
      refine EL.skip rfl rfl rfl rfl ?_
      refine EL.val (x_pick_f rfl rfl) rfl ?_
      refine EL.val (x_move rfl) rfl ?_
      refine EL.valg rfl rfl (x_move rfl) rfl ?_
      refine EL.valg rfl rfl (x_eql rfl rfl (by first | assumption | exact decide_eq_true (by omega))) rfl ?_
      refine EL.valg rfl rfl (ld_47 rfl (q1.at (j := 0) rfl) (q1.at (j := 1) rfl)) rfl ?_
      refine EL.callg rfl rfl (cl_26 rfl) rfl (by have key := rriver_any rv _ _ vs _ B (hr.below (hbw.mono hB)) (Nat.le_trans hB hbw.size) (by omega) (by omega) f3; rw [hok] at key; exact key) ?_
      rintro e w10 ⟨rfl, hc10⟩
      refine ⟨_, rfl, ?_⟩
      replace q1 := q1.below hc10 q1.lt
      replace q2 := q2.below hc10 q2.lt
      replace q3 := q3.below hc10 q3.lt
      replace q7 := q7.below hc10 q7.lt
      replace hbw := Below.on hbw hc10 hbw.size
      replace hin := Below.on hin hc10 hin.size
      clear hc10
      refine EL.valg rfl rfl (neq_bool rfl rfl rfl) rfl ?_
      refine EL.val (x_pick_f rfl rfl) rfl ?_
      refine EL.val (x_move rfl) rfl ?_
      refine EL.valg rfl rfl (ld_47 rfl (q7.at (j := 0) rfl) (q7.at (j := 1) rfl)) rfl ?_
      refine EL.valg rfl rfl (ld_47 rfl (q1.at (j := 0) rfl) (q1.at (j := 1) rfl)) rfl ?_
      refine EL.callg rfl rfl (cl_27 rfl rfl) rfl (unchanged_eq rv _ _ _ _ vs1 vs _ _ B (hcp.below hin) (hr.below (hbw.mono hB)) hin.size (Nat.le_trans hB hbw.size) (by omega) (by omega) f3) ?_
      rintro e w11 ⟨rfl, hc11⟩
      refine ⟨_, rfl, ?_⟩
      replace q1 := q1.below hc11 q1.lt
      replace q2 := q2.below hc11 q2.lt
      replace q3 := q3.below hc11 q3.lt
      replace q7 := q7.below hc11 q7.lt
      replace hbw := Below.on hbw hc11 hbw.size
      replace hin := Below.on hin hc11 hin.size
      clear hc11
      refine EL.valg rfl rfl (x_not rfl) rfl ?_
      refine EL.val (x_pick_f rfl rfl) rfl ?_
      refine EL.nil ?_
      refine EX.seq ?_
      refine EC.no rfl ?_
      refine EC.skip ?_
      refine EX.seq ?_
      refine EC.seq ?_
      refine EC.region ?_
      refine EL.val (ld_50 rfl (q2.at (j := 0) rfl) (q2.at (j := 1) rfl) (q2.at (j := 2) rfl) (q2.at (j := 3) rfl) (q2.at (j := 4) rfl) (q2.at (j := 5) rfl) (q2.at (j := 6) rfl) (q2.at (j := 7) rfl) (q2.at (j := 8) rfl)) rfl ?_
      refine EL.newP al_50 rfl ?_
      intro g12 w12 q12 hb12 hg12 hl12
      have n1_12 : g1 ≠ g12 := Nat.ne_of_lt (Nat.lt_of_lt_of_le q1.lt hg12)
      have n2_12 : g2 ≠ g12 := Nat.ne_of_lt (Nat.lt_of_lt_of_le q2.lt hg12)
      have n3_12 : g3 ≠ g12 := Nat.ne_of_lt (Nat.lt_of_lt_of_le q3.lt hg12)
      have n7_12 : g7 ≠ g12 := Nat.ne_of_lt (Nat.lt_of_lt_of_le q7.lt hg12)
      have bhbw_12 := Nat.le_trans hbw.size hg12
      have bhin_12 := Nat.le_trans hin.size hg12
      replace q1 := q1.below hb12 q1.lt
      replace q2 := q2.below hb12 q2.lt
      replace q3 := q3.below hb12 q3.lt
      replace q7 := q7.below hb12 q7.lt
      replace hbw := Below.on hbw hb12 hbw.size
      replace hin := Below.on hin hb12 hin.size
      clear hb12 hg12 hl12
      refine EL.store rfl rfl q12 sz_50 rfl rfl rfl rfl ?_
      intro w13 hq13 hg13
      replace q1 := q1.grown hg13 (fun h => n1_12 (Option.some.inj h))
      replace q2 := q2.grown hg13 (fun h => n2_12 (Option.some.inj h))
      replace q3 := q3.grown hg13 (fun h => n3_12 (Option.some.inj h))
      replace q7 := q7.grown hg13 (fun h => n7_12 (Option.some.inj h))
      replace hbw := below_store hbw hg13 bhbw_12
      replace hin := below_store hin hg13 bhin_12
      replace q12 := hq13
      clear hg13 hq13
      refine EL.nil ?_
      refine EX.seq ?_
      refine EC.seq ?_
      refine EC.region ?_
      have lo_1 := q1.lt
      have lo_2 := q2.lt
      have lo_3 := q3.lt
      have lo_7 := q7.lt
      have lo_12 := q12.lt
      have sz_hbw := hbw.size
      have sz_hin := hin.size
      refine EL.newS bs_48_0 rfl ?_
      intro g14 w14 q14 hb14 hg14 hl14
      have n1_14 : g1 ≠ g14 := Nat.ne_of_lt (Nat.lt_of_lt_of_le q1.lt hg14)
      have n2_14 : g2 ≠ g14 := Nat.ne_of_lt (Nat.lt_of_lt_of_le q2.lt hg14)
      have n3_14 : g3 ≠ g14 := Nat.ne_of_lt (Nat.lt_of_lt_of_le q3.lt hg14)
      have n7_14 : g7 ≠ g14 := Nat.ne_of_lt (Nat.lt_of_lt_of_le q7.lt hg14)
      have n12_14 : g12 ≠ g14 := Nat.ne_of_lt (Nat.lt_of_lt_of_le q12.lt hg14)
      have bhbw_14 := Nat.le_trans hbw.size hg14
      have bhin_14 := Nat.le_trans hin.size hg14
      replace q1 := q1.below hb14 q1.lt
      replace q2 := q2.below hb14 q2.lt
      replace q3 := q3.below hb14 q3.lt
      replace q7 := q7.below hb14 q7.lt
      replace q12 := q12.below hb14 q12.lt
      replace hbw := Below.on hbw hb14 hbw.size
      replace hin := Below.on hin hb14 hin.size
      clear hb14 hl14
      have oin := own_empty (base := w13.heap.size) 2 q14 hg14
      refine EL.val (fa_50_3 rfl) rfl ?_
      refine EL.val (ld_48 rfl (q2.at (j := 4) rfl)) rfl ?_
      refine EL.push row_elem rfl rfl oin (hrx.below (hbw.mono hB)) (rowsC_one _) (by omega) rfl (Nat.le_trans hg14 (Nat.le_of_lt q14.lt)) rfl ?_
      intro vin w15 ho hgr15 hb15 _
      replace q1 := q1.below hb15 lo_1
      replace q2 := q2.below hb15 lo_2
      replace q3 := q3.below hb15 lo_3
      replace q7 := q7.below hb15 lo_7
      replace q12 := q12.below hb15 lo_12
      replace hbw := hbw.trans (hb15.mono sz_hbw)
      replace hin := hin.trans (hb15.mono sz_hin)
      rw [Nat.zero_add, List.nil_append] at ho
      obtain ⟨Ai, ci, ei, _⟩ := (Rd.of_own ho).shape
      subst ei
      refine EL.val (fa_50_3 rfl) rfl ?_
      refine EL.store rfl rfl q12 sz_48 rfl rfl rfl rfl ?_
      intro w16 hq16 hg16
      replace q1 := q1.grown hg16 (fun h => n1_12 (Option.some.inj h))
      replace q2 := q2.grown hg16 (fun h => n2_12 (Option.some.inj h))
      replace q3 := q3.grown hg16 (fun h => n3_12 (Option.some.inj h))
      replace q7 := q7.grown hg16 (fun h => n7_12 (Option.some.inj h))
      replace ho := own_far ho hg16 lo_12
      replace hbw := below_store hbw hg16 bhbw_12
      replace hin := below_store hin hg16 bhin_12
      replace q12 := hq16
      clear hg16 hq16
      refine EL.nil ?_
      refine EX.seq ?_
      refine EC.seq ?_
      refine EC.region ?_
      refine EL.val (ld_50 rfl (q12.at (j := 0) rfl) (q12.at (j := 1) rfl) (q12.at (j := 2) rfl) (q12.at (j := 3) rfl) (q12.at (j := 4) rfl) (q12.at (j := 5) rfl) (q12.at (j := 6) rfl) (q12.at (j := 7) rfl) (q12.at (j := 8) rfl)) rfl ?_
      refine EL.val (ld_23 rfl (q3.at (j := 0) rfl) (q3.at (j := 1) rfl)) rfl ?_
      refine EL.call (cl_28 rfl rfl) rfl (lev_bad x _ fl _ _ (Rd.of_own ho) (Nat.le_refl _) (by omega) hx) ?_
      rintro e w17 ⟨rfl, hc17⟩
      refine ⟨_, rfl, ?_⟩
      replace q1 := q1.below hc17 q1.lt
      replace q2 := q2.below hc17 q2.lt
      replace q3 := q3.below hc17 q3.lt
      replace q7 := q7.below hc17 q7.lt
      replace q12 := q12.below hc17 q12.lt
      replace hbw := Below.on hbw hc17 hbw.size
      replace hin := Below.on hin hc17 hin.size
      clear hc17
      refine EL.val (x_move rfl) rfl ?_
      refine EL.val (x_extract rfl rfl) rfl ?_
      refine EL.val (x_extract rfl rfl) rfl ?_
      refine EL.newP al_23 rfl ?_
      intro g18 w18 q18 hb18 hg18 hl18
      have n1_18 : g1 ≠ g18 := Nat.ne_of_lt (Nat.lt_of_lt_of_le q1.lt hg18)
      have n2_18 : g2 ≠ g18 := Nat.ne_of_lt (Nat.lt_of_lt_of_le q2.lt hg18)
      have n3_18 : g3 ≠ g18 := Nat.ne_of_lt (Nat.lt_of_lt_of_le q3.lt hg18)
      have n7_18 : g7 ≠ g18 := Nat.ne_of_lt (Nat.lt_of_lt_of_le q7.lt hg18)
      have n12_18 : g12 ≠ g18 := Nat.ne_of_lt (Nat.lt_of_lt_of_le q12.lt hg18)
      have bhbw_18 := Nat.le_trans hbw.size hg18
      have bhin_18 := Nat.le_trans hin.size hg18
      replace q1 := q1.below hb18 q1.lt
      replace q2 := q2.below hb18 q2.lt
      replace q3 := q3.below hb18 q3.lt
      replace q7 := q7.below hb18 q7.lt
      replace q12 := q12.below hb18 q12.lt
      replace hbw := Below.on hbw hb18 hbw.size
      replace hin := Below.on hin hb18 hin.size
      clear hb18 hg18 hl18
      refine EL.store rfl rfl q18 sz_23 rfl rfl rfl rfl ?_
      intro w19 hq19 hg19
      replace q1 := q1.grown hg19 (fun h => n1_18 (Option.some.inj h))
      replace q2 := q2.grown hg19 (fun h => n2_18 (Option.some.inj h))
      replace q3 := q3.grown hg19 (fun h => n3_18 (Option.some.inj h))
      replace q7 := q7.grown hg19 (fun h => n7_18 (Option.some.inj h))
      replace q12 := q12.grown hg19 (fun h => n12_18 (Option.some.inj h))
      replace hbw := below_store hbw hg19 bhbw_18
      replace hin := below_store hin hg19 bhin_18
      replace q18 := hq19
      clear hg19 hq19
      refine EL.val (x_assign rfl) rfl ?_
      refine EL.nil ?_
      refine EX.seq ?_
      refine EC.seq ?_
      refine EC.block ?_
      refine EC.seq ?_
      refine EC.region ?_
      refine EL.val (ld_50 rfl (q2.at (j := 0) rfl) (q2.at (j := 1) rfl) (q2.at (j := 2) rfl) (q2.at (j := 3) rfl) (q2.at (j := 4) rfl) (q2.at (j := 5) rfl) (q2.at (j := 6) rfl) (q2.at (j := 7) rfl) (q2.at (j := 8) rfl)) rfl ?_
      refine EL.call (cl_29 rfl) rfl (by have key := rreach_any x _ _ B (hrx.below (hbw.mono hB)) (Nat.le_trans hB hbw.size) (by omega); rw [hx] at key; exact key) ?_
      rintro e w20 ⟨rfl, hc20⟩
      refine ⟨_, rfl, ?_⟩
      replace q1 := q1.below hc20 q1.lt
      replace q2 := q2.below hc20 q2.lt
      replace q3 := q3.below hc20 q3.lt
      replace q7 := q7.below hc20 q7.lt
      replace q12 := q12.below hc20 q12.lt
      replace q18 := q18.below hc20 q18.lt
      replace hbw := Below.on hbw hc20 hbw.size
      replace hin := Below.on hin hc20 hin.size
      clear hc20
      refine EL.val (x_not rfl) rfl ?_
      refine EL.val (x_assign rfl) rfl ?_
      refine EL.nil ?_
      refine EX.seq ?_
      refine EC.yes rfl ?_
      refine EC.seq ?_
      refine EC.region ?_
      refine EL.val (x_move rfl) rfl ?_
      refine EL.val (x_eql rfl rfl (by first | assumption | exact decide_eq_true (by omega))) rfl ?_
      refine EL.val (x_move rfl) rfl ?_
      refine EL.valg rfl rfl (ld_23 rfl (q18.at (j := 0) rfl) (q18.at (j := 1) rfl)) rfl ?_
      refine EL.valg rfl rfl (bd_23_) rfl ?_
      refine EL.valg rfl rfl (eql_23 (r := true) rfl rfl (by simp)) rfl ?_
      refine EL.val (x_pick_t rfl rfl) rfl ?_
      refine EL.val (x_move rfl) rfl ?_
      refine EL.callg rfl rfl cl_16 rfl (known_any _) ?_
      rintro e w21 ⟨rfl, hc21⟩
      refine ⟨_, rfl, ?_⟩
      replace q1 := q1.below hc21 q1.lt
      replace q2 := q2.below hc21 q2.lt
      replace q3 := q3.below hc21 q3.lt
      replace q7 := q7.below hc21 q7.lt
      replace q12 := q12.below hc21 q12.lt
      replace q18 := q18.below hc21 q18.lt
      replace hbw := Below.on hbw hc21 hbw.size
      replace hin := Below.on hin hc21 hin.size
      clear hc21
      refine EL.val (x_pick_t rfl rfl) rfl ?_
      refine EL.val (x_assign rfl) rfl ?_
      refine EL.nil ?_
      refine EX.seq ?_
      refine EC.ret ?_
      refine EX.blk_ret ?_
      refine EX.seq_ret ?_
      exact EX.done (res1 rfl rfl) ⟨rfl, hbw⟩

set_option maxRecDepth 100000 in
theorem checksL_t_far (rv : River) (x : Reach) (fl : Bd) (v u vx : Value) (vs : List Value) (w : World) (B : Nat) (hr : RdRiver w B v u rv vs) (hrx : Rd w B 2 vx x.curve.length (rowsC x.curve)) (hB : B ≤ w.heap.size) (hok : riverB rv = true) (hx : reachB x = true) (hf : bdOk 0 210000000000 fl = false) :
    Calls Try.prog 5 #[.agg #[v, u], .agg (reachV x vx), .agg #[.int .i64 fl.lo, .int .i64 fl.hi]] w fun e w' => e = .returned (.bool true) ∧ Below w.heap.size w w' := by
  obtain ⟨A, c, rfl, _⟩ := hr.reaches.shape
  obtain ⟨A', c', rfl, _⟩ := hr.shoals.shape
  obtain ⟨Ax, cx, rfl, _⟩ := hrx.shape
  have hbw := Below.refl w.heap.size w
  refine EC.enter 96 Try.func5 rfl rfl rfl ?_
  refine EC.seq ?_
  refine EC.region ?_
  refine EL.newP (bx_47 rfl) rfl ?_
  intro g1 w1 q1 hb1 hg1 hl1
  have bhbw_1 := Nat.le_trans hbw.size hg1
  replace hbw := Below.on hbw hb1 hbw.size
  clear hb1 hg1 hl1
  refine EL.newP (bx_50 rfl) rfl ?_
  intro g2 w2 q2 hb2 hg2 hl2
  have n1_2 : g1 ≠ g2 := Nat.ne_of_lt (Nat.lt_of_lt_of_le q1.lt hg2)
  have bhbw_2 := Nat.le_trans hbw.size hg2
  replace q1 := q1.below hb2 q1.lt
  replace hbw := Below.on hbw hb2 hbw.size
  clear hb2 hg2 hl2
  refine EL.newP (bx_23 rfl) rfl ?_
  intro g3 w3 q3 hb3 hg3 hl3
  have n1_3 : g1 ≠ g3 := Nat.ne_of_lt (Nat.lt_of_lt_of_le q1.lt hg3)
  have n2_3 : g2 ≠ g3 := Nat.ne_of_lt (Nat.lt_of_lt_of_le q2.lt hg3)
  have bhbw_3 := Nat.le_trans hbw.size hg3
  replace q1 := q1.below hb3 q1.lt
  replace q2 := q2.below hb3 q2.lt
  replace hbw := Below.on hbw hb3 hbw.size
  clear hb3 hg3 hl3
  refine EL.val (x_assign rfl) rfl ?_
  refine EL.nil ?_
  refine EX.seq ?_
  refine EC.seq ?_
  refine EC.seq ?_
  refine EC.region ?_
  refine EL.val (ld_47 rfl (q1.at (j := 0) rfl) (q1.at (j := 1) rfl)) rfl ?_
  refine EL.val (bd_54_0 rfl) rfl ?_
  refine EL.call (cl_23 rfl) rfl (large_any rv [] _ _ (.slice none 0 0) vs [] _ _ ((hr.below (hbw.mono hB)).more (Nat.le_trans hB hbw.size)) (rd_nosides _) (Nat.le_refl _)) ?_
  rintro e w_l ⟨rfl | ⟨rfl, hfine⟩, hc_⟩
  ·
    refine ⟨_, rfl, ?_⟩
    replace q1 := q1.below hc_ q1.lt
    replace q2 := q2.below hc_ q2.lt
    replace q3 := q3.below hc_ q3.lt
    replace hbw := Below.on hbw hc_ hbw.size
    clear hc_
    refine EL.val (x_move rfl) rfl ?_
    refine EL.skip rfl rfl rfl rfl ?_
    refine EL.skip rfl rfl rfl rfl ?_
    refine EL.skip rfl rfl rfl rfl ?_
    refine EL.skip rfl rfl rfl rfl ?_
    refine EL.val (x_pick_t rfl rfl) rfl ?_
    refine EL.nil ?_
    refine EX.seq ?_
    refine EC.yes rfl ?_
    refine EC.seq ?_
    refine EC.region ?_
    refine EL.call cl_16 rfl (known_any _) ?_
    rintro e w4 ⟨rfl, hc4⟩
    refine ⟨_, rfl, ?_⟩
    replace q1 := q1.below hc4 q1.lt
    replace q2 := q2.below hc4 q2.lt
    replace q3 := q3.below hc4 q3.lt
    replace hbw := Below.on hbw hc4 hbw.size
    clear hc4
    refine EL.val (x_assign rfl) rfl ?_
    refine EL.nil ?_
    refine EX.seq ?_
    refine EC.ret ?_
    refine EX.seq_ret ?_
    exact EX.done (res1 rfl rfl) ⟨rfl, hbw⟩
  ·
    by_cases h40 : 40 < x.curve.length
    ·
      refine ⟨_, rfl, ?_⟩
      replace q1 := q1.below hc_ q1.lt
      replace q2 := q2.below hc_ q2.lt
      replace q3 := q3.below hc_ q3.lt
      replace hbw := Below.on hbw hc_ hbw.size
      clear hc_
      refine EL.val (x_move rfl) rfl ?_
      refine EL.valg rfl rfl (fa_50_3 rfl) rfl ?_
      refine EL.valg rfl rfl (ld_48 rfl (q2.at (j := 4) rfl)) rfl ?_
      refine EL.valg rfl rfl (ln_48 rfl) rfl ?_
      refine EL.valg rfl rfl (x_gtr rfl rfl (by first | assumption | exact decide_eq_true (by omega))) rfl ?_
      refine EL.val (x_pick_f rfl rfl) rfl ?_
      refine EL.nil ?_
      refine EX.seq ?_
      refine EC.yes rfl ?_
      refine EC.seq ?_
      refine EC.region ?_
      refine EL.call cl_16 rfl (known_any _) ?_
      rintro e w5 ⟨rfl, hc5⟩
      refine ⟨_, rfl, ?_⟩
      replace q1 := q1.below hc5 q1.lt
      replace q2 := q2.below hc5 q2.lt
      replace q3 := q3.below hc5 q3.lt
      replace hbw := Below.on hbw hc5 hbw.size
      clear hc5
      refine EL.val (x_assign rfl) rfl ?_
      refine EL.nil ?_
      refine EX.seq ?_
      refine EC.ret ?_
      refine EX.seq_ret ?_
      exact EX.done (res1 rfl rfl) ⟨rfl, hbw⟩
    ·
      have f1 := hfine.nreaches
      have f2 := hfine.nshoals
      have f3 : CurvesB rv.reaches := fun i hi => Nat.le_trans (hfine.curve i hi) (by decide)
      have hd1 : decide (errB (riverB rv) ≠ 0) = false := by rw [hok]; rfl
      have hd2 : decide (errB (riverB rv) ≠ 2) = true := by rw [hok]; rfl
      have hd3 : decide (errB (riverB rv) = 0) = true := by rw [hok]; rfl
      refine ⟨_, rfl, ?_⟩
      replace q1 := q1.below hc_ q1.lt
      replace q2 := q2.below hc_ q2.lt
      replace q3 := q3.below hc_ q3.lt
      replace hbw := Below.on hbw hc_ hbw.size
      clear hc_
      refine EL.val (x_move rfl) rfl ?_
      refine EL.valg rfl rfl (fa_50_3 rfl) rfl ?_
      refine EL.valg rfl rfl (ld_48 rfl (q2.at (j := 4) rfl)) rfl ?_
      refine EL.valg rfl rfl (ln_48 rfl) rfl ?_
      refine EL.valg rfl rfl (x_gtr rfl rfl (by first | assumption | exact decide_eq_false (by omega))) rfl ?_
      refine EL.val (x_pick_f rfl rfl) rfl ?_
      refine EL.nil ?_
      refine EX.seq ?_
      refine EC.no rfl ?_
      refine EC.skip ?_
      refine EX.seq ?_
      refine EC.seq ?_
      refine EC.region ?_
      refine EL.val (ld_47 rfl (q1.at (j := 0) rfl) (q1.at (j := 1) rfl)) rfl ?_
      refine EL.call (cl_24 rfl) rfl (copied_any rv _ _ vs _ B (hr.below (hbw.mono hB)) (Nat.le_trans hB hbw.size) (by omega) (by omega) f3) ?_
      rintro e w6 ⟨⟨v1, u1, vs1, rfl, hcp⟩, hc6⟩
      refine ⟨_, rfl, ?_⟩
      replace q1 := q1.below hc6 q1.lt
      replace q2 := q2.below hc6 q2.lt
      replace q3 := q3.below hc6 q3.lt
      replace hbw := Below.on hbw hc6 hbw.size
      clear hc6
      have hin := Below.refl w6.heap.size w6
      obtain ⟨Ac, cc1, rfl, _⟩ := hcp.reaches.shape
      obtain ⟨Ac', cc2, rfl, _⟩ := hcp.shoals.shape
      refine EL.newP al_47 rfl ?_
      intro g7 w7 q7 hb7 hg7 hl7
      have n1_7 : g1 ≠ g7 := Nat.ne_of_lt (Nat.lt_of_lt_of_le q1.lt hg7)
      have n2_7 : g2 ≠ g7 := Nat.ne_of_lt (Nat.lt_of_lt_of_le q2.lt hg7)
      have n3_7 : g3 ≠ g7 := Nat.ne_of_lt (Nat.lt_of_lt_of_le q3.lt hg7)
      have bhbw_7 := Nat.le_trans hbw.size hg7
      have bhin_7 := Nat.le_trans hin.size hg7
      replace q1 := q1.below hb7 q1.lt
      replace q2 := q2.below hb7 q2.lt
      replace q3 := q3.below hb7 q3.lt
      replace hbw := Below.on hbw hb7 hbw.size
      replace hin := Below.on hin hb7 hin.size
      clear hb7 hg7 hl7
      refine EL.store rfl rfl q7 sz_47 rfl rfl rfl rfl ?_
      intro w8 hq8 hg8
      replace q1 := q1.grown hg8 (fun h => n1_7 (Option.some.inj h))
      replace q2 := q2.grown hg8 (fun h => n2_7 (Option.some.inj h))
      replace q3 := q3.grown hg8 (fun h => n3_7 (Option.some.inj h))
      replace hbw := below_store hbw hg8 bhbw_7
      replace hin := below_store hin hg8 bhin_7
      replace q7 := hq8
      clear hg8 hq8
      refine EL.nil ?_
      refine EX.seq ?_
      refine EC.seq ?_
      refine EC.region ?_
      refine EL.val (ld_47 rfl (q7.at (j := 0) rfl) (q7.at (j := 1) rfl)) rfl ?_
      refine EL.call (cl_25 rfl) rfl (check_any rv _ _ vs1 _ _ (hcp.below hin) hin.size (by omega) (by omega) f3) ?_
      rintro e w9 ⟨rfl, hc9⟩
      refine ⟨_, rfl, ?_⟩
      replace q1 := q1.below hc9 q1.lt
      replace q2 := q2.below hc9 q2.lt
      replace q3 := q3.below hc9 q3.lt
      replace q7 := q7.below hc9 q7.lt
      replace hbw := Below.on hbw hc9 hbw.size
      replace hin := Below.on hin hc9 hin.size
      clear hc9
      refine EL.val (x_assign rfl) rfl ?_
      refine EL.nil ?_
      refine EX.seq ?_
      refine EC.seq ?_
      refine EC.seq ?_
      refine EC.region ?_
      refine EL.val (x_move rfl) rfl ?_
      refine EL.val (x_neq rfl rfl (by first | assumption | exact decide_eq_false (by omega))) rfl ?_
      refine EL.val (x_move rfl) rfl ?_
      refine EL.skip rfl rfl rfl rfl ?_
      refine EL.skip rfl rfl rfl rfl ?_
      refine EL.val (x_pick_f rfl rfl) rfl ?_
      refine EL.val (x_move rfl) rfl ?_
      refine EL.valg rfl rfl (x_move rfl) rfl ?_
      refine EL.valg rfl rfl (x_eql rfl rfl (by first | assumption | exact decide_eq_true (by omega))) rfl ?_
      refine EL.valg rfl rfl (ld_47 rfl (q1.at (j := 0) rfl) (q1.at (j := 1) rfl)) rfl ?_
      refine EL.callg rfl rfl (cl_26 rfl) rfl (by have key := rriver_any rv _ _ vs _ B (hr.below (hbw.mono hB)) (Nat.le_trans hB hbw.size) (by omega) (by omega) f3; rw [hok] at key; exact key) ?_
      rintro e w10 ⟨rfl, hc10⟩
      refine ⟨_, rfl, ?_⟩
      replace q1 := q1.below hc10 q1.lt
      replace q2 := q2.below hc10 q2.lt
      replace q3 := q3.below hc10 q3.lt
      replace q7 := q7.below hc10 q7.lt
      replace hbw := Below.on hbw hc10 hbw.size
      replace hin := Below.on hin hc10 hin.size
      clear hc10
      refine EL.valg rfl rfl (neq_bool rfl rfl rfl) rfl ?_
      refine EL.val (x_pick_f rfl rfl) rfl ?_
      refine EL.val (x_move rfl) rfl ?_
      refine EL.valg rfl rfl (ld_47 rfl (q7.at (j := 0) rfl) (q7.at (j := 1) rfl)) rfl ?_
      refine EL.valg rfl rfl (ld_47 rfl (q1.at (j := 0) rfl) (q1.at (j := 1) rfl)) rfl ?_
      refine EL.callg rfl rfl (cl_27 rfl rfl) rfl (unchanged_eq rv _ _ _ _ vs1 vs _ _ B (hcp.below hin) (hr.below (hbw.mono hB)) hin.size (Nat.le_trans hB hbw.size) (by omega) (by omega) f3) ?_
      rintro e w11 ⟨rfl, hc11⟩
      refine ⟨_, rfl, ?_⟩
      replace q1 := q1.below hc11 q1.lt
      replace q2 := q2.below hc11 q2.lt
      replace q3 := q3.below hc11 q3.lt
      replace q7 := q7.below hc11 q7.lt
      replace hbw := Below.on hbw hc11 hbw.size
      replace hin := Below.on hin hc11 hin.size
      clear hc11
      refine EL.valg rfl rfl (x_not rfl) rfl ?_
      refine EL.val (x_pick_f rfl rfl) rfl ?_
      refine EL.nil ?_
      refine EX.seq ?_
      refine EC.no rfl ?_
      refine EC.skip ?_
      refine EX.seq ?_
      refine EC.seq ?_
      refine EC.region ?_
      refine EL.val (ld_50 rfl (q2.at (j := 0) rfl) (q2.at (j := 1) rfl) (q2.at (j := 2) rfl) (q2.at (j := 3) rfl) (q2.at (j := 4) rfl) (q2.at (j := 5) rfl) (q2.at (j := 6) rfl) (q2.at (j := 7) rfl) (q2.at (j := 8) rfl)) rfl ?_
      refine EL.newP al_50 rfl ?_
      intro g12 w12 q12 hb12 hg12 hl12
      have n1_12 : g1 ≠ g12 := Nat.ne_of_lt (Nat.lt_of_lt_of_le q1.lt hg12)
      have n2_12 : g2 ≠ g12 := Nat.ne_of_lt (Nat.lt_of_lt_of_le q2.lt hg12)
      have n3_12 : g3 ≠ g12 := Nat.ne_of_lt (Nat.lt_of_lt_of_le q3.lt hg12)
      have n7_12 : g7 ≠ g12 := Nat.ne_of_lt (Nat.lt_of_lt_of_le q7.lt hg12)
      have bhbw_12 := Nat.le_trans hbw.size hg12
      have bhin_12 := Nat.le_trans hin.size hg12
      replace q1 := q1.below hb12 q1.lt
      replace q2 := q2.below hb12 q2.lt
      replace q3 := q3.below hb12 q3.lt
      replace q7 := q7.below hb12 q7.lt
      replace hbw := Below.on hbw hb12 hbw.size
      replace hin := Below.on hin hb12 hin.size
      clear hb12 hg12 hl12
      refine EL.store rfl rfl q12 sz_50 rfl rfl rfl rfl ?_
      intro w13 hq13 hg13
      replace q1 := q1.grown hg13 (fun h => n1_12 (Option.some.inj h))
      replace q2 := q2.grown hg13 (fun h => n2_12 (Option.some.inj h))
      replace q3 := q3.grown hg13 (fun h => n3_12 (Option.some.inj h))
      replace q7 := q7.grown hg13 (fun h => n7_12 (Option.some.inj h))
      replace hbw := below_store hbw hg13 bhbw_12
      replace hin := below_store hin hg13 bhin_12
      replace q12 := hq13
      clear hg13 hq13
      refine EL.nil ?_
      refine EX.seq ?_
      refine EC.seq ?_
      refine EC.region ?_
      have lo_1 := q1.lt
      have lo_2 := q2.lt
      have lo_3 := q3.lt
      have lo_7 := q7.lt
      have lo_12 := q12.lt
      have sz_hbw := hbw.size
      have sz_hin := hin.size
      refine EL.newS bs_48_0 rfl ?_
      intro g14 w14 q14 hb14 hg14 hl14
      have n1_14 : g1 ≠ g14 := Nat.ne_of_lt (Nat.lt_of_lt_of_le q1.lt hg14)
      have n2_14 : g2 ≠ g14 := Nat.ne_of_lt (Nat.lt_of_lt_of_le q2.lt hg14)
      have n3_14 : g3 ≠ g14 := Nat.ne_of_lt (Nat.lt_of_lt_of_le q3.lt hg14)
      have n7_14 : g7 ≠ g14 := Nat.ne_of_lt (Nat.lt_of_lt_of_le q7.lt hg14)
      have n12_14 : g12 ≠ g14 := Nat.ne_of_lt (Nat.lt_of_lt_of_le q12.lt hg14)
      have bhbw_14 := Nat.le_trans hbw.size hg14
      have bhin_14 := Nat.le_trans hin.size hg14
      replace q1 := q1.below hb14 q1.lt
      replace q2 := q2.below hb14 q2.lt
      replace q3 := q3.below hb14 q3.lt
      replace q7 := q7.below hb14 q7.lt
      replace q12 := q12.below hb14 q12.lt
      replace hbw := Below.on hbw hb14 hbw.size
      replace hin := Below.on hin hb14 hin.size
      clear hb14 hl14
      have oin := own_empty (base := w13.heap.size) 2 q14 hg14
      refine EL.val (fa_50_3 rfl) rfl ?_
      refine EL.val (ld_48 rfl (q2.at (j := 4) rfl)) rfl ?_
      refine EL.push row_elem rfl rfl oin (hrx.below (hbw.mono hB)) (rowsC_one _) (by omega) rfl (Nat.le_trans hg14 (Nat.le_of_lt q14.lt)) rfl ?_
      intro vin w15 ho hgr15 hb15 _
      replace q1 := q1.below hb15 lo_1
      replace q2 := q2.below hb15 lo_2
      replace q3 := q3.below hb15 lo_3
      replace q7 := q7.below hb15 lo_7
      replace q12 := q12.below hb15 lo_12
      replace hbw := hbw.trans (hb15.mono sz_hbw)
      replace hin := hin.trans (hb15.mono sz_hin)
      rw [Nat.zero_add, List.nil_append] at ho
      obtain ⟨Ai, ci, ei, _⟩ := (Rd.of_own ho).shape
      subst ei
      refine EL.val (fa_50_3 rfl) rfl ?_
      refine EL.store rfl rfl q12 sz_48 rfl rfl rfl rfl ?_
      intro w16 hq16 hg16
      replace q1 := q1.grown hg16 (fun h => n1_12 (Option.some.inj h))
      replace q2 := q2.grown hg16 (fun h => n2_12 (Option.some.inj h))
      replace q3 := q3.grown hg16 (fun h => n3_12 (Option.some.inj h))
      replace q7 := q7.grown hg16 (fun h => n7_12 (Option.some.inj h))
      replace ho := own_far ho hg16 lo_12
      replace hbw := below_store hbw hg16 bhbw_12
      replace hin := below_store hin hg16 bhin_12
      replace q12 := hq16
      clear hg16 hq16
      refine EL.nil ?_
      refine EX.seq ?_
      refine EC.seq ?_
      refine EC.region ?_
      refine EL.val (ld_50 rfl (q12.at (j := 0) rfl) (q12.at (j := 1) rfl) (q12.at (j := 2) rfl) (q12.at (j := 3) rfl) (q12.at (j := 4) rfl) (q12.at (j := 5) rfl) (q12.at (j := 6) rfl) (q12.at (j := 7) rfl) (q12.at (j := 8) rfl)) rfl ?_
      refine EL.val (ld_23 rfl (q3.at (j := 0) rfl) (q3.at (j := 1) rfl)) rfl ?_
      refine EL.call (cl_28 rfl rfl) rfl (lev_far x _ fl _ _ (Rd.of_own ho) (Nat.le_refl _) (by omega) hx hf) ?_
      rintro e w17 ⟨rfl, hc17⟩
      refine ⟨_, rfl, ?_⟩
      replace q1 := q1.below hc17 q1.lt
      replace q2 := q2.below hc17 q2.lt
      replace q3 := q3.below hc17 q3.lt
      replace q7 := q7.below hc17 q7.lt
      replace q12 := q12.below hc17 q12.lt
      replace hbw := Below.on hbw hc17 hbw.size
      replace hin := Below.on hin hc17 hin.size
      clear hc17
      refine EL.val (x_move rfl) rfl ?_
      refine EL.val (x_extract rfl rfl) rfl ?_
      refine EL.val (x_extract rfl rfl) rfl ?_
      refine EL.newP al_23 rfl ?_
      intro g18 w18 q18 hb18 hg18 hl18
      have n1_18 : g1 ≠ g18 := Nat.ne_of_lt (Nat.lt_of_lt_of_le q1.lt hg18)
      have n2_18 : g2 ≠ g18 := Nat.ne_of_lt (Nat.lt_of_lt_of_le q2.lt hg18)
      have n3_18 : g3 ≠ g18 := Nat.ne_of_lt (Nat.lt_of_lt_of_le q3.lt hg18)
      have n7_18 : g7 ≠ g18 := Nat.ne_of_lt (Nat.lt_of_lt_of_le q7.lt hg18)
      have n12_18 : g12 ≠ g18 := Nat.ne_of_lt (Nat.lt_of_lt_of_le q12.lt hg18)
      have bhbw_18 := Nat.le_trans hbw.size hg18
      have bhin_18 := Nat.le_trans hin.size hg18
      replace q1 := q1.below hb18 q1.lt
      replace q2 := q2.below hb18 q2.lt
      replace q3 := q3.below hb18 q3.lt
      replace q7 := q7.below hb18 q7.lt
      replace q12 := q12.below hb18 q12.lt
      replace hbw := Below.on hbw hb18 hbw.size
      replace hin := Below.on hin hb18 hin.size
      clear hb18 hg18 hl18
      refine EL.store rfl rfl q18 sz_23 rfl rfl rfl rfl ?_
      intro w19 hq19 hg19
      replace q1 := q1.grown hg19 (fun h => n1_18 (Option.some.inj h))
      replace q2 := q2.grown hg19 (fun h => n2_18 (Option.some.inj h))
      replace q3 := q3.grown hg19 (fun h => n3_18 (Option.some.inj h))
      replace q7 := q7.grown hg19 (fun h => n7_18 (Option.some.inj h))
      replace q12 := q12.grown hg19 (fun h => n12_18 (Option.some.inj h))
      replace hbw := below_store hbw hg19 bhbw_18
      replace hin := below_store hin hg19 bhin_18
      replace q18 := hq19
      clear hg19 hq19
      refine EL.val (x_assign rfl) rfl ?_
      refine EL.nil ?_
      refine EX.seq ?_
      refine EC.seq ?_
      refine EC.block ?_
      refine EC.seq ?_
      refine EC.region ?_
      refine EL.val (ld_50 rfl (q2.at (j := 0) rfl) (q2.at (j := 1) rfl) (q2.at (j := 2) rfl) (q2.at (j := 3) rfl) (q2.at (j := 4) rfl) (q2.at (j := 5) rfl) (q2.at (j := 6) rfl) (q2.at (j := 7) rfl) (q2.at (j := 8) rfl)) rfl ?_
      refine EL.call (cl_29 rfl) rfl (by have key := rreach_any x _ _ B (hrx.below (hbw.mono hB)) (Nat.le_trans hB hbw.size) (by omega); rw [hx] at key; exact key) ?_
      rintro e w20 ⟨rfl, hc20⟩
      refine ⟨_, rfl, ?_⟩
      replace q1 := q1.below hc20 q1.lt
      replace q2 := q2.below hc20 q2.lt
      replace q3 := q3.below hc20 q3.lt
      replace q7 := q7.below hc20 q7.lt
      replace q12 := q12.below hc20 q12.lt
      replace q18 := q18.below hc20 q18.lt
      replace hbw := Below.on hbw hc20 hbw.size
      replace hin := Below.on hin hc20 hin.size
      clear hc20
      refine EL.val (x_not rfl) rfl ?_
      refine EL.val (x_assign rfl) rfl ?_
      refine EL.nil ?_
      refine EX.seq ?_
      refine EC.no rfl ?_
      refine EC.seq ?_
      refine EC.region ?_
      refine EL.val (ld_23 rfl (q3.at (j := 0) rfl) (q3.at (j := 1) rfl)) rfl ?_
      refine EL.call (cl_30 rfl rfl rfl) rfl (by have key := rvalid_any fl 0 210000000000 w20; rw [hf] at key; exact key) ?_
      rintro e w21 ⟨rfl, hc21⟩
      refine ⟨_, rfl, ?_⟩
      replace q1 := q1.below hc21 q1.lt
      replace q2 := q2.below hc21 q2.lt
      replace q3 := q3.below hc21 q3.lt
      replace q7 := q7.below hc21 q7.lt
      replace q12 := q12.below hc21 q12.lt
      replace q18 := q18.below hc21 q18.lt
      replace hbw := Below.on hbw hc21 hbw.size
      replace hin := Below.on hin hc21 hin.size
      clear hc21
      refine EL.val (x_not rfl) rfl ?_
      refine EL.val (x_assign rfl) rfl ?_
      refine EL.nil ?_
      refine EX.seq ?_
      refine EC.yes rfl ?_
      refine EC.seq ?_
      refine EC.region ?_
      refine EL.val (x_move rfl) rfl ?_
      refine EL.val (x_eql rfl rfl (by first | assumption | exact decide_eq_true (by omega))) rfl ?_
      refine EL.val (x_move rfl) rfl ?_
      refine EL.valg rfl rfl (ld_23 rfl (q18.at (j := 0) rfl) (q18.at (j := 1) rfl)) rfl ?_
      refine EL.valg rfl rfl (bd_23_) rfl ?_
      refine EL.valg rfl rfl (eql_23 (r := true) rfl rfl (by simp)) rfl ?_
      refine EL.val (x_pick_t rfl rfl) rfl ?_
      refine EL.val (x_move rfl) rfl ?_
      refine EL.callg rfl rfl cl_16 rfl (known_any _) ?_
      rintro e w22 ⟨rfl, hc22⟩
      refine ⟨_, rfl, ?_⟩
      replace q1 := q1.below hc22 q1.lt
      replace q2 := q2.below hc22 q2.lt
      replace q3 := q3.below hc22 q3.lt
      replace q7 := q7.below hc22 q7.lt
      replace q12 := q12.below hc22 q12.lt
      replace q18 := q18.below hc22 q18.lt
      replace hbw := Below.on hbw hc22 hbw.size
      replace hin := Below.on hin hc22 hin.size
      clear hc22
      refine EL.val (x_pick_t rfl rfl) rfl ?_
      refine EL.val (x_assign rfl) rfl ?_
      refine EL.nil ?_
      refine EX.seq ?_
      refine EC.ret ?_
      refine EX.blk_ret ?_
      refine EX.seq_ret ?_
      exact EX.done (res1 rfl rfl) ⟨rfl, hbw⟩

set_option maxRecDepth 100000 in
theorem checksL_t_ok (rv : River) (x : Reach) (fl : Bd) (v u vx : Value) (vs : List Value) (w : World) (B : Nat) (hr : RdRiver w B v u rv vs) (hrx : Rd w B 2 vx x.curve.length (rowsC x.curve)) (hB : B ≤ w.heap.size) (hok : riverB rv = true) (hx : reachB x = true) (hf : bdOk 0 210000000000 fl = true) :
    Calls Try.prog 5 #[.agg #[v, u], .agg (reachV x vx), .agg #[.int .i64 fl.lo, .int .i64 fl.hi]] w fun e w' => e = .returned (.bool true) ∧ Below w.heap.size w w' := by
  obtain ⟨A, c, rfl, _⟩ := hr.reaches.shape
  obtain ⟨A', c', rfl, _⟩ := hr.shoals.shape
  obtain ⟨Ax, cx, rfl, _⟩ := hrx.shape
  have hbw := Below.refl w.heap.size w
  refine EC.enter 96 Try.func5 rfl rfl rfl ?_
  refine EC.seq ?_
  refine EC.region ?_
  refine EL.newP (bx_47 rfl) rfl ?_
  intro g1 w1 q1 hb1 hg1 hl1
  have bhbw_1 := Nat.le_trans hbw.size hg1
  replace hbw := Below.on hbw hb1 hbw.size
  clear hb1 hg1 hl1
  refine EL.newP (bx_50 rfl) rfl ?_
  intro g2 w2 q2 hb2 hg2 hl2
  have n1_2 : g1 ≠ g2 := Nat.ne_of_lt (Nat.lt_of_lt_of_le q1.lt hg2)
  have bhbw_2 := Nat.le_trans hbw.size hg2
  replace q1 := q1.below hb2 q1.lt
  replace hbw := Below.on hbw hb2 hbw.size
  clear hb2 hg2 hl2
  refine EL.newP (bx_23 rfl) rfl ?_
  intro g3 w3 q3 hb3 hg3 hl3
  have n1_3 : g1 ≠ g3 := Nat.ne_of_lt (Nat.lt_of_lt_of_le q1.lt hg3)
  have n2_3 : g2 ≠ g3 := Nat.ne_of_lt (Nat.lt_of_lt_of_le q2.lt hg3)
  have bhbw_3 := Nat.le_trans hbw.size hg3
  replace q1 := q1.below hb3 q1.lt
  replace q2 := q2.below hb3 q2.lt
  replace hbw := Below.on hbw hb3 hbw.size
  clear hb3 hg3 hl3
  refine EL.val (x_assign rfl) rfl ?_
  refine EL.nil ?_
  refine EX.seq ?_
  refine EC.seq ?_
  refine EC.seq ?_
  refine EC.region ?_
  refine EL.val (ld_47 rfl (q1.at (j := 0) rfl) (q1.at (j := 1) rfl)) rfl ?_
  refine EL.val (bd_54_0 rfl) rfl ?_
  refine EL.call (cl_23 rfl) rfl (large_any rv [] _ _ (.slice none 0 0) vs [] _ _ ((hr.below (hbw.mono hB)).more (Nat.le_trans hB hbw.size)) (rd_nosides _) (Nat.le_refl _)) ?_
  rintro e w_l ⟨rfl | ⟨rfl, hfine⟩, hc_⟩
  ·
    refine ⟨_, rfl, ?_⟩
    replace q1 := q1.below hc_ q1.lt
    replace q2 := q2.below hc_ q2.lt
    replace q3 := q3.below hc_ q3.lt
    replace hbw := Below.on hbw hc_ hbw.size
    clear hc_
    refine EL.val (x_move rfl) rfl ?_
    refine EL.skip rfl rfl rfl rfl ?_
    refine EL.skip rfl rfl rfl rfl ?_
    refine EL.skip rfl rfl rfl rfl ?_
    refine EL.skip rfl rfl rfl rfl ?_
    refine EL.val (x_pick_t rfl rfl) rfl ?_
    refine EL.nil ?_
    refine EX.seq ?_
    refine EC.yes rfl ?_
    refine EC.seq ?_
    refine EC.region ?_
    refine EL.call cl_16 rfl (known_any _) ?_
    rintro e w4 ⟨rfl, hc4⟩
    refine ⟨_, rfl, ?_⟩
    replace q1 := q1.below hc4 q1.lt
    replace q2 := q2.below hc4 q2.lt
    replace q3 := q3.below hc4 q3.lt
    replace hbw := Below.on hbw hc4 hbw.size
    clear hc4
    refine EL.val (x_assign rfl) rfl ?_
    refine EL.nil ?_
    refine EX.seq ?_
    refine EC.ret ?_
    refine EX.seq_ret ?_
    exact EX.done (res1 rfl rfl) ⟨rfl, hbw⟩
  ·
    by_cases h40 : 40 < x.curve.length
    ·
      refine ⟨_, rfl, ?_⟩
      replace q1 := q1.below hc_ q1.lt
      replace q2 := q2.below hc_ q2.lt
      replace q3 := q3.below hc_ q3.lt
      replace hbw := Below.on hbw hc_ hbw.size
      clear hc_
      refine EL.val (x_move rfl) rfl ?_
      refine EL.valg rfl rfl (fa_50_3 rfl) rfl ?_
      refine EL.valg rfl rfl (ld_48 rfl (q2.at (j := 4) rfl)) rfl ?_
      refine EL.valg rfl rfl (ln_48 rfl) rfl ?_
      refine EL.valg rfl rfl (x_gtr rfl rfl (by first | assumption | exact decide_eq_true (by omega))) rfl ?_
      refine EL.val (x_pick_f rfl rfl) rfl ?_
      refine EL.nil ?_
      refine EX.seq ?_
      refine EC.yes rfl ?_
      refine EC.seq ?_
      refine EC.region ?_
      refine EL.call cl_16 rfl (known_any _) ?_
      rintro e w5 ⟨rfl, hc5⟩
      refine ⟨_, rfl, ?_⟩
      replace q1 := q1.below hc5 q1.lt
      replace q2 := q2.below hc5 q2.lt
      replace q3 := q3.below hc5 q3.lt
      replace hbw := Below.on hbw hc5 hbw.size
      clear hc5
      refine EL.val (x_assign rfl) rfl ?_
      refine EL.nil ?_
      refine EX.seq ?_
      refine EC.ret ?_
      refine EX.seq_ret ?_
      exact EX.done (res1 rfl rfl) ⟨rfl, hbw⟩
    ·
      have f1 := hfine.nreaches
      have f2 := hfine.nshoals
      have f3 : CurvesB rv.reaches := fun i hi => Nat.le_trans (hfine.curve i hi) (by decide)
      have hd1 : decide (errB (riverB rv) ≠ 0) = false := by rw [hok]; rfl
      have hd2 : decide (errB (riverB rv) ≠ 2) = true := by rw [hok]; rfl
      have hd3 : decide (errB (riverB rv) = 0) = true := by rw [hok]; rfl
      refine ⟨_, rfl, ?_⟩
      replace q1 := q1.below hc_ q1.lt
      replace q2 := q2.below hc_ q2.lt
      replace q3 := q3.below hc_ q3.lt
      replace hbw := Below.on hbw hc_ hbw.size
      clear hc_
      refine EL.val (x_move rfl) rfl ?_
      refine EL.valg rfl rfl (fa_50_3 rfl) rfl ?_
      refine EL.valg rfl rfl (ld_48 rfl (q2.at (j := 4) rfl)) rfl ?_
      refine EL.valg rfl rfl (ln_48 rfl) rfl ?_
      refine EL.valg rfl rfl (x_gtr rfl rfl (by first | assumption | exact decide_eq_false (by omega))) rfl ?_
      refine EL.val (x_pick_f rfl rfl) rfl ?_
      refine EL.nil ?_
      refine EX.seq ?_
      refine EC.no rfl ?_
      refine EC.skip ?_
      refine EX.seq ?_
      refine EC.seq ?_
      refine EC.region ?_
      refine EL.val (ld_47 rfl (q1.at (j := 0) rfl) (q1.at (j := 1) rfl)) rfl ?_
      refine EL.call (cl_24 rfl) rfl (copied_any rv _ _ vs _ B (hr.below (hbw.mono hB)) (Nat.le_trans hB hbw.size) (by omega) (by omega) f3) ?_
      rintro e w6 ⟨⟨v1, u1, vs1, rfl, hcp⟩, hc6⟩
      refine ⟨_, rfl, ?_⟩
      replace q1 := q1.below hc6 q1.lt
      replace q2 := q2.below hc6 q2.lt
      replace q3 := q3.below hc6 q3.lt
      replace hbw := Below.on hbw hc6 hbw.size
      clear hc6
      have hin := Below.refl w6.heap.size w6
      obtain ⟨Ac, cc1, rfl, _⟩ := hcp.reaches.shape
      obtain ⟨Ac', cc2, rfl, _⟩ := hcp.shoals.shape
      refine EL.newP al_47 rfl ?_
      intro g7 w7 q7 hb7 hg7 hl7
      have n1_7 : g1 ≠ g7 := Nat.ne_of_lt (Nat.lt_of_lt_of_le q1.lt hg7)
      have n2_7 : g2 ≠ g7 := Nat.ne_of_lt (Nat.lt_of_lt_of_le q2.lt hg7)
      have n3_7 : g3 ≠ g7 := Nat.ne_of_lt (Nat.lt_of_lt_of_le q3.lt hg7)
      have bhbw_7 := Nat.le_trans hbw.size hg7
      have bhin_7 := Nat.le_trans hin.size hg7
      replace q1 := q1.below hb7 q1.lt
      replace q2 := q2.below hb7 q2.lt
      replace q3 := q3.below hb7 q3.lt
      replace hbw := Below.on hbw hb7 hbw.size
      replace hin := Below.on hin hb7 hin.size
      clear hb7 hg7 hl7
      refine EL.store rfl rfl q7 sz_47 rfl rfl rfl rfl ?_
      intro w8 hq8 hg8
      replace q1 := q1.grown hg8 (fun h => n1_7 (Option.some.inj h))
      replace q2 := q2.grown hg8 (fun h => n2_7 (Option.some.inj h))
      replace q3 := q3.grown hg8 (fun h => n3_7 (Option.some.inj h))
      replace hbw := below_store hbw hg8 bhbw_7
      replace hin := below_store hin hg8 bhin_7
      replace q7 := hq8
      clear hg8 hq8
      refine EL.nil ?_
      refine EX.seq ?_
      refine EC.seq ?_
      refine EC.region ?_
      refine EL.val (ld_47 rfl (q7.at (j := 0) rfl) (q7.at (j := 1) rfl)) rfl ?_
      refine EL.call (cl_25 rfl) rfl (check_any rv _ _ vs1 _ _ (hcp.below hin) hin.size (by omega) (by omega) f3) ?_
      rintro e w9 ⟨rfl, hc9⟩
      refine ⟨_, rfl, ?_⟩
      replace q1 := q1.below hc9 q1.lt
      replace q2 := q2.below hc9 q2.lt
      replace q3 := q3.below hc9 q3.lt
      replace q7 := q7.below hc9 q7.lt
      replace hbw := Below.on hbw hc9 hbw.size
      replace hin := Below.on hin hc9 hin.size
      clear hc9
      refine EL.val (x_assign rfl) rfl ?_
      refine EL.nil ?_
      refine EX.seq ?_
      refine EC.seq ?_
      refine EC.seq ?_
      refine EC.region ?_
      refine EL.val (x_move rfl) rfl ?_
      refine EL.val (x_neq rfl rfl (by first | assumption | exact decide_eq_false (by omega))) rfl ?_
      refine EL.val (x_move rfl) rfl ?_
      refine EL.skip rfl rfl rfl rfl ?_
      refine EL.skip rfl rfl rfl rfl ?_
      refine EL.val (x_pick_f rfl rfl) rfl ?_
      refine EL.val (x_move rfl) rfl ?_
      refine EL.valg rfl rfl (x_move rfl) rfl ?_
      refine EL.valg rfl rfl (x_eql rfl rfl (by first | assumption | exact decide_eq_true (by omega))) rfl ?_
      refine EL.valg rfl rfl (ld_47 rfl (q1.at (j := 0) rfl) (q1.at (j := 1) rfl)) rfl ?_
      refine EL.callg rfl rfl (cl_26 rfl) rfl (by have key := rriver_any rv _ _ vs _ B (hr.below (hbw.mono hB)) (Nat.le_trans hB hbw.size) (by omega) (by omega) f3; rw [hok] at key; exact key) ?_
      rintro e w10 ⟨rfl, hc10⟩
      refine ⟨_, rfl, ?_⟩
      replace q1 := q1.below hc10 q1.lt
      replace q2 := q2.below hc10 q2.lt
      replace q3 := q3.below hc10 q3.lt
      replace q7 := q7.below hc10 q7.lt
      replace hbw := Below.on hbw hc10 hbw.size
      replace hin := Below.on hin hc10 hin.size
      clear hc10
      refine EL.valg rfl rfl (neq_bool rfl rfl rfl) rfl ?_
      refine EL.val (x_pick_f rfl rfl) rfl ?_
      refine EL.val (x_move rfl) rfl ?_
      refine EL.valg rfl rfl (ld_47 rfl (q7.at (j := 0) rfl) (q7.at (j := 1) rfl)) rfl ?_
      refine EL.valg rfl rfl (ld_47 rfl (q1.at (j := 0) rfl) (q1.at (j := 1) rfl)) rfl ?_
      refine EL.callg rfl rfl (cl_27 rfl rfl) rfl (unchanged_eq rv _ _ _ _ vs1 vs _ _ B (hcp.below hin) (hr.below (hbw.mono hB)) hin.size (Nat.le_trans hB hbw.size) (by omega) (by omega) f3) ?_
      rintro e w11 ⟨rfl, hc11⟩
      refine ⟨_, rfl, ?_⟩
      replace q1 := q1.below hc11 q1.lt
      replace q2 := q2.below hc11 q2.lt
      replace q3 := q3.below hc11 q3.lt
      replace q7 := q7.below hc11 q7.lt
      replace hbw := Below.on hbw hc11 hbw.size
      replace hin := Below.on hin hc11 hin.size
      clear hc11
      refine EL.valg rfl rfl (x_not rfl) rfl ?_
      refine EL.val (x_pick_f rfl rfl) rfl ?_
      refine EL.nil ?_
      refine EX.seq ?_
      refine EC.no rfl ?_
      refine EC.skip ?_
      refine EX.seq ?_
      refine EC.seq ?_
      refine EC.region ?_
      refine EL.val (ld_50 rfl (q2.at (j := 0) rfl) (q2.at (j := 1) rfl) (q2.at (j := 2) rfl) (q2.at (j := 3) rfl) (q2.at (j := 4) rfl) (q2.at (j := 5) rfl) (q2.at (j := 6) rfl) (q2.at (j := 7) rfl) (q2.at (j := 8) rfl)) rfl ?_
      refine EL.newP al_50 rfl ?_
      intro g12 w12 q12 hb12 hg12 hl12
      have n1_12 : g1 ≠ g12 := Nat.ne_of_lt (Nat.lt_of_lt_of_le q1.lt hg12)
      have n2_12 : g2 ≠ g12 := Nat.ne_of_lt (Nat.lt_of_lt_of_le q2.lt hg12)
      have n3_12 : g3 ≠ g12 := Nat.ne_of_lt (Nat.lt_of_lt_of_le q3.lt hg12)
      have n7_12 : g7 ≠ g12 := Nat.ne_of_lt (Nat.lt_of_lt_of_le q7.lt hg12)
      have bhbw_12 := Nat.le_trans hbw.size hg12
      have bhin_12 := Nat.le_trans hin.size hg12
      replace q1 := q1.below hb12 q1.lt
      replace q2 := q2.below hb12 q2.lt
      replace q3 := q3.below hb12 q3.lt
      replace q7 := q7.below hb12 q7.lt
      replace hbw := Below.on hbw hb12 hbw.size
      replace hin := Below.on hin hb12 hin.size
      clear hb12 hg12 hl12
      refine EL.store rfl rfl q12 sz_50 rfl rfl rfl rfl ?_
      intro w13 hq13 hg13
      replace q1 := q1.grown hg13 (fun h => n1_12 (Option.some.inj h))
      replace q2 := q2.grown hg13 (fun h => n2_12 (Option.some.inj h))
      replace q3 := q3.grown hg13 (fun h => n3_12 (Option.some.inj h))
      replace q7 := q7.grown hg13 (fun h => n7_12 (Option.some.inj h))
      replace hbw := below_store hbw hg13 bhbw_12
      replace hin := below_store hin hg13 bhin_12
      replace q12 := hq13
      clear hg13 hq13
      refine EL.nil ?_
      refine EX.seq ?_
      refine EC.seq ?_
      refine EC.region ?_
      have lo_1 := q1.lt
      have lo_2 := q2.lt
      have lo_3 := q3.lt
      have lo_7 := q7.lt
      have lo_12 := q12.lt
      have sz_hbw := hbw.size
      have sz_hin := hin.size
      refine EL.newS bs_48_0 rfl ?_
      intro g14 w14 q14 hb14 hg14 hl14
      have n1_14 : g1 ≠ g14 := Nat.ne_of_lt (Nat.lt_of_lt_of_le q1.lt hg14)
      have n2_14 : g2 ≠ g14 := Nat.ne_of_lt (Nat.lt_of_lt_of_le q2.lt hg14)
      have n3_14 : g3 ≠ g14 := Nat.ne_of_lt (Nat.lt_of_lt_of_le q3.lt hg14)
      have n7_14 : g7 ≠ g14 := Nat.ne_of_lt (Nat.lt_of_lt_of_le q7.lt hg14)
      have n12_14 : g12 ≠ g14 := Nat.ne_of_lt (Nat.lt_of_lt_of_le q12.lt hg14)
      have bhbw_14 := Nat.le_trans hbw.size hg14
      have bhin_14 := Nat.le_trans hin.size hg14
      replace q1 := q1.below hb14 q1.lt
      replace q2 := q2.below hb14 q2.lt
      replace q3 := q3.below hb14 q3.lt
      replace q7 := q7.below hb14 q7.lt
      replace q12 := q12.below hb14 q12.lt
      replace hbw := Below.on hbw hb14 hbw.size
      replace hin := Below.on hin hb14 hin.size
      clear hb14 hl14
      have oin := own_empty (base := w13.heap.size) 2 q14 hg14
      refine EL.val (fa_50_3 rfl) rfl ?_
      refine EL.val (ld_48 rfl (q2.at (j := 4) rfl)) rfl ?_
      refine EL.push row_elem rfl rfl oin (hrx.below (hbw.mono hB)) (rowsC_one _) (by omega) rfl (Nat.le_trans hg14 (Nat.le_of_lt q14.lt)) rfl ?_
      intro vin w15 ho hgr15 hb15 _
      replace q1 := q1.below hb15 lo_1
      replace q2 := q2.below hb15 lo_2
      replace q3 := q3.below hb15 lo_3
      replace q7 := q7.below hb15 lo_7
      replace q12 := q12.below hb15 lo_12
      replace hbw := hbw.trans (hb15.mono sz_hbw)
      replace hin := hin.trans (hb15.mono sz_hin)
      rw [Nat.zero_add, List.nil_append] at ho
      obtain ⟨Ai, ci, ei, _⟩ := (Rd.of_own ho).shape
      subst ei
      refine EL.val (fa_50_3 rfl) rfl ?_
      refine EL.store rfl rfl q12 sz_48 rfl rfl rfl rfl ?_
      intro w16 hq16 hg16
      replace q1 := q1.grown hg16 (fun h => n1_12 (Option.some.inj h))
      replace q2 := q2.grown hg16 (fun h => n2_12 (Option.some.inj h))
      replace q3 := q3.grown hg16 (fun h => n3_12 (Option.some.inj h))
      replace q7 := q7.grown hg16 (fun h => n7_12 (Option.some.inj h))
      replace ho := own_far ho hg16 lo_12
      replace hbw := below_store hbw hg16 bhbw_12
      replace hin := below_store hin hg16 bhin_12
      replace q12 := hq16
      clear hg16 hq16
      refine EL.nil ?_
      refine EX.seq ?_
      refine EC.seq ?_
      refine EC.region ?_
      refine EL.val (ld_50 rfl (q12.at (j := 0) rfl) (q12.at (j := 1) rfl) (q12.at (j := 2) rfl) (q12.at (j := 3) rfl) (q12.at (j := 4) rfl) (q12.at (j := 5) rfl) (q12.at (j := 6) rfl) (q12.at (j := 7) rfl) (q12.at (j := 8) rfl)) rfl ?_
      refine EL.val (ld_23 rfl (q3.at (j := 0) rfl) (q3.at (j := 1) rfl)) rfl ?_
      refine EL.call (cl_28 rfl rfl) rfl (lev_ok x _ fl _ _ (Rd.of_own ho) (Nat.le_refl _) (by omega) hx hf) ?_
      rintro e w17 ⟨rfl, hc17⟩
      refine ⟨_, rfl, ?_⟩
      replace q1 := q1.below hc17 q1.lt
      replace q2 := q2.below hc17 q2.lt
      replace q3 := q3.below hc17 q3.lt
      replace q7 := q7.below hc17 q7.lt
      replace q12 := q12.below hc17 q12.lt
      replace hbw := Below.on hbw hc17 hbw.size
      replace hin := Below.on hin hc17 hin.size
      clear hc17
      refine EL.val (x_move rfl) rfl ?_
      refine EL.val (x_extract rfl rfl) rfl ?_
      refine EL.val (x_extract rfl rfl) rfl ?_
      refine EL.newP al_23 rfl ?_
      intro g18 w18 q18 hb18 hg18 hl18
      have n1_18 : g1 ≠ g18 := Nat.ne_of_lt (Nat.lt_of_lt_of_le q1.lt hg18)
      have n2_18 : g2 ≠ g18 := Nat.ne_of_lt (Nat.lt_of_lt_of_le q2.lt hg18)
      have n3_18 : g3 ≠ g18 := Nat.ne_of_lt (Nat.lt_of_lt_of_le q3.lt hg18)
      have n7_18 : g7 ≠ g18 := Nat.ne_of_lt (Nat.lt_of_lt_of_le q7.lt hg18)
      have n12_18 : g12 ≠ g18 := Nat.ne_of_lt (Nat.lt_of_lt_of_le q12.lt hg18)
      have bhbw_18 := Nat.le_trans hbw.size hg18
      have bhin_18 := Nat.le_trans hin.size hg18
      replace q1 := q1.below hb18 q1.lt
      replace q2 := q2.below hb18 q2.lt
      replace q3 := q3.below hb18 q3.lt
      replace q7 := q7.below hb18 q7.lt
      replace q12 := q12.below hb18 q12.lt
      replace hbw := Below.on hbw hb18 hbw.size
      replace hin := Below.on hin hb18 hin.size
      clear hb18 hg18 hl18
      refine EL.store rfl rfl q18 sz_23 rfl rfl rfl rfl ?_
      intro w19 hq19 hg19
      replace q1 := q1.grown hg19 (fun h => n1_18 (Option.some.inj h))
      replace q2 := q2.grown hg19 (fun h => n2_18 (Option.some.inj h))
      replace q3 := q3.grown hg19 (fun h => n3_18 (Option.some.inj h))
      replace q7 := q7.grown hg19 (fun h => n7_18 (Option.some.inj h))
      replace q12 := q12.grown hg19 (fun h => n12_18 (Option.some.inj h))
      replace hbw := below_store hbw hg19 bhbw_18
      replace hin := below_store hin hg19 bhin_18
      replace q18 := hq19
      clear hg19 hq19
      refine EL.val (x_assign rfl) rfl ?_
      refine EL.nil ?_
      refine EX.seq ?_
      refine EC.seq ?_
      refine EC.block ?_
      refine EC.seq ?_
      refine EC.region ?_
      refine EL.val (ld_50 rfl (q2.at (j := 0) rfl) (q2.at (j := 1) rfl) (q2.at (j := 2) rfl) (q2.at (j := 3) rfl) (q2.at (j := 4) rfl) (q2.at (j := 5) rfl) (q2.at (j := 6) rfl) (q2.at (j := 7) rfl) (q2.at (j := 8) rfl)) rfl ?_
      refine EL.call (cl_29 rfl) rfl (by have key := rreach_any x _ _ B (hrx.below (hbw.mono hB)) (Nat.le_trans hB hbw.size) (by omega); rw [hx] at key; exact key) ?_
      rintro e w20 ⟨rfl, hc20⟩
      refine ⟨_, rfl, ?_⟩
      replace q1 := q1.below hc20 q1.lt
      replace q2 := q2.below hc20 q2.lt
      replace q3 := q3.below hc20 q3.lt
      replace q7 := q7.below hc20 q7.lt
      replace q12 := q12.below hc20 q12.lt
      replace q18 := q18.below hc20 q18.lt
      replace hbw := Below.on hbw hc20 hbw.size
      replace hin := Below.on hin hc20 hin.size
      clear hc20
      refine EL.val (x_not rfl) rfl ?_
      refine EL.val (x_assign rfl) rfl ?_
      refine EL.nil ?_
      refine EX.seq ?_
      refine EC.no rfl ?_
      refine EC.seq ?_
      refine EC.region ?_
      refine EL.val (ld_23 rfl (q3.at (j := 0) rfl) (q3.at (j := 1) rfl)) rfl ?_
      refine EL.call (cl_30 rfl rfl rfl) rfl (by have key := rvalid_any fl 0 210000000000 w20; rw [hf] at key; exact key) ?_
      rintro e w21 ⟨rfl, hc21⟩
      refine ⟨_, rfl, ?_⟩
      replace q1 := q1.below hc21 q1.lt
      replace q2 := q2.below hc21 q2.lt
      replace q3 := q3.below hc21 q3.lt
      replace q7 := q7.below hc21 q7.lt
      replace q12 := q12.below hc21 q12.lt
      replace q18 := q18.below hc21 q18.lt
      replace hbw := Below.on hbw hc21 hbw.size
      replace hin := Below.on hin hc21 hin.size
      clear hc21
      refine EL.val (x_not rfl) rfl ?_
      refine EL.val (x_assign rfl) rfl ?_
      refine EL.nil ?_
      refine EX.seq ?_
      refine EC.no rfl ?_
      refine EC.skip ?_
      refine EX.blk ?_
      refine EX.seq ?_
      refine EC.seq ?_
      refine EC.regionQ (by kernel_rfl) (by kernel_rfl) ?_
      refine EQ.val (fun _ hw => (x_move rfl)) rfl ?_
      refine EQ.val (fun _ hw => (x_eql rfl rfl (by first | assumption | exact decide_eq_true (by omega)))) rfl ?_
      refine EQ.val (fun _ hw => (x_move rfl)) rfl ?_
      refine EQ.valg rfl rfl (fun _ hw => (ld_23 rfl (below_load hw (q18.at (j := 0) rfl)) (below_load hw (q18.at (j := 1) rfl)))) rfl ?_
      refine EQ.valg rfl rfl (fun _ hw => (ld_50 rfl (below_load hw (q2.at (j := 0) rfl)) (below_load hw (q2.at (j := 1) rfl)) (below_load hw (q2.at (j := 2) rfl)) (below_load hw (q2.at (j := 3) rfl)) (below_load hw (q2.at (j := 4) rfl)) (below_load hw (q2.at (j := 5) rfl)) (below_load hw (q2.at (j := 6) rfl)) (below_load hw (q2.at (j := 7) rfl)) (below_load hw (q2.at (j := 8) rfl)))) rfl ?_
      refine EQ.valg rfl rfl (fun _ hw => (ld_23 rfl (below_load hw (q3.at (j := 0) rfl)) (below_load hw (q3.at (j := 1) rfl)))) rfl ?_
      refine EQ.callg rfl rfl (fun _ _ _ ha => cl_31 rfl rfl _ ha) rfl (fun W hw => (rlevel_any x _ fl W B (hrx.below ((hbw.trans (hw.mono hbw.size)).mono hB)) (Nat.le_trans hB (Nat.le_trans hbw.size hw.size)) (reachB_ok hx) (by have := bdOk_iff.1 hf; omega)).mono fun e w' h => ⟨h.1, hw.trans (h.2.mono hw.size)⟩) ?_
      refine EQ.valg rfl rfl (fun _ hw => (eql_23 (r := true) rfl rfl (by simp))) rfl ?_
      refine EQ.val (fun _ hw => (x_pick_t rfl rfl)) rfl ?_
      refine EQ.val (fun _ hw => (x_move rfl)) rfl ?_
      refine EQ.callg rfl rfl (fun _ _ _ ha => cl_16 _ ha) rfl (fun W hw => (known_any W).mono fun e w' h => ⟨h.1, hw.trans (h.2.mono hw.size)⟩) ?_
      refine EQ.val (fun _ hw => (x_pick_t rfl rfl)) rfl ?_
      refine EQ.val (fun _ hw => (x_assign rfl)) rfl ?_
      refine EQ.fin (fun w_ hw_ => ?_)
      replace hbw := Below.on hbw hw_ hbw.size
      refine EX.seq ?_
      refine EC.ret ?_
      exact EX.done (res1 rfl rfl) ⟨rfl, hbw⟩

set_option maxRecDepth 100000 in
theorem checksL_f_bad (rv : River) (x : Reach) (fl : Bd) (v u vx : Value) (vs : List Value) (w : World) (B : Nat) (hr : RdRiver w B v u rv vs) (hrx : Rd w B 2 vx x.curve.length (rowsC x.curve)) (hB : B ≤ w.heap.size) (hok : riverB rv = false) (hx : reachB x = false) :
    Calls Try.prog 5 #[.agg #[v, u], .agg (reachV x vx), .agg #[.int .i64 fl.lo, .int .i64 fl.hi]] w fun e w' => e = .returned (.bool true) ∧ Below w.heap.size w w' := by
  obtain ⟨A, c, rfl, _⟩ := hr.reaches.shape
  obtain ⟨A', c', rfl, _⟩ := hr.shoals.shape
  obtain ⟨Ax, cx, rfl, _⟩ := hrx.shape
  have hbw := Below.refl w.heap.size w
  refine EC.enter 96 Try.func5 rfl rfl rfl ?_
  refine EC.seq ?_
  refine EC.region ?_
  refine EL.newP (bx_47 rfl) rfl ?_
  intro g1 w1 q1 hb1 hg1 hl1
  have bhbw_1 := Nat.le_trans hbw.size hg1
  replace hbw := Below.on hbw hb1 hbw.size
  clear hb1 hg1 hl1
  refine EL.newP (bx_50 rfl) rfl ?_
  intro g2 w2 q2 hb2 hg2 hl2
  have n1_2 : g1 ≠ g2 := Nat.ne_of_lt (Nat.lt_of_lt_of_le q1.lt hg2)
  have bhbw_2 := Nat.le_trans hbw.size hg2
  replace q1 := q1.below hb2 q1.lt
  replace hbw := Below.on hbw hb2 hbw.size
  clear hb2 hg2 hl2
  refine EL.newP (bx_23 rfl) rfl ?_
  intro g3 w3 q3 hb3 hg3 hl3
  have n1_3 : g1 ≠ g3 := Nat.ne_of_lt (Nat.lt_of_lt_of_le q1.lt hg3)
  have n2_3 : g2 ≠ g3 := Nat.ne_of_lt (Nat.lt_of_lt_of_le q2.lt hg3)
  have bhbw_3 := Nat.le_trans hbw.size hg3
  replace q1 := q1.below hb3 q1.lt
  replace q2 := q2.below hb3 q2.lt
  replace hbw := Below.on hbw hb3 hbw.size
  clear hb3 hg3 hl3
  refine EL.val (x_assign rfl) rfl ?_
  refine EL.nil ?_
  refine EX.seq ?_
  refine EC.seq ?_
  refine EC.seq ?_
  refine EC.region ?_
  refine EL.val (ld_47 rfl (q1.at (j := 0) rfl) (q1.at (j := 1) rfl)) rfl ?_
  refine EL.val (bd_54_0 rfl) rfl ?_
  refine EL.call (cl_23 rfl) rfl (large_any rv [] _ _ (.slice none 0 0) vs [] _ _ ((hr.below (hbw.mono hB)).more (Nat.le_trans hB hbw.size)) (rd_nosides _) (Nat.le_refl _)) ?_
  rintro e w_l ⟨rfl | ⟨rfl, hfine⟩, hc_⟩
  ·
    refine ⟨_, rfl, ?_⟩
    replace q1 := q1.below hc_ q1.lt
    replace q2 := q2.below hc_ q2.lt
    replace q3 := q3.below hc_ q3.lt
    replace hbw := Below.on hbw hc_ hbw.size
    clear hc_
    refine EL.val (x_move rfl) rfl ?_
    refine EL.skip rfl rfl rfl rfl ?_
    refine EL.skip rfl rfl rfl rfl ?_
    refine EL.skip rfl rfl rfl rfl ?_
    refine EL.skip rfl rfl rfl rfl ?_
    refine EL.val (x_pick_t rfl rfl) rfl ?_
    refine EL.nil ?_
    refine EX.seq ?_
    refine EC.yes rfl ?_
    refine EC.seq ?_
    refine EC.region ?_
    refine EL.call cl_16 rfl (known_any _) ?_
    rintro e w4 ⟨rfl, hc4⟩
    refine ⟨_, rfl, ?_⟩
    replace q1 := q1.below hc4 q1.lt
    replace q2 := q2.below hc4 q2.lt
    replace q3 := q3.below hc4 q3.lt
    replace hbw := Below.on hbw hc4 hbw.size
    clear hc4
    refine EL.val (x_assign rfl) rfl ?_
    refine EL.nil ?_
    refine EX.seq ?_
    refine EC.ret ?_
    refine EX.seq_ret ?_
    exact EX.done (res1 rfl rfl) ⟨rfl, hbw⟩
  ·
    by_cases h40 : 40 < x.curve.length
    ·
      refine ⟨_, rfl, ?_⟩
      replace q1 := q1.below hc_ q1.lt
      replace q2 := q2.below hc_ q2.lt
      replace q3 := q3.below hc_ q3.lt
      replace hbw := Below.on hbw hc_ hbw.size
      clear hc_
      refine EL.val (x_move rfl) rfl ?_
      refine EL.valg rfl rfl (fa_50_3 rfl) rfl ?_
      refine EL.valg rfl rfl (ld_48 rfl (q2.at (j := 4) rfl)) rfl ?_
      refine EL.valg rfl rfl (ln_48 rfl) rfl ?_
      refine EL.valg rfl rfl (x_gtr rfl rfl (by first | assumption | exact decide_eq_true (by omega))) rfl ?_
      refine EL.val (x_pick_f rfl rfl) rfl ?_
      refine EL.nil ?_
      refine EX.seq ?_
      refine EC.yes rfl ?_
      refine EC.seq ?_
      refine EC.region ?_
      refine EL.call cl_16 rfl (known_any _) ?_
      rintro e w5 ⟨rfl, hc5⟩
      refine ⟨_, rfl, ?_⟩
      replace q1 := q1.below hc5 q1.lt
      replace q2 := q2.below hc5 q2.lt
      replace q3 := q3.below hc5 q3.lt
      replace hbw := Below.on hbw hc5 hbw.size
      clear hc5
      refine EL.val (x_assign rfl) rfl ?_
      refine EL.nil ?_
      refine EX.seq ?_
      refine EC.ret ?_
      refine EX.seq_ret ?_
      exact EX.done (res1 rfl rfl) ⟨rfl, hbw⟩
    ·
      have f1 := hfine.nreaches
      have f2 := hfine.nshoals
      have f3 : CurvesB rv.reaches := fun i hi => Nat.le_trans (hfine.curve i hi) (by decide)
      have hd1 : decide (errB (riverB rv) ≠ 0) = true := by rw [hok]; rfl
      have hd2 : decide (errB (riverB rv) ≠ 2) = false := by rw [hok]; rfl
      have hd3 : decide (errB (riverB rv) = 0) = false := by rw [hok]; rfl
      refine ⟨_, rfl, ?_⟩
      replace q1 := q1.below hc_ q1.lt
      replace q2 := q2.below hc_ q2.lt
      replace q3 := q3.below hc_ q3.lt
      replace hbw := Below.on hbw hc_ hbw.size
      clear hc_
      refine EL.val (x_move rfl) rfl ?_
      refine EL.valg rfl rfl (fa_50_3 rfl) rfl ?_
      refine EL.valg rfl rfl (ld_48 rfl (q2.at (j := 4) rfl)) rfl ?_
      refine EL.valg rfl rfl (ln_48 rfl) rfl ?_
      refine EL.valg rfl rfl (x_gtr rfl rfl (by first | assumption | exact decide_eq_false (by omega))) rfl ?_
      refine EL.val (x_pick_f rfl rfl) rfl ?_
      refine EL.nil ?_
      refine EX.seq ?_
      refine EC.no rfl ?_
      refine EC.skip ?_
      refine EX.seq ?_
      refine EC.seq ?_
      refine EC.region ?_
      refine EL.val (ld_47 rfl (q1.at (j := 0) rfl) (q1.at (j := 1) rfl)) rfl ?_
      refine EL.call (cl_24 rfl) rfl (copied_any rv _ _ vs _ B (hr.below (hbw.mono hB)) (Nat.le_trans hB hbw.size) (by omega) (by omega) f3) ?_
      rintro e w6 ⟨⟨v1, u1, vs1, rfl, hcp⟩, hc6⟩
      refine ⟨_, rfl, ?_⟩
      replace q1 := q1.below hc6 q1.lt
      replace q2 := q2.below hc6 q2.lt
      replace q3 := q3.below hc6 q3.lt
      replace hbw := Below.on hbw hc6 hbw.size
      clear hc6
      have hin := Below.refl w6.heap.size w6
      obtain ⟨Ac, cc1, rfl, _⟩ := hcp.reaches.shape
      obtain ⟨Ac', cc2, rfl, _⟩ := hcp.shoals.shape
      refine EL.newP al_47 rfl ?_
      intro g7 w7 q7 hb7 hg7 hl7
      have n1_7 : g1 ≠ g7 := Nat.ne_of_lt (Nat.lt_of_lt_of_le q1.lt hg7)
      have n2_7 : g2 ≠ g7 := Nat.ne_of_lt (Nat.lt_of_lt_of_le q2.lt hg7)
      have n3_7 : g3 ≠ g7 := Nat.ne_of_lt (Nat.lt_of_lt_of_le q3.lt hg7)
      have bhbw_7 := Nat.le_trans hbw.size hg7
      have bhin_7 := Nat.le_trans hin.size hg7
      replace q1 := q1.below hb7 q1.lt
      replace q2 := q2.below hb7 q2.lt
      replace q3 := q3.below hb7 q3.lt
      replace hbw := Below.on hbw hb7 hbw.size
      replace hin := Below.on hin hb7 hin.size
      clear hb7 hg7 hl7
      refine EL.store rfl rfl q7 sz_47 rfl rfl rfl rfl ?_
      intro w8 hq8 hg8
      replace q1 := q1.grown hg8 (fun h => n1_7 (Option.some.inj h))
      replace q2 := q2.grown hg8 (fun h => n2_7 (Option.some.inj h))
      replace q3 := q3.grown hg8 (fun h => n3_7 (Option.some.inj h))
      replace hbw := below_store hbw hg8 bhbw_7
      replace hin := below_store hin hg8 bhin_7
      replace q7 := hq8
      clear hg8 hq8
      refine EL.nil ?_
      refine EX.seq ?_
      refine EC.seq ?_
      refine EC.region ?_
      refine EL.val (ld_47 rfl (q7.at (j := 0) rfl) (q7.at (j := 1) rfl)) rfl ?_
      refine EL.call (cl_25 rfl) rfl (check_any rv _ _ vs1 _ _ (hcp.below hin) hin.size (by omega) (by omega) f3) ?_
      rintro e w9 ⟨rfl, hc9⟩
      refine ⟨_, rfl, ?_⟩
      replace q1 := q1.below hc9 q1.lt
      replace q2 := q2.below hc9 q2.lt
      replace q3 := q3.below hc9 q3.lt
      replace q7 := q7.below hc9 q7.lt
      replace hbw := Below.on hbw hc9 hbw.size
      replace hin := Below.on hin hc9 hin.size
      clear hc9
      refine EL.val (x_assign rfl) rfl ?_
      refine EL.nil ?_
      refine EX.seq ?_
      refine EC.seq ?_
      refine EC.seq ?_
      refine EC.region ?_
      refine EL.val (x_move rfl) rfl ?_
      refine EL.val (x_neq rfl rfl (by first | assumption | exact decide_eq_true (by omega))) rfl ?_
      refine EL.val (x_move rfl) rfl ?_
      refine EL.valg rfl rfl (x_move rfl) rfl ?_
      refine EL.valg rfl rfl (x_neq rfl rfl (by first | assumption | exact decide_eq_false (by omega))) rfl ?_
      refine EL.val (x_pick_t rfl rfl) rfl ?_
      refine EL.val (x_move rfl) rfl ?_
      refine EL.valg rfl rfl (x_move rfl) rfl ?_
      refine EL.valg rfl rfl (x_eql rfl rfl (by first | assumption | exact decide_eq_false (by omega))) rfl ?_
      refine EL.valg rfl rfl (ld_47 rfl (q1.at (j := 0) rfl) (q1.at (j := 1) rfl)) rfl ?_
      refine EL.callg rfl rfl (cl_26 rfl) rfl (by have key := rriver_any rv _ _ vs _ B (hr.below (hbw.mono hB)) (Nat.le_trans hB hbw.size) (by omega) (by omega) f3; rw [hok] at key; exact key) ?_
      rintro e w10 ⟨rfl, hc10⟩
      refine ⟨_, rfl, ?_⟩
      replace q1 := q1.below hc10 q1.lt
      replace q2 := q2.below hc10 q2.lt
      replace q3 := q3.below hc10 q3.lt
      replace q7 := q7.below hc10 q7.lt
      replace hbw := Below.on hbw hc10 hbw.size
      replace hin := Below.on hin hc10 hin.size
      clear hc10
      refine EL.valg rfl rfl (neq_bool rfl rfl rfl) rfl ?_
      refine EL.val (x_pick_f rfl rfl) rfl ?_
      refine EL.val (x_move rfl) rfl ?_
      refine EL.valg rfl rfl (ld_47 rfl (q7.at (j := 0) rfl) (q7.at (j := 1) rfl)) rfl ?_
      refine EL.valg rfl rfl (ld_47 rfl (q1.at (j := 0) rfl) (q1.at (j := 1) rfl)) rfl ?_
      refine EL.callg rfl rfl (cl_27 rfl rfl) rfl (unchanged_eq rv _ _ _ _ vs1 vs _ _ B (hcp.below hin) (hr.below (hbw.mono hB)) hin.size (Nat.le_trans hB hbw.size) (by omega) (by omega) f3) ?_
      rintro e w11 ⟨rfl, hc11⟩
      refine ⟨_, rfl, ?_⟩
      replace q1 := q1.below hc11 q1.lt
      replace q2 := q2.below hc11 q2.lt
      replace q3 := q3.below hc11 q3.lt
      replace q7 := q7.below hc11 q7.lt
      replace hbw := Below.on hbw hc11 hbw.size
      replace hin := Below.on hin hc11 hin.size
      clear hc11
      refine EL.valg rfl rfl (x_not rfl) rfl ?_
      refine EL.val (x_pick_f rfl rfl) rfl ?_
      refine EL.nil ?_
      refine EX.seq ?_
      refine EC.no rfl ?_
      refine EC.skip ?_
      refine EX.seq ?_
      refine EC.seq ?_
      refine EC.region ?_
      refine EL.val (ld_50 rfl (q2.at (j := 0) rfl) (q2.at (j := 1) rfl) (q2.at (j := 2) rfl) (q2.at (j := 3) rfl) (q2.at (j := 4) rfl) (q2.at (j := 5) rfl) (q2.at (j := 6) rfl) (q2.at (j := 7) rfl) (q2.at (j := 8) rfl)) rfl ?_
      refine EL.newP al_50 rfl ?_
      intro g12 w12 q12 hb12 hg12 hl12
      have n1_12 : g1 ≠ g12 := Nat.ne_of_lt (Nat.lt_of_lt_of_le q1.lt hg12)
      have n2_12 : g2 ≠ g12 := Nat.ne_of_lt (Nat.lt_of_lt_of_le q2.lt hg12)
      have n3_12 : g3 ≠ g12 := Nat.ne_of_lt (Nat.lt_of_lt_of_le q3.lt hg12)
      have n7_12 : g7 ≠ g12 := Nat.ne_of_lt (Nat.lt_of_lt_of_le q7.lt hg12)
      have bhbw_12 := Nat.le_trans hbw.size hg12
      have bhin_12 := Nat.le_trans hin.size hg12
      replace q1 := q1.below hb12 q1.lt
      replace q2 := q2.below hb12 q2.lt
      replace q3 := q3.below hb12 q3.lt
      replace q7 := q7.below hb12 q7.lt
      replace hbw := Below.on hbw hb12 hbw.size
      replace hin := Below.on hin hb12 hin.size
      clear hb12 hg12 hl12
      refine EL.store rfl rfl q12 sz_50 rfl rfl rfl rfl ?_
      intro w13 hq13 hg13
      replace q1 := q1.grown hg13 (fun h => n1_12 (Option.some.inj h))
      replace q2 := q2.grown hg13 (fun h => n2_12 (Option.some.inj h))
      replace q3 := q3.grown hg13 (fun h => n3_12 (Option.some.inj h))
      replace q7 := q7.grown hg13 (fun h => n7_12 (Option.some.inj h))
      replace hbw := below_store hbw hg13 bhbw_12
      replace hin := below_store hin hg13 bhin_12
      replace q12 := hq13
      clear hg13 hq13
      refine EL.nil ?_
      refine EX.seq ?_
      refine EC.seq ?_
      refine EC.region ?_
      have lo_1 := q1.lt
      have lo_2 := q2.lt
      have lo_3 := q3.lt
      have lo_7 := q7.lt
      have lo_12 := q12.lt
      have sz_hbw := hbw.size
      have sz_hin := hin.size
      refine EL.newS bs_48_0 rfl ?_
      intro g14 w14 q14 hb14 hg14 hl14
      have n1_14 : g1 ≠ g14 := Nat.ne_of_lt (Nat.lt_of_lt_of_le q1.lt hg14)
      have n2_14 : g2 ≠ g14 := Nat.ne_of_lt (Nat.lt_of_lt_of_le q2.lt hg14)
      have n3_14 : g3 ≠ g14 := Nat.ne_of_lt (Nat.lt_of_lt_of_le q3.lt hg14)
      have n7_14 : g7 ≠ g14 := Nat.ne_of_lt (Nat.lt_of_lt_of_le q7.lt hg14)
      have n12_14 : g12 ≠ g14 := Nat.ne_of_lt (Nat.lt_of_lt_of_le q12.lt hg14)
      have bhbw_14 := Nat.le_trans hbw.size hg14
      have bhin_14 := Nat.le_trans hin.size hg14
      replace q1 := q1.below hb14 q1.lt
      replace q2 := q2.below hb14 q2.lt
      replace q3 := q3.below hb14 q3.lt
      replace q7 := q7.below hb14 q7.lt
      replace q12 := q12.below hb14 q12.lt
      replace hbw := Below.on hbw hb14 hbw.size
      replace hin := Below.on hin hb14 hin.size
      clear hb14 hl14
      have oin := own_empty (base := w13.heap.size) 2 q14 hg14
      refine EL.val (fa_50_3 rfl) rfl ?_
      refine EL.val (ld_48 rfl (q2.at (j := 4) rfl)) rfl ?_
      refine EL.push row_elem rfl rfl oin (hrx.below (hbw.mono hB)) (rowsC_one _) (by omega) rfl (Nat.le_trans hg14 (Nat.le_of_lt q14.lt)) rfl ?_
      intro vin w15 ho hgr15 hb15 _
      replace q1 := q1.below hb15 lo_1
      replace q2 := q2.below hb15 lo_2
      replace q3 := q3.below hb15 lo_3
      replace q7 := q7.below hb15 lo_7
      replace q12 := q12.below hb15 lo_12
      replace hbw := hbw.trans (hb15.mono sz_hbw)
      replace hin := hin.trans (hb15.mono sz_hin)
      rw [Nat.zero_add, List.nil_append] at ho
      obtain ⟨Ai, ci, ei, _⟩ := (Rd.of_own ho).shape
      subst ei
      refine EL.val (fa_50_3 rfl) rfl ?_
      refine EL.store rfl rfl q12 sz_48 rfl rfl rfl rfl ?_
      intro w16 hq16 hg16
      replace q1 := q1.grown hg16 (fun h => n1_12 (Option.some.inj h))
      replace q2 := q2.grown hg16 (fun h => n2_12 (Option.some.inj h))
      replace q3 := q3.grown hg16 (fun h => n3_12 (Option.some.inj h))
      replace q7 := q7.grown hg16 (fun h => n7_12 (Option.some.inj h))
      replace ho := own_far ho hg16 lo_12
      replace hbw := below_store hbw hg16 bhbw_12
      replace hin := below_store hin hg16 bhin_12
      replace q12 := hq16
      clear hg16 hq16
      refine EL.nil ?_
      refine EX.seq ?_
      refine EC.seq ?_
      refine EC.region ?_
      refine EL.val (ld_50 rfl (q12.at (j := 0) rfl) (q12.at (j := 1) rfl) (q12.at (j := 2) rfl) (q12.at (j := 3) rfl) (q12.at (j := 4) rfl) (q12.at (j := 5) rfl) (q12.at (j := 6) rfl) (q12.at (j := 7) rfl) (q12.at (j := 8) rfl)) rfl ?_
      refine EL.val (ld_23 rfl (q3.at (j := 0) rfl) (q3.at (j := 1) rfl)) rfl ?_
      refine EL.call (cl_28 rfl rfl) rfl (lev_bad x _ fl _ _ (Rd.of_own ho) (Nat.le_refl _) (by omega) hx) ?_
      rintro e w17 ⟨rfl, hc17⟩
      refine ⟨_, rfl, ?_⟩
      replace q1 := q1.below hc17 q1.lt
      replace q2 := q2.below hc17 q2.lt
      replace q3 := q3.below hc17 q3.lt
      replace q7 := q7.below hc17 q7.lt
      replace q12 := q12.below hc17 q12.lt
      replace hbw := Below.on hbw hc17 hbw.size
      replace hin := Below.on hin hc17 hin.size
      clear hc17
      refine EL.val (x_move rfl) rfl ?_
      refine EL.val (x_extract rfl rfl) rfl ?_
      refine EL.val (x_extract rfl rfl) rfl ?_
      refine EL.newP al_23 rfl ?_
      intro g18 w18 q18 hb18 hg18 hl18
      have n1_18 : g1 ≠ g18 := Nat.ne_of_lt (Nat.lt_of_lt_of_le q1.lt hg18)
      have n2_18 : g2 ≠ g18 := Nat.ne_of_lt (Nat.lt_of_lt_of_le q2.lt hg18)
      have n3_18 : g3 ≠ g18 := Nat.ne_of_lt (Nat.lt_of_lt_of_le q3.lt hg18)
      have n7_18 : g7 ≠ g18 := Nat.ne_of_lt (Nat.lt_of_lt_of_le q7.lt hg18)
      have n12_18 : g12 ≠ g18 := Nat.ne_of_lt (Nat.lt_of_lt_of_le q12.lt hg18)
      have bhbw_18 := Nat.le_trans hbw.size hg18
      have bhin_18 := Nat.le_trans hin.size hg18
      replace q1 := q1.below hb18 q1.lt
      replace q2 := q2.below hb18 q2.lt
      replace q3 := q3.below hb18 q3.lt
      replace q7 := q7.below hb18 q7.lt
      replace q12 := q12.below hb18 q12.lt
      replace hbw := Below.on hbw hb18 hbw.size
      replace hin := Below.on hin hb18 hin.size
      clear hb18 hg18 hl18
      refine EL.store rfl rfl q18 sz_23 rfl rfl rfl rfl ?_
      intro w19 hq19 hg19
      replace q1 := q1.grown hg19 (fun h => n1_18 (Option.some.inj h))
      replace q2 := q2.grown hg19 (fun h => n2_18 (Option.some.inj h))
      replace q3 := q3.grown hg19 (fun h => n3_18 (Option.some.inj h))
      replace q7 := q7.grown hg19 (fun h => n7_18 (Option.some.inj h))
      replace q12 := q12.grown hg19 (fun h => n12_18 (Option.some.inj h))
      replace hbw := below_store hbw hg19 bhbw_18
      replace hin := below_store hin hg19 bhin_18
      replace q18 := hq19
      clear hg19 hq19
      refine EL.val (x_assign rfl) rfl ?_
      refine EL.nil ?_
      refine EX.seq ?_
      refine EC.seq ?_
      refine EC.block ?_
      refine EC.seq ?_
      refine EC.region ?_
      refine EL.val (ld_50 rfl (q2.at (j := 0) rfl) (q2.at (j := 1) rfl) (q2.at (j := 2) rfl) (q2.at (j := 3) rfl) (q2.at (j := 4) rfl) (q2.at (j := 5) rfl) (q2.at (j := 6) rfl) (q2.at (j := 7) rfl) (q2.at (j := 8) rfl)) rfl ?_
      refine EL.call (cl_29 rfl) rfl (by have key := rreach_any x _ _ B (hrx.below (hbw.mono hB)) (Nat.le_trans hB hbw.size) (by omega); rw [hx] at key; exact key) ?_
      rintro e w20 ⟨rfl, hc20⟩
      refine ⟨_, rfl, ?_⟩
      replace q1 := q1.below hc20 q1.lt
      replace q2 := q2.below hc20 q2.lt
      replace q3 := q3.below hc20 q3.lt
      replace q7 := q7.below hc20 q7.lt
      replace q12 := q12.below hc20 q12.lt
      replace q18 := q18.below hc20 q18.lt
      replace hbw := Below.on hbw hc20 hbw.size
      replace hin := Below.on hin hc20 hin.size
      clear hc20
      refine EL.val (x_not rfl) rfl ?_
      refine EL.val (x_assign rfl) rfl ?_
      refine EL.nil ?_
      refine EX.seq ?_
      refine EC.yes rfl ?_
      refine EC.seq ?_
      refine EC.region ?_
      refine EL.val (x_move rfl) rfl ?_
      refine EL.val (x_eql rfl rfl (by first | assumption | exact decide_eq_true (by omega))) rfl ?_
      refine EL.val (x_move rfl) rfl ?_
      refine EL.valg rfl rfl (ld_23 rfl (q18.at (j := 0) rfl) (q18.at (j := 1) rfl)) rfl ?_
      refine EL.valg rfl rfl (bd_23_) rfl ?_
      refine EL.valg rfl rfl (eql_23 (r := true) rfl rfl (by simp)) rfl ?_
      refine EL.val (x_pick_t rfl rfl) rfl ?_
      refine EL.val (x_move rfl) rfl ?_
      refine EL.callg rfl rfl cl_16 rfl (known_any _) ?_
      rintro e w21 ⟨rfl, hc21⟩
      refine ⟨_, rfl, ?_⟩
      replace q1 := q1.below hc21 q1.lt
      replace q2 := q2.below hc21 q2.lt
      replace q3 := q3.below hc21 q3.lt
      replace q7 := q7.below hc21 q7.lt
      replace q12 := q12.below hc21 q12.lt
      replace q18 := q18.below hc21 q18.lt
      replace hbw := Below.on hbw hc21 hbw.size
      replace hin := Below.on hin hc21 hin.size
      clear hc21
      refine EL.val (x_pick_t rfl rfl) rfl ?_
      refine EL.val (x_assign rfl) rfl ?_
      refine EL.nil ?_
      refine EX.seq ?_
      refine EC.ret ?_
      refine EX.blk_ret ?_
      refine EX.seq_ret ?_
      exact EX.done (res1 rfl rfl) ⟨rfl, hbw⟩

set_option maxRecDepth 100000 in
theorem checksL_f_far (rv : River) (x : Reach) (fl : Bd) (v u vx : Value) (vs : List Value) (w : World) (B : Nat) (hr : RdRiver w B v u rv vs) (hrx : Rd w B 2 vx x.curve.length (rowsC x.curve)) (hB : B ≤ w.heap.size) (hok : riverB rv = false) (hx : reachB x = true) (hf : bdOk 0 210000000000 fl = false) :
    Calls Try.prog 5 #[.agg #[v, u], .agg (reachV x vx), .agg #[.int .i64 fl.lo, .int .i64 fl.hi]] w fun e w' => e = .returned (.bool true) ∧ Below w.heap.size w w' := by
  obtain ⟨A, c, rfl, _⟩ := hr.reaches.shape
  obtain ⟨A', c', rfl, _⟩ := hr.shoals.shape
  obtain ⟨Ax, cx, rfl, _⟩ := hrx.shape
  have hbw := Below.refl w.heap.size w
  refine EC.enter 96 Try.func5 rfl rfl rfl ?_
  refine EC.seq ?_
  refine EC.region ?_
  refine EL.newP (bx_47 rfl) rfl ?_
  intro g1 w1 q1 hb1 hg1 hl1
  have bhbw_1 := Nat.le_trans hbw.size hg1
  replace hbw := Below.on hbw hb1 hbw.size
  clear hb1 hg1 hl1
  refine EL.newP (bx_50 rfl) rfl ?_
  intro g2 w2 q2 hb2 hg2 hl2
  have n1_2 : g1 ≠ g2 := Nat.ne_of_lt (Nat.lt_of_lt_of_le q1.lt hg2)
  have bhbw_2 := Nat.le_trans hbw.size hg2
  replace q1 := q1.below hb2 q1.lt
  replace hbw := Below.on hbw hb2 hbw.size
  clear hb2 hg2 hl2
  refine EL.newP (bx_23 rfl) rfl ?_
  intro g3 w3 q3 hb3 hg3 hl3
  have n1_3 : g1 ≠ g3 := Nat.ne_of_lt (Nat.lt_of_lt_of_le q1.lt hg3)
  have n2_3 : g2 ≠ g3 := Nat.ne_of_lt (Nat.lt_of_lt_of_le q2.lt hg3)
  have bhbw_3 := Nat.le_trans hbw.size hg3
  replace q1 := q1.below hb3 q1.lt
  replace q2 := q2.below hb3 q2.lt
  replace hbw := Below.on hbw hb3 hbw.size
  clear hb3 hg3 hl3
  refine EL.val (x_assign rfl) rfl ?_
  refine EL.nil ?_
  refine EX.seq ?_
  refine EC.seq ?_
  refine EC.seq ?_
  refine EC.region ?_
  refine EL.val (ld_47 rfl (q1.at (j := 0) rfl) (q1.at (j := 1) rfl)) rfl ?_
  refine EL.val (bd_54_0 rfl) rfl ?_
  refine EL.call (cl_23 rfl) rfl (large_any rv [] _ _ (.slice none 0 0) vs [] _ _ ((hr.below (hbw.mono hB)).more (Nat.le_trans hB hbw.size)) (rd_nosides _) (Nat.le_refl _)) ?_
  rintro e w_l ⟨rfl | ⟨rfl, hfine⟩, hc_⟩
  ·
    refine ⟨_, rfl, ?_⟩
    replace q1 := q1.below hc_ q1.lt
    replace q2 := q2.below hc_ q2.lt
    replace q3 := q3.below hc_ q3.lt
    replace hbw := Below.on hbw hc_ hbw.size
    clear hc_
    refine EL.val (x_move rfl) rfl ?_
    refine EL.skip rfl rfl rfl rfl ?_
    refine EL.skip rfl rfl rfl rfl ?_
    refine EL.skip rfl rfl rfl rfl ?_
    refine EL.skip rfl rfl rfl rfl ?_
    refine EL.val (x_pick_t rfl rfl) rfl ?_
    refine EL.nil ?_
    refine EX.seq ?_
    refine EC.yes rfl ?_
    refine EC.seq ?_
    refine EC.region ?_
    refine EL.call cl_16 rfl (known_any _) ?_
    rintro e w4 ⟨rfl, hc4⟩
    refine ⟨_, rfl, ?_⟩
    replace q1 := q1.below hc4 q1.lt
    replace q2 := q2.below hc4 q2.lt
    replace q3 := q3.below hc4 q3.lt
    replace hbw := Below.on hbw hc4 hbw.size
    clear hc4
    refine EL.val (x_assign rfl) rfl ?_
    refine EL.nil ?_
    refine EX.seq ?_
    refine EC.ret ?_
    refine EX.seq_ret ?_
    exact EX.done (res1 rfl rfl) ⟨rfl, hbw⟩
  ·
    by_cases h40 : 40 < x.curve.length
    ·
      refine ⟨_, rfl, ?_⟩
      replace q1 := q1.below hc_ q1.lt
      replace q2 := q2.below hc_ q2.lt
      replace q3 := q3.below hc_ q3.lt
      replace hbw := Below.on hbw hc_ hbw.size
      clear hc_
      refine EL.val (x_move rfl) rfl ?_
      refine EL.valg rfl rfl (fa_50_3 rfl) rfl ?_
      refine EL.valg rfl rfl (ld_48 rfl (q2.at (j := 4) rfl)) rfl ?_
      refine EL.valg rfl rfl (ln_48 rfl) rfl ?_
      refine EL.valg rfl rfl (x_gtr rfl rfl (by first | assumption | exact decide_eq_true (by omega))) rfl ?_
      refine EL.val (x_pick_f rfl rfl) rfl ?_
      refine EL.nil ?_
      refine EX.seq ?_
      refine EC.yes rfl ?_
      refine EC.seq ?_
      refine EC.region ?_
      refine EL.call cl_16 rfl (known_any _) ?_
      rintro e w5 ⟨rfl, hc5⟩
      refine ⟨_, rfl, ?_⟩
      replace q1 := q1.below hc5 q1.lt
      replace q2 := q2.below hc5 q2.lt
      replace q3 := q3.below hc5 q3.lt
      replace hbw := Below.on hbw hc5 hbw.size
      clear hc5
      refine EL.val (x_assign rfl) rfl ?_
      refine EL.nil ?_
      refine EX.seq ?_
      refine EC.ret ?_
      refine EX.seq_ret ?_
      exact EX.done (res1 rfl rfl) ⟨rfl, hbw⟩
    ·
      have f1 := hfine.nreaches
      have f2 := hfine.nshoals
      have f3 : CurvesB rv.reaches := fun i hi => Nat.le_trans (hfine.curve i hi) (by decide)
      have hd1 : decide (errB (riverB rv) ≠ 0) = true := by rw [hok]; rfl
      have hd2 : decide (errB (riverB rv) ≠ 2) = false := by rw [hok]; rfl
      have hd3 : decide (errB (riverB rv) = 0) = false := by rw [hok]; rfl
      refine ⟨_, rfl, ?_⟩
      replace q1 := q1.below hc_ q1.lt
      replace q2 := q2.below hc_ q2.lt
      replace q3 := q3.below hc_ q3.lt
      replace hbw := Below.on hbw hc_ hbw.size
      clear hc_
      refine EL.val (x_move rfl) rfl ?_
      refine EL.valg rfl rfl (fa_50_3 rfl) rfl ?_
      refine EL.valg rfl rfl (ld_48 rfl (q2.at (j := 4) rfl)) rfl ?_
      refine EL.valg rfl rfl (ln_48 rfl) rfl ?_
      refine EL.valg rfl rfl (x_gtr rfl rfl (by first | assumption | exact decide_eq_false (by omega))) rfl ?_
      refine EL.val (x_pick_f rfl rfl) rfl ?_
      refine EL.nil ?_
      refine EX.seq ?_
      refine EC.no rfl ?_
      refine EC.skip ?_
      refine EX.seq ?_
      refine EC.seq ?_
      refine EC.region ?_
      refine EL.val (ld_47 rfl (q1.at (j := 0) rfl) (q1.at (j := 1) rfl)) rfl ?_
      refine EL.call (cl_24 rfl) rfl (copied_any rv _ _ vs _ B (hr.below (hbw.mono hB)) (Nat.le_trans hB hbw.size) (by omega) (by omega) f3) ?_
      rintro e w6 ⟨⟨v1, u1, vs1, rfl, hcp⟩, hc6⟩
      refine ⟨_, rfl, ?_⟩
      replace q1 := q1.below hc6 q1.lt
      replace q2 := q2.below hc6 q2.lt
      replace q3 := q3.below hc6 q3.lt
      replace hbw := Below.on hbw hc6 hbw.size
      clear hc6
      have hin := Below.refl w6.heap.size w6
      obtain ⟨Ac, cc1, rfl, _⟩ := hcp.reaches.shape
      obtain ⟨Ac', cc2, rfl, _⟩ := hcp.shoals.shape
      refine EL.newP al_47 rfl ?_
      intro g7 w7 q7 hb7 hg7 hl7
      have n1_7 : g1 ≠ g7 := Nat.ne_of_lt (Nat.lt_of_lt_of_le q1.lt hg7)
      have n2_7 : g2 ≠ g7 := Nat.ne_of_lt (Nat.lt_of_lt_of_le q2.lt hg7)
      have n3_7 : g3 ≠ g7 := Nat.ne_of_lt (Nat.lt_of_lt_of_le q3.lt hg7)
      have bhbw_7 := Nat.le_trans hbw.size hg7
      have bhin_7 := Nat.le_trans hin.size hg7
      replace q1 := q1.below hb7 q1.lt
      replace q2 := q2.below hb7 q2.lt
      replace q3 := q3.below hb7 q3.lt
      replace hbw := Below.on hbw hb7 hbw.size
      replace hin := Below.on hin hb7 hin.size
      clear hb7 hg7 hl7
      refine EL.store rfl rfl q7 sz_47 rfl rfl rfl rfl ?_
      intro w8 hq8 hg8
      replace q1 := q1.grown hg8 (fun h => n1_7 (Option.some.inj h))
      replace q2 := q2.grown hg8 (fun h => n2_7 (Option.some.inj h))
      replace q3 := q3.grown hg8 (fun h => n3_7 (Option.some.inj h))
      replace hbw := below_store hbw hg8 bhbw_7
      replace hin := below_store hin hg8 bhin_7
      replace q7 := hq8
      clear hg8 hq8
      refine EL.nil ?_
      refine EX.seq ?_
      refine EC.seq ?_
      refine EC.region ?_
      refine EL.val (ld_47 rfl (q7.at (j := 0) rfl) (q7.at (j := 1) rfl)) rfl ?_
      refine EL.call (cl_25 rfl) rfl (check_any rv _ _ vs1 _ _ (hcp.below hin) hin.size (by omega) (by omega) f3) ?_
      rintro e w9 ⟨rfl, hc9⟩
      refine ⟨_, rfl, ?_⟩
      replace q1 := q1.below hc9 q1.lt
      replace q2 := q2.below hc9 q2.lt
      replace q3 := q3.below hc9 q3.lt
      replace q7 := q7.below hc9 q7.lt
      replace hbw := Below.on hbw hc9 hbw.size
      replace hin := Below.on hin hc9 hin.size
      clear hc9
      refine EL.val (x_assign rfl) rfl ?_
      refine EL.nil ?_
      refine EX.seq ?_
      refine EC.seq ?_
      refine EC.seq ?_
      refine EC.region ?_
      refine EL.val (x_move rfl) rfl ?_
      refine EL.val (x_neq rfl rfl (by first | assumption | exact decide_eq_true (by omega))) rfl ?_
      refine EL.val (x_move rfl) rfl ?_
      refine EL.valg rfl rfl (x_move rfl) rfl ?_
      refine EL.valg rfl rfl (x_neq rfl rfl (by first | assumption | exact decide_eq_false (by omega))) rfl ?_
      refine EL.val (x_pick_t rfl rfl) rfl ?_
      refine EL.val (x_move rfl) rfl ?_
      refine EL.valg rfl rfl (x_move rfl) rfl ?_
      refine EL.valg rfl rfl (x_eql rfl rfl (by first | assumption | exact decide_eq_false (by omega))) rfl ?_
      refine EL.valg rfl rfl (ld_47 rfl (q1.at (j := 0) rfl) (q1.at (j := 1) rfl)) rfl ?_
      refine EL.callg rfl rfl (cl_26 rfl) rfl (by have key := rriver_any rv _ _ vs _ B (hr.below (hbw.mono hB)) (Nat.le_trans hB hbw.size) (by omega) (by omega) f3; rw [hok] at key; exact key) ?_
      rintro e w10 ⟨rfl, hc10⟩
      refine ⟨_, rfl, ?_⟩
      replace q1 := q1.below hc10 q1.lt
      replace q2 := q2.below hc10 q2.lt
      replace q3 := q3.below hc10 q3.lt
      replace q7 := q7.below hc10 q7.lt
      replace hbw := Below.on hbw hc10 hbw.size
      replace hin := Below.on hin hc10 hin.size
      clear hc10
      refine EL.valg rfl rfl (neq_bool rfl rfl rfl) rfl ?_
      refine EL.val (x_pick_f rfl rfl) rfl ?_
      refine EL.val (x_move rfl) rfl ?_
      refine EL.valg rfl rfl (ld_47 rfl (q7.at (j := 0) rfl) (q7.at (j := 1) rfl)) rfl ?_
      refine EL.valg rfl rfl (ld_47 rfl (q1.at (j := 0) rfl) (q1.at (j := 1) rfl)) rfl ?_
      refine EL.callg rfl rfl (cl_27 rfl rfl) rfl (unchanged_eq rv _ _ _ _ vs1 vs _ _ B (hcp.below hin) (hr.below (hbw.mono hB)) hin.size (Nat.le_trans hB hbw.size) (by omega) (by omega) f3) ?_
      rintro e w11 ⟨rfl, hc11⟩
      refine ⟨_, rfl, ?_⟩
      replace q1 := q1.below hc11 q1.lt
      replace q2 := q2.below hc11 q2.lt
      replace q3 := q3.below hc11 q3.lt
      replace q7 := q7.below hc11 q7.lt
      replace hbw := Below.on hbw hc11 hbw.size
      replace hin := Below.on hin hc11 hin.size
      clear hc11
      refine EL.valg rfl rfl (x_not rfl) rfl ?_
      refine EL.val (x_pick_f rfl rfl) rfl ?_
      refine EL.nil ?_
      refine EX.seq ?_
      refine EC.no rfl ?_
      refine EC.skip ?_
      refine EX.seq ?_
      refine EC.seq ?_
      refine EC.region ?_
      refine EL.val (ld_50 rfl (q2.at (j := 0) rfl) (q2.at (j := 1) rfl) (q2.at (j := 2) rfl) (q2.at (j := 3) rfl) (q2.at (j := 4) rfl) (q2.at (j := 5) rfl) (q2.at (j := 6) rfl) (q2.at (j := 7) rfl) (q2.at (j := 8) rfl)) rfl ?_
      refine EL.newP al_50 rfl ?_
      intro g12 w12 q12 hb12 hg12 hl12
      have n1_12 : g1 ≠ g12 := Nat.ne_of_lt (Nat.lt_of_lt_of_le q1.lt hg12)
      have n2_12 : g2 ≠ g12 := Nat.ne_of_lt (Nat.lt_of_lt_of_le q2.lt hg12)
      have n3_12 : g3 ≠ g12 := Nat.ne_of_lt (Nat.lt_of_lt_of_le q3.lt hg12)
      have n7_12 : g7 ≠ g12 := Nat.ne_of_lt (Nat.lt_of_lt_of_le q7.lt hg12)
      have bhbw_12 := Nat.le_trans hbw.size hg12
      have bhin_12 := Nat.le_trans hin.size hg12
      replace q1 := q1.below hb12 q1.lt
      replace q2 := q2.below hb12 q2.lt
      replace q3 := q3.below hb12 q3.lt
      replace q7 := q7.below hb12 q7.lt
      replace hbw := Below.on hbw hb12 hbw.size
      replace hin := Below.on hin hb12 hin.size
      clear hb12 hg12 hl12
      refine EL.store rfl rfl q12 sz_50 rfl rfl rfl rfl ?_
      intro w13 hq13 hg13
      replace q1 := q1.grown hg13 (fun h => n1_12 (Option.some.inj h))
      replace q2 := q2.grown hg13 (fun h => n2_12 (Option.some.inj h))
      replace q3 := q3.grown hg13 (fun h => n3_12 (Option.some.inj h))
      replace q7 := q7.grown hg13 (fun h => n7_12 (Option.some.inj h))
      replace hbw := below_store hbw hg13 bhbw_12
      replace hin := below_store hin hg13 bhin_12
      replace q12 := hq13
      clear hg13 hq13
      refine EL.nil ?_
      refine EX.seq ?_
      refine EC.seq ?_
      refine EC.region ?_
      have lo_1 := q1.lt
      have lo_2 := q2.lt
      have lo_3 := q3.lt
      have lo_7 := q7.lt
      have lo_12 := q12.lt
      have sz_hbw := hbw.size
      have sz_hin := hin.size
      refine EL.newS bs_48_0 rfl ?_
      intro g14 w14 q14 hb14 hg14 hl14
      have n1_14 : g1 ≠ g14 := Nat.ne_of_lt (Nat.lt_of_lt_of_le q1.lt hg14)
      have n2_14 : g2 ≠ g14 := Nat.ne_of_lt (Nat.lt_of_lt_of_le q2.lt hg14)
      have n3_14 : g3 ≠ g14 := Nat.ne_of_lt (Nat.lt_of_lt_of_le q3.lt hg14)
      have n7_14 : g7 ≠ g14 := Nat.ne_of_lt (Nat.lt_of_lt_of_le q7.lt hg14)
      have n12_14 : g12 ≠ g14 := Nat.ne_of_lt (Nat.lt_of_lt_of_le q12.lt hg14)
      have bhbw_14 := Nat.le_trans hbw.size hg14
      have bhin_14 := Nat.le_trans hin.size hg14
      replace q1 := q1.below hb14 q1.lt
      replace q2 := q2.below hb14 q2.lt
      replace q3 := q3.below hb14 q3.lt
      replace q7 := q7.below hb14 q7.lt
      replace q12 := q12.below hb14 q12.lt
      replace hbw := Below.on hbw hb14 hbw.size
      replace hin := Below.on hin hb14 hin.size
      clear hb14 hl14
      have oin := own_empty (base := w13.heap.size) 2 q14 hg14
      refine EL.val (fa_50_3 rfl) rfl ?_
      refine EL.val (ld_48 rfl (q2.at (j := 4) rfl)) rfl ?_
      refine EL.push row_elem rfl rfl oin (hrx.below (hbw.mono hB)) (rowsC_one _) (by omega) rfl (Nat.le_trans hg14 (Nat.le_of_lt q14.lt)) rfl ?_
      intro vin w15 ho hgr15 hb15 _
      replace q1 := q1.below hb15 lo_1
      replace q2 := q2.below hb15 lo_2
      replace q3 := q3.below hb15 lo_3
      replace q7 := q7.below hb15 lo_7
      replace q12 := q12.below hb15 lo_12
      replace hbw := hbw.trans (hb15.mono sz_hbw)
      replace hin := hin.trans (hb15.mono sz_hin)
      rw [Nat.zero_add, List.nil_append] at ho
      obtain ⟨Ai, ci, ei, _⟩ := (Rd.of_own ho).shape
      subst ei
      refine EL.val (fa_50_3 rfl) rfl ?_
      refine EL.store rfl rfl q12 sz_48 rfl rfl rfl rfl ?_
      intro w16 hq16 hg16
      replace q1 := q1.grown hg16 (fun h => n1_12 (Option.some.inj h))
      replace q2 := q2.grown hg16 (fun h => n2_12 (Option.some.inj h))
      replace q3 := q3.grown hg16 (fun h => n3_12 (Option.some.inj h))
      replace q7 := q7.grown hg16 (fun h => n7_12 (Option.some.inj h))
      replace ho := own_far ho hg16 lo_12
      replace hbw := below_store hbw hg16 bhbw_12
      replace hin := below_store hin hg16 bhin_12
      replace q12 := hq16
      clear hg16 hq16
      refine EL.nil ?_
      refine EX.seq ?_
      refine EC.seq ?_
      refine EC.region ?_
      refine EL.val (ld_50 rfl (q12.at (j := 0) rfl) (q12.at (j := 1) rfl) (q12.at (j := 2) rfl) (q12.at (j := 3) rfl) (q12.at (j := 4) rfl) (q12.at (j := 5) rfl) (q12.at (j := 6) rfl) (q12.at (j := 7) rfl) (q12.at (j := 8) rfl)) rfl ?_
      refine EL.val (ld_23 rfl (q3.at (j := 0) rfl) (q3.at (j := 1) rfl)) rfl ?_
      refine EL.call (cl_28 rfl rfl) rfl (lev_far x _ fl _ _ (Rd.of_own ho) (Nat.le_refl _) (by omega) hx hf) ?_
      rintro e w17 ⟨rfl, hc17⟩
      refine ⟨_, rfl, ?_⟩
      replace q1 := q1.below hc17 q1.lt
      replace q2 := q2.below hc17 q2.lt
      replace q3 := q3.below hc17 q3.lt
      replace q7 := q7.below hc17 q7.lt
      replace q12 := q12.below hc17 q12.lt
      replace hbw := Below.on hbw hc17 hbw.size
      replace hin := Below.on hin hc17 hin.size
      clear hc17
      refine EL.val (x_move rfl) rfl ?_
      refine EL.val (x_extract rfl rfl) rfl ?_
      refine EL.val (x_extract rfl rfl) rfl ?_
      refine EL.newP al_23 rfl ?_
      intro g18 w18 q18 hb18 hg18 hl18
      have n1_18 : g1 ≠ g18 := Nat.ne_of_lt (Nat.lt_of_lt_of_le q1.lt hg18)
      have n2_18 : g2 ≠ g18 := Nat.ne_of_lt (Nat.lt_of_lt_of_le q2.lt hg18)
      have n3_18 : g3 ≠ g18 := Nat.ne_of_lt (Nat.lt_of_lt_of_le q3.lt hg18)
      have n7_18 : g7 ≠ g18 := Nat.ne_of_lt (Nat.lt_of_lt_of_le q7.lt hg18)
      have n12_18 : g12 ≠ g18 := Nat.ne_of_lt (Nat.lt_of_lt_of_le q12.lt hg18)
      have bhbw_18 := Nat.le_trans hbw.size hg18
      have bhin_18 := Nat.le_trans hin.size hg18
      replace q1 := q1.below hb18 q1.lt
      replace q2 := q2.below hb18 q2.lt
      replace q3 := q3.below hb18 q3.lt
      replace q7 := q7.below hb18 q7.lt
      replace q12 := q12.below hb18 q12.lt
      replace hbw := Below.on hbw hb18 hbw.size
      replace hin := Below.on hin hb18 hin.size
      clear hb18 hg18 hl18
      refine EL.store rfl rfl q18 sz_23 rfl rfl rfl rfl ?_
      intro w19 hq19 hg19
      replace q1 := q1.grown hg19 (fun h => n1_18 (Option.some.inj h))
      replace q2 := q2.grown hg19 (fun h => n2_18 (Option.some.inj h))
      replace q3 := q3.grown hg19 (fun h => n3_18 (Option.some.inj h))
      replace q7 := q7.grown hg19 (fun h => n7_18 (Option.some.inj h))
      replace q12 := q12.grown hg19 (fun h => n12_18 (Option.some.inj h))
      replace hbw := below_store hbw hg19 bhbw_18
      replace hin := below_store hin hg19 bhin_18
      replace q18 := hq19
      clear hg19 hq19
      refine EL.val (x_assign rfl) rfl ?_
      refine EL.nil ?_
      refine EX.seq ?_
      refine EC.seq ?_
      refine EC.block ?_
      refine EC.seq ?_
      refine EC.region ?_
      refine EL.val (ld_50 rfl (q2.at (j := 0) rfl) (q2.at (j := 1) rfl) (q2.at (j := 2) rfl) (q2.at (j := 3) rfl) (q2.at (j := 4) rfl) (q2.at (j := 5) rfl) (q2.at (j := 6) rfl) (q2.at (j := 7) rfl) (q2.at (j := 8) rfl)) rfl ?_
      refine EL.call (cl_29 rfl) rfl (by have key := rreach_any x _ _ B (hrx.below (hbw.mono hB)) (Nat.le_trans hB hbw.size) (by omega); rw [hx] at key; exact key) ?_
      rintro e w20 ⟨rfl, hc20⟩
      refine ⟨_, rfl, ?_⟩
      replace q1 := q1.below hc20 q1.lt
      replace q2 := q2.below hc20 q2.lt
      replace q3 := q3.below hc20 q3.lt
      replace q7 := q7.below hc20 q7.lt
      replace q12 := q12.below hc20 q12.lt
      replace q18 := q18.below hc20 q18.lt
      replace hbw := Below.on hbw hc20 hbw.size
      replace hin := Below.on hin hc20 hin.size
      clear hc20
      refine EL.val (x_not rfl) rfl ?_
      refine EL.val (x_assign rfl) rfl ?_
      refine EL.nil ?_
      refine EX.seq ?_
      refine EC.no rfl ?_
      refine EC.seq ?_
      refine EC.region ?_
      refine EL.val (ld_23 rfl (q3.at (j := 0) rfl) (q3.at (j := 1) rfl)) rfl ?_
      refine EL.call (cl_30 rfl rfl rfl) rfl (by have key := rvalid_any fl 0 210000000000 w20; rw [hf] at key; exact key) ?_
      rintro e w21 ⟨rfl, hc21⟩
      refine ⟨_, rfl, ?_⟩
      replace q1 := q1.below hc21 q1.lt
      replace q2 := q2.below hc21 q2.lt
      replace q3 := q3.below hc21 q3.lt
      replace q7 := q7.below hc21 q7.lt
      replace q12 := q12.below hc21 q12.lt
      replace q18 := q18.below hc21 q18.lt
      replace hbw := Below.on hbw hc21 hbw.size
      replace hin := Below.on hin hc21 hin.size
      clear hc21
      refine EL.val (x_not rfl) rfl ?_
      refine EL.val (x_assign rfl) rfl ?_
      refine EL.nil ?_
      refine EX.seq ?_
      refine EC.yes rfl ?_
      refine EC.seq ?_
      refine EC.region ?_
      refine EL.val (x_move rfl) rfl ?_
      refine EL.val (x_eql rfl rfl (by first | assumption | exact decide_eq_true (by omega))) rfl ?_
      refine EL.val (x_move rfl) rfl ?_
      refine EL.valg rfl rfl (ld_23 rfl (q18.at (j := 0) rfl) (q18.at (j := 1) rfl)) rfl ?_
      refine EL.valg rfl rfl (bd_23_) rfl ?_
      refine EL.valg rfl rfl (eql_23 (r := true) rfl rfl (by simp)) rfl ?_
      refine EL.val (x_pick_t rfl rfl) rfl ?_
      refine EL.val (x_move rfl) rfl ?_
      refine EL.callg rfl rfl cl_16 rfl (known_any _) ?_
      rintro e w22 ⟨rfl, hc22⟩
      refine ⟨_, rfl, ?_⟩
      replace q1 := q1.below hc22 q1.lt
      replace q2 := q2.below hc22 q2.lt
      replace q3 := q3.below hc22 q3.lt
      replace q7 := q7.below hc22 q7.lt
      replace q12 := q12.below hc22 q12.lt
      replace q18 := q18.below hc22 q18.lt
      replace hbw := Below.on hbw hc22 hbw.size
      replace hin := Below.on hin hc22 hin.size
      clear hc22
      refine EL.val (x_pick_t rfl rfl) rfl ?_
      refine EL.val (x_assign rfl) rfl ?_
      refine EL.nil ?_
      refine EX.seq ?_
      refine EC.ret ?_
      refine EX.blk_ret ?_
      refine EX.seq_ret ?_
      exact EX.done (res1 rfl rfl) ⟨rfl, hbw⟩

set_option maxRecDepth 100000 in
theorem checksL_f_ok (rv : River) (x : Reach) (fl : Bd) (v u vx : Value) (vs : List Value) (w : World) (B : Nat) (hr : RdRiver w B v u rv vs) (hrx : Rd w B 2 vx x.curve.length (rowsC x.curve)) (hB : B ≤ w.heap.size) (hok : riverB rv = false) (hx : reachB x = true) (hf : bdOk 0 210000000000 fl = true) :
    Calls Try.prog 5 #[.agg #[v, u], .agg (reachV x vx), .agg #[.int .i64 fl.lo, .int .i64 fl.hi]] w fun e w' => e = .returned (.bool true) ∧ Below w.heap.size w w' := by
  obtain ⟨A, c, rfl, _⟩ := hr.reaches.shape
  obtain ⟨A', c', rfl, _⟩ := hr.shoals.shape
  obtain ⟨Ax, cx, rfl, _⟩ := hrx.shape
  have hbw := Below.refl w.heap.size w
  refine EC.enter 96 Try.func5 rfl rfl rfl ?_
  refine EC.seq ?_
  refine EC.region ?_
  refine EL.newP (bx_47 rfl) rfl ?_
  intro g1 w1 q1 hb1 hg1 hl1
  have bhbw_1 := Nat.le_trans hbw.size hg1
  replace hbw := Below.on hbw hb1 hbw.size
  clear hb1 hg1 hl1
  refine EL.newP (bx_50 rfl) rfl ?_
  intro g2 w2 q2 hb2 hg2 hl2
  have n1_2 : g1 ≠ g2 := Nat.ne_of_lt (Nat.lt_of_lt_of_le q1.lt hg2)
  have bhbw_2 := Nat.le_trans hbw.size hg2
  replace q1 := q1.below hb2 q1.lt
  replace hbw := Below.on hbw hb2 hbw.size
  clear hb2 hg2 hl2
  refine EL.newP (bx_23 rfl) rfl ?_
  intro g3 w3 q3 hb3 hg3 hl3
  have n1_3 : g1 ≠ g3 := Nat.ne_of_lt (Nat.lt_of_lt_of_le q1.lt hg3)
  have n2_3 : g2 ≠ g3 := Nat.ne_of_lt (Nat.lt_of_lt_of_le q2.lt hg3)
  have bhbw_3 := Nat.le_trans hbw.size hg3
  replace q1 := q1.below hb3 q1.lt
  replace q2 := q2.below hb3 q2.lt
  replace hbw := Below.on hbw hb3 hbw.size
  clear hb3 hg3 hl3
  refine EL.val (x_assign rfl) rfl ?_
  refine EL.nil ?_
  refine EX.seq ?_
  refine EC.seq ?_
  refine EC.seq ?_
  refine EC.region ?_
  refine EL.val (ld_47 rfl (q1.at (j := 0) rfl) (q1.at (j := 1) rfl)) rfl ?_
  refine EL.val (bd_54_0 rfl) rfl ?_
  refine EL.call (cl_23 rfl) rfl (large_any rv [] _ _ (.slice none 0 0) vs [] _ _ ((hr.below (hbw.mono hB)).more (Nat.le_trans hB hbw.size)) (rd_nosides _) (Nat.le_refl _)) ?_
  rintro e w_l ⟨rfl | ⟨rfl, hfine⟩, hc_⟩
  ·
    refine ⟨_, rfl, ?_⟩
    replace q1 := q1.below hc_ q1.lt
    replace q2 := q2.below hc_ q2.lt
    replace q3 := q3.below hc_ q3.lt
    replace hbw := Below.on hbw hc_ hbw.size
    clear hc_
    refine EL.val (x_move rfl) rfl ?_
    refine EL.skip rfl rfl rfl rfl ?_
    refine EL.skip rfl rfl rfl rfl ?_
    refine EL.skip rfl rfl rfl rfl ?_
    refine EL.skip rfl rfl rfl rfl ?_
    refine EL.val (x_pick_t rfl rfl) rfl ?_
    refine EL.nil ?_
    refine EX.seq ?_
    refine EC.yes rfl ?_
    refine EC.seq ?_
    refine EC.region ?_
    refine EL.call cl_16 rfl (known_any _) ?_
    rintro e w4 ⟨rfl, hc4⟩
    refine ⟨_, rfl, ?_⟩
    replace q1 := q1.below hc4 q1.lt
    replace q2 := q2.below hc4 q2.lt
    replace q3 := q3.below hc4 q3.lt
    replace hbw := Below.on hbw hc4 hbw.size
    clear hc4
    refine EL.val (x_assign rfl) rfl ?_
    refine EL.nil ?_
    refine EX.seq ?_
    refine EC.ret ?_
    refine EX.seq_ret ?_
    exact EX.done (res1 rfl rfl) ⟨rfl, hbw⟩
  ·
    by_cases h40 : 40 < x.curve.length
    ·
      refine ⟨_, rfl, ?_⟩
      replace q1 := q1.below hc_ q1.lt
      replace q2 := q2.below hc_ q2.lt
      replace q3 := q3.below hc_ q3.lt
      replace hbw := Below.on hbw hc_ hbw.size
      clear hc_
      refine EL.val (x_move rfl) rfl ?_
      refine EL.valg rfl rfl (fa_50_3 rfl) rfl ?_
      refine EL.valg rfl rfl (ld_48 rfl (q2.at (j := 4) rfl)) rfl ?_
      refine EL.valg rfl rfl (ln_48 rfl) rfl ?_
      refine EL.valg rfl rfl (x_gtr rfl rfl (by first | assumption | exact decide_eq_true (by omega))) rfl ?_
      refine EL.val (x_pick_f rfl rfl) rfl ?_
      refine EL.nil ?_
      refine EX.seq ?_
      refine EC.yes rfl ?_
      refine EC.seq ?_
      refine EC.region ?_
      refine EL.call cl_16 rfl (known_any _) ?_
      rintro e w5 ⟨rfl, hc5⟩
      refine ⟨_, rfl, ?_⟩
      replace q1 := q1.below hc5 q1.lt
      replace q2 := q2.below hc5 q2.lt
      replace q3 := q3.below hc5 q3.lt
      replace hbw := Below.on hbw hc5 hbw.size
      clear hc5
      refine EL.val (x_assign rfl) rfl ?_
      refine EL.nil ?_
      refine EX.seq ?_
      refine EC.ret ?_
      refine EX.seq_ret ?_
      exact EX.done (res1 rfl rfl) ⟨rfl, hbw⟩
    ·
      have f1 := hfine.nreaches
      have f2 := hfine.nshoals
      have f3 : CurvesB rv.reaches := fun i hi => Nat.le_trans (hfine.curve i hi) (by decide)
      have hd1 : decide (errB (riverB rv) ≠ 0) = true := by rw [hok]; rfl
      have hd2 : decide (errB (riverB rv) ≠ 2) = false := by rw [hok]; rfl
      have hd3 : decide (errB (riverB rv) = 0) = false := by rw [hok]; rfl
      refine ⟨_, rfl, ?_⟩
      replace q1 := q1.below hc_ q1.lt
      replace q2 := q2.below hc_ q2.lt
      replace q3 := q3.below hc_ q3.lt
      replace hbw := Below.on hbw hc_ hbw.size
      clear hc_
      refine EL.val (x_move rfl) rfl ?_
      refine EL.valg rfl rfl (fa_50_3 rfl) rfl ?_
      refine EL.valg rfl rfl (ld_48 rfl (q2.at (j := 4) rfl)) rfl ?_
      refine EL.valg rfl rfl (ln_48 rfl) rfl ?_
      refine EL.valg rfl rfl (x_gtr rfl rfl (by first | assumption | exact decide_eq_false (by omega))) rfl ?_
      refine EL.val (x_pick_f rfl rfl) rfl ?_
      refine EL.nil ?_
      refine EX.seq ?_
      refine EC.no rfl ?_
      refine EC.skip ?_
      refine EX.seq ?_
      refine EC.seq ?_
      refine EC.region ?_
      refine EL.val (ld_47 rfl (q1.at (j := 0) rfl) (q1.at (j := 1) rfl)) rfl ?_
      refine EL.call (cl_24 rfl) rfl (copied_any rv _ _ vs _ B (hr.below (hbw.mono hB)) (Nat.le_trans hB hbw.size) (by omega) (by omega) f3) ?_
      rintro e w6 ⟨⟨v1, u1, vs1, rfl, hcp⟩, hc6⟩
      refine ⟨_, rfl, ?_⟩
      replace q1 := q1.below hc6 q1.lt
      replace q2 := q2.below hc6 q2.lt
      replace q3 := q3.below hc6 q3.lt
      replace hbw := Below.on hbw hc6 hbw.size
      clear hc6
      have hin := Below.refl w6.heap.size w6
      obtain ⟨Ac, cc1, rfl, _⟩ := hcp.reaches.shape
      obtain ⟨Ac', cc2, rfl, _⟩ := hcp.shoals.shape
      refine EL.newP al_47 rfl ?_
      intro g7 w7 q7 hb7 hg7 hl7
      have n1_7 : g1 ≠ g7 := Nat.ne_of_lt (Nat.lt_of_lt_of_le q1.lt hg7)
      have n2_7 : g2 ≠ g7 := Nat.ne_of_lt (Nat.lt_of_lt_of_le q2.lt hg7)
      have n3_7 : g3 ≠ g7 := Nat.ne_of_lt (Nat.lt_of_lt_of_le q3.lt hg7)
      have bhbw_7 := Nat.le_trans hbw.size hg7
      have bhin_7 := Nat.le_trans hin.size hg7
      replace q1 := q1.below hb7 q1.lt
      replace q2 := q2.below hb7 q2.lt
      replace q3 := q3.below hb7 q3.lt
      replace hbw := Below.on hbw hb7 hbw.size
      replace hin := Below.on hin hb7 hin.size
      clear hb7 hg7 hl7
      refine EL.store rfl rfl q7 sz_47 rfl rfl rfl rfl ?_
      intro w8 hq8 hg8
      replace q1 := q1.grown hg8 (fun h => n1_7 (Option.some.inj h))
      replace q2 := q2.grown hg8 (fun h => n2_7 (Option.some.inj h))
      replace q3 := q3.grown hg8 (fun h => n3_7 (Option.some.inj h))
      replace hbw := below_store hbw hg8 bhbw_7
      replace hin := below_store hin hg8 bhin_7
      replace q7 := hq8
      clear hg8 hq8
      refine EL.nil ?_
      refine EX.seq ?_
      refine EC.seq ?_
      refine EC.region ?_
      refine EL.val (ld_47 rfl (q7.at (j := 0) rfl) (q7.at (j := 1) rfl)) rfl ?_
      refine EL.call (cl_25 rfl) rfl (check_any rv _ _ vs1 _ _ (hcp.below hin) hin.size (by omega) (by omega) f3) ?_
      rintro e w9 ⟨rfl, hc9⟩
      refine ⟨_, rfl, ?_⟩
      replace q1 := q1.below hc9 q1.lt
      replace q2 := q2.below hc9 q2.lt
      replace q3 := q3.below hc9 q3.lt
      replace q7 := q7.below hc9 q7.lt
      replace hbw := Below.on hbw hc9 hbw.size
      replace hin := Below.on hin hc9 hin.size
      clear hc9
      refine EL.val (x_assign rfl) rfl ?_
      refine EL.nil ?_
      refine EX.seq ?_
      refine EC.seq ?_
      refine EC.seq ?_
      refine EC.region ?_
      refine EL.val (x_move rfl) rfl ?_
      refine EL.val (x_neq rfl rfl (by first | assumption | exact decide_eq_true (by omega))) rfl ?_
      refine EL.val (x_move rfl) rfl ?_
      refine EL.valg rfl rfl (x_move rfl) rfl ?_
      refine EL.valg rfl rfl (x_neq rfl rfl (by first | assumption | exact decide_eq_false (by omega))) rfl ?_
      refine EL.val (x_pick_t rfl rfl) rfl ?_
      refine EL.val (x_move rfl) rfl ?_
      refine EL.valg rfl rfl (x_move rfl) rfl ?_
      refine EL.valg rfl rfl (x_eql rfl rfl (by first | assumption | exact decide_eq_false (by omega))) rfl ?_
      refine EL.valg rfl rfl (ld_47 rfl (q1.at (j := 0) rfl) (q1.at (j := 1) rfl)) rfl ?_
      refine EL.callg rfl rfl (cl_26 rfl) rfl (by have key := rriver_any rv _ _ vs _ B (hr.below (hbw.mono hB)) (Nat.le_trans hB hbw.size) (by omega) (by omega) f3; rw [hok] at key; exact key) ?_
      rintro e w10 ⟨rfl, hc10⟩
      refine ⟨_, rfl, ?_⟩
      replace q1 := q1.below hc10 q1.lt
      replace q2 := q2.below hc10 q2.lt
      replace q3 := q3.below hc10 q3.lt
      replace q7 := q7.below hc10 q7.lt
      replace hbw := Below.on hbw hc10 hbw.size
      replace hin := Below.on hin hc10 hin.size
      clear hc10
      refine EL.valg rfl rfl (neq_bool rfl rfl rfl) rfl ?_
      refine EL.val (x_pick_f rfl rfl) rfl ?_
      refine EL.val (x_move rfl) rfl ?_
      refine EL.valg rfl rfl (ld_47 rfl (q7.at (j := 0) rfl) (q7.at (j := 1) rfl)) rfl ?_
      refine EL.valg rfl rfl (ld_47 rfl (q1.at (j := 0) rfl) (q1.at (j := 1) rfl)) rfl ?_
      refine EL.callg rfl rfl (cl_27 rfl rfl) rfl (unchanged_eq rv _ _ _ _ vs1 vs _ _ B (hcp.below hin) (hr.below (hbw.mono hB)) hin.size (Nat.le_trans hB hbw.size) (by omega) (by omega) f3) ?_
      rintro e w11 ⟨rfl, hc11⟩
      refine ⟨_, rfl, ?_⟩
      replace q1 := q1.below hc11 q1.lt
      replace q2 := q2.below hc11 q2.lt
      replace q3 := q3.below hc11 q3.lt
      replace q7 := q7.below hc11 q7.lt
      replace hbw := Below.on hbw hc11 hbw.size
      replace hin := Below.on hin hc11 hin.size
      clear hc11
      refine EL.valg rfl rfl (x_not rfl) rfl ?_
      refine EL.val (x_pick_f rfl rfl) rfl ?_
      refine EL.nil ?_
      refine EX.seq ?_
      refine EC.no rfl ?_
      refine EC.skip ?_
      refine EX.seq ?_
      refine EC.seq ?_
      refine EC.region ?_
      refine EL.val (ld_50 rfl (q2.at (j := 0) rfl) (q2.at (j := 1) rfl) (q2.at (j := 2) rfl) (q2.at (j := 3) rfl) (q2.at (j := 4) rfl) (q2.at (j := 5) rfl) (q2.at (j := 6) rfl) (q2.at (j := 7) rfl) (q2.at (j := 8) rfl)) rfl ?_
      refine EL.newP al_50 rfl ?_
      intro g12 w12 q12 hb12 hg12 hl12
      have n1_12 : g1 ≠ g12 := Nat.ne_of_lt (Nat.lt_of_lt_of_le q1.lt hg12)
      have n2_12 : g2 ≠ g12 := Nat.ne_of_lt (Nat.lt_of_lt_of_le q2.lt hg12)
      have n3_12 : g3 ≠ g12 := Nat.ne_of_lt (Nat.lt_of_lt_of_le q3.lt hg12)
      have n7_12 : g7 ≠ g12 := Nat.ne_of_lt (Nat.lt_of_lt_of_le q7.lt hg12)
      have bhbw_12 := Nat.le_trans hbw.size hg12
      have bhin_12 := Nat.le_trans hin.size hg12
      replace q1 := q1.below hb12 q1.lt
      replace q2 := q2.below hb12 q2.lt
      replace q3 := q3.below hb12 q3.lt
      replace q7 := q7.below hb12 q7.lt
      replace hbw := Below.on hbw hb12 hbw.size
      replace hin := Below.on hin hb12 hin.size
      clear hb12 hg12 hl12
      refine EL.store rfl rfl q12 sz_50 rfl rfl rfl rfl ?_
      intro w13 hq13 hg13
      replace q1 := q1.grown hg13 (fun h => n1_12 (Option.some.inj h))
      replace q2 := q2.grown hg13 (fun h => n2_12 (Option.some.inj h))
      replace q3 := q3.grown hg13 (fun h => n3_12 (Option.some.inj h))
      replace q7 := q7.grown hg13 (fun h => n7_12 (Option.some.inj h))
      replace hbw := below_store hbw hg13 bhbw_12
      replace hin := below_store hin hg13 bhin_12
      replace q12 := hq13
      clear hg13 hq13
      refine EL.nil ?_
      refine EX.seq ?_
      refine EC.seq ?_
      refine EC.region ?_
      have lo_1 := q1.lt
      have lo_2 := q2.lt
      have lo_3 := q3.lt
      have lo_7 := q7.lt
      have lo_12 := q12.lt
      have sz_hbw := hbw.size
      have sz_hin := hin.size
      refine EL.newS bs_48_0 rfl ?_
      intro g14 w14 q14 hb14 hg14 hl14
      have n1_14 : g1 ≠ g14 := Nat.ne_of_lt (Nat.lt_of_lt_of_le q1.lt hg14)
      have n2_14 : g2 ≠ g14 := Nat.ne_of_lt (Nat.lt_of_lt_of_le q2.lt hg14)
      have n3_14 : g3 ≠ g14 := Nat.ne_of_lt (Nat.lt_of_lt_of_le q3.lt hg14)
      have n7_14 : g7 ≠ g14 := Nat.ne_of_lt (Nat.lt_of_lt_of_le q7.lt hg14)
      have n12_14 : g12 ≠ g14 := Nat.ne_of_lt (Nat.lt_of_lt_of_le q12.lt hg14)
      have bhbw_14 := Nat.le_trans hbw.size hg14
      have bhin_14 := Nat.le_trans hin.size hg14
      replace q1 := q1.below hb14 q1.lt
      replace q2 := q2.below hb14 q2.lt
      replace q3 := q3.below hb14 q3.lt
      replace q7 := q7.below hb14 q7.lt
      replace q12 := q12.below hb14 q12.lt
      replace hbw := Below.on hbw hb14 hbw.size
      replace hin := Below.on hin hb14 hin.size
      clear hb14 hl14
      have oin := own_empty (base := w13.heap.size) 2 q14 hg14
      refine EL.val (fa_50_3 rfl) rfl ?_
      refine EL.val (ld_48 rfl (q2.at (j := 4) rfl)) rfl ?_
      refine EL.push row_elem rfl rfl oin (hrx.below (hbw.mono hB)) (rowsC_one _) (by omega) rfl (Nat.le_trans hg14 (Nat.le_of_lt q14.lt)) rfl ?_
      intro vin w15 ho hgr15 hb15 _
      replace q1 := q1.below hb15 lo_1
      replace q2 := q2.below hb15 lo_2
      replace q3 := q3.below hb15 lo_3
      replace q7 := q7.below hb15 lo_7
      replace q12 := q12.below hb15 lo_12
      replace hbw := hbw.trans (hb15.mono sz_hbw)
      replace hin := hin.trans (hb15.mono sz_hin)
      rw [Nat.zero_add, List.nil_append] at ho
      obtain ⟨Ai, ci, ei, _⟩ := (Rd.of_own ho).shape
      subst ei
      refine EL.val (fa_50_3 rfl) rfl ?_
      refine EL.store rfl rfl q12 sz_48 rfl rfl rfl rfl ?_
      intro w16 hq16 hg16
      replace q1 := q1.grown hg16 (fun h => n1_12 (Option.some.inj h))
      replace q2 := q2.grown hg16 (fun h => n2_12 (Option.some.inj h))
      replace q3 := q3.grown hg16 (fun h => n3_12 (Option.some.inj h))
      replace q7 := q7.grown hg16 (fun h => n7_12 (Option.some.inj h))
      replace ho := own_far ho hg16 lo_12
      replace hbw := below_store hbw hg16 bhbw_12
      replace hin := below_store hin hg16 bhin_12
      replace q12 := hq16
      clear hg16 hq16
      refine EL.nil ?_
      refine EX.seq ?_
      refine EC.seq ?_
      refine EC.region ?_
      refine EL.val (ld_50 rfl (q12.at (j := 0) rfl) (q12.at (j := 1) rfl) (q12.at (j := 2) rfl) (q12.at (j := 3) rfl) (q12.at (j := 4) rfl) (q12.at (j := 5) rfl) (q12.at (j := 6) rfl) (q12.at (j := 7) rfl) (q12.at (j := 8) rfl)) rfl ?_
      refine EL.val (ld_23 rfl (q3.at (j := 0) rfl) (q3.at (j := 1) rfl)) rfl ?_
      refine EL.call (cl_28 rfl rfl) rfl (lev_ok x _ fl _ _ (Rd.of_own ho) (Nat.le_refl _) (by omega) hx hf) ?_
      rintro e w17 ⟨rfl, hc17⟩
      refine ⟨_, rfl, ?_⟩
      replace q1 := q1.below hc17 q1.lt
      replace q2 := q2.below hc17 q2.lt
      replace q3 := q3.below hc17 q3.lt
      replace q7 := q7.below hc17 q7.lt
      replace q12 := q12.below hc17 q12.lt
      replace hbw := Below.on hbw hc17 hbw.size
      replace hin := Below.on hin hc17 hin.size
      clear hc17
      refine EL.val (x_move rfl) rfl ?_
      refine EL.val (x_extract rfl rfl) rfl ?_
      refine EL.val (x_extract rfl rfl) rfl ?_
      refine EL.newP al_23 rfl ?_
      intro g18 w18 q18 hb18 hg18 hl18
      have n1_18 : g1 ≠ g18 := Nat.ne_of_lt (Nat.lt_of_lt_of_le q1.lt hg18)
      have n2_18 : g2 ≠ g18 := Nat.ne_of_lt (Nat.lt_of_lt_of_le q2.lt hg18)
      have n3_18 : g3 ≠ g18 := Nat.ne_of_lt (Nat.lt_of_lt_of_le q3.lt hg18)
      have n7_18 : g7 ≠ g18 := Nat.ne_of_lt (Nat.lt_of_lt_of_le q7.lt hg18)
      have n12_18 : g12 ≠ g18 := Nat.ne_of_lt (Nat.lt_of_lt_of_le q12.lt hg18)
      have bhbw_18 := Nat.le_trans hbw.size hg18
      have bhin_18 := Nat.le_trans hin.size hg18
      replace q1 := q1.below hb18 q1.lt
      replace q2 := q2.below hb18 q2.lt
      replace q3 := q3.below hb18 q3.lt
      replace q7 := q7.below hb18 q7.lt
      replace q12 := q12.below hb18 q12.lt
      replace hbw := Below.on hbw hb18 hbw.size
      replace hin := Below.on hin hb18 hin.size
      clear hb18 hg18 hl18
      refine EL.store rfl rfl q18 sz_23 rfl rfl rfl rfl ?_
      intro w19 hq19 hg19
      replace q1 := q1.grown hg19 (fun h => n1_18 (Option.some.inj h))
      replace q2 := q2.grown hg19 (fun h => n2_18 (Option.some.inj h))
      replace q3 := q3.grown hg19 (fun h => n3_18 (Option.some.inj h))
      replace q7 := q7.grown hg19 (fun h => n7_18 (Option.some.inj h))
      replace q12 := q12.grown hg19 (fun h => n12_18 (Option.some.inj h))
      replace hbw := below_store hbw hg19 bhbw_18
      replace hin := below_store hin hg19 bhin_18
      replace q18 := hq19
      clear hg19 hq19
      refine EL.val (x_assign rfl) rfl ?_
      refine EL.nil ?_
      refine EX.seq ?_
      refine EC.seq ?_
      refine EC.block ?_
      refine EC.seq ?_
      refine EC.region ?_
      refine EL.val (ld_50 rfl (q2.at (j := 0) rfl) (q2.at (j := 1) rfl) (q2.at (j := 2) rfl) (q2.at (j := 3) rfl) (q2.at (j := 4) rfl) (q2.at (j := 5) rfl) (q2.at (j := 6) rfl) (q2.at (j := 7) rfl) (q2.at (j := 8) rfl)) rfl ?_
      refine EL.call (cl_29 rfl) rfl (by have key := rreach_any x _ _ B (hrx.below (hbw.mono hB)) (Nat.le_trans hB hbw.size) (by omega); rw [hx] at key; exact key) ?_
      rintro e w20 ⟨rfl, hc20⟩
      refine ⟨_, rfl, ?_⟩
      replace q1 := q1.below hc20 q1.lt
      replace q2 := q2.below hc20 q2.lt
      replace q3 := q3.below hc20 q3.lt
      replace q7 := q7.below hc20 q7.lt
      replace q12 := q12.below hc20 q12.lt
      replace q18 := q18.below hc20 q18.lt
      replace hbw := Below.on hbw hc20 hbw.size
      replace hin := Below.on hin hc20 hin.size
      clear hc20
      refine EL.val (x_not rfl) rfl ?_
      refine EL.val (x_assign rfl) rfl ?_
      refine EL.nil ?_
      refine EX.seq ?_
      refine EC.no rfl ?_
      refine EC.seq ?_
      refine EC.region ?_
      refine EL.val (ld_23 rfl (q3.at (j := 0) rfl) (q3.at (j := 1) rfl)) rfl ?_
      refine EL.call (cl_30 rfl rfl rfl) rfl (by have key := rvalid_any fl 0 210000000000 w20; rw [hf] at key; exact key) ?_
      rintro e w21 ⟨rfl, hc21⟩
      refine ⟨_, rfl, ?_⟩
      replace q1 := q1.below hc21 q1.lt
      replace q2 := q2.below hc21 q2.lt
      replace q3 := q3.below hc21 q3.lt
      replace q7 := q7.below hc21 q7.lt
      replace q12 := q12.below hc21 q12.lt
      replace q18 := q18.below hc21 q18.lt
      replace hbw := Below.on hbw hc21 hbw.size
      replace hin := Below.on hin hc21 hin.size
      clear hc21
      refine EL.val (x_not rfl) rfl ?_
      refine EL.val (x_assign rfl) rfl ?_
      refine EL.nil ?_
      refine EX.seq ?_
      refine EC.no rfl ?_
      refine EC.skip ?_
      refine EX.blk ?_
      refine EX.seq ?_
      refine EC.seq ?_
      refine EC.regionQ (by kernel_rfl) (by kernel_rfl) ?_
      refine EQ.val (fun _ hw => (x_move rfl)) rfl ?_
      refine EQ.val (fun _ hw => (x_eql rfl rfl (by first | assumption | exact decide_eq_true (by omega)))) rfl ?_
      refine EQ.val (fun _ hw => (x_move rfl)) rfl ?_
      refine EQ.valg rfl rfl (fun _ hw => (ld_23 rfl (below_load hw (q18.at (j := 0) rfl)) (below_load hw (q18.at (j := 1) rfl)))) rfl ?_
      refine EQ.valg rfl rfl (fun _ hw => (ld_50 rfl (below_load hw (q2.at (j := 0) rfl)) (below_load hw (q2.at (j := 1) rfl)) (below_load hw (q2.at (j := 2) rfl)) (below_load hw (q2.at (j := 3) rfl)) (below_load hw (q2.at (j := 4) rfl)) (below_load hw (q2.at (j := 5) rfl)) (below_load hw (q2.at (j := 6) rfl)) (below_load hw (q2.at (j := 7) rfl)) (below_load hw (q2.at (j := 8) rfl)))) rfl ?_
      refine EQ.valg rfl rfl (fun _ hw => (ld_23 rfl (below_load hw (q3.at (j := 0) rfl)) (below_load hw (q3.at (j := 1) rfl)))) rfl ?_
      refine EQ.callg rfl rfl (fun _ _ _ ha => cl_31 rfl rfl _ ha) rfl (fun W hw => (rlevel_any x _ fl W B (hrx.below ((hbw.trans (hw.mono hbw.size)).mono hB)) (Nat.le_trans hB (Nat.le_trans hbw.size hw.size)) (reachB_ok hx) (by have := bdOk_iff.1 hf; omega)).mono fun e w' h => ⟨h.1, hw.trans (h.2.mono hw.size)⟩) ?_
      refine EQ.valg rfl rfl (fun _ hw => (eql_23 (r := true) rfl rfl (by simp))) rfl ?_
      refine EQ.val (fun _ hw => (x_pick_t rfl rfl)) rfl ?_
      refine EQ.val (fun _ hw => (x_move rfl)) rfl ?_
      refine EQ.callg rfl rfl (fun _ _ _ ha => cl_16 _ ha) rfl (fun W hw => (known_any W).mono fun e w' h => ⟨h.1, hw.trans (h.2.mono hw.size)⟩) ?_
      refine EQ.val (fun _ hw => (x_pick_t rfl rfl)) rfl ?_
      refine EQ.val (fun _ hw => (x_assign rfl)) rfl ?_
      refine EQ.fin (fun w_ hw_ => ?_)
      replace hbw := Below.on hbw hw_ hbw.size
      refine EX.seq ?_
      refine EC.ret ?_
      exact EX.done (res1 rfl rfl) ⟨rfl, hbw⟩

theorem checks_law (rv : River) (x : Reach) (fl : Bd) (v u vx : Value) (vs : List Value) (w : World) (B : Nat) (hr : RdRiver w B v u rv vs) (hrx : Rd w B 2 vx x.curve.length (rowsC x.curve)) (hB : B ≤ w.heap.size) :
    Calls Try.prog 5 #[.agg #[v, u], .agg (reachV x vx), .agg #[.int .i64 fl.lo, .int .i64 fl.hi]] w fun e w' => e = .returned (.bool true) ∧ Below w.heap.size w w' := by
  cases hok : riverB rv <;> cases hx : reachB x
  · exact checksL_f_bad rv x fl v u vx vs w B hr hrx hB hok hx
  · cases hf : bdOk 0 210000000000 fl
    · exact checksL_f_far rv x fl v u vx vs w B hr hrx hB hok hx hf
    · exact checksL_f_ok rv x fl v u vx vs w B hr hrx hB hok hx hf
  · exact checksL_t_bad rv x fl v u vx vs w B hr hrx hB hok hx
  · cases hf : bdOk 0 210000000000 fl
    · exact checksL_t_far rv x fl v u vx vs w B hr hrx hB hok hx hf
    · exact checksL_t_ok rv x fl v u vx vs w B hr hrx hB hok hx hf
end Go.Proofs.Ytncnlhkmdljgpaa
