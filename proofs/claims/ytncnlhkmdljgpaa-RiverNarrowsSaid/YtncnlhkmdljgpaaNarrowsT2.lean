/- W8, W3, Law0, Law1, Law2, MeltMath, ExB, W19, ExR28, W28, RLift7, WayMath, WaysMath, TruthMath, Law3, ExR30, W30, W21, NarMath, NarLaw, W26, ExR34: what RiverNarrowsProof needs of them (merged by trimpack.py). -/
import Derived.Test.YtncnlhkmdljgpaaNarrowsT1
set_option linter.unusedVariables false
namespace Go.Proofs.Ytncnlhkmdljgpaa
open Go Go.RowKit
/-- what `large` lets by -/
structure Fine (r : River) (sides : List (List Bd)) : Prop where
  nreaches : r.reaches.length ≤ 25
  nshoals : r.shoals.length ≤ 50
  nsides : sides.length ≤ 25
  curve : ∀ i, i < r.reaches.length → (r.reaches.getD i reach0).curve.length ≤ 40
  side : ∀ i, i < sides.length → (sides.getD i []).length ≤ 450
set_option maxRecDepth 100000 in
theorem large_any (rv : River) (sides : List (List Bd)) (v u s : Value) (vs ss : List Value) (w : World) (B : Nat) (hr : RdRiver w B v u rv vs) (hs : RdSides w B s sides ss) (hB : B ≤ w.heap.size) :
    Calls Try.prog 23 #[.agg #[v, u, s]] w fun e w' => (e = .returned (.bool true) ∨ e = .returned (.bool false) ∧ Fine rv sides) ∧ Below w.heap.size w w' := by
  obtain ⟨A, c, rfl, _⟩ := hr.reaches.shape
  obtain ⟨A', c', rfl, _⟩ := hr.shoals.shape
  obtain ⟨D, d, rfl, _⟩ := hs.rd.shape
  have hbw := Below.refl w.heap.size w
  refine EC.enter 54 Try.func23 rfl rfl rfl ?_
  by_cases h1 : 25 < rv.reaches.length
  ·
    refine EC.seq ?_
    refine EC.region ?_
    refine EL.newP (bx_54 rfl) rfl ?_
    intro g1 w1 q1 hb1 hg1 hl1
    have bhbw_1 := Nat.le_trans hbw.size hg1
    replace hbw := Below.on hbw hb1 hbw.size
    clear hb1 hg1 hl1
    refine EL.val (x_assign rfl) rfl ?_
    refine EL.nil ?_
    refine EX.seq ?_
    refine EC.seq ?_
    refine EC.seq ?_
    refine EC.region ?_
    refine EL.val (fa_54_0 rfl) rfl ?_
    refine EL.val (fa_47_0 rfl) rfl ?_
    refine EL.val (ld_44 rfl (q1.at (j := 0) rfl)) rfl ?_
    refine EL.val (ln_44 rfl) rfl ?_
    refine EL.val (x_gtr rfl rfl (by first | assumption | exact decide_eq_true (by omega))) rfl ?_
    refine EL.val (x_move rfl) rfl ?_
    refine EL.skip rfl rfl rfl rfl ?_
    refine EL.skip rfl rfl rfl rfl ?_
    refine EL.skip rfl rfl rfl rfl ?_
    refine EL.skip rfl rfl rfl rfl ?_
    refine EL.skip rfl rfl rfl rfl ?_
    refine EL.val (x_pick_t rfl rfl) rfl ?_
    refine EL.val (x_move rfl) rfl ?_
    refine EL.skip rfl rfl rfl rfl ?_
    refine EL.skip rfl rfl rfl rfl ?_
    refine EL.skip rfl rfl rfl rfl ?_
    refine EL.skip rfl rfl rfl rfl ?_
    refine EL.val (x_pick_t rfl rfl) rfl ?_
    refine EL.nil ?_
    refine EX.seq ?_
    refine EC.yes rfl ?_
    refine EC.seq ?_
    refine EC.region ?_
    refine EL.val (x_assign rfl) rfl ?_
    refine EL.nil ?_
    refine EX.seq ?_
    refine EC.ret ?_
    refine EX.seq_ret ?_
    exact EX.done (res1 rfl rfl) ⟨.inl rfl, hbw⟩
  by_cases h2 : 50 < rv.shoals.length
  ·
    refine EC.seq ?_
    refine EC.region ?_
    refine EL.newP (bx_54 rfl) rfl ?_
    intro g2 w2 q2 hb2 hg2 hl2
    have bhbw_2 := Nat.le_trans hbw.size hg2
    replace hbw := Below.on hbw hb2 hbw.size
    clear hb2 hg2 hl2
    refine EL.val (x_assign rfl) rfl ?_
    refine EL.nil ?_
    refine EX.seq ?_
    refine EC.seq ?_
    refine EC.seq ?_
    refine EC.region ?_
    refine EL.val (fa_54_0 rfl) rfl ?_
    refine EL.val (fa_47_0 rfl) rfl ?_
    refine EL.val (ld_44 rfl (q2.at (j := 0) rfl)) rfl ?_
    refine EL.val (ln_44 rfl) rfl ?_
    refine EL.val (x_gtr rfl rfl (by first | assumption | exact decide_eq_false (by omega))) rfl ?_
    refine EL.val (x_move rfl) rfl ?_
    refine EL.valg rfl rfl (fa_54_0 rfl) rfl ?_
    refine EL.valg rfl rfl (fa_47_1 rfl) rfl ?_
    refine EL.valg rfl rfl (ld_45 rfl (q2.at (j := 1) rfl)) rfl ?_
    refine EL.valg rfl rfl (ln_45 rfl) rfl ?_
    refine EL.valg rfl rfl (x_gtr rfl rfl (by first | assumption | exact decide_eq_true (by omega))) rfl ?_
    refine EL.val (x_pick_f rfl rfl) rfl ?_
    refine EL.val (x_move rfl) rfl ?_
    refine EL.skip rfl rfl rfl rfl ?_
    refine EL.skip rfl rfl rfl rfl ?_
    refine EL.skip rfl rfl rfl rfl ?_
    refine EL.skip rfl rfl rfl rfl ?_
    refine EL.val (x_pick_t rfl rfl) rfl ?_
    refine EL.nil ?_
    refine EX.seq ?_
    refine EC.yes rfl ?_
    refine EC.seq ?_
    refine EC.region ?_
    refine EL.val (x_assign rfl) rfl ?_
    refine EL.nil ?_
    refine EX.seq ?_
    refine EC.ret ?_
    refine EX.seq_ret ?_
    exact EX.done (res1 rfl rfl) ⟨.inl rfl, hbw⟩
  by_cases h3 : 25 < sides.length
  ·
    refine EC.seq ?_
    refine EC.region ?_
    refine EL.newP (bx_54 rfl) rfl ?_
    intro g3 w3 q3 hb3 hg3 hl3
    have bhbw_3 := Nat.le_trans hbw.size hg3
    replace hbw := Below.on hbw hb3 hbw.size
    clear hb3 hg3 hl3
    refine EL.val (x_assign rfl) rfl ?_
    refine EL.nil ?_
    refine EX.seq ?_
    refine EC.seq ?_
    refine EC.seq ?_
    refine EC.region ?_
    refine EL.val (fa_54_0 rfl) rfl ?_
    refine EL.val (fa_47_0 rfl) rfl ?_
    refine EL.val (ld_44 rfl (q3.at (j := 0) rfl)) rfl ?_
    refine EL.val (ln_44 rfl) rfl ?_
    refine EL.val (x_gtr rfl rfl (by first | assumption | exact decide_eq_false (by omega))) rfl ?_
    refine EL.val (x_move rfl) rfl ?_
    refine EL.valg rfl rfl (fa_54_0 rfl) rfl ?_
    refine EL.valg rfl rfl (fa_47_1 rfl) rfl ?_
    refine EL.valg rfl rfl (ld_45 rfl (q3.at (j := 1) rfl)) rfl ?_
    refine EL.valg rfl rfl (ln_45 rfl) rfl ?_
    refine EL.valg rfl rfl (x_gtr rfl rfl (by first | assumption | exact decide_eq_false (by omega))) rfl ?_
    refine EL.val (x_pick_f rfl rfl) rfl ?_
    refine EL.val (x_move rfl) rfl ?_
    refine EL.valg rfl rfl (fa_54_1 rfl) rfl ?_
    refine EL.valg rfl rfl (ld_52 rfl (q3.at (j := 2) rfl)) rfl ?_
    refine EL.valg rfl rfl (ln_52 rfl) rfl ?_
    refine EL.valg rfl rfl (x_gtr rfl rfl (by first | assumption | exact decide_eq_true (by omega))) rfl ?_
    refine EL.val (x_pick_f rfl rfl) rfl ?_
    refine EL.nil ?_
    refine EX.seq ?_
    refine EC.yes rfl ?_
    refine EC.seq ?_
    refine EC.region ?_
    refine EL.val (x_assign rfl) rfl ?_
    refine EL.nil ?_
    refine EX.seq ?_
    refine EC.ret ?_
    refine EX.seq_ret ?_
    exact EX.done (res1 rfl rfl) ⟨.inl rfl, hbw⟩
  refine EC.seq ?_
  refine EC.region ?_
  refine EL.newP (bx_54 rfl) rfl ?_
  intro g4 w4 q4 hb4 hg4 hl4
  have bhbw_4 := Nat.le_trans hbw.size hg4
  replace hbw := Below.on hbw hb4 hbw.size
  clear hb4 hg4 hl4
  refine EL.val (x_assign rfl) rfl ?_
  refine EL.nil ?_
  refine EX.seq ?_
  refine EC.seq ?_
  refine EC.seq ?_
  refine EC.region ?_
  refine EL.val (fa_54_0 rfl) rfl ?_
  refine EL.val (fa_47_0 rfl) rfl ?_
  refine EL.val (ld_44 rfl (q4.at (j := 0) rfl)) rfl ?_
  refine EL.val (ln_44 rfl) rfl ?_
  refine EL.val (x_gtr rfl rfl (by first | assumption | exact decide_eq_false (by omega))) rfl ?_
  refine EL.val (x_move rfl) rfl ?_
  refine EL.valg rfl rfl (fa_54_0 rfl) rfl ?_
  refine EL.valg rfl rfl (fa_47_1 rfl) rfl ?_
  refine EL.valg rfl rfl (ld_45 rfl (q4.at (j := 1) rfl)) rfl ?_
  refine EL.valg rfl rfl (ln_45 rfl) rfl ?_
  refine EL.valg rfl rfl (x_gtr rfl rfl (by first | assumption | exact decide_eq_false (by omega))) rfl ?_
  refine EL.val (x_pick_f rfl rfl) rfl ?_
  refine EL.val (x_move rfl) rfl ?_
  refine EL.valg rfl rfl (fa_54_1 rfl) rfl ?_
  refine EL.valg rfl rfl (ld_52 rfl (q4.at (j := 2) rfl)) rfl ?_
  refine EL.valg rfl rfl (ln_52 rfl) rfl ?_
  refine EL.valg rfl rfl (x_gtr rfl rfl (by first | assumption | exact decide_eq_false (by omega))) rfl ?_
  refine EL.val (x_pick_f rfl rfl) rfl ?_
  refine EL.nil ?_
  refine EX.seq ?_
  refine EC.no rfl ?_
  refine EC.skip ?_
  refine EX.seq ?_
  refine EC.seq ?_
  refine EC.seq ?_
  refine EC.region ?_
  refine EL.val (x_assign rfl) rfl ?_
  refine EL.nil ?_
  refine EX.seq ?_
  refine EC.block ?_
  refine EC.loopD [2, 3, 23, 24, 25, 26, 27, 28, 29, 30, 31, 32, 33, 34, 35, 36, 37, 38, 39] (fun x : Nat => [(3, .int .i64 (x : Nat))]) (fun x W => x ≤ rv.reaches.length ∧ (∀ i, i < x → (rv.reaches.getD i reach0).curve.length ≤ 40) ∧ Blk W g4 54 #[.slice A rv.reaches.length c, .slice A' rv.shoals.length c', .slice D sides.length d] ∧ Below w.heap.size w W) (fun x => rv.reaches.length - x) 0 ⟨Nat.zero_le _, fun i hi => absurd hi (Nat.not_lt_zero _), q4, hbw⟩ ⟨rfl, trivial⟩ ?_
  clear q4 hbw
  rintro i wr ⟨hi, hf, q4, hbw⟩
  by_cases hlt : i < rv.reaches.length
  ·
    obtain ⟨b, o, rfl, _, cc⟩ := reaches_cells hr.reaches i hlt
    have h4 := hr.reaches.curve i hlt
    obtain ⟨As, cs, es, _⟩ := h4.shape
    rw [es] at cc
    by_cases h5 : 40 < (rv.reaches.getD i reach0).curve.length
    ·
      refine EC.seq ?_
      refine EC.seq ?_
      refine EC.region ?_
      refine EL.val (x_move rfl) rfl ?_
      refine EL.val (fa_54_0 rfl) rfl ?_
      refine EL.val (fa_47_0 rfl) rfl ?_
      refine EL.val (ld_44 rfl (q4.at (j := 0) rfl)) rfl ?_
      refine EL.val (ln_44 rfl) rfl ?_
      refine EL.val (x_lss rfl rfl (by first | assumption | exact decide_eq_true (by omega))) rfl ?_
      refine EL.nil ?_
      refine EX.seq ?_
      refine EC.yes rfl ?_
      refine EC.skip ?_
      refine EX.seq ?_
      refine EC.seq ?_
      refine EC.block ?_
      refine EC.seq ?_
      refine EC.region ?_
      refine EL.val (fa_54_0 rfl) rfl ?_
      refine EL.val (fa_47_0 rfl) rfl ?_
      refine EL.val (ld_44 rfl (q4.at (j := 0) rfl)) rfl ?_
      refine EL.val (x_move rfl) rfl ?_
      refine EL.val (ix_44 rfl rfl hlt) rfl ?_
      refine EL.val (fa_50_3 rfl) rfl ?_
      refine EL.val (ld_48 rfl (below_load hbw cc.c4)) rfl ?_
      refine EL.val (ln_48 rfl) rfl ?_
      refine EL.val (x_gtr rfl rfl (by first | assumption | exact decide_eq_true (by omega))) rfl ?_
      refine EL.nil ?_
      refine EX.seq ?_
      refine EC.yes rfl ?_
      refine EC.seq ?_
      refine EC.region ?_
      refine EL.val (x_assign rfl) rfl ?_
      refine EL.nil ?_
      refine EX.seq ?_
      refine EC.ret ?_
      refine EX.blk_ret ?_
      refine EX.seq_ret ?_
      refine EX.seq_ret ?_
      refine EX.blk_ret ?_
      refine EX.seq_ret ?_
      exact EX.done (res1 rfl rfl) ⟨.inl rfl, hbw⟩
    ·
      refine EC.seq ?_
      refine EC.seq ?_
      refine EC.region ?_
      refine EL.val (x_move rfl) rfl ?_
      refine EL.val (fa_54_0 rfl) rfl ?_
      refine EL.val (fa_47_0 rfl) rfl ?_
      refine EL.val (ld_44 rfl (q4.at (j := 0) rfl)) rfl ?_
      refine EL.val (ln_44 rfl) rfl ?_
      refine EL.val (x_lss rfl rfl (by first | assumption | exact decide_eq_true (by omega))) rfl ?_
      refine EL.nil ?_
      refine EX.seq ?_
      refine EC.yes rfl ?_
      refine EC.skip ?_
      refine EX.seq ?_
      refine EC.seq ?_
      refine EC.block ?_
      refine EC.seq ?_
      refine EC.region ?_
      refine EL.val (fa_54_0 rfl) rfl ?_
      refine EL.val (fa_47_0 rfl) rfl ?_
      refine EL.val (ld_44 rfl (q4.at (j := 0) rfl)) rfl ?_
      refine EL.val (x_move rfl) rfl ?_
      refine EL.val (ix_44 rfl rfl hlt) rfl ?_
      refine EL.val (fa_50_3 rfl) rfl ?_
      refine EL.val (ld_48 rfl (below_load hbw cc.c4)) rfl ?_
      refine EL.val (ln_48 rfl) rfl ?_
      refine EL.val (x_gtr rfl rfl (by first | assumption | exact decide_eq_false (by omega))) rfl ?_
      refine EL.nil ?_
      refine EX.seq ?_
      refine EC.no rfl ?_
      refine EC.skip ?_
      refine EX.blk ?_
      refine EX.seq ?_
      refine EC.region ?_
      refine EL.val (x_move rfl) rfl ?_
      refine EL.val (x_add rfl rfl (by first | assumption | exact IntWalk.i64_in _ ⟨by omega, by omega⟩)) rfl ?_
      refine EL.val (x_assign rfl) rfl ?_
      refine EL.nil ?_
      refine EX.roundD (i + 1) ⟨rfl, trivial⟩ (by repeat first | exact Sub.refl _ | refine sub_past rfl ?_ | refine sub_del rfl ?_ | refine sub_insL_nil ?_) ⟨hlt, fun k hk => (Nat.lt_succ_iff_lt_or_eq.1 hk).elim (hf k) (fun e => by subst e; omega), q4, hbw⟩ (by omega)
  ·
    obtain rfl : i = rv.reaches.length := by omega
    refine EC.seq ?_
    refine EC.seq ?_
    refine EC.region ?_
    refine EL.val (x_move rfl) rfl ?_
    refine EL.val (fa_54_0 rfl) rfl ?_
    refine EL.val (fa_47_0 rfl) rfl ?_
    refine EL.val (ld_44 rfl (q4.at (j := 0) rfl)) rfl ?_
    refine EL.val (ln_44 rfl) rfl ?_
    refine EL.val (x_lss rfl rfl (by first | assumption | exact decide_eq_false (by omega))) rfl ?_
    refine EL.nil ?_
    refine EX.seq ?_
    refine EC.no rfl ?_
    refine EC.exit ?_
    refine EX.seq_exit ?_
    refine EX.seq_exit ?_
    refine EX.blk_here ?_
    refine EX.seq ?_
    refine EC.seq ?_
    refine EC.seq ?_
    refine EC.region ?_
    refine EL.val (x_assign rfl) rfl ?_
    refine EL.nil ?_
    refine EX.seq ?_
    refine EC.block ?_
    refine EC.loopD [2, 4, 40, 41, 42, 43, 44, 45, 46, 47, 48, 49, 50, 51, 52, 53] (fun x : Nat => [(4, .int .i64 (x : Nat))]) (fun x W => x ≤ sides.length ∧ (∀ i, i < x → (sides.getD i []).length ≤ 450) ∧ Blk W g4 54 #[.slice A rv.reaches.length c, .slice A' rv.shoals.length c', .slice D sides.length d] ∧ Below w.heap.size w W) (fun x => sides.length - x) 0 ⟨Nat.zero_le _, fun i hi => absurd hi (Nat.not_lt_zero _), q4, hbw⟩ ⟨rfl, trivial⟩ ?_
    clear q4 hbw
    rintro j wj ⟨hj, hg, q4, hbw⟩
    by_cases hjl : j < sides.length
    ·
      obtain ⟨b, o, rfl, _, cc⟩ := sides_cell hs j hjl
      have h4 := hs.side j hjl
      obtain ⟨As, cs, es, _⟩ := h4.shape
      rw [es] at cc
      by_cases h5 : 450 < (sides.getD j []).length
      ·
        refine EC.seq ?_
        refine EC.seq ?_
        refine EC.region ?_
        refine EL.val (x_move rfl) rfl ?_
        refine EL.val (fa_54_1 rfl) rfl ?_
        refine EL.val (ld_52 rfl (q4.at (j := 2) rfl)) rfl ?_
        refine EL.val (ln_52 rfl) rfl ?_
        refine EL.val (x_lss rfl rfl (by first | assumption | exact decide_eq_true (by omega))) rfl ?_
        refine EL.nil ?_
        refine EX.seq ?_
        refine EC.yes rfl ?_
        refine EC.skip ?_
        refine EX.seq ?_
        refine EC.seq ?_
        refine EC.block ?_
        refine EC.seq ?_
        refine EC.region ?_
        refine EL.val (fa_54_1 rfl) rfl ?_
        refine EL.val (ld_52 rfl (q4.at (j := 2) rfl)) rfl ?_
        refine EL.val (x_move rfl) rfl ?_
        refine EL.val (ix_52 rfl rfl hjl) rfl ?_
        refine EL.val (ld_28 rfl (below_load hbw cc)) rfl ?_
        refine EL.val (ln_28 rfl) rfl ?_
        refine EL.val (x_gtr rfl rfl (by first | assumption | exact decide_eq_true (by omega))) rfl ?_
        refine EL.nil ?_
        refine EX.seq ?_
        refine EC.yes rfl ?_
        refine EC.seq ?_
        refine EC.region ?_
        refine EL.val (x_assign rfl) rfl ?_
        refine EL.nil ?_
        refine EX.seq ?_
        refine EC.ret ?_
        refine EX.blk_ret ?_
        refine EX.seq_ret ?_
        refine EX.seq_ret ?_
        refine EX.blk_ret ?_
        refine EX.seq_ret ?_
        exact EX.done (res1 rfl rfl) ⟨.inl rfl, hbw⟩
      ·
        refine EC.seq ?_
        refine EC.seq ?_
        refine EC.region ?_
        refine EL.val (x_move rfl) rfl ?_
        refine EL.val (fa_54_1 rfl) rfl ?_
        refine EL.val (ld_52 rfl (q4.at (j := 2) rfl)) rfl ?_
        refine EL.val (ln_52 rfl) rfl ?_
        refine EL.val (x_lss rfl rfl (by first | assumption | exact decide_eq_true (by omega))) rfl ?_
        refine EL.nil ?_
        refine EX.seq ?_
        refine EC.yes rfl ?_
        refine EC.skip ?_
        refine EX.seq ?_
        refine EC.seq ?_
        refine EC.block ?_
        refine EC.seq ?_
        refine EC.region ?_
        refine EL.val (fa_54_1 rfl) rfl ?_
        refine EL.val (ld_52 rfl (q4.at (j := 2) rfl)) rfl ?_
        refine EL.val (x_move rfl) rfl ?_
        refine EL.val (ix_52 rfl rfl hjl) rfl ?_
        refine EL.val (ld_28 rfl (below_load hbw cc)) rfl ?_
        refine EL.val (ln_28 rfl) rfl ?_
        refine EL.val (x_gtr rfl rfl (by first | assumption | exact decide_eq_false (by omega))) rfl ?_
        refine EL.nil ?_
        refine EX.seq ?_
        refine EC.no rfl ?_
        refine EC.skip ?_
        refine EX.blk ?_
        refine EX.seq ?_
        refine EC.region ?_
        refine EL.val (x_move rfl) rfl ?_
        refine EL.val (x_add rfl rfl (by first | assumption | exact IntWalk.i64_in _ ⟨by omega, by omega⟩)) rfl ?_
        refine EL.val (x_assign rfl) rfl ?_
        refine EL.nil ?_
        refine EX.roundD (j + 1) ⟨rfl, trivial⟩ (by repeat first | exact Sub.refl _ | refine sub_past rfl ?_ | refine sub_del rfl ?_ | refine sub_insL_nil ?_) ⟨hjl, fun k hk => (Nat.lt_succ_iff_lt_or_eq.1 hk).elim (hg k) (fun e => by subst e; omega), q4, hbw⟩ (by omega)
    ·
      obtain rfl : j = sides.length := by omega
      refine EC.seq ?_
      refine EC.seq ?_
      refine EC.region ?_
      refine EL.val (x_move rfl) rfl ?_
      refine EL.val (fa_54_1 rfl) rfl ?_
      refine EL.val (ld_52 rfl (q4.at (j := 2) rfl)) rfl ?_
      refine EL.val (ln_52 rfl) rfl ?_
      refine EL.val (x_lss rfl rfl (by first | assumption | exact decide_eq_false (by omega))) rfl ?_
      refine EL.nil ?_
      refine EX.seq ?_
      refine EC.no rfl ?_
      refine EC.exit ?_
      refine EX.seq_exit ?_
      refine EX.seq_exit ?_
      refine EX.blk_here ?_
      refine EX.seq ?_
      refine EC.seq ?_
      refine EC.region ?_
      refine EL.val (x_assign rfl) rfl ?_
      refine EL.nil ?_
      refine EX.seq ?_
      refine EC.ret ?_
      exact EX.done (res1 rfl rfl) ⟨.inr ⟨rfl, by omega, by omega, by omega, hf, hg⟩, hbw⟩
end Go.Proofs.Ytncnlhkmdljgpaa
namespace Go.Proofs.Ytncnlhkmdljgpaa
open Go Go.RowKit
def twoReach1 : Reach := ⟨100, 2, ⟨1000, 1000⟩, [⟨0, 100⟩, ⟨10000, 300⟩], 0, ⟨50, 60⟩, 400⟩
def twoReach2 : Reach := ⟨50, 1, ⟨2000, 2000⟩, [⟨0, 0⟩, ⟨20000, 400⟩], 150, ⟨20, 20⟩, 160⟩
def twoShoal : Shoal := ⟨120, ⟨40, 50⟩, 0, ⟨0, 12⟩⟩
def twoR : River := ⟨[twoReach1, twoReach2], [twoShoal]⟩
def twoS : List (List Bd) := [[⟨2000, 3000⟩, ⟨2000, 3000⟩, ⟨2000, 3000⟩, ⟨2000, 3000⟩], [⟨500, 500⟩, ⟨500, 500⟩, ⟨500, 500⟩, ⟨500, 500⟩]]
theorem two_any (w : World) : Calls Try.prog 56 #[] w fun e w' => (∃ v u s vs ss, e = .returned (.tuple #[.agg #[v, u], s]) ∧ RdRiver w' w'.heap.size v u twoR vs ∧ RdSides w' w'.heap.size s twoS ss) ∧ Below w.heap.size w w' := by
  have hbw := Below.refl w.heap.size w
  refine EC.enter 37 Try.func56 rfl rfl rfl ?_
  refine EC.seq ?_
  refine EC.region ?_
  refine EL.newP al_47 rfl ?_
  intro g1 w1 q1 hb1 hg1 hl1
  have bhbw_1 := Nat.le_trans hbw.size hg1
  replace hbw := Below.on hbw hb1 hbw.size
  clear hb1 hg1 hl1
  refine EL.val (x_assign rfl) rfl ?_
  refine EL.nil ?_
  refine EX.seq ?_
  refine EC.seq ?_
  refine EC.region ?_
  refine EL.val (bd_23_0_1 rfl rfl) rfl ?_
  refine EL.val (bd_126_1 rfl) rfl ?_
  refine EL.val (bd_126_0_1 rfl rfl) rfl ?_
  refine EL.newS (bs_48_2 rfl rfl) rfl ?_
  intro g2 w2 q2 hb2 hg2 hl2
  have n1_2 : g1 ≠ g2 := Nat.ne_of_lt (Nat.lt_of_lt_of_le q1.lt hg2)
  have bhbw_2 := Nat.le_trans hbw.size hg2
  replace q1 := q1.below hb2 q1.lt
  replace hbw := Below.on hbw hb2 hbw.size
  clear hb2 hg2 hl2
  refine EL.val (bd_23_0_1 rfl rfl) rfl ?_
  refine EL.val (bd_50_0_1_2_3_5_6 rfl rfl rfl rfl rfl rfl) rfl ?_
  refine EL.val (bd_23_0_1 rfl rfl) rfl ?_
  refine EL.val (bd_126_) rfl ?_
  refine EL.val (bd_126_0_1 rfl rfl) rfl ?_
  refine EL.newS (bs_48_2 rfl rfl) rfl ?_
  intro g3 w3 q3 hb3 hg3 hl3
  have n1_3 : g1 ≠ g3 := Nat.ne_of_lt (Nat.lt_of_lt_of_le q1.lt hg3)
  have n2_3 : g2 ≠ g3 := Nat.ne_of_lt (Nat.lt_of_lt_of_le q2.lt hg3)
  have bhbw_3 := Nat.le_trans hbw.size hg3
  replace q1 := q1.below hb3 q1.lt
  replace q2 := q2.below hb3 q2.lt
  replace hbw := Below.on hbw hb3 hbw.size
  clear hb3 hg3 hl3
  refine EL.val (bd_23_0_1 rfl rfl) rfl ?_
  refine EL.val (bd_50_0_1_2_3_4_5_6 rfl rfl rfl rfl rfl rfl rfl) rfl ?_
  refine EL.newS (bs_44_2 rfl rfl) rfl ?_
  intro g4 w4 q4 hb4 hg4 hl4
  have n1_4 : g1 ≠ g4 := Nat.ne_of_lt (Nat.lt_of_lt_of_le q1.lt hg4)
  have n2_4 : g2 ≠ g4 := Nat.ne_of_lt (Nat.lt_of_lt_of_le q2.lt hg4)
  have n3_4 : g3 ≠ g4 := Nat.ne_of_lt (Nat.lt_of_lt_of_le q3.lt hg4)
  have bhbw_4 := Nat.le_trans hbw.size hg4
  replace q1 := q1.below hb4 q1.lt
  replace q2 := q2.below hb4 q2.lt
  replace q3 := q3.below hb4 q3.lt
  replace hbw := Below.on hbw hb4 hbw.size
  clear hb4 hg4 hl4
  refine EL.val (bd_23_0_1 rfl rfl) rfl ?_
  refine EL.val (bd_23_1 rfl) rfl ?_
  refine EL.val (bd_97_0_1_3 rfl rfl rfl) rfl ?_
  refine EL.newS (bs_45_1 rfl) rfl ?_
  intro g5 w5 q5 hb5 hg5 hl5
  have n1_5 : g1 ≠ g5 := Nat.ne_of_lt (Nat.lt_of_lt_of_le q1.lt hg5)
  have n2_5 : g2 ≠ g5 := Nat.ne_of_lt (Nat.lt_of_lt_of_le q2.lt hg5)
  have n3_5 : g3 ≠ g5 := Nat.ne_of_lt (Nat.lt_of_lt_of_le q3.lt hg5)
  have n4_5 : g4 ≠ g5 := Nat.ne_of_lt (Nat.lt_of_lt_of_le q4.lt hg5)
  have bhbw_5 := Nat.le_trans hbw.size hg5
  replace q1 := q1.below hb5 q1.lt
  replace q2 := q2.below hb5 q2.lt
  replace q3 := q3.below hb5 q3.lt
  replace q4 := q4.below hb5 q4.lt
  replace hbw := Below.on hbw hb5 hbw.size
  clear hb5 hg5 hl5
  refine EL.val (bd_47_0_1 rfl rfl) rfl ?_
  refine EL.newP al_47 rfl ?_
  intro g6 w6 q6 hb6 hg6 hl6
  have n1_6 : g1 ≠ g6 := Nat.ne_of_lt (Nat.lt_of_lt_of_le q1.lt hg6)
  have n2_6 : g2 ≠ g6 := Nat.ne_of_lt (Nat.lt_of_lt_of_le q2.lt hg6)
  have n3_6 : g3 ≠ g6 := Nat.ne_of_lt (Nat.lt_of_lt_of_le q3.lt hg6)
  have n4_6 : g4 ≠ g6 := Nat.ne_of_lt (Nat.lt_of_lt_of_le q4.lt hg6)
  have n5_6 : g5 ≠ g6 := Nat.ne_of_lt (Nat.lt_of_lt_of_le q5.lt hg6)
  have bhbw_6 := Nat.le_trans hbw.size hg6
  replace q1 := q1.below hb6 q1.lt
  replace q2 := q2.below hb6 q2.lt
  replace q3 := q3.below hb6 q3.lt
  replace q4 := q4.below hb6 q4.lt
  replace q5 := q5.below hb6 q5.lt
  replace hbw := Below.on hbw hb6 hbw.size
  clear hb6 hg6 hl6
  refine EL.store rfl rfl q6 sz_47 rfl rfl rfl rfl ?_
  intro w7 hq7 hg7
  replace q1 := q1.grown hg7 (fun h => n1_6 (Option.some.inj h))
  replace q2 := q2.grown hg7 (fun h => n2_6 (Option.some.inj h))
  replace q3 := q3.grown hg7 (fun h => n3_6 (Option.some.inj h))
  replace q4 := q4.grown hg7 (fun h => n4_6 (Option.some.inj h))
  replace q5 := q5.grown hg7 (fun h => n5_6 (Option.some.inj h))
  replace hbw := below_store hbw hg7 bhbw_6
  replace q6 := hq7
  clear hg7 hq7
  refine EL.nil ?_
  refine EX.seq ?_
  refine EC.seq ?_
  refine EC.region ?_
  refine EL.val (bd_23_0_1 rfl rfl) rfl ?_
  refine EL.val (bd_23_0_1 rfl rfl) rfl ?_
  refine EL.newP al_23 rfl ?_
  intro g8 w8 q8 hb8 hg8 hl8
  have n1_8 : g1 ≠ g8 := Nat.ne_of_lt (Nat.lt_of_lt_of_le q1.lt hg8)
  have n2_8 : g2 ≠ g8 := Nat.ne_of_lt (Nat.lt_of_lt_of_le q2.lt hg8)
  have n3_8 : g3 ≠ g8 := Nat.ne_of_lt (Nat.lt_of_lt_of_le q3.lt hg8)
  have n4_8 : g4 ≠ g8 := Nat.ne_of_lt (Nat.lt_of_lt_of_le q4.lt hg8)
  have n5_8 : g5 ≠ g8 := Nat.ne_of_lt (Nat.lt_of_lt_of_le q5.lt hg8)
  have n6_8 : g6 ≠ g8 := Nat.ne_of_lt (Nat.lt_of_lt_of_le q6.lt hg8)
  have bhbw_8 := Nat.le_trans hbw.size hg8
  replace q1 := q1.below hb8 q1.lt
  replace q2 := q2.below hb8 q2.lt
  replace q3 := q3.below hb8 q3.lt
  replace q4 := q4.below hb8 q4.lt
  replace q5 := q5.below hb8 q5.lt
  replace q6 := q6.below hb8 q6.lt
  replace hbw := Below.on hbw hb8 hbw.size
  clear hb8 hg8 hl8
  refine EL.newP al_23 rfl ?_
  intro g9 w9 q9 hb9 hg9 hl9
  have n1_9 : g1 ≠ g9 := Nat.ne_of_lt (Nat.lt_of_lt_of_le q1.lt hg9)
  have n2_9 : g2 ≠ g9 := Nat.ne_of_lt (Nat.lt_of_lt_of_le q2.lt hg9)
  have n3_9 : g3 ≠ g9 := Nat.ne_of_lt (Nat.lt_of_lt_of_le q3.lt hg9)
  have n4_9 : g4 ≠ g9 := Nat.ne_of_lt (Nat.lt_of_lt_of_le q4.lt hg9)
  have n5_9 : g5 ≠ g9 := Nat.ne_of_lt (Nat.lt_of_lt_of_le q5.lt hg9)
  have n6_9 : g6 ≠ g9 := Nat.ne_of_lt (Nat.lt_of_lt_of_le q6.lt hg9)
  have n8_9 : g8 ≠ g9 := Nat.ne_of_lt (Nat.lt_of_lt_of_le q8.lt hg9)
  have bhbw_9 := Nat.le_trans hbw.size hg9
  replace q1 := q1.below hb9 q1.lt
  replace q2 := q2.below hb9 q2.lt
  replace q3 := q3.below hb9 q3.lt
  replace q4 := q4.below hb9 q4.lt
  replace q5 := q5.below hb9 q5.lt
  replace q6 := q6.below hb9 q6.lt
  replace q8 := q8.below hb9 q8.lt
  replace hbw := Below.on hbw hb9 hbw.size
  clear hb9 hg9 hl9
  refine EL.store rfl rfl q8 sz_23 rfl rfl rfl rfl ?_
  intro w10 hq10 hg10
  replace q1 := q1.grown hg10 (fun h => n1_8 (Option.some.inj h))
  replace q2 := q2.grown hg10 (fun h => n2_8 (Option.some.inj h))
  replace q3 := q3.grown hg10 (fun h => n3_8 (Option.some.inj h))
  replace q4 := q4.grown hg10 (fun h => n4_8 (Option.some.inj h))
  replace q5 := q5.grown hg10 (fun h => n5_8 (Option.some.inj h))
  replace q6 := q6.grown hg10 (fun h => n6_8 (Option.some.inj h))
  replace q9 := q9.grown hg10 (fun h => n8_9.symm (Option.some.inj h))
  replace hbw := below_store hbw hg10 bhbw_8
  replace q8 := hq10
  clear hg10 hq10
  refine EL.store rfl rfl q9 sz_23 rfl rfl rfl rfl ?_
  intro w11 hq11 hg11
  replace q1 := q1.grown hg11 (fun h => n1_9 (Option.some.inj h))
  replace q2 := q2.grown hg11 (fun h => n2_9 (Option.some.inj h))
  replace q3 := q3.grown hg11 (fun h => n3_9 (Option.some.inj h))
  replace q4 := q4.grown hg11 (fun h => n4_9 (Option.some.inj h))
  replace q5 := q5.grown hg11 (fun h => n5_9 (Option.some.inj h))
  replace q6 := q6.grown hg11 (fun h => n6_9 (Option.some.inj h))
  replace q8 := q8.grown hg11 (fun h => n8_9 (Option.some.inj h))
  replace hbw := below_store hbw hg11 bhbw_9
  replace q9 := hq11
  clear hg11 hq11
  refine EL.nil ?_
  refine EX.seq ?_
  refine EC.seq ?_
  have lt_1 := q1.lt
  have lt_2 := q2.lt
  have lt_3 := q3.lt
  have lt_4 := q4.lt
  have lt_5 := q5.lt
  have lt_6 := q6.lt
  have lt_8 := q8.lt
  have lt_9 := q9.lt
  refine EC.regionS [[], [], [], [], [], [1, 2, 3, 4], [], [], [], [], [6, 7, 8, 9], [1, 2, 3, 4, 5, 6, 7, 8, 9, 10], [0], [0, 1, 2, 3, 4, 5, 6, 7, 8, 9, 10, 11, 12]] 13 [] [12] (fun fl w_ => w11.grownBy w_ (some g1) ∧ (fl 12 = false → Blk w_ g1 47 _)) (phiS (fun i_ r => match i_ with | 0 => r 0 = .agg #[.slice (some ⟨g4, 0, none⟩) 2 2, .slice (some ⟨g5, 0, none⟩) 1 1] | 1 => r 1 = .agg #[.int .i64 2000, .int .i64 3000] | 2 => r 2 = .agg #[.int .i64 2000, .int .i64 3000] | 3 => r 3 = .agg #[.int .i64 2000, .int .i64 3000] | 4 => r 4 = .agg #[.int .i64 2000, .int .i64 3000] | 6 => r 6 = .agg #[.int .i64 500, .int .i64 500] | 7 => r 7 = .agg #[.int .i64 500, .int .i64 500] | 8 => r 8 = .agg #[.int .i64 500, .int .i64 500] | 9 => r 9 = .agg #[.int .i64 500, .int .i64 500] | _ => True) [(5, fun _ r w_ => ∃ g_, r 5 = .slice (some ⟨g_, 0, none⟩) 4 4 ∧ Blk w_ g_ 23 #[.int .i64 2000, .int .i64 3000, .int .i64 2000, .int .i64 3000, .int .i64 2000, .int .i64 3000, .int .i64 2000, .int .i64 3000] ∧ w11.heap.size ≤ g_), (10, fun _ r w_ => ∃ g_, r 10 = .slice (some ⟨g_, 0, none⟩) 4 4 ∧ Blk w_ g_ 23 #[.int .i64 500, .int .i64 500, .int .i64 500, .int .i64 500, .int .i64 500, .int .i64 500, .int .i64 500, .int .i64 500] ∧ w11.heap.size ≤ g_), (11, fun _ r w_ => ∃ g_, r 11 = .slice (some ⟨g_, 0, none⟩) 2 2 ∧ Blk w_ g_ 28 #[r 5, r 10] ∧ w11.heap.size ≤ g_), (12, fun _ r w_ => Blk w_ g1 47 #[.slice (some ⟨g4, 0, none⟩) 2 2, .slice (some ⟨g5, 0, none⟩) 1 1])]) (by kernel_rfl) rfl rfl (by intro i hi; simp at hi; first | (subst hi; exact ⟨by simp, by omega⟩) | (rcases hi with rfl | rfl | rfl <;> exact ⟨by simp, by omega⟩) | (rcases hi with rfl | rfl <;> exact ⟨by simp, by omega⟩)) (base_own q1) (phiS_cons monoS_bs (phiS_cons monoS_bs (phiS_cons monoS_bs (phiS_cons monoS_own (phiS_nil))))) (fun i_ hi_ hs_ => ?_) (fun i_ hi_ => ?_) ?_
  · match i_, hi_ with
    | 0, _ =>
      intro val fl w1 a hb ha hd hfl
      obtain ⟨hb, hg0⟩ := hb
      have ha := ha.sub (Sub.ins (d := 2) (Sub.nil _) rfl)
      exact ss_val ha rfl rfl (ld_47 rfl ((q6.grown hb (fun h => n1_6.symm (Option.some.inj h))).at (j := 0) rfl) ((q6.grown hb (fun h => n1_6.symm (Option.some.inj h))).at (j := 1) rfl)) rfl rfl
    | 1, _ =>
      intro val fl w1 a hb ha hd hfl
      obtain ⟨hb, hg0⟩ := hb
      have ha := ha.sub (Sub.ins (d := 3) (Sub.nil _) rfl)
      exact ss_val ha rfl rfl (ld_23 rfl ((q8.grown hb (fun h => n1_8.symm (Option.some.inj h))).at (j := 0) rfl) ((q8.grown hb (fun h => n1_8.symm (Option.some.inj h))).at (j := 1) rfl)) rfl rfl
    | 2, _ =>
      intro val fl w1 a hb ha hd hfl
      obtain ⟨hb, hg0⟩ := hb
      have ha := ha.sub (Sub.ins (d := 3) (Sub.nil _) rfl)
      exact ss_val ha rfl rfl (ld_23 rfl ((q8.grown hb (fun h => n1_8.symm (Option.some.inj h))).at (j := 0) rfl) ((q8.grown hb (fun h => n1_8.symm (Option.some.inj h))).at (j := 1) rfl)) rfl rfl
    | 3, _ =>
      intro val fl w1 a hb ha hd hfl
      obtain ⟨hb, hg0⟩ := hb
      have ha := ha.sub (Sub.ins (d := 3) (Sub.nil _) rfl)
      exact ss_val ha rfl rfl (ld_23 rfl ((q8.grown hb (fun h => n1_8.symm (Option.some.inj h))).at (j := 0) rfl) ((q8.grown hb (fun h => n1_8.symm (Option.some.inj h))).at (j := 1) rfl)) rfl rfl
    | 4, _ =>
      intro val fl w1 a hb ha hd hfl
      obtain ⟨hb, hg0⟩ := hb
      have ha := ha.sub (Sub.ins (d := 3) (Sub.nil _) rfl)
      exact ss_val ha rfl rfl (ld_23 rfl ((q8.grown hb (fun h => n1_8.symm (Option.some.inj h))).at (j := 0) rfl) ((q8.grown hb (fun h => n1_8.symm (Option.some.inj h))).at (j := 1) rfl)) rfl rfl
    | 5, _ =>
      intro val fl w1 a hb ha hd hfl
      obtain ⟨hb, hg0⟩ := hb
      have e1 : val 1 = .agg #[.int .i64 2000, .int .i64 3000] := hd 1 (memB_mem.1 rfl)
      have e2 : val 2 = .agg #[.int .i64 2000, .int .i64 3000] := hd 2 (memB_mem.1 rfl)
      have e3 : val 3 = .agg #[.int .i64 2000, .int .i64 3000] := hd 3 (memB_mem.1 rfl)
      have e4 : val 4 = .agg #[.int .i64 2000, .int .i64 3000] := hd 4 (memB_mem.1 rfl)
      have ha := ha.sub (Sub.ins (d := 29) (Sub.ins (d := 28) (Sub.ins (d := 27) (Sub.ins (d := 26) (Sub.nil _) (dep_get rfl e1)) (dep_get rfl e2)) (dep_get rfl e3)) (dep_get rfl e4))
      exact ss_newS ha rfl rfl (bs_28_4 rfl rfl rfl rfl) rfl (fun g w' hq _ hge => ⟨g, rfl, hq, Nat.le_trans hb.size hge⟩)
    | 6, _ =>
      intro val fl w1 a hb ha hd hfl
      obtain ⟨hb, hg0⟩ := hb
      have ha := ha.sub (Sub.ins (d := 4) (Sub.nil _) rfl)
      exact ss_val ha rfl rfl (ld_23 rfl ((q9.grown hb (fun h => n1_9.symm (Option.some.inj h))).at (j := 0) rfl) ((q9.grown hb (fun h => n1_9.symm (Option.some.inj h))).at (j := 1) rfl)) rfl rfl
    | 7, _ =>
      intro val fl w1 a hb ha hd hfl
      obtain ⟨hb, hg0⟩ := hb
      have ha := ha.sub (Sub.ins (d := 4) (Sub.nil _) rfl)
      exact ss_val ha rfl rfl (ld_23 rfl ((q9.grown hb (fun h => n1_9.symm (Option.some.inj h))).at (j := 0) rfl) ((q9.grown hb (fun h => n1_9.symm (Option.some.inj h))).at (j := 1) rfl)) rfl rfl
    | 8, _ =>
      intro val fl w1 a hb ha hd hfl
      obtain ⟨hb, hg0⟩ := hb
      have ha := ha.sub (Sub.ins (d := 4) (Sub.nil _) rfl)
      exact ss_val ha rfl rfl (ld_23 rfl ((q9.grown hb (fun h => n1_9.symm (Option.some.inj h))).at (j := 0) rfl) ((q9.grown hb (fun h => n1_9.symm (Option.some.inj h))).at (j := 1) rfl)) rfl rfl
    | 9, _ =>
      intro val fl w1 a hb ha hd hfl
      obtain ⟨hb, hg0⟩ := hb
      have ha := ha.sub (Sub.ins (d := 4) (Sub.nil _) rfl)
      exact ss_val ha rfl rfl (ld_23 rfl ((q9.grown hb (fun h => n1_9.symm (Option.some.inj h))).at (j := 0) rfl) ((q9.grown hb (fun h => n1_9.symm (Option.some.inj h))).at (j := 1) rfl)) rfl rfl
    | 10, _ =>
      intro val fl w1 a hb ha hd hfl
      obtain ⟨hb, hg0⟩ := hb
      have e6 : val 6 = .agg #[.int .i64 500, .int .i64 500] := hd 6 (memB_mem.1 rfl)
      have e7 : val 7 = .agg #[.int .i64 500, .int .i64 500] := hd 7 (memB_mem.1 rfl)
      have e8 : val 8 = .agg #[.int .i64 500, .int .i64 500] := hd 8 (memB_mem.1 rfl)
      have e9 : val 9 = .agg #[.int .i64 500, .int .i64 500] := hd 9 (memB_mem.1 rfl)
      have ha := ha.sub (Sub.ins (d := 34) (Sub.ins (d := 33) (Sub.ins (d := 32) (Sub.ins (d := 31) (Sub.nil _) (dep_get rfl e6)) (dep_get rfl e7)) (dep_get rfl e8)) (dep_get rfl e9))
      exact ss_newS ha rfl rfl (bs_28_4 rfl rfl rfl rfl) rfl (fun g w' hq _ hge => ⟨g, rfl, hq, Nat.le_trans hb.size hge⟩)
    | 11, _ =>
      intro val fl w1 a hb ha hd hfl
      obtain ⟨hb, hg0⟩ := hb
      obtain ⟨g5_, e5, q5_, h5_⟩ := hd 5 (memB_mem.1 rfl)
      change val 5 = _ at e5
      obtain ⟨g10_, e10, q10_, h10_⟩ := hd 10 (memB_mem.1 rfl)
      change val 10 = _ at e10
      have ha := ha.sub (Sub.ins (d := 35) (Sub.ins (d := 30) (Sub.nil _) (dep_get rfl e5)) (dep_get rfl e10))
      exact ss_newS ha rfl rfl (bs_52_2 rfl rfl) rfl (fun g w' hq _ hge => ⟨g, rfl, (by show Blk _ _ _ #[val 5, val 10]; rw [e5, e10]; exact hq), Nat.le_trans hb.size hge⟩)
    | 12, _ =>
      exact absurd (by simp) hs_
    | k + 13, h => exact absurd h (by omega)
  · simp only [List.mem_singleton] at hi_; subst hi_
    intro val fl w1 a hb hfi ha hd hfl
    obtain ⟨hb, hg0⟩ := hb
    have e0 : val 0 = .agg #[.slice (some ⟨g4, 0, none⟩) 2 2, .slice (some ⟨g5, 0, none⟩) 1 1] := hd 0 (memB_mem.1 rfl)
    have ha := ha.sub (Sub.ins (d := 25) (Sub.ins (d := 0) (Sub.nil _) rfl) (dep_get rfl e0))
    refine ts_store ha rfl rfl rfl (hg0 hfi) sz_47 rfl rfl rfl rfl ?_
    intro w' hq hgr
    refine ⟨undef, rfl, hgr.size, ⟨grown_two hb hgr, fun h => by rw [fset_eq] at h; cases h⟩, hq, fun j _ hj hn hA => ?_⟩
    exact phiS_cons_st (C := fun j => j ≠ 12 ∧ 12 ∉ clsAt [[], [], [], [], [], [1, 2, 3, 4], [], [], [], [], [6, 7, 8, 9], [1, 2, 3, 4, 5, 6, 7, 8, 9, 10], [0], [0, 1, 2, 3, 4, 5, 6, 7, 8, 9, 10, 11, 12]] j ∧ ∀ p ∈ [], (p = j ∨ p ∈ clsAt [[], [], [], [], [], [1, 2, 3, 4], [], [], [], [], [6, 7, 8, 9], [1, 2, 3, 4, 5, 6, 7, 8, 9, 10], [0], [0, 1, 2, 3, 4, 5, 6, 7, 8, 9, 10, 11, 12]] j) → ∀ q ∈ [], (q = 12 ∨ q ∈ clsAt [[], [], [], [], [], [1, 2, 3, 4], [], [], [], [], [6, 7, 8, 9], [1, 2, 3, 4, 5, 6, 7, 8, 9, 10], [0], [0, 1, 2, 3, 4, 5, 6, 7, 8, 9, 10, 11, 12]] 12) → p ≠ q → val p ≠ val q) (fun _ ⟨g, h1, h2, h3⟩ => ⟨g, h1, h2.grown hgr (fun h => by injection h with h; omega), h3⟩) (phiS_cons_st (C := fun j => j ≠ 12 ∧ 12 ∉ clsAt [[], [], [], [], [], [1, 2, 3, 4], [], [], [], [], [6, 7, 8, 9], [1, 2, 3, 4, 5, 6, 7, 8, 9, 10], [0], [0, 1, 2, 3, 4, 5, 6, 7, 8, 9, 10, 11, 12]] j ∧ ∀ p ∈ [], (p = j ∨ p ∈ clsAt [[], [], [], [], [], [1, 2, 3, 4], [], [], [], [], [6, 7, 8, 9], [1, 2, 3, 4, 5, 6, 7, 8, 9, 10], [0], [0, 1, 2, 3, 4, 5, 6, 7, 8, 9, 10, 11, 12]] j) → ∀ q ∈ [], (q = 12 ∨ q ∈ clsAt [[], [], [], [], [], [1, 2, 3, 4], [], [], [], [], [6, 7, 8, 9], [1, 2, 3, 4, 5, 6, 7, 8, 9, 10], [0], [0, 1, 2, 3, 4, 5, 6, 7, 8, 9, 10, 11, 12]] 12) → p ≠ q → val p ≠ val q) (fun _ ⟨g, h1, h2, h3⟩ => ⟨g, h1, h2.grown hgr (fun h => by injection h with h; omega), h3⟩) (phiS_cons_st (C := fun j => j ≠ 12 ∧ 12 ∉ clsAt [[], [], [], [], [], [1, 2, 3, 4], [], [], [], [], [6, 7, 8, 9], [1, 2, 3, 4, 5, 6, 7, 8, 9, 10], [0], [0, 1, 2, 3, 4, 5, 6, 7, 8, 9, 10, 11, 12]] j ∧ ∀ p ∈ [], (p = j ∨ p ∈ clsAt [[], [], [], [], [], [1, 2, 3, 4], [], [], [], [], [6, 7, 8, 9], [1, 2, 3, 4, 5, 6, 7, 8, 9, 10], [0], [0, 1, 2, 3, 4, 5, 6, 7, 8, 9, 10, 11, 12]] j) → ∀ q ∈ [], (q = 12 ∨ q ∈ clsAt [[], [], [], [], [], [1, 2, 3, 4], [], [], [], [], [6, 7, 8, 9], [1, 2, 3, 4, 5, 6, 7, 8, 9, 10], [0], [0, 1, 2, 3, 4, 5, 6, 7, 8, 9, 10, 11, 12]] 12) → p ≠ q → val p ≠ val q) (fun _ ⟨g, h1, h2, h3⟩ => ⟨g, h1, h2.grown hgr (fun h => by injection h with h; omega), h3⟩) (phiS_cons_st (C := fun j => j ≠ 12 ∧ 12 ∉ clsAt [[], [], [], [], [], [1, 2, 3, 4], [], [], [], [], [6, 7, 8, 9], [1, 2, 3, 4, 5, 6, 7, 8, 9, 10], [0], [0, 1, 2, 3, 4, 5, 6, 7, 8, 9, 10, 11, 12]] j ∧ ∀ p ∈ [], (p = j ∨ p ∈ clsAt [[], [], [], [], [], [1, 2, 3, 4], [], [], [], [], [6, 7, 8, 9], [1, 2, 3, 4, 5, 6, 7, 8, 9, 10], [0], [0, 1, 2, 3, 4, 5, 6, 7, 8, 9, 10, 11, 12]] j) → ∀ q ∈ [], (q = 12 ∨ q ∈ clsAt [[], [], [], [], [], [1, 2, 3, 4], [], [], [], [], [6, 7, 8, 9], [1, 2, 3, 4, 5, 6, 7, 8, 9, 10], [0], [0, 1, 2, 3, 4, 5, 6, 7, 8, 9, 10, 11, 12]] 12) → p ≠ q → val p ≠ val q) (fun hc => absurd rfl hc.1) (fun _ _ h => h)))) j ⟨hj, hn, hA⟩
  · intro val fl w' hfl hb halc hd
    obtain ⟨hb, _⟩ := hb
    have e0 : val 0 = .agg #[.slice (some ⟨g4, 0, none⟩) 2 2, .slice (some ⟨g5, 0, none⟩) 1 1] := hd 0 (by omega)
    have e1 : val 1 = .agg #[.int .i64 2000, .int .i64 3000] := hd 1 (by omega)
    have e2 : val 2 = .agg #[.int .i64 2000, .int .i64 3000] := hd 2 (by omega)
    have e3 : val 3 = .agg #[.int .i64 2000, .int .i64 3000] := hd 3 (by omega)
    have e4 : val 4 = .agg #[.int .i64 2000, .int .i64 3000] := hd 4 (by omega)
    obtain ⟨ga5, e5, qa5, hga5⟩ := hd 5 (by omega)
    change val 5 = _ at e5
    change Blk w' ga5 23 #[.int .i64 2000, .int .i64 3000, .int .i64 2000, .int .i64 3000, .int .i64 2000, .int .i64 3000, .int .i64 2000, .int .i64 3000] at qa5
    have e6 : val 6 = .agg #[.int .i64 500, .int .i64 500] := hd 6 (by omega)
    have e7 : val 7 = .agg #[.int .i64 500, .int .i64 500] := hd 7 (by omega)
    have e8 : val 8 = .agg #[.int .i64 500, .int .i64 500] := hd 8 (by omega)
    have e9 : val 9 = .agg #[.int .i64 500, .int .i64 500] := hd 9 (by omega)
    obtain ⟨ga10, e10, qa10, hga10⟩ := hd 10 (by omega)
    change val 10 = _ at e10
    change Blk w' ga10 23 #[.int .i64 500, .int .i64 500, .int .i64 500, .int .i64 500, .int .i64 500, .int .i64 500, .int .i64 500, .int .i64 500] at qa10
    obtain ⟨ga11, e11, qa11, hga11⟩ := hd 11 (by omega)
    change val 11 = _ at e11
    change Blk w' ga11 28 #[val 5, val 10] at qa11
    rw [e5, e10] at qa11
    refine EL.ends (cs := [.agg #[.slice (some ⟨g4, 0, none⟩) 2 2, .slice (some ⟨g5, 0, none⟩) 1 1], .agg #[.int .i64 2000, .int .i64 3000], .agg #[.int .i64 2000, .int .i64 3000], .agg #[.int .i64 2000, .int .i64 3000], .agg #[.int .i64 2000, .int .i64 3000], .slice (some ⟨ga5, 0, none⟩) 4 4, .agg #[.int .i64 500, .int .i64 500], .agg #[.int .i64 500, .int .i64 500], .agg #[.int .i64 500, .int .i64 500], .agg #[.int .i64 500, .int .i64 500], .slice (some ⟨ga10, 0, none⟩) 4 4, .slice (some ⟨ga11, 0, none⟩) 2 2, val 12]) ⟨e0, e1, e2, e3, e4, e5, e6, e7, e8, e9, e10, e11, rfl, trivial⟩ rfl ?_
    have q1 : Blk w' g1 47 #[.slice (some ⟨g4, 0, none⟩) 2 2, .slice (some ⟨g5, 0, none⟩) 1 1] := hd 12 (by omega)
    replace q2 := q2.grown hb (fun h => n1_2.symm (Option.some.inj h))
    replace q3 := q3.grown hb (fun h => n1_3.symm (Option.some.inj h))
    replace q4 := q4.grown hb (fun h => n1_4.symm (Option.some.inj h))
    replace q5 := q5.grown hb (fun h => n1_5.symm (Option.some.inj h))
    replace q6 := q6.grown hb (fun h => n1_6.symm (Option.some.inj h))
    replace q8 := q8.grown hb (fun h => n1_8.symm (Option.some.inj h))
    replace q9 := q9.grown hb (fun h => n1_9.symm (Option.some.inj h))
    have bge12 := hga5
    have n1_12 : g1 ≠ ga5 := Nat.ne_of_lt (Nat.lt_of_lt_of_le lt_1 bge12)
    have n2_12 : g2 ≠ ga5 := Nat.ne_of_lt (Nat.lt_of_lt_of_le lt_2 bge12)
    have n3_12 : g3 ≠ ga5 := Nat.ne_of_lt (Nat.lt_of_lt_of_le lt_3 bge12)
    have n4_12 : g4 ≠ ga5 := Nat.ne_of_lt (Nat.lt_of_lt_of_le lt_4 bge12)
    have n5_12 : g5 ≠ ga5 := Nat.ne_of_lt (Nat.lt_of_lt_of_le lt_5 bge12)
    have n6_12 : g6 ≠ ga5 := Nat.ne_of_lt (Nat.lt_of_lt_of_le lt_6 bge12)
    have n8_12 : g8 ≠ ga5 := Nat.ne_of_lt (Nat.lt_of_lt_of_le lt_8 bge12)
    have n9_12 : g9 ≠ ga5 := Nat.ne_of_lt (Nat.lt_of_lt_of_le lt_9 bge12)
    have bhbw_12 := Nat.le_trans hbw.size bge12
    have bge13 := hga10
    have n1_13 : g1 ≠ ga10 := Nat.ne_of_lt (Nat.lt_of_lt_of_le lt_1 bge13)
    have n2_13 : g2 ≠ ga10 := Nat.ne_of_lt (Nat.lt_of_lt_of_le lt_2 bge13)
    have n3_13 : g3 ≠ ga10 := Nat.ne_of_lt (Nat.lt_of_lt_of_le lt_3 bge13)
    have n4_13 : g4 ≠ ga10 := Nat.ne_of_lt (Nat.lt_of_lt_of_le lt_4 bge13)
    have n5_13 : g5 ≠ ga10 := Nat.ne_of_lt (Nat.lt_of_lt_of_le lt_5 bge13)
    have n6_13 : g6 ≠ ga10 := Nat.ne_of_lt (Nat.lt_of_lt_of_le lt_6 bge13)
    have n8_13 : g8 ≠ ga10 := Nat.ne_of_lt (Nat.lt_of_lt_of_le lt_8 bge13)
    have n9_13 : g9 ≠ ga10 := Nat.ne_of_lt (Nat.lt_of_lt_of_le lt_9 bge13)
    have bhbw_13 := Nat.le_trans hbw.size bge13
    have bge14 := hga11
    have n1_14 : g1 ≠ ga11 := Nat.ne_of_lt (Nat.lt_of_lt_of_le lt_1 bge14)
    have n2_14 : g2 ≠ ga11 := Nat.ne_of_lt (Nat.lt_of_lt_of_le lt_2 bge14)
    have n3_14 : g3 ≠ ga11 := Nat.ne_of_lt (Nat.lt_of_lt_of_le lt_3 bge14)
    have n4_14 : g4 ≠ ga11 := Nat.ne_of_lt (Nat.lt_of_lt_of_le lt_4 bge14)
    have n5_14 : g5 ≠ ga11 := Nat.ne_of_lt (Nat.lt_of_lt_of_le lt_5 bge14)
    have n6_14 : g6 ≠ ga11 := Nat.ne_of_lt (Nat.lt_of_lt_of_le lt_6 bge14)
    have n8_14 : g8 ≠ ga11 := Nat.ne_of_lt (Nat.lt_of_lt_of_le lt_8 bge14)
    have n9_14 : g9 ≠ ga11 := Nat.ne_of_lt (Nat.lt_of_lt_of_le lt_9 bge14)
    have bhbw_14 := Nat.le_trans hbw.size bge14
    replace hbw := below_store hbw hb bhbw_1
    refine EL.val (x_assign rfl) rfl ?_
    refine EL.nil ?_
    refine EX.seq ?_
    refine EC.ret ?_
    refine EX.done (resct rfl rfl rfl (lv_47 (q1.at rfl) (q1.at rfl))) ⟨⟨_, _, _, [_, _], [_, _], rfl, ⟨⟨rfl, rd_blk q4 rfl, ?_⟩, rd_blk q5 rfl⟩, ⟨rfl, rd_blk qa11 rfl, ?_⟩⟩, hbw⟩
    · intro i hi
      match i, hi with
      | 0, _ => exact rd_blk q2 rfl
      | 1, _ => exact rd_blk q3 rfl
    · intro i hi
      match i, hi with
      | 0, _ => exact rd_blk qa5 rfl
      | 1, _ => exact rd_blk qa10 rfl
def twoF0 : List Bd := [⟨2000, 3000⟩, ⟨2000, 3000⟩, ⟨2000, 3000⟩, ⟨2000, 3000⟩]
def twoF1 : List Bd := [⟨1500, 1500⟩, ⟨1500, 1500⟩, ⟨2500, 3500⟩, ⟨2500, 3500⟩]
theorem two_start : startErr twoR twoS = 0 := by decide
theorem two_flows : flowsUp twoR.reaches twoS twoS.length = [twoF0, twoF1] := by rfl
theorem two_depth : depthAt twoR twoS 120 3 = ⟨98, 110⟩ := by rfl
def twoLand : Land := ⟨10, 50, 2, ⟨100, 150⟩⟩
def twoSky : List Sky := [⟨⟨200, 300⟩, ⟨10, 40⟩⟩]
theorem two_catch : catchErr twoLand twoSky = 0 := by decide
theorem two_runoff : flowsTo twoLand twoSky 1 = [⟨11000, 19000⟩] := by rfl
theorem two_curves : CurvesB twoR.reaches := fun i hi => by
  match i, hi with
  | 0, _ => decide
  | 1, _ => decide
theorem two_sides : SidesB twoS := fun i hi => by
  match i, hi with
  | 0, _ => decide
  | 1, _ => decide
theorem flows_two (v u s : Value) (vs ss : List Value) (w : World) (B : Nat) (hr : RdRiver w B v u twoR vs) (hs : RdSides w B s twoS ss) (hB : B ≤ w.heap.size) :
    Calls Try.prog 40 #[.agg #[v, u], s] w fun e w' => (∃ b o c A1 c1 b1 o1, e = .returned (.tuple #[.slice (some ⟨b, o, none⟩) 2 c, .int .i64 0]) ∧ A1 = some ⟨b1, o1, none⟩ ∧ w'.cell? ⟨b, o + 1, none⟩ = some (.slice A1 4 c1) ∧
      w'.cell? ⟨b1, o1 + 1 * 2, none⟩ = some (.int .i64 1500) ∧ w'.cell? ⟨b1, o1 + 1 * 2 + 1, none⟩ = some (.int .i64 1500) ∧ w'.cell? ⟨b1, o1 + 2 * 2, none⟩ = some (.int .i64 2500) ∧ w'.cell? ⟨b1, o1 + 2 * 2 + 1, none⟩ = some (.int .i64 3500)) ∧ Below w.heap.size w w' := by
  refine (flows_any twoR twoS v u s vs ss w B hr hs hB (by decide) (by decide) two_curves (by decide) two_sides).mono fun e w' h => ?_
  obtain ⟨⟨v', fs, rfl, _, h2⟩, hb⟩ := h
  have hS := h2 two_start
  rw [two_flows] at hS
  rw [two_start]
  obtain ⟨A, c, rfl, _⟩ := hS.rd.shape
  obtain ⟨b, o, rfl, _, h3⟩ := sides_cell hS 1 (by decide)
  have h4 := hS.side 1 (by decide)
  obtain ⟨A1, c1, e1, _⟩ := h4.shape
  rw [e1] at h3 h4
  obtain ⟨b1, o1, rfl, _, h5, h6⟩ := bds_cells twoF1 1 (by decide) _ _ _ _ _ h4
  obtain ⟨b2, o2, e2, _, h7, h8⟩ := bds_cells twoF1 2 (by decide) _ _ _ _ _ h4
  injection e2 with e2
  injection e2 with e2 e3
  subst e2 e3
  exact ⟨⟨b, o, c, _, c1, b1, o1, rfl, rfl, h3, h5, h6, h7, h8⟩, hb⟩
theorem runoff_two (w : World) {g T : Nat} (hq : Blk w g T #[.int .i64 200, .int .i64 300, .int .i64 10, .int .i64 40]) :
    Calls Try.prog 17 #[.agg #[.int .i64 10, .int .i64 50, .int .i64 2, .int .i64 100, .int .i64 150], .slice (some ⟨g, 0, none⟩) 1 1] w fun e w' => (∃ b o c, e = .returned (.tuple #[.slice (some ⟨b, o, none⟩) 1 c, .int .i64 0]) ∧ w'.cell? ⟨b, o + 0 * 2, none⟩ = some (.int .i64 11000) ∧ w'.cell? ⟨b, o + 0 * 2 + 1, none⟩ = some (.int .i64 19000)) ∧ Below w.heap.size w w' := by
  refine (runoff_any twoLand twoSky _ w w.heap.size (rd_one (l := [.int .i64 200, .int .i64 300, .int .i64 10, .int .i64 40]) hq rfl) (Nat.le_refl _) (by decide)).mono fun e w' h => ?_
  obtain ⟨⟨v, rfl, _, h2⟩, hb⟩ := h
  have ho := Rd.of_own (h2 two_catch)
  rw [two_catch]
  rw [show flowsTo twoLand twoSky twoSky.length = [⟨11000, 19000⟩] from two_runoff] at ho
  obtain ⟨A, c, rfl, _⟩ := ho.shape
  obtain ⟨b, o, rfl, _, h3, h4⟩ := bds_cells [⟨11000, 19000⟩] 0 (by decide) _ _ _ _ _ ho
  exact ⟨⟨b, o, c, rfl, h3, h4⟩, hb⟩
theorem known_any (w : World) : Calls Try.prog 16 #[] w fun e w' => e = .returned (.bool true) ∧ Below w.heap.size w w' := by
  have hbw := Below.refl w.heap.size w
  refine EC.enter 90 Try.func16 rfl rfl rfl ?_
  refine EC.seq ?_
  refine EC.region ?_
  refine EL.val (x_assign rfl) rfl ?_
  refine EL.nil ?_
  refine EX.seq ?_
  refine EC.seq ?_
  refine EC.region ?_
  refine EL.call cl_56 rfl (two_any _) ?_
  rintro e w1 ⟨⟨v, u, s, vs, ss, rfl, hr, hs⟩, hc1⟩
  obtain ⟨A1, c1, rfl, _⟩ := hr.reaches.shape
  obtain ⟨A2, c2, rfl, _⟩ := hr.shoals.shape
  obtain ⟨A3, c3, rfl, _⟩ := hs.rd.shape
  refine ⟨_, rfl, ?_⟩
  replace hbw := Below.on hbw hc1 hbw.size
  have ha := Below.refl w1.heap.size w1
  refine EL.val (x_move rfl) rfl ?_
  refine EL.val (x_extract rfl rfl) rfl ?_
  refine EL.val (x_extract rfl rfl) rfl ?_
  refine EL.newP al_47 rfl ?_
  intro g2 w2 q2 hb2 hg2 hl2
  have bhbw_2 := Nat.le_trans hbw.size hg2
  have bha_2 := Nat.le_trans ha.size hg2
  replace hbw := Below.on hbw hb2 hbw.size
  replace ha := Below.on ha hb2 ha.size
  clear hb2 hg2 hl2
  refine EL.store rfl rfl q2 sz_47 rfl rfl rfl rfl ?_
  intro w3 hq3 hg3
  replace hbw := below_store hbw hg3 bhbw_2
  replace ha := below_store ha hg3 bha_2
  replace q2 := hq3
  clear hg3 hq3
  refine EL.val (x_assign rfl) rfl ?_
  refine EL.nil ?_
  refine EX.seq ?_
  refine EC.seq ?_
  refine EC.region ?_
  refine EL.val (ld_47 rfl (q2.at (j := 0) rfl) (q2.at (j := 1) rfl)) rfl ?_
  refine EL.val (x_move rfl) rfl ?_
  refine EL.call (cl_40 rfl rfl) rfl (flows_two _ _ _ vs ss _ _ (hr.below ha) (hs.below ha) ha.size) ?_
  rintro e w4 ⟨⟨fb, fo, fc, _, fc1, fb1, fo1, rfl, rfl, f1, f2, f3, f4, f5⟩, hc4⟩
  refine ⟨_, rfl, ?_⟩
  replace q2 := q2.below hc4 q2.lt
  replace hbw := Below.on hbw hc4 hbw.size
  replace ha := Below.on ha hc4 ha.size
  have hfl := Below.refl w4.heap.size w4
  refine EL.val (x_move rfl) rfl ?_
  refine EL.val (x_extract rfl rfl) rfl ?_
  refine EL.val (x_extract rfl rfl) rfl ?_
  refine EL.val (x_assign rfl) rfl ?_
  refine EL.val (x_assign rfl) rfl ?_
  refine EL.nil ?_
  refine EX.seq ?_
  refine EC.seq ?_
  refine EC.region ?_
  refine EL.val (ld_47 rfl (q2.at (j := 0) rfl) (q2.at (j := 1) rfl)) rfl ?_
  refine EL.val (x_move rfl) rfl ?_
  refine EL.call (cl_33 rfl rfl rfl rfl) rfl (by have h := dep_ok twoR twoS _ _ _ vs ss _ _ (hr.below ha) (hs.below ha) ha.size (by decide) (by decide) two_curves (by decide) two_sides 120 3 two_start (by decide) (by decide); rw [two_depth] at h; exact h) ?_
  rintro e w5 ⟨rfl, hc5⟩
  refine ⟨_, rfl, ?_⟩
  replace q2 := q2.below hc5 q2.lt
  replace hbw := Below.on hbw hc5 hbw.size
  replace ha := Below.on ha hc5 ha.size
  replace hfl := Below.on hfl hc5 hfl.size
  clear hc5
  refine EL.val (x_move rfl) rfl ?_
  refine EL.val (x_extract rfl rfl) rfl ?_
  refine EL.val (x_extract rfl rfl) rfl ?_
  refine EL.newP al_23 rfl ?_
  intro g6 w6 q6 hb6 hg6 hl6
  have n2_6 : g2 ≠ g6 := Nat.ne_of_lt (Nat.lt_of_lt_of_le q2.lt hg6)
  have bhbw_6 := Nat.le_trans hbw.size hg6
  have bha_6 := Nat.le_trans ha.size hg6
  have bhfl_6 := Nat.le_trans hfl.size hg6
  replace q2 := q2.below hb6 q2.lt
  replace hbw := Below.on hbw hb6 hbw.size
  replace ha := Below.on ha hb6 ha.size
  replace hfl := Below.on hfl hb6 hfl.size
  clear hb6 hg6 hl6
  refine EL.store rfl rfl q6 sz_23 rfl rfl rfl rfl ?_
  intro w7 hq7 hg7
  replace q2 := q2.grown hg7 (fun h => n2_6 (Option.some.inj h))
  replace hbw := below_store hbw hg7 bhbw_6
  replace ha := below_store ha hg7 bha_6
  replace hfl := below_store hfl hg7 bhfl_6
  replace q6 := hq7
  clear hg7 hq7
  refine EL.val (x_assign rfl) rfl ?_
  refine EL.nil ?_
  refine EX.seq ?_
  refine EC.seq ?_
  refine EC.region ?_
  refine EL.val (bd_23_0_1 rfl rfl) rfl ?_
  refine EL.val (bd_25_0_1_2_3 rfl rfl rfl rfl) rfl ?_
  refine EL.val (bd_23_0_1 rfl rfl) rfl ?_
  refine EL.val (bd_23_0_1 rfl rfl) rfl ?_
  refine EL.val (bd_33_0_1 rfl rfl) rfl ?_
  refine EL.newS (bs_26_1 rfl) rfl ?_
  intro g8 w8 q8 hb8 hg8 hl8
  have n2_8 : g2 ≠ g8 := Nat.ne_of_lt (Nat.lt_of_lt_of_le q2.lt hg8)
  have n6_8 : g6 ≠ g8 := Nat.ne_of_lt (Nat.lt_of_lt_of_le q6.lt hg8)
  have bhbw_8 := Nat.le_trans hbw.size hg8
  have bha_8 := Nat.le_trans ha.size hg8
  have bhfl_8 := Nat.le_trans hfl.size hg8
  replace q2 := q2.below hb8 q2.lt
  replace q6 := q6.below hb8 q6.lt
  replace hbw := Below.on hbw hb8 hbw.size
  replace ha := Below.on ha hb8 ha.size
  replace hfl := Below.on hfl hb8 hfl.size
  clear hb8 hg8 hl8
  refine EL.call (cl_17 rfl rfl) rfl (runoff_two _ q8) ?_
  rintro e w9 ⟨⟨ob, oo, oc, rfl, o1, o2⟩, hc9⟩
  refine ⟨_, rfl, ?_⟩
  replace q2 := q2.below hc9 q2.lt
  replace q6 := q6.below hc9 q6.lt
  replace q8 := q8.below hc9 q8.lt
  replace hbw := Below.on hbw hc9 hbw.size
  replace ha := Below.on ha hc9 ha.size
  replace hfl := Below.on hfl hc9 hfl.size
  have hro := Below.refl w9.heap.size w9
  refine EL.val (x_move rfl) rfl ?_
  refine EL.val (x_extract rfl rfl) rfl ?_
  refine EL.val (x_extract rfl rfl) rfl ?_
  refine EL.val (x_assign rfl) rfl ?_
  refine EL.val (x_assign rfl) rfl ?_
  refine EL.nil ?_
  refine EX.seq ?_
  refine EC.seq ?_
  refine EC.seq ?_
  refine EC.region ?_
  refine EL.val (x_move rfl) rfl ?_
  refine EL.val (x_neq rfl rfl (by first | assumption | exact decide_eq_false (by omega))) rfl ?_
  refine EL.val (x_move rfl) rfl ?_
  refine EL.valg rfl rfl (x_move rfl) rfl ?_
  refine EL.valg rfl rfl (x_neq rfl rfl (by first | assumption | exact decide_eq_false (by omega))) rfl ?_
  refine EL.val (x_pick_f rfl rfl) rfl ?_
  refine EL.val (x_move rfl) rfl ?_
  refine EL.valg rfl rfl (x_move rfl) rfl ?_
  refine EL.valg rfl rfl (x_neq rfl rfl (by first | assumption | exact decide_eq_false (by omega))) rfl ?_
  refine EL.val (x_pick_f rfl rfl) rfl ?_
  refine EL.val (x_move rfl) rfl ?_
  refine EL.valg rfl rfl (x_move rfl) rfl ?_
  refine EL.valg rfl rfl (ln_52 rfl) rfl ?_
  refine EL.valg rfl rfl (x_neq rfl rfl (by first | assumption | exact decide_eq_false (by omega))) rfl ?_
  refine EL.val (x_pick_f rfl rfl) rfl ?_
  refine EL.val (x_move rfl) rfl ?_
  refine EL.valg rfl rfl (x_move rfl) rfl ?_
  refine EL.valg rfl rfl (ix_52 (k := 1) rfl rfl (by omega)) rfl ?_
  refine EL.valg rfl rfl (ld_28 rfl (below_load hfl f1)) rfl ?_
  refine EL.valg rfl rfl (ln_28 rfl) rfl ?_
  refine EL.valg rfl rfl (x_neq rfl rfl (by first | assumption | exact decide_eq_false (by omega))) rfl ?_
  refine EL.val (x_pick_f rfl rfl) rfl ?_
  refine EL.val (x_move rfl) rfl ?_
  refine EL.valg rfl rfl (x_move rfl) rfl ?_
  refine EL.valg rfl rfl (ln_28 rfl) rfl ?_
  refine EL.valg rfl rfl (x_neq rfl rfl (by first | assumption | exact decide_eq_false (by omega))) rfl ?_
  refine EL.val (x_pick_f rfl rfl) rfl ?_
  refine EL.nil ?_
  refine EX.seq ?_
  refine EC.no rfl ?_
  refine EC.skip ?_
  refine EX.seq ?_
  refine EC.seq ?_
  refine EC.region ?_
  refine EL.val (x_move rfl) rfl ?_
  refine EL.val (ix_52 (k := 1) rfl rfl (by omega)) rfl ?_
  refine EL.val (ld_28 rfl (below_load hfl f1)) rfl ?_
  refine EL.val (ix_28 (k := 1) rfl rfl (by omega)) rfl ?_
  refine EL.val (ld_23 rfl (below_load hfl f2) (below_load hfl f3)) rfl ?_
  refine EL.val (bd_23_0_1 rfl rfl) rfl ?_
  refine EL.val (eql_23 (r := true) rfl rfl (by decide)) rfl ?_
  refine EL.val (x_move rfl) rfl ?_
  refine EL.valg rfl rfl (x_move rfl) rfl ?_
  refine EL.valg rfl rfl (ix_52 (k := 1) rfl rfl (by omega)) rfl ?_
  refine EL.valg rfl rfl (ld_28 rfl (below_load hfl f1)) rfl ?_
  refine EL.valg rfl rfl (ix_28 (k := 2) rfl rfl (by omega)) rfl ?_
  refine EL.valg rfl rfl (ld_23 rfl (below_load hfl f4) (below_load hfl f5)) rfl ?_
  refine EL.valg rfl rfl (bd_23_0_1 rfl rfl) rfl ?_
  refine EL.valg rfl rfl (eql_23 (r := true) rfl rfl (by decide)) rfl ?_
  refine EL.val (x_pick_t rfl rfl) rfl ?_
  refine EL.val (x_move rfl) rfl ?_
  refine EL.valg rfl rfl (ld_23 rfl (q6.at (j := 0) rfl) (q6.at (j := 1) rfl)) rfl ?_
  refine EL.valg rfl rfl (bd_23_0_1 rfl rfl) rfl ?_
  refine EL.valg rfl rfl (eql_23 (r := true) rfl rfl (by decide)) rfl ?_
  refine EL.val (x_pick_t rfl rfl) rfl ?_
  refine EL.val (x_move rfl) rfl ?_
  refine EL.valg rfl rfl (x_move rfl) rfl ?_
  refine EL.valg rfl rfl (ix_28 (k := 0) rfl rfl (by omega)) rfl ?_
  refine EL.valg rfl rfl (ld_23 rfl (below_load hro o1) (below_load hro o2)) rfl ?_
  refine EL.valg rfl rfl (bd_23_0_1 rfl rfl) rfl ?_
  refine EL.valg rfl rfl (eql_23 (r := true) rfl rfl (by decide)) rfl ?_
  refine EL.val (x_pick_t rfl rfl) rfl ?_
  refine EL.val (x_assign rfl) rfl ?_
  refine EL.nil ?_
  refine EX.seq ?_
  refine EC.ret ?_
  exact EX.done (res1 rfl rfl) ⟨rfl, hbw⟩
end Go.Proofs.Ytncnlhkmdljgpaa
set_option linter.unusedVariables false
namespace Go.Proofs.Ytncnlhkmdljgpaa
open Go Go.RowKit
theorem mono_riv {k : Nat} {rv : River} : Mono fun r w => ∃ a b vs, r k = .agg #[a, b] ∧ RdRiver w w.heap.size a b rv vs := fun _ _ _ hb ⟨a, b, vs, h1, h2⟩ => ⟨a, b, vs, h1, h2.go hb⟩
theorem mono_sid {k : Nat} {l : List (List Bd)} : Mono fun r w => ∃ v ss, r k = v ∧ RdSides w w.heap.size v l ss := fun _ _ _ hb ⟨v, ss, h1, h2⟩ => ⟨v, ss, h1, h2.go hb⟩
theorem Fine.curves {rv : River} {sides : List (List Bd)} (h : Fine rv sides) : CurvesB rv.reaches := fun i hi => Nat.le_trans (h.curve i hi) (by decide)
theorem Fine.sidesB {rv : River} {sides : List (List Bd)} (h : Fine rv sides) : SidesB sides := fun i hi => Nat.le_trans (h.side i hi) (by decide)
section
variable {rv : River} {sides : List (List Bd)} {p t : Int}
end
end Go.Proofs.Ytncnlhkmdljgpaa
set_option linter.unusedVariables false
namespace Go.Proofs.Ytncnlhkmdljgpaa
open Go Go.RowKit
section
variable {w w' : World} {base base' e size n g T : Nat} {v u : Value} {xs : List Value} {cs : Array Value}
theorem own_type (h : w.ownsRow base e size v n xs) (hq : Blk w g T cs) (hT : Nat.beq T e = false) (hg : w.grownBy w' (some g)) : w'.ownsRow base e size v n xs :=
  h.kept hg (by
    obtain ⟨_, ⟨rfl, _⟩ | ⟨k, cap, cur, rfl, _, hk, _⟩⟩ := h
    · exact .inl rfl
    · refine .inr fun h' => ?_
      have h1 : k = g := by simpa [Value.ownBlock] using h'
      subst h1
      unfold Blk at hq
      have h2 : some (Obj.cells cs T (0, 0)) = some (Obj.cells cur e (0, 0)) := hq.symm.trans hk
      injection h2 with h2
      injection h2 with _ h3
      exact Nat.ne_of_beq_eq_false hT h3)
theorem Rows.type {osize tb : Nat} {outer : List Value} {fs : List Value} {F : List (Nat × List Value)} (h : Rows w base e osize v n outer tb size fs F) (hq : Blk w g T cs) (hT : Nat.beq T e = false) (hT2 : Nat.beq T tb = false) (hg : w.grownBy w' (some g)) : Rows w' base e osize v n outer tb size fs F :=
  ⟨own_type h.own hq hT hg, h.len, fun i hi => own_type (h.each i hi) hq hT2 hg, h.apart⟩
theorem Rows.less {osize tb : Nat} {outer : List Value} {fs : List Value} {F : List (Nat × List Value)} (h : Rows w base e osize v n outer tb size fs F) (hb : base' ≤ base) : Rows w base' e osize v n outer tb size fs F :=
  ⟨own_less h.own hb, h.len, fun i hi => own_less (h.each i hi) hb, h.apart⟩
end
/-- a river, a forecast that one owns -/
structure OwnRiver (w : World) (base : Nat) (v u : Value) (r : River) (vs : List Value) : Prop where
  rows : Rows w base 50 9 v r.reaches.length ((r.reaches.zip vs).flatMap reachC) 126 2 vs (rowsR r.reaches)
  sh : w.ownsRow base 97 6 u r.shoals.length (shoalsC r.shoals)
def OwnSides (w : World) (base : Nat) (v : Value) (l : List (List Bd)) (fs : List Value) : Prop := Rows w base 28 1 v l.length fs 23 2 fs (rowsB l)
section
variable {w w' : World} {base base' : Nat} {v u s : Value} {r : River} {vs ss : List Value} {l : List (List Bd)}
theorem OwnRiver.rd (h : OwnRiver w base v u r vs) : RdRiver w w.heap.size v u r vs := ⟨h.rows.reaches, Rd.of_own h.sh⟩
theorem OwnSides.rd (h : OwnSides w base s l ss) : RdSides w w.heap.size s l ss := Rows.sides h
theorem OwnRiver.below (h : OwnRiver w base v u r vs) (hb : Below w.heap.size w w') : OwnRiver w' base v u r vs := ⟨h.rows.below hb, own_below h.sh hb (Nat.le_refl _)⟩
theorem OwnSides.below (h : OwnSides w base s l ss) (hb : Below w.heap.size w w') : OwnSides w' base s l ss := Rows.below h hb
theorem OwnRiver.type {g T : Nat} {cs : Array Value} (h : OwnRiver w base v u r vs) (hq : Blk w g T cs) (h1 : Nat.beq T 50 = false) (h2 : Nat.beq T 126 = false) (h3 : Nat.beq T 97 = false) (hg : w.grownBy w' (some g)) : OwnRiver w' base v u r vs :=
  ⟨h.rows.type hq h1 h2 hg, own_type h.sh hq h3 hg⟩
theorem OwnSides.type {g T : Nat} {cs : Array Value} (h : OwnSides w base s l ss) (hq : Blk w g T cs) (h1 : Nat.beq T 28 = false) (h2 : Nat.beq T 23 = false) (hg : w.grownBy w' (some g)) : OwnSides w' base s l ss := Rows.type h hq h1 h2 hg
theorem OwnRiver.less (h : OwnRiver w base v u r vs) (hb : base' ≤ base) : OwnRiver w base' v u r vs := ⟨h.rows.less hb, own_less h.sh hb⟩
end
theorem copied_OR (r : River) (v u : Value) (vs : List Value) (w : World) (B : Nat) (hr : RdRiver w B v u r vs) (hB : B ≤ w.heap.size) (hl : r.reaches.length ≤ 1048575) (hl2 : r.shoals.length ≤ 1048576) (hcl : ∀ i, i < r.reaches.length → (r.reaches.getD i reach0).curve.length ≤ 1048576) :
    Calls Try.prog 24 #[.agg #[v, u]] w fun e w' => (∃ v' u' vs', e = .returned (.agg #[v', u']) ∧ OwnRiver w' w.heap.size v' u' r vs') ∧ Below w.heap.size w w' :=
  (copied_own r v u vs w B hr hB hl hl2 hcl).mono fun _ _ ⟨⟨v', u', vs', _, _, h1, ha, hb, h2, h3⟩, h4⟩ => ⟨⟨v', u', vs', h1, h2.less ha, own_less h3 hb⟩, h4⟩
end Go.Proofs.Ytncnlhkmdljgpaa
set_option linter.unusedVariables false
namespace Go.Proofs.Ytncnlhkmdljgpaa
open Go Go.RowKit
section
variable {P : Program} {w : World}
end
section
variable {P : Program} {n : Nat} {σ : Sg} {L : List Oper} {cls : List (List Nat)} {alc : List Nat} {val : Nat → Value} {a : Act} {w1 : World} {i : Nat} {Q : Exit → Act → World → Prop}
end
/-- a world of which some blocks are turned -/
structure Touch (w w1 : World) (gs : List Nat) : Prop where
  os : w1.os = w.os
  tape : w1.tape = w.tape
  output : w1.output = w.output
  size : w.heap.size ≤ w1.heap.size
  block : ∀ k, k < w.heap.size → k ∉ gs → w1.heap[k]? = w.heap[k]?
section
variable {w w1 w2 : World} {gs : List Nat} {g T : Nat} {cs : Array Value}
theorem Touch.start (w : World) (gs : List Nat) : Touch w { w with drawn := w.drawn + 1 } gs := ⟨rfl, rfl, rfl, Nat.le_refl _, fun _ _ _ => rfl⟩
theorem Touch.below (h : Touch w w1 gs) (hb : Below w1.heap.size w1 w2) : Touch w w2 gs :=
  ⟨hb.os.trans h.os, hb.tape.trans h.tape, hb.output.trans h.output, Nat.le_trans h.size hb.size, fun k hk hn => (hb.block k (Nat.lt_of_lt_of_le hk h.size)).trans (h.block k hk hn)⟩
theorem Touch.grown (h : Touch w w1 gs) (hg : w1.grownBy w2 (some g)) (hm : g ∈ gs) : Touch w w2 gs :=
  ⟨hg.os.trans h.os, hg.tape.trans h.tape, hg.output.trans h.output, Nat.le_trans h.size hg.size, fun k hk hn => (hg.block k (Nat.lt_of_lt_of_le hk h.size) (fun e => hn (by injection e with e; rw [e]; exact hm))).trans (h.block k hk hn)⟩
end
end Go.Proofs.Ytncnlhkmdljgpaa
set_option linter.unusedVariables false
namespace Go.Proofs.Ytncnlhkmdljgpaa
open Go Go.RowKit
/-- what pick and part return -/
def pickI (b : Bd) (y : Int) : Int := b.lo + ((b.hi - b.lo) * y).tdiv 255
def partI (l : List Int) (i : Nat) : Int := if l.length = 0 then 0 else l.getD (i % l.length) 0
theorem pick_bd {b : Bd} {y : Int} (h : b.lo ≤ b.hi) (h0 : 0 ≤ y) (h1 : y ≤ 255) : b.lo ≤ pickI b y ∧ pickI b y ≤ b.hi := by
  have h2 : 0 ≤ (b.hi - b.lo) * y := Int.mul_nonneg (by omega) h0
  have h3 : (b.hi - b.lo) * y ≤ (b.hi - b.lo) * 255 := Int.mul_le_mul_of_nonneg_left h1 (by omega)
  unfold pickI
  rw [Int.tdiv_eq_ediv_of_nonneg h2]
  have h4 : 0 ≤ (b.hi - b.lo) * y / 255 := Int.ediv_nonneg h2 (by omega)
  have h5 : (b.hi - b.lo) * y / 255 ≤ b.hi - b.lo := Int.ediv_le_of_le_mul (by omega) h3
  omega
theorem part_bd {l : List Int} (hl : ∀ x ∈ l, 0 ≤ x ∧ x ≤ 255) (i : Nat) : 0 ≤ partI l i ∧ partI l i ≤ 255 := by
  unfold partI
  split
  · omega
  · rename_i h
    exact hl _ (getD_mem (Nat.mod_lt _ (by omega)))
section
variable {c : Land} {sky : List Sky} {s : Int} {heat : Nat → Int}
end
/-- what holds of land and sky -/
structure MeltOk (c : Land) (sky : List Sky) : Prop where
  area : 0 ≤ c.area ∧ c.area ≤ 10000
  percent : 0 ≤ c.percent ∧ c.percent ≤ 100
  melt : 0 ≤ c.melt ∧ c.melt ≤ 100
  snow : 0 ≤ c.snow.lo ∧ c.snow.lo ≤ c.snow.hi ∧ c.snow.hi ≤ 1000000
  rain : ∀ i, i < sky.length → 0 ≤ (sky.getD i sky0).rain.lo ∧ (sky.getD i sky0).rain.lo ≤ (sky.getD i sky0).rain.hi ∧ (sky.getD i sky0).rain.hi ≤ 20000
  heat : ∀ i, i < sky.length → -500 ≤ (sky.getD i sky0).heat.lo ∧ (sky.getD i sky0).heat.lo ≤ (sky.getD i sky0).heat.hi ∧ (sky.getD i sky0).heat.hi ≤ 500
section
variable {c : Land} {sky : List Sky} {i : Nat}
end
end Go.Proofs.Ytncnlhkmdljgpaa
set_option linter.unusedVariables false
set_option linter.unusedSimpArgs false
namespace Go.Proofs.Ytncnlhkmdljgpaa
open Go Go.RowKit
section
variable {n : Nat} {σ : Sg} {w : World} {dst : Option Tmp} {ty : TypeId} {pos : String} {af : Array Edge} {g : Option (Nat × Bool)} {x y z : Operand} {at' : Array TypeId}
theorem ld_54 {b o : Nat} {v0 v1 v2 : Value} (hx : evS σ x = some (.pointer (some ⟨b, o, none⟩))) (c0 : w.cell? ⟨b, o, none⟩ = some v0) (c1 : w.cell? ⟨b, o + 1, none⟩ = some v1) (c2 : w.cell? ⟨b, o + 2, none⟩ = some v2) : Gives Try.prog n σ w ⟨dst, .load 54 x, ty, pos, af, g⟩ (.agg #[v0, v1, v2]) := fun a ha => by
  simp only [execOp, ha.eval hx]
  simp [go_sem, c0, c1, c2]
theorem cl_34 {x0 : Operand} {v0 : Value} (h0 : evS σ x0 = some v0) (a : Act) (ha : Env n σ a) : (execOp a.eval ⟨dst, .call { callee := .value (.func 34), args := #[x0], argTypes := at' }, ty, pos, af, g⟩).run Try.prog w = .ok (.enter 34 #[v0]) w := by
  simp only [execOp, resolve, List.map_toArray, List.map_cons, List.map_nil, ha.eval h0]
  simp [go_sem, Act.eval]
end
end Go.Proofs.Ytncnlhkmdljgpaa
set_option linter.unusedVariables false
set_option linter.unusedSimpArgs false
namespace Go.Proofs.Ytncnlhkmdljgpaa
open Go Go.RowKit
section
variable {n : Nat} {σ : Sg} {w : World} {dst : Option Tmp} {ty : TypeId} {pos : String} {af : Array Edge} {g : Option (Nat × Bool)} {x y z : Operand} {at' : Array TypeId}
theorem bs_121_2 {x0 x1 : Operand} {z0_0 z1_0 : Int} (h0 : evS σ x0 = some (.int .i64 z0_0)) (h1 : evS σ x1 = some (.int .i64 z1_0)) (a : Act) (ha : Env n σ a) : (execOp a.eval ⟨dst, .buildSlice 121 2 #[(0, x0), (1, x1)], ty, pos, af, g⟩).run Try.prog w = .ok (.value (.slice (some ⟨w.heap.size, 0, none⟩) 2 2)) (w.alloc (.cells #[.int .i64 z0_0, .int .i64 z1_0] 3)) := by
  simp only [execOp, List.map_toArray, List.map_cons, List.map_nil, ha.eval h0, ha.eval h1]
  go_simp
end
end Go.Proofs.Ytncnlhkmdljgpaa
set_option linter.unusedVariables false
set_option linter.unusedSimpArgs false
namespace Go.Proofs.Ytncnlhkmdljgpaa
open Go Go.RowKit
section
variable {n : Nat} {σ : Sg} {w : World} {dst : Option Tmp} {ty : TypeId} {pos : String} {af : Array Edge} {g : Option (Nat × Bool)} {x y z : Operand} {at' : Array TypeId}
end
end Go.Proofs.Ytncnlhkmdljgpaa
set_option linter.unusedVariables false
set_option linter.unusedSimpArgs false
namespace Go.Proofs.Ytncnlhkmdljgpaa
open Go Go.RowKit
section
variable {n : Nat} {σ : Sg} {w : World} {dst : Option Tmp} {ty : TypeId} {pos : String} {af : Array Edge} {g : Option (Nat × Bool)} {x y z : Operand} {at' : Array TypeId}
end
end Go.Proofs.Ytncnlhkmdljgpaa
set_option linter.unusedVariables false
set_option linter.unusedSimpArgs false
namespace Go.Proofs.Ytncnlhkmdljgpaa
open Go Go.RowKit
section
variable {n : Nat} {σ : Sg} {w : World} {dst : Option Tmp} {ty : TypeId} {pos : String} {af : Array Edge} {g : Option (Nat × Bool)} {x y z : Operand} {at' : Array TypeId}
theorem bx_84 {v0 v1 v2 : Value} (hx : evS σ x = some (.agg #[v0, v1, v2])) (a : Act) (ha : Env n σ a) : (execOp a.eval ⟨dst, .box 84 x, ty, pos, af, g⟩).run Try.prog w = .ok (.value (.pointer (some ⟨w.heap.size, 0, none⟩))) (w.alloc (.cells #[v0, v1, v2] 84)) := by
  simp only [execOp, ha.eval hx]
  simp [go_sem]
theorem cl_44 {x0 : Operand} {v0 : Value} (h0 : evS σ x0 = some v0) (a : Act) (ha : Env n σ a) : (execOp a.eval ⟨dst, .call { callee := .value (.func 44), args := #[x0], argTypes := at' }, ty, pos, af, g⟩).run Try.prog w = .ok (.enter 44 #[v0]) w := by
  simp only [execOp, resolve, List.map_toArray, List.map_cons, List.map_nil, ha.eval h0]
  simp [go_sem, Act.eval]
theorem ixa_84 {b o k : Nat} (hx : evS σ x = some (.pointer (some ⟨b, o, none⟩))) (hy : evS σ y = some (.int .i64 (k : Int))) (hk : k < 3) : Gives Try.prog n σ w ⟨dst, .indexAddr 84 x y, ty, pos, af, g⟩ (.pointer (some ⟨b, o + k, none⟩)) := fun a ha => by
  have k0 : (0 : Int) ≤ (k : Int) := Int.natCast_nonneg _
  have k1 : (k : Int) < 3 := by omega
  simp only [execOp, ha.eval hx, ha.eval hy]
  simp [go_sem, k0, k1]
theorem ld_83 {b o : Nat} {v0 : Value} (hx : evS σ x = some (.pointer (some ⟨b, o, none⟩))) (c0 : w.cell? ⟨b, o, none⟩ = some v0) : Gives Try.prog n σ w ⟨dst, .load 83 x, ty, pos, af, g⟩ (v0) := fun a ha => by
  simp only [execOp, ha.eval hx]
  simp [go_sem, c0]
theorem cv_83_3 {m : Int} (hx : evS σ x = some (.int .u16 m)) (hm : IntKind.i64.wrap m = m) : Gives Try.prog n σ w ⟨dst, .convert 83 3 x, ty, pos, af, g⟩ (.int .i64 m) := fun a ha => by
  simp only [execOp, ha.eval hx]
  simp [go_sem, hm]
end
end Go.Proofs.Ytncnlhkmdljgpaa
set_option linter.unusedVariables false
set_option linter.unusedSimpArgs false
namespace Go.Proofs.Ytncnlhkmdljgpaa
open Go Go.RowKit
section
variable {n : Nat} {σ : Sg} {w : World} {dst : Option Tmp} {ty : TypeId} {pos : String} {af : Array Edge} {g : Option (Nat × Bool)} {x y z : Operand} {at' : Array TypeId}
theorem bx_90 {v0 v1 v2 v3 v4 v5 : Value} (hx : evS σ x = some (.agg #[v0, v1, v2, v3, v4, v5])) (a : Act) (ha : Env n σ a) : (execOp a.eval ⟨dst, .box 90 x, ty, pos, af, g⟩).run Try.prog w = .ok (.value (.pointer (some ⟨w.heap.size, 0, none⟩))) (w.alloc (.cells #[v0, v1, v2, v3, v4, v5] 90)) := by
  simp only [execOp, ha.eval hx]
  simp [go_sem]
theorem fa_90_0 {b o : Nat} (hx : evS σ x = some (.pointer (some ⟨b, o, none⟩))) : Gives Try.prog n σ w ⟨dst, .fieldAddr 90 x 0, ty, pos, af, g⟩ (.pointer (some ⟨b, o, none⟩)) := fun a ha => by
  simp only [execOp, ha.eval hx]
  simp [go_sem]
theorem fa_90_1 {b o : Nat} (hx : evS σ x = some (.pointer (some ⟨b, o, none⟩))) : Gives Try.prog n σ w ⟨dst, .fieldAddr 90 x 1, ty, pos, af, g⟩ (.pointer (some ⟨b, o + 1, none⟩)) := fun a ha => by
  simp only [execOp, ha.eval hx]
  simp [go_sem]
theorem fa_90_2 {b o : Nat} (hx : evS σ x = some (.pointer (some ⟨b, o, none⟩))) : Gives Try.prog n σ w ⟨dst, .fieldAddr 90 x 2, ty, pos, af, g⟩ (.pointer (some ⟨b, o + 2, none⟩)) := fun a ha => by
  simp only [execOp, ha.eval hx]
  simp [go_sem]
theorem fa_90_3 {b o : Nat} (hx : evS σ x = some (.pointer (some ⟨b, o, none⟩))) : Gives Try.prog n σ w ⟨dst, .fieldAddr 90 x 3, ty, pos, af, g⟩ (.pointer (some ⟨b, o + 4, none⟩)) := fun a ha => by
  simp only [execOp, ha.eval hx]
  simp [go_sem]
theorem ln_86 {A : Option Addr} {m c : Nat} (hx : evS σ x = some (.slice A m c)) : Gives Try.prog n σ w ⟨dst, .call { callee := .builtin .len, args := #[x], argTypes := #[86] }, ty, pos, af, g⟩ (.int .i64 (m : Int)) := fun a ha => by
  simp only [execOp, resolve, List.map_toArray, List.map_cons, List.map_nil, ha.eval hx]
  simp [go_sem]
theorem ix_86 {b o m c k : Nat} (hx : evS σ x = some (.slice (some ⟨b, o, none⟩) m c)) (hy : evS σ y = some (.int .i64 (k : Int))) (hk : k < m) : Gives Try.prog n σ w ⟨dst, .indexAddr 86 x y, ty, pos, af, g⟩ (.pointer (some ⟨b, o + k * 6, none⟩)) := fun a ha => by
  have k0 : (0 : Int) ≤ (k : Int) := Int.natCast_nonneg _
  have k1 : (k : Int) < (m : Int) := by omega
  simp only [execOp, ha.eval hx, ha.eval hy]
  simp [go_sem, k0, k1]
theorem ld_90 {b o : Nat} {v0 v1 v2 v3 v4 v5 : Value} (hx : evS σ x = some (.pointer (some ⟨b, o, none⟩))) (c0 : w.cell? ⟨b, o, none⟩ = some v0) (c1 : w.cell? ⟨b, o + 1, none⟩ = some v1) (c2 : w.cell? ⟨b, o + 2, none⟩ = some v2) (c3 : w.cell? ⟨b, o + 3, none⟩ = some v3) (c4 : w.cell? ⟨b, o + 4, none⟩ = some v4) (c5 : w.cell? ⟨b, o + 5, none⟩ = some v5) : Gives Try.prog n σ w ⟨dst, .load 90 x, ty, pos, af, g⟩ (.agg #[v0, v1, v2, v3, v4, v5]) := fun a ha => by
  simp only [execOp, ha.eval hx]
  simp [go_sem, c0, c1, c2, c3, c4, c5]
theorem al_90 (a : Act) (_ : Env n σ a) : (execOp a.eval ⟨dst, .alloc 90, ty, pos, af, g⟩).run Try.prog w = .ok (.value (.pointer (some ⟨w.heap.size, 0, none⟩))) (w.alloc (.cells #[.int .i64 0, .int .i64 0, .int .i64 0, .int .i64 0, .int .i64 0, .int .i64 0] 90)) := by
  simp only [execOp]
  simp [go_sem]
theorem sz_90 : (Try.prog.info? 90).map (·.size) = some 6 := by kernel_rfl
theorem bs_28_2 {x0 x1 : Operand} {v0_0 v0_1 v1_0 v1_1 : Value} (h0 : evS σ x0 = some (.agg #[v0_0, v0_1])) (h1 : evS σ x1 = some (.agg #[v1_0, v1_1]))  (a : Act) (ha : Env n σ a) : (execOp a.eval ⟨dst, .buildSlice 28 2 #[(0, x0), (1, x1)], ty, pos, af, g⟩).run Try.prog w = .ok (.value (.slice (some ⟨w.heap.size, 0, none⟩) 2 2)) (w.alloc (.cells #[v0_0, v0_1, v1_0, v1_1] 23)) := by
  simp only [execOp, List.map_toArray, List.map_cons, List.map_nil, ha.eval h0, ha.eval h1]
  go_simp
theorem fa_129_0 {b o : Nat} (hx : evS σ x = some (.pointer (some ⟨b, o, none⟩))) : Gives Try.prog n σ w ⟨dst, .fieldAddr 129 x 0, ty, pos, af, g⟩ (.pointer (some ⟨b, o, none⟩)) := fun a ha => by
  simp only [execOp, ha.eval hx]
  simp [go_sem]
theorem cl_79 {x0 x1 x2 : Operand} {v0 v1 v2 : Value} (h0 : evS σ x0 = some v0) (h1 : evS σ x1 = some v1) (h2 : evS σ x2 = some v2) (a : Act) (ha : Env n σ a) : (execOp a.eval ⟨dst, .call { callee := .value (.func 79), args := #[x0, x1, x2], argTypes := at' }, ty, pos, af, g⟩).run Try.prog w = .ok (.enter 79 #[v0, v1, v2]) w := by
  simp only [execOp, resolve, List.map_toArray, List.map_cons, List.map_nil, ha.eval h0, ha.eval h1, ha.eval h2]
  simp [go_sem, Act.eval]
end
end Go.Proofs.Ytncnlhkmdljgpaa
set_option linter.unusedVariables false
set_option linter.unusedSimpArgs false
namespace Go.Proofs.Ytncnlhkmdljgpaa
open Go Go.RowKit
section
variable {n : Nat} {σ : Sg} {w : World} {dst : Option Tmp} {ty : TypeId} {pos : String} {af : Array Edge} {g : Option (Nat × Bool)} {x y z : Operand} {at' : Array TypeId}
end
end Go.Proofs.Ytncnlhkmdljgpaa
set_option linter.unusedVariables false
set_option linter.unusedSimpArgs false
namespace Go.Proofs.Ytncnlhkmdljgpaa
open Go Go.RowKit
section
variable {n : Nat} {σ : Sg} {w : World} {dst : Option Tmp} {ty : TypeId} {pos : String} {af : Array Edge} {g : Option (Nat × Bool)} {x y z : Operand} {at' : Array TypeId}
theorem cl_48 {x0 x1 x2 x3 x4 : Operand} {v0 v1 v2 v3 v4 : Value} (h0 : evS σ x0 = some v0) (h1 : evS σ x1 = some v1) (h2 : evS σ x2 = some v2) (h3 : evS σ x3 = some v3) (h4 : evS σ x4 = some v4) (a : Act) (ha : Env n σ a) : (execOp a.eval ⟨dst, .call { callee := .value (.func 48), args := #[x0, x1, x2, x3, x4], argTypes := at' }, ty, pos, af, g⟩).run Try.prog w = .ok (.enter 48 #[v0, v1, v2, v3, v4]) w := by
  simp only [execOp, resolve, List.map_toArray, List.map_cons, List.map_nil, ha.eval h0, ha.eval h1, ha.eval h2, ha.eval h3, ha.eval h4]
  simp [go_sem, Act.eval]
end
end Go.Proofs.Ytncnlhkmdljgpaa
set_option linter.unusedVariables false
set_option linter.unusedSimpArgs false
namespace Go.Proofs.Ytncnlhkmdljgpaa
open Go Go.RowKit
section
variable {n : Nat} {σ : Sg} {w : World} {dst : Option Tmp} {ty : TypeId} {pos : String} {af : Array Edge} {g : Option (Nat × Bool)} {x y z : Operand} {at' : Array TypeId}
end
end Go.Proofs.Ytncnlhkmdljgpaa
set_option linter.unusedVariables false
set_option linter.unusedSimpArgs false
namespace Go.Proofs.Ytncnlhkmdljgpaa
open Go Go.RowKit
section
variable {n : Nat} {σ : Sg} {w : World} {dst : Option Tmp} {ty : TypeId} {pos : String} {af : Array Edge} {g : Option (Nat × Bool)} {x y z : Operand} {at' : Array TypeId}
end
end Go.Proofs.Ytncnlhkmdljgpaa
set_option linter.unusedVariables false
set_option linter.unusedSimpArgs false
namespace Go.Proofs.Ytncnlhkmdljgpaa
open Go Go.RowKit
section
variable {n : Nat} {σ : Sg} {w : World} {dst : Option Tmp} {ty : TypeId} {pos : String} {af : Array Edge} {g : Option (Nat × Bool)} {x y z : Operand} {at' : Array TypeId}
end
end Go.Proofs.Ytncnlhkmdljgpaa
set_option linter.unusedVariables false
set_option linter.unusedSimpArgs false
namespace Go.Proofs.Ytncnlhkmdljgpaa
open Go Go.RowKit
section
variable {n : Nat} {σ : Sg} {w : World} {dst : Option Tmp} {ty : TypeId} {pos : String} {af : Array Edge} {g : Option (Nat × Bool)} {x y z : Operand} {at' : Array TypeId}
theorem mm_min {p q r : Int} (hx : evS σ x = some (.int .i64 p)) (hy : evS σ y = some (.int .i64 q)) (hr : min p q = r) : Gives Try.prog n σ w ⟨dst, .call { callee := .builtin .min, args := #[x, y], argTypes := at' }, ty, pos, af, g⟩ (.int .i64 r) := fun a ha => by
  simp only [execOp, resolve, List.map_toArray, List.map_cons, List.map_nil, ha.eval hx, ha.eval hy]
  subst hr
  simp [go_sem, Int.min_def]
  split <;> split <;> omega
end
end Go.Proofs.Ytncnlhkmdljgpaa
set_option linter.unusedVariables false
set_option linter.unusedSimpArgs false
namespace Go.Proofs.Ytncnlhkmdljgpaa
open Go Go.RowKit
/-- all of a slice's elements at once -/
theorem sides_all {l : List (List Bd)} {vs : List Value} {w : World} {B : Nat} {A : Option Addr} {n c : Nat} (hr : RdSides w B (.slice A n c) l vs) (h0 : 0 < l.length) :
    ∃ b o, A = some ⟨b, o, none⟩ ∧ b < B ∧ ∀ k, k < l.length → w.cell? ⟨b, o + k, none⟩ = some (vs.getD k undef) := by
  obtain ⟨hv, hrd, _⟩ := hr
  have hn : n = l.length := by obtain ⟨_, _, _, e, _⟩ := hrd; injection e
  subst hn
  obtain ⟨b, off, rfl, hb, hc⟩ := hrd.at_ (by omega)
  exact ⟨b, off, rfl, hb, fun k hk => hc k _ (by simp [show k < vs.length by omega])⟩
set_option maxRecDepth 100000 in
theorem valid_any (rv : River) (sides : List (List Bd)) (v u s : Value) (vs ss : List Value) (w : World) (B : Nat) (hr : RdRiver w B v u rv vs) (hs : RdSides w B s sides ss) (hB : B ≤ w.heap.size) :
    Calls Try.prog 44 #[.agg #[v, u, s]] w fun e w' => (e = .returned (.bool false) ∨ e = .returned (.bool true) ∧ Fine rv sides ∧ startErr rv sides = 0) ∧ Below w.heap.size w w' := by
  obtain ⟨A, c, rfl, _⟩ := hr.reaches.shape
  obtain ⟨A', c', rfl, _⟩ := hr.shoals.shape
  obtain ⟨D, d, rfl, _⟩ := hs.rd.shape
  have hbw := Below.refl w.heap.size w
  refine EC.enter 98 Try.func44 rfl rfl rfl ?_
  refine EC.seq ?_
  refine EC.region ?_
  refine EL.newP (bx_54 rfl) rfl ?_
  intro g1 w1 q1 hb1 hg1 hl1
  have bhbw_1 := Nat.le_trans hbw.size hg1
  replace hbw := Below.on hbw hb1 hbw.size
  clear hb1 hg1 hl1
  refine EL.val (x_assign rfl) rfl ?_
  refine EL.nil ?_
  refine EX.seq ?_
  refine EC.seq ?_
  refine EC.seq ?_
  refine EC.region ?_
  refine EL.val (ld_54 rfl (q1.at (j := 0) rfl) (q1.at (j := 1) rfl) (q1.at (j := 2) rfl)) rfl ?_
  refine EL.call (cl_23 rfl) rfl (large_any rv sides _ _ _ vs ss _ _ (hr.below (hbw.mono hB)) (hs.below (hbw.mono hB)) (Nat.le_trans hB hbw.size)) ?_
  rintro e w_l ⟨rfl | ⟨rfl, hfine⟩, hc_⟩
  ·
    refine ⟨_, rfl, ?_⟩
    replace q1 := q1.below hc_ q1.lt
    replace hbw := Below.on hbw hc_ hbw.size
    clear hc_
    refine EL.val (x_move rfl) rfl ?_
    refine EL.skip rfl rfl rfl rfl ?_
    refine EL.skip rfl rfl rfl rfl ?_
    refine EL.skip rfl rfl rfl rfl ?_
    refine EL.skip rfl rfl rfl rfl ?_
    refine EL.skip rfl rfl rfl rfl ?_
    refine EL.val (x_pick_t rfl rfl) rfl ?_
    refine EL.val (x_move rfl) rfl ?_
    refine EL.skip rfl rfl rfl rfl ?_
    refine EL.skip rfl rfl rfl rfl ?_
    refine EL.skip rfl rfl rfl rfl ?_
    refine EL.skip rfl rfl rfl rfl ?_
    refine EL.skip rfl rfl rfl rfl ?_
    refine EL.skip rfl rfl rfl rfl ?_
    refine EL.skip rfl rfl rfl rfl ?_
    refine EL.skip rfl rfl rfl rfl ?_
    refine EL.val (x_pick_t rfl rfl) rfl ?_
    refine EL.val (x_move rfl) rfl ?_
    refine EL.skip rfl rfl rfl rfl ?_
    refine EL.skip rfl rfl rfl rfl ?_
    refine EL.skip rfl rfl rfl rfl ?_
    refine EL.skip rfl rfl rfl rfl ?_
    refine EL.skip rfl rfl rfl rfl ?_
    refine EL.skip rfl rfl rfl rfl ?_
    refine EL.val (x_pick_t rfl rfl) rfl ?_
    refine EL.val (x_move rfl) rfl ?_
    refine EL.skip rfl rfl rfl rfl ?_
    refine EL.skip rfl rfl rfl rfl ?_
    refine EL.skip rfl rfl rfl rfl ?_
    refine EL.skip rfl rfl rfl rfl ?_
    refine EL.skip rfl rfl rfl rfl ?_
    refine EL.val (x_pick_t rfl rfl) rfl ?_
    refine EL.nil ?_
    refine EX.seq ?_
    refine EC.yes rfl ?_
    refine EC.seq ?_
    refine EC.region ?_
    refine EL.val (x_assign rfl) rfl ?_
    refine EL.nil ?_
    refine EX.seq ?_
    refine EC.ret ?_
    refine EX.seq_ret ?_
    exact EX.done (res1 rfl rfl) ⟨.inl rfl, hbw⟩
  ·
    have f1 := hfine.nreaches
    have f2 := hfine.nshoals
    have f3 := hfine.curves
    have f4 := hfine.sidesB
    have f5 := hfine.nsides
    refine ⟨_, rfl, ?_⟩
    replace q1 := q1.below hc_ q1.lt
    replace hbw := Below.on hbw hc_ hbw.size
    clear hc_
    refine EL.val (x_move rfl) rfl ?_
    refine EL.valg rfl rfl (fa_54_0 rfl) rfl ?_
    refine EL.valg rfl rfl (fa_47_0 rfl) rfl ?_
    refine EL.valg rfl rfl (ld_44 rfl (q1.at (j := 0) rfl)) rfl ?_
    refine EL.valg rfl rfl (ln_44 rfl) rfl ?_
    by_cases h1_7 : rv.reaches.length < 1
    ·
      refine EL.valg rfl rfl (x_lss rfl rfl (by first | assumption | exact decide_eq_true (by omega))) rfl ?_
      refine EL.val (x_pick_f rfl rfl) rfl ?_
      refine EL.val (x_move rfl) rfl ?_
      refine EL.skip rfl rfl rfl rfl ?_
      refine EL.skip rfl rfl rfl rfl ?_
      refine EL.skip rfl rfl rfl rfl ?_
      refine EL.skip rfl rfl rfl rfl ?_
      refine EL.skip rfl rfl rfl rfl ?_
      refine EL.skip rfl rfl rfl rfl ?_
      refine EL.skip rfl rfl rfl rfl ?_
      refine EL.skip rfl rfl rfl rfl ?_
      refine EL.val (x_pick_t rfl rfl) rfl ?_
      refine EL.val (x_move rfl) rfl ?_
      refine EL.skip rfl rfl rfl rfl ?_
      refine EL.skip rfl rfl rfl rfl ?_
      refine EL.skip rfl rfl rfl rfl ?_
      refine EL.skip rfl rfl rfl rfl ?_
      refine EL.skip rfl rfl rfl rfl ?_
      refine EL.skip rfl rfl rfl rfl ?_
      refine EL.val (x_pick_t rfl rfl) rfl ?_
      refine EL.val (x_move rfl) rfl ?_
      refine EL.skip rfl rfl rfl rfl ?_
      refine EL.skip rfl rfl rfl rfl ?_
      refine EL.skip rfl rfl rfl rfl ?_
      refine EL.skip rfl rfl rfl rfl ?_
      refine EL.skip rfl rfl rfl rfl ?_
      refine EL.val (x_pick_t rfl rfl) rfl ?_
      refine EL.nil ?_
      refine EX.seq ?_
      refine EC.yes rfl ?_
      refine EC.seq ?_
      refine EC.region ?_
      refine EL.val (x_assign rfl) rfl ?_
      refine EL.nil ?_
      refine EX.seq ?_
      refine EC.ret ?_
      refine EX.seq_ret ?_
      exact EX.done (res1 rfl rfl) ⟨.inl rfl, hbw⟩
    ·
      refine EL.valg rfl rfl (x_lss rfl rfl (by first | assumption | exact decide_eq_false (by omega))) rfl ?_
      refine EL.val (x_pick_f rfl rfl) rfl ?_
      refine EL.val (x_move rfl) rfl ?_
      refine EL.valg rfl rfl (fa_54_1 rfl) rfl ?_
      refine EL.valg rfl rfl (ld_52 rfl (q1.at (j := 2) rfl)) rfl ?_
      refine EL.valg rfl rfl (ln_52 rfl) rfl ?_
      refine EL.valg rfl rfl (fa_54_0 rfl) rfl ?_
      refine EL.valg rfl rfl (fa_47_0 rfl) rfl ?_
      refine EL.valg rfl rfl (ld_44 rfl (q1.at (j := 0) rfl)) rfl ?_
      refine EL.valg rfl rfl (ln_44 rfl) rfl ?_
      by_cases h1_17 : sides.length ≠ rv.reaches.length
      ·
        refine EL.valg rfl rfl (x_neq rfl rfl (by first | assumption | exact decide_eq_true (by omega))) rfl ?_
        refine EL.val (x_pick_f rfl rfl) rfl ?_
        refine EL.val (x_move rfl) rfl ?_
        refine EL.skip rfl rfl rfl rfl ?_
        refine EL.skip rfl rfl rfl rfl ?_
        refine EL.skip rfl rfl rfl rfl ?_
        refine EL.skip rfl rfl rfl rfl ?_
        refine EL.skip rfl rfl rfl rfl ?_
        refine EL.skip rfl rfl rfl rfl ?_
        refine EL.val (x_pick_t rfl rfl) rfl ?_
        refine EL.val (x_move rfl) rfl ?_
        refine EL.skip rfl rfl rfl rfl ?_
        refine EL.skip rfl rfl rfl rfl ?_
        refine EL.skip rfl rfl rfl rfl ?_
        refine EL.skip rfl rfl rfl rfl ?_
        refine EL.skip rfl rfl rfl rfl ?_
        refine EL.val (x_pick_t rfl rfl) rfl ?_
        refine EL.nil ?_
        refine EX.seq ?_
        refine EC.yes rfl ?_
        refine EC.seq ?_
        refine EC.region ?_
        refine EL.val (x_assign rfl) rfl ?_
        refine EL.nil ?_
        refine EX.seq ?_
        refine EC.ret ?_
        refine EX.seq_ret ?_
        exact EX.done (res1 rfl rfl) ⟨.inl rfl, hbw⟩
      ·
        obtain ⟨bS, oS, rfl, _, hsc⟩ := sides_all hs (by omega)
        have hs0 := hs.side 0 (by omega)
        obtain ⟨As, cs, es, _⟩ := hs0.shape
        have c0 := hsc 0 (by omega)
        rw [es] at c0
        refine EL.valg rfl rfl (x_neq rfl rfl (by first | assumption | exact decide_eq_false (by omega))) rfl ?_
        refine EL.val (x_pick_f rfl rfl) rfl ?_
        refine EL.val (x_move rfl) rfl ?_
        refine EL.valg rfl rfl (fa_54_1 rfl) rfl ?_
        refine EL.valg rfl rfl (ld_52 rfl (q1.at (j := 2) rfl)) rfl ?_
        refine EL.valg rfl rfl (ix_52 (k := 0) rfl rfl (by omega)) rfl ?_
        refine EL.valg rfl rfl (ld_28 rfl (below_load hbw c0)) rfl ?_
        refine EL.valg rfl rfl (ln_28 rfl) rfl ?_
        by_cases h1_25 : (sides.getD 0 []).length < 1
        ·
          refine EL.valg rfl rfl (x_lss rfl rfl (by first | assumption | exact decide_eq_true (by omega))) rfl ?_
          refine EL.val (x_pick_f rfl rfl) rfl ?_
          refine EL.val (x_move rfl) rfl ?_
          refine EL.skip rfl rfl rfl rfl ?_
          refine EL.skip rfl rfl rfl rfl ?_
          refine EL.skip rfl rfl rfl rfl ?_
          refine EL.skip rfl rfl rfl rfl ?_
          refine EL.skip rfl rfl rfl rfl ?_
          refine EL.val (x_pick_t rfl rfl) rfl ?_
          refine EL.nil ?_
          refine EX.seq ?_
          refine EC.yes rfl ?_
          refine EC.seq ?_
          refine EC.region ?_
          refine EL.val (x_assign rfl) rfl ?_
          refine EL.nil ?_
          refine EX.seq ?_
          refine EC.ret ?_
          refine EX.seq_ret ?_
          exact EX.done (res1 rfl rfl) ⟨.inl rfl, hbw⟩
        ·
          refine EL.valg rfl rfl (x_lss rfl rfl (by first | assumption | exact decide_eq_false (by omega))) rfl ?_
          refine EL.val (x_pick_f rfl rfl) rfl ?_
          refine EL.val (x_move rfl) rfl ?_
          refine EL.valg rfl rfl (fa_54_0 rfl) rfl ?_
          refine EL.valg rfl rfl (ld_47 rfl (q1.at (j := 0) rfl) (q1.at (j := 1) rfl)) rfl ?_
          refine EL.callg rfl rfl (cl_24 rfl) rfl (copied_any rv _ _ vs _ B (hr.below (hbw.mono hB)) (Nat.le_trans hB hbw.size) (by omega) (by omega) f3) ?_
          rintro e w2 ⟨⟨v1, u1, vs1, rfl, hcp⟩, hc2⟩
          refine ⟨_, rfl, ?_⟩
          replace q1 := q1.below hc2 q1.lt
          replace hbw := Below.on hbw hc2 hbw.size
          clear hc2
          refine EL.callg rfl rfl (cl_25 rfl) rfl (check_any rv _ _ vs1 _ _ hcp (Nat.le_refl _) (by omega) (by omega) f3) ?_
          rintro e w3 ⟨rfl, hc3⟩
          refine ⟨_, rfl, ?_⟩
          replace q1 := q1.below hc3 q1.lt
          replace hbw := Below.on hbw hc3 hbw.size
          clear hc3
          rcases Bool.eq_false_or_eq_true (riverB rv) with hok | hok
          ·
            have hd : errB (riverB rv) = 0 := by rw [hok]; rfl
            refine EL.valg rfl rfl (x_neq rfl rfl (by first | assumption | exact decide_eq_false (by omega))) rfl ?_
            refine EL.val (x_pick_f rfl rfl) rfl ?_
            refine EL.nil ?_
            refine EX.seq ?_
            refine EC.no rfl ?_
            refine EC.skip ?_
            refine EX.seq ?_
            refine EC.seq ?_
            refine EC.seq ?_
            refine EC.region ?_
            refine EL.val (x_assign rfl) rfl ?_
            refine EL.nil ?_
            refine EX.seq ?_
            refine EC.block ?_
            refine EC.loopD [2, 3, 4, 5, 40, 41, 42, 43, 44, 45, 46, 47, 48, 49, 50, 51, 52, 53, 54, 55, 56, 57, 58, 59, 60, 61, 62, 63, 64, 65, 66, 67, 68, 69, 70, 71, 72, 73, 74, 75, 76, 77, 78, 79, 80, 81, 82, 83, 84, 85, 86, 87, 88, 89, 90, 91] (fun x : Nat => [(3, .int .i64 (x : Nat))]) (fun x W => x ≤ sides.length ∧ (∀ j, j < x → (sides.getD j []).length = (sides.getD 0 []).length ∧ ∀ y, y < (sides.getD j []).length → bdOk 0 10000000000 ((sides.getD j []).getD y bd0) = true) ∧ Blk W g1 54 #[.slice A rv.reaches.length c, .slice A' rv.shoals.length c', .slice (some ⟨bS, oS, none⟩) sides.length d] ∧ Below w.heap.size w W) (fun x => sides.length - x) 0 ⟨Nat.zero_le _, fun j hj => absurd hj (Nat.not_lt_zero _), q1, hbw⟩ ⟨rfl, trivial⟩ ?_
            clear q1 hbw
            rintro i wr ⟨hi, hI, q1, hbw⟩
            by_cases hlt : i < sides.length
            ·
              have ci := hsc i hlt
              have hs450 := hfine.side i hlt
              have hsi := hs.side i hlt
              obtain ⟨Ai, cai, ei, _⟩ := hsi.shape
              rw [ei] at ci hsi
              refine EC.seq ?_
              refine EC.seq ?_
              refine EC.region ?_
              refine EL.val (x_move rfl) rfl ?_
              refine EL.val (fa_54_1 rfl) rfl ?_
              refine EL.val (ld_52 rfl (q1.at (j := 2) rfl)) rfl ?_
              refine EL.val (ln_52 rfl) rfl ?_
              refine EL.val (x_lss rfl rfl (by first | assumption | exact decide_eq_true (by omega))) rfl ?_
              refine EL.nil ?_
              refine EX.seq ?_
              refine EC.yes rfl ?_
              refine EC.skip ?_
              refine EX.seq ?_
              refine EC.seq ?_
              refine EC.block ?_
              refine EC.seq ?_
              refine EC.seq ?_
              by_cases hsame : (sides.getD i []).length = (sides.getD 0 []).length
              ·
                refine EC.regionQ (by kernel_rfl) (by kernel_rfl) ?_
                refine EQ.val (fun _ hw => (fa_54_1 rfl)) rfl ?_
                refine EQ.val (fun _ hw => (ld_52 rfl (below_load hw (q1.at (j := 2) rfl)))) rfl ?_
                refine EQ.val (fun _ hw => (x_move rfl)) rfl ?_
                refine EQ.val (fun _ hw => (ix_52 rfl rfl hlt)) rfl ?_
                refine EQ.val (fun _ hw => (ld_28 rfl (below_load hw (below_load hbw ci)))) rfl ?_
                refine EQ.val (fun _ hw => (ln_28 rfl)) rfl ?_
                refine EQ.val (fun _ hw => (fa_54_1 rfl)) rfl ?_
                refine EQ.val (fun _ hw => (ld_52 rfl (below_load hw (q1.at (j := 2) rfl)))) rfl ?_
                refine EQ.val (fun _ hw => (ix_52 (k := 0) rfl rfl (by omega))) rfl ?_
                refine EQ.val (fun _ hw => (ld_28 rfl (below_load hw (below_load hbw c0)))) rfl ?_
                refine EQ.val (fun _ hw => (ln_28 rfl)) rfl ?_
                refine EQ.val (fun _ hw => (x_neq rfl rfl (by first | assumption | exact decide_eq_false (by omega)))) rfl ?_
                refine EQ.fin (fun w_ hw_ => ?_)
                replace q1 := q1.below hw_ q1.lt
                replace hbw := Below.on hbw hw_ hbw.size
                clear hw_
                refine EX.seq ?_
                refine EC.no rfl ?_
                refine EC.skip ?_
                refine EX.seq ?_
                refine EC.seq ?_
                refine EC.region ?_
                refine EL.val (x_assign rfl) rfl ?_
                refine EL.nil ?_
                refine EX.seq ?_
                refine EC.block ?_
                refine EC.loopD [2, 4, 5, 59, 60, 61, 62, 63, 64, 65, 66, 67, 68, 69, 70, 71, 72, 73, 74, 75, 76, 77, 78, 79, 80, 81, 82, 83, 84, 85, 86, 87, 88, 89, 90, 91] (fun x : Nat => [(4, .int .i64 (x : Nat))]) (fun x W => x ≤ (sides.getD i []).length ∧ (∀ y, y < x → bdOk 0 10000000000 ((sides.getD i []).getD y bd0) = true) ∧ Blk W g1 54 #[.slice A rv.reaches.length c, .slice A' rv.shoals.length c', .slice (some ⟨bS, oS, none⟩) sides.length d] ∧ Below w.heap.size w W) (fun x => (sides.getD i []).length - x) 0 ⟨Nat.zero_le _, fun j hj => absurd hj (Nat.not_lt_zero _), q1, hbw⟩ ⟨rfl, trivial⟩ ?_
                clear q1 hbw
                rintro k wk ⟨hk, hK, q1, hbw⟩
                by_cases hkl : k < (sides.getD i []).length
                ·
                  obtain ⟨bR, oR, rfl, _, d0, d1⟩ := bds_cells _ k hkl _ _ _ _ _ hsi
                  obtain ⟨y, ey⟩ : ∃ y, y = (sides.getD i []).getD k bd0 := ⟨_, rfl⟩
                  rw [← ey] at d0 d1
                  refine EC.seq ?_
                  refine EC.seq ?_
                  refine EC.region ?_
                  refine EL.val (x_move rfl) rfl ?_
                  refine EL.val (fa_54_1 rfl) rfl ?_
                  refine EL.val (ld_52 rfl (q1.at (j := 2) rfl)) rfl ?_
                  refine EL.val (x_move rfl) rfl ?_
                  refine EL.val (ix_52 rfl rfl hlt) rfl ?_
                  refine EL.val (ld_28 rfl (below_load hbw ci)) rfl ?_
                  refine EL.val (ln_28 rfl) rfl ?_
                  refine EL.val (x_lss rfl rfl (by first | assumption | exact decide_eq_true (by omega))) rfl ?_
                  refine EL.nil ?_
                  refine EX.seq ?_
                  refine EC.yes rfl ?_
                  refine EC.skip ?_
                  refine EX.seq ?_
                  refine EC.seq ?_
                  refine EC.block ?_
                  refine EC.seq ?_
                  refine EC.region ?_
                  refine EL.val (fa_54_1 rfl) rfl ?_
                  refine EL.val (ld_52 rfl (q1.at (j := 2) rfl)) rfl ?_
                  refine EL.val (x_move rfl) rfl ?_
                  refine EL.val (ix_52 rfl rfl hlt) rfl ?_
                  refine EL.val (ld_28 rfl (below_load hbw ci)) rfl ?_
                  refine EL.val (x_move rfl) rfl ?_
                  refine EL.val (ix_28 rfl rfl hkl) rfl ?_
                  refine EL.val (ld_23 rfl (below_load hbw d0) (below_load hbw d1)) rfl ?_
                  refine EL.newP al_23 rfl ?_
                  intro g4 w4 q4 hb4 hg4 hl4
                  have n1_4 : g1 ≠ g4 := Nat.ne_of_lt (Nat.lt_of_lt_of_le q1.lt hg4)
                  have bhbw_4 := Nat.le_trans hbw.size hg4
                  replace q1 := q1.below hb4 q1.lt
                  replace hbw := Below.on hbw hb4 hbw.size
                  clear hb4 hg4 hl4
                  refine EL.store rfl rfl q4 sz_23 rfl rfl rfl rfl ?_
                  intro w5 hq5 hg5
                  replace q1 := q1.grown hg5 (fun h => n1_4 (Option.some.inj h))
                  replace hbw := below_store hbw hg5 bhbw_4
                  replace q4 := hq5
                  clear hg5 hq5
                  refine EL.nil ?_
                  refine EX.seq ?_
                  refine EC.seq ?_
                  refine EC.region ?_
                  refine EL.val (fa_23_0 rfl) rfl ?_
                  refine EL.val (ld_3 rfl (q4.at (j := 0) rfl)) rfl ?_
                  by_cases h12_2 : y.lo < 0
                  ·
                    refine EL.val (x_lss rfl rfl (by first | assumption | exact decide_eq_true (by omega))) rfl ?_
                    refine EL.val (x_move rfl) rfl ?_
                    refine EL.skip rfl rfl rfl rfl ?_
                    refine EL.skip rfl rfl rfl rfl ?_
                    refine EL.skip rfl rfl rfl rfl ?_
                    refine EL.skip rfl rfl rfl rfl ?_
                    refine EL.skip rfl rfl rfl rfl ?_
                    refine EL.val (x_pick_t rfl rfl) rfl ?_
                    refine EL.val (x_move rfl) rfl ?_
                    refine EL.skip rfl rfl rfl rfl ?_
                    refine EL.skip rfl rfl rfl rfl ?_
                    refine EL.skip rfl rfl rfl rfl ?_
                    refine EL.val (x_pick_t rfl rfl) rfl ?_
                    refine EL.nil ?_
                    refine EX.seq ?_
                    refine EC.yes rfl ?_
                    refine EC.seq ?_
                    refine EC.region ?_
                    refine EL.val (x_assign rfl) rfl ?_
                    refine EL.nil ?_
                    refine EX.seq ?_
                    refine EC.ret ?_
                    refine EX.blk_ret ?_
                    refine EX.seq_ret ?_
                    refine EX.seq_ret ?_
                    refine EX.blk_ret ?_
                    refine EX.blk_ret ?_
                    refine EX.seq_ret ?_
                    refine EX.seq_ret ?_
                    refine EX.blk_ret ?_
                    refine EX.seq_ret ?_
                    exact EX.done (res1 rfl rfl) ⟨.inl rfl, hbw⟩
                  ·
                    refine EL.val (x_lss rfl rfl (by first | assumption | exact decide_eq_false (by omega))) rfl ?_
                    refine EL.val (x_move rfl) rfl ?_
                    refine EL.valg rfl rfl (fa_23_0 rfl) rfl ?_
                    refine EL.valg rfl rfl (ld_3 rfl (q4.at (j := 0) rfl)) rfl ?_
                    refine EL.valg rfl rfl (fa_23_1 rfl) rfl ?_
                    refine EL.valg rfl rfl (ld_3 rfl (q4.at (j := 1) rfl)) rfl ?_
                    by_cases h12_8 : y.hi < y.lo
                    ·
                      refine EL.valg rfl rfl (x_gtr rfl rfl (by first | assumption | exact decide_eq_true (by omega))) rfl ?_
                      refine EL.val (x_pick_f rfl rfl) rfl ?_
                      refine EL.val (x_move rfl) rfl ?_
                      refine EL.skip rfl rfl rfl rfl ?_
                      refine EL.skip rfl rfl rfl rfl ?_
                      refine EL.skip rfl rfl rfl rfl ?_
                      refine EL.val (x_pick_t rfl rfl) rfl ?_
                      refine EL.nil ?_
                      refine EX.seq ?_
                      refine EC.yes rfl ?_
                      refine EC.seq ?_
                      refine EC.region ?_
                      refine EL.val (x_assign rfl) rfl ?_
                      refine EL.nil ?_
                      refine EX.seq ?_
                      refine EC.ret ?_
                      refine EX.blk_ret ?_
                      refine EX.seq_ret ?_
                      refine EX.seq_ret ?_
                      refine EX.blk_ret ?_
                      refine EX.blk_ret ?_
                      refine EX.seq_ret ?_
                      refine EX.seq_ret ?_
                      refine EX.blk_ret ?_
                      refine EX.seq_ret ?_
                      exact EX.done (res1 rfl rfl) ⟨.inl rfl, hbw⟩
                    ·
                      refine EL.valg rfl rfl (x_gtr rfl rfl (by first | assumption | exact decide_eq_false (by omega))) rfl ?_
                      refine EL.val (x_pick_f rfl rfl) rfl ?_
                      refine EL.val (x_move rfl) rfl ?_
                      refine EL.valg rfl rfl (fa_23_1 rfl) rfl ?_
                      refine EL.valg rfl rfl (ld_3 rfl (q4.at (j := 1) rfl)) rfl ?_
                      by_cases h12_13 : 10000000000 < y.hi
                      ·
                        refine EL.valg rfl rfl (x_gtr rfl rfl (by first | assumption | exact decide_eq_true (by omega))) rfl ?_
                        refine EL.val (x_pick_f rfl rfl) rfl ?_
                        refine EL.nil ?_
                        refine EX.seq ?_
                        refine EC.yes rfl ?_
                        refine EC.seq ?_
                        refine EC.region ?_
                        refine EL.val (x_assign rfl) rfl ?_
                        refine EL.nil ?_
                        refine EX.seq ?_
                        refine EC.ret ?_
                        refine EX.blk_ret ?_
                        refine EX.seq_ret ?_
                        refine EX.seq_ret ?_
                        refine EX.blk_ret ?_
                        refine EX.blk_ret ?_
                        refine EX.seq_ret ?_
                        refine EX.seq_ret ?_
                        refine EX.blk_ret ?_
                        refine EX.seq_ret ?_
                        exact EX.done (res1 rfl rfl) ⟨.inl rfl, hbw⟩
                      ·
                        refine EL.valg rfl rfl (x_gtr rfl rfl (by first | assumption | exact decide_eq_false (by omega))) rfl ?_
                        refine EL.val (x_pick_f rfl rfl) rfl ?_
                        refine EL.nil ?_
                        refine EX.seq ?_
                        refine EC.no rfl ?_
                        refine EC.skip ?_
                        refine EX.blk ?_
                        refine EX.seq ?_
                        refine EC.region ?_
                        refine EL.val (x_move rfl) rfl ?_
                        refine EL.val (x_add rfl rfl (by first | assumption | exact IntWalk.i64_in _ ⟨by omega, by omega⟩)) rfl ?_
                        refine EL.val (x_assign rfl) rfl ?_
                        refine EL.nil ?_
                        refine EX.roundD (k + 1) ⟨rfl, trivial⟩ (by repeat first | exact Sub.refl _ | refine sub_past rfl ?_ | refine sub_del rfl ?_ | refine sub_insL_nil ?_) ⟨hkl, fun j hj => ?_, q1, hbw⟩ (by omega)
                        rcases Nat.lt_or_ge j k with h | h
                        · exact hK j h
                        · obtain rfl : j = k := by omega
                          rw [← ey]
                          exact bdOk_iff.2 (by omega)
                ·
                  obtain rfl : k = (sides.getD i []).length := by omega
                  refine EC.seq ?_
                  refine EC.seq ?_
                  refine EC.region ?_
                  refine EL.val (x_move rfl) rfl ?_
                  refine EL.val (fa_54_1 rfl) rfl ?_
                  refine EL.val (ld_52 rfl (q1.at (j := 2) rfl)) rfl ?_
                  refine EL.val (x_move rfl) rfl ?_
                  refine EL.val (ix_52 rfl rfl hlt) rfl ?_
                  refine EL.val (ld_28 rfl (below_load hbw ci)) rfl ?_
                  refine EL.val (ln_28 rfl) rfl ?_
                  refine EL.val (x_lss rfl rfl (by first | assumption | exact decide_eq_false (by omega))) rfl ?_
                  refine EL.nil ?_
                  refine EX.seq ?_
                  refine EC.no rfl ?_
                  refine EC.exit ?_
                  refine EX.seq_exit ?_
                  refine EX.seq_exit ?_
                  refine EX.blk_here ?_
                  refine EX.blk ?_
                  refine EX.seq ?_
                  refine EC.region ?_
                  refine EL.val (x_move rfl) rfl ?_
                  refine EL.val (x_add rfl rfl (by first | assumption | exact IntWalk.i64_in _ ⟨by omega, by omega⟩)) rfl ?_
                  refine EL.val (x_assign rfl) rfl ?_
                  refine EL.nil ?_
                  refine EX.roundD (i + 1) ⟨rfl, trivial⟩ (by repeat first | exact Sub.refl _ | refine sub_past rfl ?_ | refine sub_del rfl ?_ | refine sub_insL_nil ?_) ⟨hlt, fun j hj => ?_, q1, hbw⟩ (by omega)
                  rcases Nat.lt_or_ge j i with h | h
                  · exact hI j h
                  · obtain rfl : j = i := by omega
                    exact ⟨hsame, hK⟩
              ·
                refine EC.regionQ (by kernel_rfl) (by kernel_rfl) ?_
                refine EQ.val (fun _ hw => (fa_54_1 rfl)) rfl ?_
                refine EQ.val (fun _ hw => (ld_52 rfl (below_load hw (q1.at (j := 2) rfl)))) rfl ?_
                refine EQ.val (fun _ hw => (x_move rfl)) rfl ?_
                refine EQ.val (fun _ hw => (ix_52 rfl rfl hlt)) rfl ?_
                refine EQ.val (fun _ hw => (ld_28 rfl (below_load hw (below_load hbw ci)))) rfl ?_
                refine EQ.val (fun _ hw => (ln_28 rfl)) rfl ?_
                refine EQ.val (fun _ hw => (fa_54_1 rfl)) rfl ?_
                refine EQ.val (fun _ hw => (ld_52 rfl (below_load hw (q1.at (j := 2) rfl)))) rfl ?_
                refine EQ.val (fun _ hw => (ix_52 (k := 0) rfl rfl (by omega))) rfl ?_
                refine EQ.val (fun _ hw => (ld_28 rfl (below_load hw (below_load hbw c0)))) rfl ?_
                refine EQ.val (fun _ hw => (ln_28 rfl)) rfl ?_
                refine EQ.val (fun _ hw => (x_neq rfl rfl (by first | assumption | exact decide_eq_true (by omega)))) rfl ?_
                refine EQ.fin (fun w_ hw_ => ?_)
                replace q1 := q1.below hw_ q1.lt
                replace hbw := Below.on hbw hw_ hbw.size
                clear hw_
                refine EX.seq ?_
                refine EC.yes rfl ?_
                refine EC.seq ?_
                refine EC.region ?_
                refine EL.val (x_assign rfl) rfl ?_
                refine EL.nil ?_
                refine EX.seq ?_
                refine EC.ret ?_
                refine EX.seq_ret ?_
                refine EX.blk_ret ?_
                refine EX.seq_ret ?_
                refine EX.seq_ret ?_
                refine EX.blk_ret ?_
                refine EX.seq_ret ?_
                exact EX.done (res1 rfl rfl) ⟨.inl rfl, hbw⟩
            ·
              obtain rfl : i = sides.length := by omega
              refine EC.seq ?_
              refine EC.seq ?_
              refine EC.region ?_
              refine EL.val (x_move rfl) rfl ?_
              refine EL.val (fa_54_1 rfl) rfl ?_
              refine EL.val (ld_52 rfl (q1.at (j := 2) rfl)) rfl ?_
              refine EL.val (ln_52 rfl) rfl ?_
              refine EL.val (x_lss rfl rfl (by first | assumption | exact decide_eq_false (by omega))) rfl ?_
              refine EL.nil ?_
              refine EX.seq ?_
              refine EC.no rfl ?_
              refine EC.exit ?_
              refine EX.seq_exit ?_
              refine EX.seq_exit ?_
              refine EX.blk_here ?_
              refine EX.seq ?_
              refine EC.seq ?_
              refine EC.region ?_
              refine EL.val (fa_54_1 rfl) rfl ?_
              refine EL.val (ld_52 rfl (q1.at (j := 2) rfl)) rfl ?_
              refine EL.val (ix_52 (k := 0) rfl rfl (by omega)) rfl ?_
              refine EL.val (ld_28 rfl (below_load hbw c0)) rfl ?_
              refine EL.val (ln_28 rfl) rfl ?_
              by_cases h14_5 : (sides.getD 0 []).length ≤ 400
              ·
                refine EL.val (x_leq rfl rfl (by first | assumption | exact decide_eq_true (by omega))) rfl ?_
                refine EL.val (x_assign rfl) rfl ?_
                refine EL.nil ?_
                refine EX.seq ?_
                refine EC.ret ?_
                exact EX.done (res1 rfl rfl) ⟨.inr ⟨rfl, hfine, start0 hok (by omega) (fun j hj => (hI j hj).1) (by omega) (fun j hj => (hI j hj).2)⟩, hbw⟩
              ·
                refine EL.val (x_leq rfl rfl (by first | assumption | exact decide_eq_false (by omega))) rfl ?_
                refine EL.val (x_assign rfl) rfl ?_
                refine EL.nil ?_
                refine EX.seq ?_
                refine EC.ret ?_
                exact EX.done (res1 rfl rfl) ⟨.inl rfl, hbw⟩
          ·
            have hd : errB (riverB rv) = 2 := by rw [hok]; rfl
            refine EL.valg rfl rfl (x_neq rfl rfl (by first | assumption | exact decide_eq_true (by omega))) rfl ?_
            refine EL.val (x_pick_f rfl rfl) rfl ?_
            refine EL.nil ?_
            refine EX.seq ?_
            refine EC.yes rfl ?_
            refine EC.seq ?_
            refine EC.region ?_
            refine EL.val (x_assign rfl) rfl ?_
            refine EL.nil ?_
            refine EX.seq ?_
            refine EC.ret ?_
            refine EX.seq_ret ?_
            exact EX.done (res1 rfl rfl) ⟨.inl rfl, hbw⟩
end Go.Proofs.Ytncnlhkmdljgpaa
set_option linter.unusedVariables false
set_option linter.unusedSimpArgs false
namespace Go.Proofs.Ytncnlhkmdljgpaa
open Go Go.RowKit
section
variable {n : Nat} {σ : Sg} {w : World} {dst : Option Tmp} {ty : TypeId} {pos : String} {af : Array Edge} {g : Option (Nat × Bool)} {x y z : Operand} {at' : Array TypeId}
theorem cv_5_3 {m : Int} (hx : evS σ x = some (.int .u8 m)) (hm : IntKind.i64.wrap m = m) : Gives Try.prog n σ w ⟨dst, .convert 5 3 x, ty, pos, af, g⟩ (.int .i64 m) := fun a ha => by
  simp only [execOp, ha.eval hx]
  simp [go_sem, hm]
theorem ln_38 {A : Option Addr} {m c : Nat} (hx : evS σ x = some (.slice A m c)) : Gives Try.prog n σ w ⟨dst, .call { callee := .builtin .len, args := #[x], argTypes := #[38] }, ty, pos, af, g⟩ (.int .i64 (m : Int)) := fun a ha => by
  simp only [execOp, resolve, List.map_toArray, List.map_cons, List.map_nil, ha.eval hx]
  simp [go_sem]
theorem ix_38 {b o m c k : Nat} (hx : evS σ x = some (.slice (some ⟨b, o, none⟩) m c)) (hy : evS σ y = some (.int .i64 (k : Int))) (hk : k < m) : Gives Try.prog n σ w ⟨dst, .indexAddr 38 x y, ty, pos, af, g⟩ (.pointer (some ⟨b, o + k, none⟩)) := fun a ha => by
  have k0 : (0 : Int) ≤ (k : Int) := Int.natCast_nonneg _
  have k1 : (k : Int) < (m : Int) := by omega
  simp only [execOp, ha.eval hx, ha.eval hy]
  simp [go_sem, k0, k1]
theorem ld_5 {b o : Nat} {v0 : Value} (hx : evS σ x = some (.pointer (some ⟨b, o, none⟩))) (c0 : w.cell? ⟨b, o, none⟩ = some v0) : Gives Try.prog n σ w ⟨dst, .load 5 x, ty, pos, af, g⟩ (v0) := fun a ha => by
  simp only [execOp, ha.eval hx]
  simp [go_sem, c0]
theorem bx_40 {v0 v1 v2 v3 v4 : Value} (hx : evS σ x = some (.agg #[v0, v1, v2, v3, v4])) (a : Act) (ha : Env n σ a) : (execOp a.eval ⟨dst, .box 40 x, ty, pos, af, g⟩).run Try.prog w = .ok (.value (.pointer (some ⟨w.heap.size, 0, none⟩))) (w.alloc (.cells #[v0, v1, v2, v3, v4] 40)) := by
  simp only [execOp, ha.eval hx]
  simp [go_sem]
theorem cl_21 {x0 x1 : Operand} {v0 v1 : Value} (h0 : evS σ x0 = some v0) (h1 : evS σ x1 = some v1) (a : Act) (ha : Env n σ a) : (execOp a.eval ⟨dst, .call { callee := .value (.func 21), args := #[x0, x1], argTypes := at' }, ty, pos, af, g⟩).run Try.prog w = .ok (.enter 21 #[v0, v1]) w := by
  simp only [execOp, resolve, List.map_toArray, List.map_cons, List.map_nil, ha.eval h0, ha.eval h1]
  simp [go_sem, Act.eval]
theorem fa_40_1 {b o : Nat} (hx : evS σ x = some (.pointer (some ⟨b, o, none⟩))) : Gives Try.prog n σ w ⟨dst, .fieldAddr 40 x 1, ty, pos, af, g⟩ (.pointer (some ⟨b, o + 1, none⟩)) := fun a ha => by
  simp only [execOp, ha.eval hx]
  simp [go_sem]
theorem ld_38 {b o : Nat} {v0 : Value} (hx : evS σ x = some (.pointer (some ⟨b, o, none⟩))) (c0 : w.cell? ⟨b, o, none⟩ = some v0) : Gives Try.prog n σ w ⟨dst, .load 38 x, ty, pos, af, g⟩ (v0) := fun a ha => by
  simp only [execOp, ha.eval hx]
  simp [go_sem, c0]
theorem cl_22 {x0 x1 : Operand} {v0 v1 : Value} (h0 : evS σ x0 = some v0) (h1 : evS σ x1 = some v1) (a : Act) (ha : Env n σ a) : (execOp a.eval ⟨dst, .call { callee := .value (.func 22), args := #[x0, x1], argTypes := at' }, ty, pos, af, g⟩).run Try.prog w = .ok (.enter 22 #[v0, v1]) w := by
  simp only [execOp, resolve, List.map_toArray, List.map_cons, List.map_nil, ha.eval h0, ha.eval h1]
  simp [go_sem, Act.eval]
theorem fa_40_0 {b o : Nat} (hx : evS σ x = some (.pointer (some ⟨b, o, none⟩))) : Gives Try.prog n σ w ⟨dst, .fieldAddr 40 x 0, ty, pos, af, g⟩ (.pointer (some ⟨b, o, none⟩)) := fun a ha => by
  simp only [execOp, ha.eval hx]
  simp [go_sem]
end
end Go.Proofs.Ytncnlhkmdljgpaa
set_option linter.unusedVariables false
set_option linter.unusedSimpArgs false
namespace Go.Proofs.Ytncnlhkmdljgpaa
open Go Go.RowKit
def u8s (l : List Int) : List Value := l.map fun x => .int .u8 x
theorem pick_any (b : Bd) (y : Int) (w : World) (h0 : -1000000000000 ≤ b.lo) (h1 : b.lo ≤ b.hi) (h2 : b.hi ≤ 1000000000000) (hy : 0 ≤ y ∧ y ≤ 255) :
    Calls Try.prog 21 #[.agg #[.int .i64 b.lo, .int .i64 b.hi], .int .u8 y] w fun e w' => e = .returned (.int .i64 (pickI b y)) ∧ Below w.heap.size w w' := by
  have hbw := Below.refl w.heap.size w
  have m1 : 0 ≤ (b.hi - b.lo) * y := Int.mul_nonneg (by omega) hy.1
  have m2 : (b.hi - b.lo) * y ≤ (b.hi - b.lo) * 255 := Int.mul_le_mul_of_nonneg_left hy.2 (by omega)
  have hp := pick_bd h1 hy.1 hy.2
  unfold pickI at hp ⊢
  refine EC.enter 17 Try.func21 rfl rfl rfl ?_
  refine EC.seq ?_
  refine EC.region ?_
  refine EL.newP (bx_23 rfl) rfl ?_
  intro g1 w1 q1 hb1 hg1 hl1
  have bhbw_1 := Nat.le_trans hbw.size hg1
  replace hbw := Below.on hbw hb1 hbw.size
  clear hb1 hg1 hl1
  refine EL.val (x_assign rfl) rfl ?_
  refine EL.nil ?_
  refine EX.seq ?_
  refine EC.seq ?_
  refine EC.region ?_
  refine EL.val (fa_23_0 rfl) rfl ?_
  refine EL.val (ld_3 rfl (q1.at (j := 0) rfl)) rfl ?_
  refine EL.val (fa_23_1 rfl) rfl ?_
  refine EL.val (ld_3 rfl (q1.at (j := 1) rfl)) rfl ?_
  refine EL.val (fa_23_0 rfl) rfl ?_
  refine EL.val (ld_3 rfl (q1.at (j := 0) rfl)) rfl ?_
  refine EL.val (x_sub rfl rfl (by first | assumption | exact IntWalk.i64_in _ ⟨by omega, by omega⟩)) rfl ?_
  refine EL.val (x_move rfl) rfl ?_
  refine EL.val (cv_5_3 rfl (IntWalk.i64_in _ ⟨by omega, by omega⟩)) rfl ?_
  refine EL.val (x_mul rfl rfl (IntWalk.i64_in _ ⟨by omega, by omega⟩)) rfl ?_
  refine EL.val (x_quo rfl rfl (by decide) (IntWalk.i64_in _ ⟨by omega, by omega⟩)) rfl ?_
  refine EL.val (x_add rfl rfl (IntWalk.i64_in _ ⟨by omega, by omega⟩)) rfl ?_
  refine EL.val (x_assign rfl) rfl ?_
  refine EL.nil ?_
  refine EX.seq ?_
  refine EC.ret ?_
  exact EX.done (res1 rfl rfl) ⟨rfl, hbw⟩
theorem part_any (l : List Int) (v : Value) (i : Nat) (w : World) (B : Nat) (hr : Rd w B 1 v l.length (u8s l)) (hn : l.length ≤ 9223372036854775807) :
    Calls Try.prog 22 #[v, .int .i64 (i : Nat)] w fun e w' => e = .returned (.int .u8 (partI l i)) ∧ Below w.heap.size w w' := by
  obtain ⟨A, c, rfl, _⟩ := hr.shape
  have hbw := Below.refl w.heap.size w
  refine EC.enter 15 Try.func22 rfl rfl rfl ?_
  refine EC.seq ?_
  refine EC.region ?_
  refine EL.val (x_assign rfl) rfl ?_
  refine EL.nil ?_
  refine EX.seq ?_
  refine EC.seq ?_
  refine EC.seq ?_
  refine EC.region ?_
  refine EL.val (x_move rfl) rfl ?_
  refine EL.val (ln_38 rfl) rfl ?_
  by_cases h0 : l.length = 0
  ·
    have hp : partI l i = 0 := by rw [partI, if_pos h0]
    refine EL.val (x_eql rfl rfl (by first | assumption | exact decide_eq_true (by omega))) rfl ?_
    refine EL.nil ?_
    refine EX.seq ?_
    refine EC.yes rfl ?_
    refine EC.seq ?_
    refine EC.region ?_
    refine EL.val (x_assign rfl) rfl ?_
    refine EL.nil ?_
    refine EX.seq ?_
    refine EC.ret ?_
    refine EX.seq_ret ?_
    exact EX.done (res1 rfl rfl) ⟨by rw [hp], hbw⟩
  ·
    have hk : i % l.length < l.length := Nat.mod_lt _ (by omega)
    have hp : partI l i = l.getD (i % l.length) 0 := by rw [partI, if_neg h0]
    obtain ⟨b, o, rfl, _, hc⟩ := hr.at_ (by omega)
    have c0 := hc (i % l.length) (.int .u8 (partI l i)) (by rw [hp]; simp [u8s, hk])
    have t1 : ((i : Nat) : Int).tmod ((l.length : Nat) : Int) = ((i % l.length : Nat) : Int) := by rw [Int.ofNat_tmod]
    refine EL.val (x_eql rfl rfl (by first | assumption | exact decide_eq_false (by omega))) rfl ?_
    refine EL.nil ?_
    refine EX.seq ?_
    refine EC.no rfl ?_
    refine EC.skip ?_
    refine EX.seq ?_
    refine EC.seq ?_
    refine EC.region ?_
    refine EL.val (x_move rfl) rfl ?_
    refine EL.val (x_move rfl) rfl ?_
    refine EL.val (x_move rfl) rfl ?_
    refine EL.val (ln_38 rfl) rfl ?_
    refine EL.val (x_rem rfl rfl (by omega) t1) rfl ?_
    refine EL.val (ix_38 rfl rfl hk) rfl ?_
    refine EL.val (ld_5 rfl c0) rfl ?_
    refine EL.val (x_assign rfl) rfl ?_
    refine EL.nil ?_
    refine EX.seq ?_
    refine EC.ret ?_
    exact EX.done (res1 rfl rfl) ⟨rfl, hbw⟩
end Go.Proofs.Ytncnlhkmdljgpaa
set_option linter.unusedVariables false
namespace Go.Proofs.Ytncnlhkmdljgpaa
open Go Go.ChangeShapes Go.WideShapes Go.Deep Go.RowKit Go.Joins
section
variable {H : Type} {enc : TypeId × Value → H} {w : World} {base : Nat} {spare : Nat → Bool} {held : Bool}
theorem co_5 : Try.prog.cellsOf 5 = 1 := by kernel_rfl
theorem co_38 : Try.prog.cellsOf 38 = 1 := by kernel_rfl
theorem co_40 : Try.prog.cellsOf 40 = 5 := by kernel_rfl
theorem flat_u8s : ∀ l : List Int, l.flatMap (fun x => [Value.int .u8 x]) = u8s l
  | [] => rfl
  | x :: l => by
    have := flat_u8s l
    simp only [u8s, List.flatMap_cons, List.map_cons, List.singleton_append] at this ⊢
    rw [this]
theorem rd_u8s {fuel : Nat} {v : Value} {x : DataW H × List MemPlace} (h : DataW.trod enc Try.prog w base spare held fuel 38 [v] = some x) : ∃ l : List Int, Rd w w.heap.size 1 v l.length (u8s l) ∧ (∀ y ∈ l, 0 ≤ y ∧ y ≤ 255) ∧ l.length ≤ maxLen := by
  obtain ⟨l, h1, h3, h2⟩ := rd_list (α := Int) (s := 1) (f := fun x => [Value.int .u8 x]) (Good := fun x => 0 ≤ x ∧ x ≤ 255) (fun _ => rfl) (by omega) Try.underlying38 co_5 (fun _ cs _ hl ht => by
    match cs, hl with
    | [u], _ =>
      obtain ⟨z, hz, _, wf⟩ := DataW.trod_int Try.underlying5 ht
      injection hz with hz
      subst hz
      exact ⟨z, rfl, wf_u8 wf⟩) h
  rw [flat_u8s] at h1
  exact ⟨l, h1, h3, h2⟩
set_option maxRecDepth 100000 in
theorem truth_of {v : Value} {d : DataW H} {p : List MemPlace} (h : DataW.Trod enc Try.prog w base spare held 40 v d p) : ∃ (b s e g : List Int) (vb vs ve vg : Value) (x : Int), v = .agg #[vb, vs, ve, vg, .int .u8 x] ∧ Rd w w.heap.size 1 vb b.length (u8s b) ∧ Rd w w.heap.size 1 vs s.length (u8s s) ∧ Rd w w.heap.size 1 ve e.length (u8s e) ∧ Rd w w.heap.size 1 vg g.length (u8s g) ∧ ((∀ y ∈ b, 0 ≤ y ∧ y ≤ 255) ∧ (∀ y ∈ s, 0 ≤ y ∧ y ≤ 255) ∧ (∀ y ∈ e, 0 ≤ y ∧ y ≤ 255) ∧ ∀ y ∈ g, 0 ≤ y ∧ y ≤ 255) ∧ (0 ≤ x ∧ x ≤ 255) ∧ b.length ≤ maxLen ∧ s.length ≤ maxLen ∧ e.length ≤ maxLen ∧ g.length ≤ maxLen := by
  obtain ⟨fuel, hf0⟩ := h
  obtain ⟨ys, n, _, _, hlen, hyl, hf⟩ := DataW.trod_struct Try.underlying40 hf0
  rw [show Try.prog.cellsOf 40 = 5 from co_40] at hlen
  have hv : ∃ c0 c1 c2 c3 c4, v = .agg #[c0, c1, c2, c3, c4] := by
    cases v <;> simp [Value.cells] at hlen
    rename_i cs
    obtain ⟨l⟩ := cs
    match l, hlen with
    | [c0, c1, c2, c3, c4], _ => exact ⟨c0, c1, c2, c3, c4, rfl⟩
  obtain ⟨u0, u1, u2, u3, u4, rfl⟩ := hv
  match ys, hyl with
  | [y0, y1, y2, y3, y4], _ =>
    have q0 : DataW.trod enc Try.prog w base spare held n 38 [u0] = some y0 := fld_of hf (j := 0) rfl rfl rfl co_38
    have q1 : DataW.trod enc Try.prog w base spare held n 38 [u1] = some y1 := fld_of hf (j := 1) rfl rfl rfl co_38
    have q2 : DataW.trod enc Try.prog w base spare held n 38 [u2] = some y2 := fld_of hf (j := 2) rfl rfl rfl co_38
    have q3 : DataW.trod enc Try.prog w base spare held n 38 [u3] = some y3 := fld_of hf (j := 3) rfl rfl rfl co_38
    have q4 : DataW.trod enc Try.prog w base spare held n 5 [u4] = some y4 := fld_of hf (j := 4) rfl rfl rfl co_5
    obtain ⟨b, h1, h2, h3⟩ := rd_u8s q0
    obtain ⟨s, i1, i2, i3⟩ := rd_u8s q1
    obtain ⟨e, j1, j2, j3⟩ := rd_u8s q2
    obtain ⟨g, k1, k2, k3⟩ := rd_u8s q3
    obtain ⟨x, hx, _, wf⟩ := DataW.trod_int Try.underlying5 q4
    injection hx with hx
    subst hx
    exact ⟨b, s, e, g, u0, u1, u2, u3, x, rfl, h1, i1, j1, k1, ⟨h2, i2, j2, k2⟩, wf_u8 wf, h3, i3, j3, k3⟩
end
end Go.Proofs.Ytncnlhkmdljgpaa
set_option linter.unusedVariables false
namespace Go.Proofs.Ytncnlhkmdljgpaa
open Go Go.RowKit
structure Pass where
  place : Int
  hours : Bd
def pass0 : Pass := ⟨0, bd0⟩
structure PassAt (w : World) (b o : Nat) (s : Pass) : Prop where
  c0 : w.cell? ⟨b, o, none⟩ = some (.int .i64 s.place)
  c1 : w.cell? ⟨b, o + 1, none⟩ = some (.int .i64 s.hours.lo)
  c2 : w.cell? ⟨b, o + 2, none⟩ = some (.int .i64 s.hours.hi)
def passOk (n h : Int) (x : Pass) : Prop := inB 0 (n - 1) x.place = true ∧ bdOk 0 (h - 1) x.hours = true
section
variable {n h : Int}
end
/-- the least depth, where and when; most: the greatest depth at this pass -/
structure Sh where
  lo : Int
  pass : Int
  hour : Int
  most : Int
structure Shal where
  lo : Int
  hi : Int
  pass : Int
  hour : Int
section
variable {rv : River} {sides : List (List Bd)} {l : List Pass}
end
end Go.Proofs.Ytncnlhkmdljgpaa
set_option linter.unusedVariables false
namespace Go.Proofs.Ytncnlhkmdljgpaa
open Go Go.RowKit
/-! ### The curve is monotone -/
theorem floor_le_ceil {a b k : Int} (hk : 0 < k) (h : a ≤ b) : floorD a k ≤ ceilD b k := by
  unfold floorD ceilD
  have h1 := Int.mul_ediv_self_le (x := a) (k := k) (by omega)
  have h2 := Int.mul_ediv_self_le (x := -b) (k := k) (by omega)
  have h3 : k * (a / k + -b / k) ≤ 0 := by rw [Int.mul_add]; omega
  have h4 : ¬ (1 ≤ a / k + -b / k) := fun h5 => by
    have := Int.mul_le_mul_of_nonneg_left h5 (show 0 ≤ k by omega)
    omega
  omega
theorem curve_lo {c : List Row} (h : curveB c = true) (hl : 2 ≤ c.length) {f : Int} {j : Nat} (hj : j < c.length) (hf : nextR c f ≤ j) : curveAt false c f ≤ (c.getD j row0).level := by
  unfold curveAt
  by_cases h0 : nextR c f = 0
  · rw [if_pos h0]; exact (curve_mono h (Nat.zero_le j) hj).2
  · rw [if_neg h0, if_neg (by omega)]
    have hb := between_next h h0 (by omega)
    have := hb.rnd_bd false
    have := (curve_mono h hf hj).2
    omega
theorem curve_hi {c : List Row} (h : curveB c = true) (hl : 2 ≤ c.length) {f : Int} {j : Nat} (hj : j < nextR c f) : (c.getD j row0).level ≤ curveAt true c f := by
  have hle := nextR_le c f
  unfold curveAt
  rw [if_neg (by omega)]
  by_cases h1 : nextR c f = c.length
  · rw [if_pos h1]; exact (curve_mono h (show j ≤ c.length - 1 by omega) (by omega)).2
  · rw [if_neg h1]
    have hb := between_next h (by omega) h1
    have := hb.rnd_bd true
    have := (curve_mono h (show j ≤ nextR c f - 1 by omega) (by omega)).2
    omega
theorem nextR_mono {c : List Row} (h : curveB c = true) {f g : Int} (hfg : f ≤ g) : nextR c f ≤ nextR c g := by
  rcases Nat.lt_or_ge (nextR c g) (nextR c f) with hlt | hge
  · have h1 := nextR_lt c f _ hlt
    have h2 := nextR_at c g (by have := nextR_le c f; omega)
    omega
  · exact hge
theorem curve_le {c : List Row} (h : curveB c = true) (hl : 2 ≤ c.length) {f g : Int} (hfg : f ≤ g) : curveAt false c f ≤ curveAt true c g := by
  have hn := nextR_mono h hfg
  have hle := nextR_le c g
  rcases Nat.lt_or_ge (nextR c f) (nextR c g) with hlt | hge
  · exact Int.le_trans (curve_lo h hl (j := nextR c f) (by omega) (Nat.le_refl _)) (curve_hi h hl hlt)
  · have e : nextR c g = nextR c f := by omega
    unfold curveAt
    rw [e]
    by_cases h0 : nextR c f = 0
    · rw [if_pos h0, if_pos h0]; exact Int.le_refl _
    · rw [if_neg h0, if_neg h0]
      by_cases h1 : nextR c f = c.length
      · rw [if_pos h1, if_pos h1]; exact Int.le_refl _
      · rw [if_neg h1, if_neg h1]
        have hb := between_next h h0 h1
        have a1 := hb.f1
        have a2 := hb.f2
        have a3 := hb.l1
        have := floor_le_ceil (a := (f - (c.getD (nextR c f - 1) row0).flow) * ((c.getD (nextR c f) row0).level - (c.getD (nextR c f - 1) row0).level)) (b := (g - (c.getD (nextR c f - 1) row0).flow) * ((c.getD (nextR c f) row0).level - (c.getD (nextR c f - 1) row0).level)) (k := (c.getD (nextR c f) row0).flow - (c.getD (nextR c f - 1) row0).flow) (by omega) (Int.mul_le_mul_of_nonneg_right (by omega) (by omega))
        simp only [rnd]
        simp only [Bool.false_eq_true, if_false, if_true]
        omega
theorem level_le {x : Reach} (hx : ReachOk x) {f : Bd} (hf : f.lo ≤ f.hi) : (levelAt x f).lo ≤ (levelAt x f).hi := by
  have := curve_le hx.curve hx.rows.1 hf
  simp only [levelAt]
  omega
theorem bedOf_le {n : Int} {s : Shoal} (hs : shoalB n s = true) (t : Int) : (bedOf s t).lo ≤ (bedOf s t).hi := by
  simp only [shoalB, Bool.and_eq_true, bdOk_iff] at hs
  have h1 : s.grow.lo * max 0 (t - s.sounded) ≤ s.grow.hi * max 0 (t - s.sounded) := Int.mul_le_mul_of_nonneg_right hs.2.2.2.2.1 (by omega)
  have h2 := floor_le_ceil (k := 24) (by omega) h1
  simp only [bedOf]
  omega
theorem topOf_le {n t : Int} : ∀ {l : List Shoal} {b : Bd}, (∀ s ∈ l, shoalB n s = true) → b.lo ≤ b.hi → (topOf t b l).lo ≤ (topOf t b l).hi
  | [], _, _, h => h
  | s :: l, b, hs, h => by
    have h1 := bedOf_le (hs s (by simp)) t
    exact topOf_le (l := l) (b := b.top (bedOf s t)) (fun x hx => hs x (by simp [hx])) (by simp only [Bd.top]; omega)
theorem depth_le {rv : River} {sides : List (List Bd)} (hS : StartOk rv sides) {p t : Int} (hp1 : 0 ≤ p) (hp2 : p < placesOf rv.reaches) (ht2 : t < (sides.getD 0 []).length) : (depthAt rv sides p t).lo ≤ (depthAt rv sides p t).hi := by
  have hlt := reachOf_lt rv.reaches p hp1 hp2
  have hx := hS.river.reach _ hlt
  have h1 := level_le hx (flowIn_small hS _ t hlt ht2).2.1
  have h2 : (bedAt rv p t).lo ≤ (bedAt rv p t).hi := topOf_le (n := placesOf rv.reaches) (fun s hs => by
    have hm := (List.mem_filter.1 hs).1
    obtain ⟨k, hk, e⟩ := List.getElem_of_mem hm
    have := hS.river.shoal k hk
    rwa [show rv.shoals.getD k shoal0 = s by simp [hk, e]] at this) hx.bottom.2.1
  simp only [depthAt]
  omega
section
variable {D : Int → Bd} {i k0 a b : Int} {s : Sh} {n : Nat}
end
section
variable {rv : River} {sides : List (List Bd)} {l l' : List Pass}
/-- what holds of a valid way -/
structure WayOk (rv : River) (sides : List (List Bd)) (l : List Pass) : Prop where
  some : 1 ≤ l.length ∧ l.length ≤ 60
  ok : ∀ j, j < l.length → passOk (placesOf rv.reaches) ((sides.getD 0 []).length : Nat) (l.getD j pass0)
variable (hS : StartOk rv sides) (hw : WayOk rv sides l)
end
end Go.Proofs.Ytncnlhkmdljgpaa
set_option linter.unusedVariables false
set_option linter.unusedSimpArgs false
namespace Go.Proofs.Ytncnlhkmdljgpaa
open Go Go.RowKit
/-! ### The curve, rounded one way, is monotone; the two ways differ by one at most -/
theorem rnd_mono {up : Bool} {a b k : Int} (hk : 0 < k) (h : a ≤ b) : rnd up a k ≤ rnd up b k := by
  cases up
  · exact Int.ediv_le_ediv hk h
  · have : -b / k ≤ -a / k := Int.ediv_le_ediv hk (by omega)
    simp only [rnd, ceilD, if_true]
    omega
theorem curve_lo' {up : Bool} {c : List Row} (h : curveB c = true) (hl : 2 ≤ c.length) {f : Int} {j : Nat} (hj : j < c.length) (hf : nextR c f ≤ j) : curveAt up c f ≤ (c.getD j row0).level := by
  unfold curveAt
  by_cases h0 : nextR c f = 0
  · rw [if_pos h0]; exact (curve_mono h (Nat.zero_le j) hj).2
  · rw [if_neg h0, if_neg (by omega)]
    have hb := between_next h h0 (by omega)
    have := hb.rnd_bd up
    have := (curve_mono h hf hj).2
    omega
theorem curve_hi' {up : Bool} {c : List Row} (h : curveB c = true) (hl : 2 ≤ c.length) {f : Int} {j : Nat} (hj : j < nextR c f) : (c.getD j row0).level ≤ curveAt up c f := by
  have hle := nextR_le c f
  unfold curveAt
  rw [if_neg (by omega)]
  by_cases h1 : nextR c f = c.length
  · rw [if_pos h1]; exact (curve_mono h (show j ≤ c.length - 1 by omega) (by omega)).2
  · rw [if_neg h1]
    have hb := between_next h (by omega) h1
    have := hb.rnd_bd up
    have := (curve_mono h (show j ≤ nextR c f - 1 by omega) (by omega)).2
    omega
theorem curve_le' {up : Bool} {c : List Row} (h : curveB c = true) (hl : 2 ≤ c.length) {f g : Int} (hfg : f ≤ g) : curveAt up c f ≤ curveAt up c g := by
  have hn := nextR_mono h hfg
  have hle := nextR_le c g
  rcases Nat.lt_or_ge (nextR c f) (nextR c g) with hlt | hge
  · exact Int.le_trans (curve_lo' h hl (j := nextR c f) (by omega) (Nat.le_refl _)) (curve_hi' h hl hlt)
  · have e : nextR c g = nextR c f := by omega
    unfold curveAt
    rw [e]
    by_cases h0 : nextR c f = 0
    · rw [if_pos h0, if_pos h0]; exact Int.le_refl _
    · rw [if_neg h0, if_neg h0]
      by_cases h1 : nextR c f = c.length
      · rw [if_pos h1, if_pos h1]; exact Int.le_refl _
      · rw [if_neg h1, if_neg h1]
        have hb := between_next h h0 h1
        have a1 := hb.f1
        have a2 := hb.f2
        have a3 := hb.l1
        have := rnd_mono (up := up) (a := (f - (c.getD (nextR c f - 1) row0).flow) * ((c.getD (nextR c f) row0).level - (c.getD (nextR c f - 1) row0).level)) (b := (g - (c.getD (nextR c f - 1) row0).flow) * ((c.getD (nextR c f) row0).level - (c.getD (nextR c f - 1) row0).level)) (k := (c.getD (nextR c f) row0).flow - (c.getD (nextR c f - 1) row0).flow) (by omega) (Int.mul_le_mul_of_nonneg_right (by omega) (by omega))
        omega
theorem topOf_append (h : Int) (b : Bd) (l : List Shoal) (s : Shoal) : topOf h b (l ++ [s]) = (topOf h b l).top (bedOf s h) := by
  simp [topOf, List.foldl_append]
end Go.Proofs.Ytncnlhkmdljgpaa
set_option linter.unusedVariables false
namespace Go.Proofs.Ytncnlhkmdljgpaa
open Go Go.RowKit
theorem spl_len {l : List Value} {o : Nat} {vs : List Value} (h : o + vs.length ≤ l.length) : (spl l o vs).length = l.length := by
  rw [spl_eq l o vs h]
  simp
  omega
theorem spl_take {l : List Value} {o N : Nat} {vs : List Value} (h : o + vs.length ≤ N) (hN : N ≤ l.length) : (spl l o vs).take N = spl (l.take N) o vs := by
  rw [spl_eq l o vs (by omega), spl_eq (l.take N) o vs (by rw [List.length_take]; omega)]
  apply List.ext_getElem?
  intro i
  simp only [List.getElem?_take, List.getElem?_append, List.getElem?_drop, List.length_append, List.length_take]
  by_cases h1 : i < N
  · rw [if_pos h1]
    by_cases h2 : i < o
    · rw [if_pos (by omega), if_pos (by omega), if_pos h2, if_pos (by omega), if_pos (by omega), if_pos h2, if_pos h1]
    · by_cases h3 : i < o + vs.length
      · rw [if_pos (by omega), if_neg (by omega), if_pos (by omega), if_neg (by omega)]
        congr 1
        omega
      · rw [if_neg (by omega), if_neg (by omega), if_pos (by omega)]
        congr 1
        omega
  · rw [if_neg h1, if_neg (by omega), if_neg (by omega)]
section
variable {P : Program} {n : Nat} {σ : Sg} {w : World} {Q : Exit → Act → World → Prop} {L : List Oper} {rest : List Oper}
theorem EL.storeRow {ty t g o k base e size m cap : Nat} {x y : Operand} {pos : String} {af : Array Edge} {l' xs : List Value} {v : Value} (hx : evS σ x = some (.pointer (some ⟨g, o, none⟩))) (hy : evS σ y = some v) (hown : w.ownsRow base e size (.slice (some ⟨g, 0, none⟩) m cap) m xs) (hs : (P.info? t).map (·.size) = some k) (hv : v.cells.toList = l') (hk : lenV l' = k) (ho : o + k ≤ xs.length) (h1 : allOne l' = true)
    (next : ∀ w', w'.ownsRow base e size (.slice (some ⟨g, 0, none⟩) m cap) m (spl xs o l') → w.grownBy w' (some g) → EL P n L Q rest σ w') : EL P n L Q (⟨none, .store t x y, ty, pos, af, none⟩ :: rest) σ w := by
  obtain ⟨hl, ⟨h, _⟩ | ⟨g', cap', cur, h, hb, hg, hc1, hc2, hc3, hc4⟩⟩ := hown
  · cases h
  · injection h with h _ h2
    injection h with h
    injection h with h _
    subst h
    subst h2
    have hlk : l'.length = k := by rw [← lenV_eq]; exact hk
    have hle : m * size ≤ cur.toList.length := by rw [Array.length_toList, hc3]; exact Nat.mul_le_mul_right _ hc1
    have hq : Blk w g e cur.toList.toArray := hg
    refine EL.store hx hy hq hs hv hk (by simp only [Nat.ble_eq, lenV_eq]; omega) h1 fun w' hq' hgr => next w' ?_ hgr
    have hx2 : spl xs o l' = (spl cur.toList o l').take (m * size) := by rw [spl_take (by omega) hle, hc4]
    refine ⟨by rw [spl_len (by omega)]; exact hl, .inr ⟨g, cap, _, rfl, hb, hq', hc1, hc2, ?_, ?_⟩⟩
    · rw [List.size_toArray, spl_len (by omega), Array.length_toList]; exact hc3
    · rw [hx2]
end
end Go.Proofs.Ytncnlhkmdljgpaa
set_option linter.unusedVariables false
set_option linter.unusedSimpArgs false
namespace Go.Proofs.Ytncnlhkmdljgpaa
open Go Go.RowKit
section
variable {n : Nat} {σ : Sg} {w : World} {dst : Option Tmp} {ty : TypeId} {pos : String} {af : Array Edge} {g : Option (Nat × Bool)} {x y z : Operand} {at' : Array TypeId}
theorem al_54 (a : Act) (_ : Env n σ a) : (execOp a.eval ⟨dst, .alloc 54, ty, pos, af, g⟩).run Try.prog w = .ok (.value (.pointer (some ⟨w.heap.size, 0, none⟩))) (w.alloc (.cells #[.slice none 0 0, .slice none 0 0, .slice none 0 0] 54)) := by
  simp only [execOp]
  simp [go_sem]
theorem bd_54_0_1 {x0 x1 : Operand} {v0_0 : Value} {v0_1 : Value} {A1 : Option Addr} {m1 : Nat} {c1 : Nat} (h0 : evS σ x0 = some (.agg #[v0_0, v0_1])) (h1 : evS σ x1 = some (.slice A1 m1 c1)) : Gives Try.prog n σ w ⟨dst, .build 54 #[(0, x0), (1, x1)], ty, pos, af, g⟩ (.agg #[v0_0, v0_1, .slice A1 m1 c1]) := fun a ha => by
  simp only [execOp, List.map_toArray, List.map_cons, List.map_nil, ha.eval h0, ha.eval h1]
  go_simp
theorem sz_54 : (Try.prog.info? 54).map (·.size) = some 3 := by kernel_rfl
end
end Go.Proofs.Ytncnlhkmdljgpaa
set_option linter.unusedVariables false
set_option linter.unusedSimpArgs false
namespace Go.Proofs.Ytncnlhkmdljgpaa
open Go Go.RowKit
/-- rows that are apart from each other -/
def PW (fs : List Value) : Prop := ∀ i j, i < j → j < fs.length → Apart (fs.getD i undef) (fs.getD j undef)
theorem PW.nil : PW [] := fun i j _ h => absurd h (by simp)
theorem PW.snoc {w : World} {base e osize n tb size : Nat} {vf v : Value} {outer : List Value} {fs : List Value} {F : List (Nat × List Value)} (h : PW fs) (hR : Rows w base e osize vf n outer tb size fs F) (hv : ∀ g, v.ownBlock = some g → w.heap.size ≤ g) : PW (fs ++ [v]) := fun i j hij hj => by
  rw [getD_snoc, getD_snoc]
  simp only [List.length_append, List.length_singleton] at hj
  by_cases h1 : j < fs.length
  · rw [if_pos (by omega), if_pos h1]; exact h i j hij h1
  · rw [if_pos (by omega), if_neg h1, if_pos (by omega)]
    intro g h2 h3
    have h4 := hv g h3
    have h5 := hR.each i (by rw [← hR.len]; omega)
    have := (h5.lt g h2).2
    omega
theorem PW.ne {fs : List Value} (h : PW fs) {i j : Nat} (hi : i < fs.length) (hj : j < fs.length) (hij : i ≠ j) : Apart (fs.getD i undef) (fs.getD j undef) := by
  rcases Nat.lt_or_ge i j with h1 | h1
  · exact h i j h1 hj
  · exact (h j i (by omega) hi).symm
theorem forecast_pw (l : List (List Bd)) (v : Value) (ss : List Value) (w : World) (B : Nat) (hs : RdSides w B v l ss) (hB : B ≤ w.heap.size) (hl : l.length ≤ 1048575) (hsb : ∀ i, i < l.length → (l.getD i []).length ≤ 1048576) :
    Calls Try.prog 34 #[v] w fun e w' => (∃ v' fs b1, e = .returned v' ∧ w.heap.size ≤ b1 ∧ Rows w' b1 28 1 v' l.length fs 23 2 fs (rowsB l) ∧ PW fs) ∧ Below w.heap.size w w' := by
  obtain ⟨A, c, rfl, _⟩ := hs.rd.shape
  have hbw := Below.refl w.heap.size w
  refine EC.enter 22 Try.func34 rfl rfl rfl ?_
  refine EC.seq ?_
  refine EC.region ?_
  refine EL.val (x_assign rfl) rfl ?_
  refine EL.nil ?_
  refine EX.seq ?_
  refine EC.seq ?_
  refine EC.region ?_
  have st1_hbw := hbw.size
  refine EL.newS bs_52_0 rfl ?_
  intro g2 w2 q2 hb2 hg2 hl2
  have bhbw_2 := Nat.le_trans hbw.size hg2
  replace hbw := Below.on hbw hb2 hbw.size
  clear hb2 hl2
  refine EL.val (x_assign rfl) rfl ?_
  refine EL.nil ?_
  refine EX.seq ?_
  refine EC.seq ?_
  refine EC.seq ?_
  refine EC.region ?_
  refine EL.val (x_assign rfl) rfl ?_
  refine EL.nil ?_
  refine EX.seq ?_
  refine EC.block ?_
  have hge0 : w.heap.size ≤ g2 := hg2
  refine EC.loopD [3, 4, 6, 7, 8, 9, 10, 11, 12, 13, 14, 15, 16, 17, 18, 19, 20] (fun x : Nat × Value × List Value => [(4, .int .i64 (x.1 : Nat)), (3, x.2.1)]) (fun x W => x.1 ≤ l.length ∧ Rows W w.heap.size 28 1 x.2.1 x.1 x.2.2 23 2 x.2.2 (rowsB (l.take x.1)) ∧ PW x.2.2 ∧ Below w.heap.size w W) (fun x => l.length - x.1) (0, _, []) ⟨Nat.zero_le _, Rows.start (own_empty 1 q2 hge0), PW.nil, hbw⟩ ⟨rfl, rfl, trivial⟩ ?_
  rintro ⟨i, vo, fs⟩ wr ⟨hi, hR, hPW, hbw⟩
  simp only at hi hR
  by_cases hlt : i < l.length
  ·
    have hbr := Below.refl wr.heap.size wr
    obtain ⟨b, o, rfl, _, c0⟩ := sides_cell hs i hlt
    have hside := hs.side i hlt
    obtain ⟨As, cs, es, _⟩ := hside.shape
    rw [es] at c0 hside
    have hlen := hsb i hlt
    refine EC.seq ?_
    refine EC.seq ?_
    refine EC.region ?_
    refine EL.val (x_move rfl) rfl ?_
    refine EL.val (x_move rfl) rfl ?_
    refine EL.val (ln_52 rfl) rfl ?_
    refine EL.val (x_lss rfl rfl (by first | assumption | exact decide_eq_true (by omega))) rfl ?_
    refine EL.nil ?_
    refine EX.seq ?_
    refine EC.yes rfl ?_
    refine EC.skip ?_
    refine EX.seq ?_
    refine EC.seq ?_
    refine EC.block ?_
    refine EC.region ?_
    refine EL.val (x_move rfl) rfl ?_
    have st3_hbw := hbw.size
    have st3_hbr := hbr.size
    refine EL.newS bs_28_0 rfl ?_
    intro g4 w4 q4 hb4 hg4 hl4
    have bhbw_4 := Nat.le_trans hbw.size hg4
    have bhbr_4 := Nat.le_trans hbr.size hg4
    replace hbw := Below.on hbw hb4 hbw.size
    replace hbr := Below.on hbr hb4 hbr.size
    clear hb4 hl4
    refine EL.val (x_move rfl) rfl ?_
    refine EL.val (x_move rfl) rfl ?_
    refine EL.val (ix_52 rfl rfl hlt) rfl ?_
    refine EL.val (ld_28 rfl (below_load hbw c0)) rfl ?_
    have oin := own_empty (base := wr.heap.size) 2 q4 hg4
    refine EL.push bds_elem rfl rfl oin (hside.below (hbw.mono hB)) (bdsC_one _) (by omega) rfl (Nat.le_trans hg4 (Nat.le_of_lt q4.lt)) rfl ?_
    intro vi w5 hoi hgr5 hb5 _
    rw [Nat.zero_add, List.nil_append] at hoi
    replace hbw := hbw.trans (hb5.mono st3_hbw)
    replace hbr := hbr.trans (hb5.mono st3_hbr)
    have hvi := fun g (h : vi.ownBlock = some g) => (hoi.lt g h).1
    obtain ⟨Ai, ci, ei, _⟩ := (Rd.of_own hoi).shape
    subst ei
    refine EL.newS (bs_52_1 rfl) rfl ?_
    intro g6 w6 q6 hb6 hg6 hl6
    have bhbw_6 := Nat.le_trans hbw.size hg6
    have bhbr_6 := Nat.le_trans hbr.size hg6
    replace hoi := own_below hoi hb6 (Nat.le_refl _)
    replace hbw := Below.on hbw hb6 hbw.size
    replace hbr := Below.on hbr hb6 hbr.size
    clear hb6 hg6 hl6
    have hR2 := hR.below hbr
    have hoi2 := own_less hoi st3_hbw
    have hap := apart_fresh hR.own hvi
    refine EL.push lists_elem rfl rfl hR2.own (rd_one (l := [.slice Ai (l.getD i []).length ci]) q6 rfl) (by simp [Value.oneCell']) (by omega) rfl hbw.size rfl ?_
    intro v' w7 ho2 hgr7 hb7 hat7
    have hR3 := hR2.push0 hoi2 hap ho2 hgr7 hat7
    replace hbw := hbw.trans hb7
    refine EL.val (x_assign rfl) rfl ?_
    refine EL.nil ?_
    refine EX.blk ?_
    refine EX.seq ?_
    refine EC.region ?_
    refine EL.val (x_move rfl) rfl ?_
    refine EL.val (x_add rfl rfl (by first | assumption | exact IntWalk.i64_in _ ⟨by omega, by omega⟩)) rfl ?_
    refine EL.val (x_assign rfl) rfl ?_
    refine EL.nil ?_
    refine EX.roundD (i + 1, v', fs ++ [_]) ⟨rfl, rfl, trivial⟩ (by repeat first | exact Sub.refl _ | refine sub_past rfl ?_ | refine sub_del rfl ?_ | refine sub_insL_nil ?_) ⟨hlt, by rw [rowsB_take hlt]; exact hR3, hPW.snoc hR hvi, hbw⟩ (by simp only; omega)
  ·
    obtain rfl : i = l.length := by omega
    refine EC.seq ?_
    refine EC.seq ?_
    refine EC.region ?_
    refine EL.val (x_move rfl) rfl ?_
    refine EL.val (x_move rfl) rfl ?_
    refine EL.val (ln_52 rfl) rfl ?_
    refine EL.val (x_lss rfl rfl (by first | assumption | exact decide_eq_false (by omega))) rfl ?_
    refine EL.nil ?_
    refine EX.seq ?_
    refine EC.no rfl ?_
    refine EC.exit ?_
    refine EX.seq_exit ?_
    refine EX.seq_exit ?_
    refine EX.blk_here ?_
    refine EX.seq ?_
    refine EC.seq ?_
    refine EC.region ?_
    refine EL.val (x_move rfl) rfl ?_
    refine EL.val (x_assign rfl) rfl ?_
    refine EL.nil ?_
    refine EX.seq ?_
    refine EC.ret ?_
    rw [List.take_length] at hR
    exact EX.done (res1 rfl rfl) ⟨⟨_, _, _, rfl, Nat.le_refl _, hR, hPW⟩, hbw⟩
theorem getD_setR {α : Type} {l : List α} {i j : Nat} {x d : α} (hi : i < l.length) : (l.set i x).getD j d = if i = j then x else l.getD j d := by
  simp only [List.getD_eq_getElem?_getD, List.getElem?_set]
  by_cases h : i = j
  · subst h; simp [hi]
  · simp [h]
section
variable {hi : Bool}
end
theorem own_blk {w : World} {base e size n m c g : Nat} {xs : List Value} (h : w.ownsRow base e size (.slice (some ⟨g, 0, none⟩) n c) m xs) : ∃ cs, Blk w g e cs := by
  obtain ⟨_, ⟨h0, _⟩ | ⟨g', cap, cur, h1, _, hg, _⟩⟩ := h
  · cases h0
  · injection h1 with h1
    injection h1 with h1
    injection h1 with h1 _
    subst h1
    exact ⟨cur, hg⟩
theorem row_ne2 {w : World} {base e size n m c g k T : Nat} {xs : List Value} {cs : Array Value} (h : w.ownsRow base e size (.slice (some ⟨g, 0, none⟩) n c) m xs) (hq : Blk w k T cs) (hT : Nat.beq T e = false) : k ≠ g := fun e1 => by
  subst e1
  obtain ⟨ds, h1⟩ := own_blk h
  unfold Blk at hq h1
  rw [hq] at h1
  injection h1 with h1
  injection h1 with _ h3
  exact Nat.ne_of_beq_eq_false hT h3
theorem OwnRiver.set {w w' : World} {base g n c i : Nat} {u : Value} {r : River} {vs : List Value} {x' : Reach} (h : OwnRiver w base (.slice (some ⟨g, 0, none⟩) n c) u r vs) (hi : i < r.reaches.length) (hc : x'.curve = (r.reaches.getD i reach0).curve) (hown : w'.ownsRow base 50 9 (.slice (some ⟨g, 0, none⟩) n c) n (((r.reaches.set i x').zip vs).flatMap reachC)) (hn : n = r.reaches.length) (hg : w.grownBy w' (some g)) : OwnRiver w' base (.slice (some ⟨g, 0, none⟩) n c) u ⟨r.reaches.set i x', r.shoals⟩ vs := by
  subst hn
  obtain ⟨cs, hq⟩ := own_blk h.rows.own
  have hrw : rowsR (r.reaches.set i x') = rowsR r.reaches := by
    unfold rowsR
    apply List.ext_getElem?
    intro j
    simp only [List.getElem?_map, List.getElem?_set]
    by_cases e : i = j
    · subst e
      have h2 : r.reaches.getD i reach0 = r.reaches[i] := by simp [hi]
      rw [h2] at hc
      simp [hi, hc]
    · simp [e]
  refine ⟨⟨by simpa using hown, by rw [hrw]; exact h.rows.len, fun j hj => ?_, fun j hj => ?_⟩, own_type h.sh hq rfl hg⟩
  · rw [hrw] at hj ⊢
    exact own_type (h.rows.each j hj) hq rfl hg
  · rw [hrw] at hj
    exact h.rows.apart j hj
theorem OwnSides.set {w w' : World} {base g i c : Nat} {s : Value} {l : List (List Bd)} {fs : List Value} {row : List Bd} (h : OwnSides w base s l fs) (hpw : PW fs) (hi : i < l.length) (hv : fs.getD i undef = .slice (some ⟨g, 0, none⟩) row.length c) (hrow : row.length = (l.getD i []).length) (hown : w'.ownsRow base 23 2 (.slice (some ⟨g, 0, none⟩) row.length c) row.length (bdsC row)) (hg : w.grownBy w' (some g)) : OwnSides w' base s (l.set i row) fs := by
  have hlen : fs.length = l.length := by have := h.len; rwa [rowsB_len] at this
  have hgv : w.grownBy w' (fs.getD i undef).ownBlock := by rw [hv]; exact hg
  refine ⟨?_, by rw [h.len, rowsB_len, rowsB_len, List.length_set], fun j hj => ?_, fun j hj => ?_⟩
  · have := own_apart h.own hgv (h.apart i (by rw [rowsB_len]; exact hi)).symm
    simpa using this
  · rw [rowsB_len, List.length_set] at hj
    have e1 : (rowsB (l.set i row)).getD j (0, []) = (((l.set i row).getD j []).length, bdsC ((l.set i row).getD j [])) := rowsB_at _ j (by rw [List.length_set]; exact hj)
    rw [e1, getD_setR hi]
    by_cases e : i = j
    · subst e
      rw [if_pos rfl, hv]
      exact hown
    · rw [if_neg e]
      have h2 := h.each j (by rw [rowsB_len]; exact hj)
      have e2 : (rowsB l).getD j (0, []) = ((l.getD j []).length, bdsC (l.getD j [])) := by simp [rowsB, hj]
      rw [e2] at h2
      exact own_apart h2 hgv (hpw.ne (by omega) (by omega) e)
  · rw [rowsB_len, List.length_set] at hj
    exact h.apart j (by rw [rowsB_len]; exact hj)
theorem forecast_PS (l : List (List Bd)) (v : Value) (ss : List Value) (w : World) (B : Nat) (hs : RdSides w B v l ss) (hB : B ≤ w.heap.size) (hl : l.length ≤ 1048575) (hsb : ∀ i, i < l.length → (l.getD i []).length ≤ 1048576) :
    Calls Try.prog 34 #[v] w fun e w' => (∃ v' fs, e = .returned v' ∧ OwnSides w' w.heap.size v' l fs ∧ PW fs) ∧ Below w.heap.size w w' :=
  (forecast_pw l v ss w B hs hB hl hsb).mono fun _ _ ⟨⟨v', fs, _, h1, h0, h2, hp⟩, h3⟩ => ⟨⟨v', fs, h1, Rows.less h2 h0, hp⟩, h3⟩
theorem own_slice {w : World} {base e size m c : Nat} {A : Option Addr} {xs : List Value} (h : w.ownsRow base e size (.slice A m c) m xs) (hm : 0 < m) : ∃ g, A = some ⟨g, 0, none⟩ := by
  obtain ⟨_, ⟨_, h0⟩ | ⟨g, _, _, h1, _⟩⟩ := h
  · omega
  · injection h1 with h1; exact ⟨g, h1⟩
end Go.Proofs.Ytncnlhkmdljgpaa
set_option linter.unusedVariables false
set_option linter.unusedSimpArgs false
namespace Go.Proofs.Ytncnlhkmdljgpaa
open Go Go.RowKit
section
variable {P : Program} {n : Nat} {σ : Sg} {w : World} {Q : Exit → Act → World → Prop} {L : List Oper} {rest : List Oper}
theorem EL.newSg {d ty m c j t : Nat} {b : Bool} {op : Op} {pos : String} {af : Array Edge} {cs : Array Value} {T : TypeId} (hj : dstOf L j = some t) (ht : σ t = some (.bool b)) (h : ∀ a, Env n σ a → (execOp a.eval ⟨some d, op, ty, pos, af, some (j, b)⟩).run P w = .ok (.value (.slice (some ⟨w.heap.size, 0, none⟩) m c)) (w.alloc (.cells cs T))) (hd : Nat.blt d n = true)
    (next : ∀ g w', Blk w' g T cs → Below w.heap.size w w' → w.heap.size ≤ g → w.heap.size < w'.heap.size → EL P n L Q rest (ins σ d (.slice (some ⟨g, 0, none⟩) m c)) w') : EL P n L Q (⟨some d, op, ty, pos, af, some (j, b)⟩ :: rest) σ w :=
  fun a ha => wpL_run (by simp [Region.wanted, yield_of ha hj ht]) (h a ha) (next _ _ (Blk.new w T cs) ((Below.refl _ _).alloc (Nat.le_refl _) _) (Nat.le_refl _) (by simp) _ (ha.put hd _))
end
structure Clos where
  fr : Int
  to : Int
  bg : Bd
  en : Bd
def clos0 : Clos := ⟨0, 0, bd0, bd0⟩
def closC (c : Clos) : List Value := [.int .i64 c.fr, .int .i64 c.to, .int .i64 c.bg.lo, .int .i64 c.bg.hi, .int .i64 c.en.lo, .int .i64 c.en.hi]
def closesC (l : List Clos) : List Value := l.flatMap closC
theorem closC_len (s : Clos) : (closC s).length = 6 := rfl
theorem closesC_len (l : List Clos) : (closesC l).length = l.length * 6 := flat_len closC_len l
structure ClosAt (w : World) (b o : Nat) (s : Clos) : Prop where
  c0 : w.cell? ⟨b, o, none⟩ = some (.int .i64 s.fr)
  c1 : w.cell? ⟨b, o + 1, none⟩ = some (.int .i64 s.to)
  c2 : w.cell? ⟨b, o + 2, none⟩ = some (.int .i64 s.bg.lo)
  c3 : w.cell? ⟨b, o + 3, none⟩ = some (.int .i64 s.bg.hi)
  c4 : w.cell? ⟨b, o + 4, none⟩ = some (.int .i64 s.en.lo)
  c5 : w.cell? ⟨b, o + 5, none⟩ = some (.int .i64 s.en.hi)
theorem closes_cells (l : List Clos) (k : Nat) (hk : k < l.length) (w : World) (B : Nat) (A : Option Addr) (n c : Nat) (hr : Rd w B 6 (.slice A n c) n (closesC l)) :
    ∃ b off, A = some ⟨b, off, none⟩ ∧ b < B ∧ ClosAt w b (off + k * 6) (l.getD k clos0) := by
  have hl : n * 6 = l.length * 6 := by rw [← hr.len, closesC_len]
  obtain ⟨b, off, rfl, hb, hc⟩ := hr.at_ (by omega)
  have e : l.getD k clos0 = l[k] := by simp [hk]
  rw [e]
  have g := fun j hj => flat_get closC_len l k hk j hj
  exact ⟨b, off, rfl, hb, hc (k * 6) _ (g 0 (by omega)), hc (k * 6 + 1) _ (g 1 (by omega)), hc (k * 6 + 2) _ (g 2 (by omega)), hc (k * 6 + 3) _ (g 3 (by omega)), hc (k * 6 + 4) _ (g 4 (by omega)), hc (k * 6 + 5) _ (g 5 (by omega))⟩
/-- whether a closure closes a place in an hour -/
def mayShut (p t : Int) (c : Clos) : Bool := inB c.fr c.to p && (decide (c.bg.lo ≤ t) && decide (t < c.en.hi))
def mustShut (p t : Int) (c : Clos) : Bool := inB c.fr c.to p && (decide (c.bg.hi ≤ t) && decide (t < c.en.lo))
def closOk (n : Int) (c : Clos) : Bool := inB 0 (n - 1) c.fr && (inB c.fr (n - 1) c.to && (bdOk (-400) 800 c.bg && bdOk (-400) 800 c.en))
def closErr (n : Int) (l : List Clos) : Int := if 40 < l.length then 5 else if l.all (closOk n) = false then 2 else 0
def mayAny (lv : Bd) (fl p t : Int) (l : List Clos) : Bool := decide (fl < lv.hi) || l.any (mayShut p t)
def mustAny (lv : Bd) (fl p t : Int) (l : List Clos) : Bool := decide (fl < lv.lo) || l.any (mustShut p t)
theorem any_take {l : List Clos} {f : Clos → Bool} {k : Nat} (hk : k < l.length) : (l.take (k + 1)).any f = ((l.take k).any f || f (l.getD k clos0)) := by
  rw [List.take_succ_eq_append_getElem hk, List.any_append, show l.getD k clos0 = l[k] by simp [hk]]
  simp only [List.any_cons, List.any_nil, Bool.or_false]
theorem mayAny_take {lv : Bd} {fl p t : Int} {l : List Clos} {k : Nat} (hk : k < l.length) : mayAny lv fl p t (l.take (k + 1)) = (mayAny lv fl p t (l.take k) || mayShut p t (l.getD k clos0)) := by
  rw [mayAny, any_take hk, mayAny, Bool.or_assoc]
theorem mustAny_take {lv : Bd} {fl p t : Int} {l : List Clos} {k : Nat} (hk : k < l.length) : mustAny lv fl p t (l.take (k + 1)) = (mustAny lv fl p t (l.take k) || mustShut p t (l.getD k clos0)) := by
  rw [mustAny, any_take hk, mustAny, Bool.or_assoc]
theorem all_of_getD {l : List Clos} {f : Clos → Bool} (h : ∀ i, i < l.length → f (l.getD i clos0) = true) : l.all f = true := List.all_eq_true.2 fun x hx => by
  obtain ⟨k, hk, e⟩ := List.getElem_of_mem hx
  have := h k hk
  rwa [show l.getD k clos0 = x by simp [hk, e]] at this
theorem clos_all_not {l : List Clos} {f : Clos → Bool} {k : Nat} (hk : k < l.length) (h : f (l.getD k clos0) = false) : l.all f = false := by
  cases e : l.all f with
  | false => rfl
  | true => have := List.all_eq_true.1 e _ (getD_mem (d := clos0) hk); rw [h] at this; cases this
theorem closOk_iff {n : Int} {c : Clos} : closOk n c = true ↔ (0 ≤ c.fr ∧ c.fr ≤ n - 1) ∧ (c.fr ≤ c.to ∧ c.to ≤ n - 1) ∧ bdOk (-400) 800 c.bg = true ∧ bdOk (-400) 800 c.en = true := by
  simp only [closOk, Bool.and_eq_true, inB_iff]
/-- what Closed returns -/
def cldErr (rv : River) (sides : List (List Bd)) (l : List Clos) (p t : Int) : Int := if startErr rv sides ≠ 0 then startErr rv sides else if closErr (placesOf rv.reaches) l ≠ 0 then closErr (placesOf rv.reaches) l else if inB 0 (placesOf rv.reaches - 1) p = false then 7 else if inB 0 (((sides.getD 0 []).length : Nat) - 1 : Int) t = false then 3 else 0
def lvAt (rv : River) (sides : List (List Bd)) (p t : Int) : Bd := levelAt (rv.reaches.getD (reachOf rv.reaches p) reach0) (flowIn rv.reaches sides (reachOf rv.reaches p) t)
def flAt (rv : River) (p : Int) : Int := (rv.reaches.getD (reachOf rv.reaches p) reach0).flood
def cldMay (rv : River) (sides : List (List Bd)) (l : List Clos) (p t : Int) : Bool := decide (cldErr rv sides l p t = 0) && mayAny (lvAt rv sides p t) (flAt rv p) p t l
def cldMust (rv : River) (sides : List (List Bd)) (l : List Clos) (p t : Int) : Bool := decide (cldErr rv sides l p t = 0) && mustAny (lvAt rv sides p t) (flAt rv p) p t l
section
variable {rv : River} {sides : List (List Bd)} {l : List Clos} {p t : Int}
theorem cld_of {e : Int} (h : cldErr rv sides l p t = e) (he : e ≠ 0) : cldErr rv sides l p t = e ∧ cldMay rv sides l p t = false ∧ cldMust rv sides l p t = false := by
  refine ⟨h, ?_, ?_⟩ <;> simp [cldMay, cldMust, h, he]
theorem cld_open (h : startErr rv sides ≠ 0) : cldErr rv sides l p t = startErr rv sides ∧ cldMay rv sides l p t = false ∧ cldMust rv sides l p t = false := cld_of (by rw [cldErr, if_pos h]) h
theorem cld_clos (h : startErr rv sides = 0) (h2 : closErr (placesOf rv.reaches) l ≠ 0) : cldErr rv sides l p t = closErr (placesOf rv.reaches) l ∧ cldMay rv sides l p t = false ∧ cldMust rv sides l p t = false := cld_of (by rw [cldErr, if_neg (by omega), if_pos h2]) h2
theorem cld_none (h : startErr rv sides = 0) (h2 : closErr (placesOf rv.reaches) l = 0) (hp : inB 0 (placesOf rv.reaches - 1) p = false) : cldErr rv sides l p t = 7 ∧ cldMay rv sides l p t = false ∧ cldMust rv sides l p t = false := cld_of (by rw [cldErr, if_neg (by omega), if_neg (by omega), if_pos hp]) (by omega)
theorem cld_range (h : startErr rv sides = 0) (h2 : closErr (placesOf rv.reaches) l = 0) (hp : inB 0 (placesOf rv.reaches - 1) p = true) (ht : inB 0 (((sides.getD 0 []).length : Nat) - 1 : Int) t = false) : cldErr rv sides l p t = 3 ∧ cldMay rv sides l p t = false ∧ cldMust rv sides l p t = false := cld_of (by rw [cldErr, if_neg (by omega), if_neg (by omega), if_neg (by rw [hp]; simp), if_pos ht]) (by omega)
theorem cld_ok (h : startErr rv sides = 0) (h2 : closErr (placesOf rv.reaches) l = 0) (hp : inB 0 (placesOf rv.reaches - 1) p = true) (ht : inB 0 (((sides.getD 0 []).length : Nat) - 1 : Int) t = true) : cldErr rv sides l p t = 0 ∧ cldMay rv sides l p t = mayAny (lvAt rv sides p t) (flAt rv p) p t l ∧ cldMust rv sides l p t = mustAny (lvAt rv sides p t) (flAt rv p) p t l := by
  have e : cldErr rv sides l p t = 0 := by rw [cldErr, if_neg (by omega), if_neg (by omega), if_neg (by rw [hp]; simp), if_neg (by rw [ht]; simp)]
  refine ⟨e, ?_, ?_⟩ <;> simp [cldMay, cldMust, e]
end
theorem shut_any (y : Clos) (p t : Int) (w : World) :
    Calls Try.prog 79 #[.agg #[.int .i64 y.fr, .int .i64 y.to, .int .i64 y.bg.lo, .int .i64 y.bg.hi, .int .i64 y.en.lo, .int .i64 y.en.hi], .int .i64 p, .int .i64 t] w fun e w' => e = .returned (.tuple #[.bool (mayShut p t y), .bool (mustShut p t y)]) ∧ Below w.heap.size w w' := by
  have hbw := Below.refl w.heap.size w
  refine EC.enter 40 Try.func79 rfl rfl rfl ?_
  refine EC.seq ?_
  refine EC.region ?_
  refine EL.newP (bx_90 rfl) rfl ?_
  intro g1 w1 q1 hb1 hg1 hl1
  have bhbw_1 := Nat.le_trans hbw.size hg1
  replace hbw := Below.on hbw hb1 hbw.size
  clear hb1 hg1 hl1
  refine EL.val (x_assign rfl) rfl ?_
  refine EL.val (x_assign rfl) rfl ?_
  refine EL.nil ?_
  refine EX.seq ?_
  refine EC.seq ?_
  refine EC.seq ?_
  refine EC.region ?_
  refine EL.val (fa_90_0 rfl) rfl ?_
  refine EL.val (ld_3 rfl (q1.at (j := 0) rfl)) rfl ?_
  refine EL.val (fa_90_1 rfl) rfl ?_
  refine EL.val (ld_3 rfl (q1.at (j := 1) rfl)) rfl ?_
  refine EL.val (x_move rfl) rfl ?_
  refine EL.newS (bs_121_1 rfl) rfl ?_
  intro g2 w2 q2 hb2 hg2 hl2
  have n1_2 : g1 ≠ g2 := Nat.ne_of_lt (Nat.lt_of_lt_of_le q1.lt hg2)
  have bhbw_2 := Nat.le_trans hbw.size hg2
  replace q1 := q1.below hb2 q1.lt
  replace hbw := Below.on hbw hb2 hbw.size
  clear hb2 hg2 hl2
  cases hin : inB y.fr y.to p
  ·
    refine EL.call (cl_57 rfl rfl rfl) rfl (withinB1 _ _ _ _ _ q2 hin) ?_
    rintro e w3 ⟨rfl, hc3⟩
    refine ⟨_, rfl, ?_⟩
    replace q1 := q1.below hc3 q1.lt
    replace q2 := q2.below hc3 q2.lt
    replace hbw := Below.on hbw hc3 hbw.size
    clear hc3
    refine EL.val (x_not rfl) rfl ?_
    refine EL.nil ?_
    refine EX.seq ?_
    refine EC.yes rfl ?_
    refine EC.seq ?_
    refine EC.region ?_
    refine EL.val (x_assign rfl) rfl ?_
    refine EL.val (x_assign rfl) rfl ?_
    refine EL.nil ?_
    refine EX.seq ?_
    refine EC.ret ?_
    refine EX.seq_ret ?_
    exact EX.done (res2 rfl rfl rfl) ⟨by simp [mayShut, mustShut, hin], hbw⟩
  ·
    refine EL.call (cl_57 rfl rfl rfl) rfl (withinB1 _ _ _ _ _ q2 hin) ?_
    rintro e w4 ⟨rfl, hc4⟩
    refine ⟨_, rfl, ?_⟩
    replace q1 := q1.below hc4 q1.lt
    replace q2 := q2.below hc4 q2.lt
    replace hbw := Below.on hbw hc4 hbw.size
    clear hc4
    refine EL.val (x_not rfl) rfl ?_
    refine EL.nil ?_
    refine EX.seq ?_
    refine EC.no rfl ?_
    refine EC.skip ?_
    refine EX.seq ?_
    refine EC.seq ?_
    by_cases h1 : y.bg.lo ≤ t <;> by_cases h2 : y.bg.hi ≤ t
    ·
      refine EC.regionQ (by kernel_rfl) (by kernel_rfl) ?_
      refine EQ.val (fun _ hw => (fa_90_2 rfl)) rfl ?_
      refine EQ.val (fun _ hw => (fa_23_0 rfl)) rfl ?_
      refine EQ.val (fun _ hw => (ld_3 rfl (below_load hw (q1.at (j := 2) rfl)))) rfl ?_
      refine EQ.val (fun _ hw => (x_move rfl)) rfl ?_
      refine EQ.val (fun _ hw => (x_leq rfl rfl (by first | assumption | exact decide_eq_true (by omega)))) rfl ?_
      refine EQ.val (fun _ hw => (x_move rfl)) rfl ?_
      refine EQ.valg rfl rfl (fun _ hw => (x_move rfl)) rfl ?_
      refine EQ.valg rfl rfl (fun _ hw => (fa_90_3 rfl)) rfl ?_
      refine EQ.valg rfl rfl (fun _ hw => (fa_23_1 rfl)) rfl ?_
      refine EQ.valg rfl rfl (fun _ hw => (ld_3 rfl (below_load hw (q1.at (j := 5) rfl)))) rfl ?_
      refine EQ.valg rfl rfl (fun _ hw => (x_lss rfl rfl rfl)) rfl ?_
      refine EQ.val (fun _ hw => (x_pick_t rfl rfl)) rfl ?_
      refine EQ.val (fun _ hw => (fa_90_2 rfl)) rfl ?_
      refine EQ.val (fun _ hw => (fa_23_1 rfl)) rfl ?_
      refine EQ.val (fun _ hw => (ld_3 rfl (below_load hw (q1.at (j := 3) rfl)))) rfl ?_
      refine EQ.val (fun _ hw => (x_move rfl)) rfl ?_
      refine EQ.val (fun _ hw => (x_leq rfl rfl (by first | assumption | exact decide_eq_true (by omega)))) rfl ?_
      refine EQ.val (fun _ hw => (x_move rfl)) rfl ?_
      refine EQ.valg rfl rfl (fun _ hw => (x_move rfl)) rfl ?_
      refine EQ.valg rfl rfl (fun _ hw => (fa_90_3 rfl)) rfl ?_
      refine EQ.valg rfl rfl (fun _ hw => (fa_23_0 rfl)) rfl ?_
      refine EQ.valg rfl rfl (fun _ hw => (ld_3 rfl (below_load hw (q1.at (j := 4) rfl)))) rfl ?_
      refine EQ.valg rfl rfl (fun _ hw => (x_lss rfl rfl rfl)) rfl ?_
      refine EQ.val (fun _ hw => (x_pick_t rfl rfl)) rfl ?_
      refine EQ.val (fun _ hw => (x_assign rfl)) rfl ?_
      refine EQ.val (fun _ hw => (x_assign rfl)) rfl ?_
      refine EQ.fin (fun w5 hw_ => ?_)
      replace q1 := q1.below hw_ q1.lt
      replace q2 := q2.below hw_ q2.lt
      replace hbw := Below.on hbw hw_ hbw.size
      clear hw_
      refine EX.seq ?_
      refine EC.ret ?_
      exact EX.done (res2 rfl rfl rfl) ⟨by simp [mayShut, mustShut, hin, h1, h2], hbw⟩
    ·
      refine EC.regionQ (by kernel_rfl) (by kernel_rfl) ?_
      refine EQ.val (fun _ hw => (fa_90_2 rfl)) rfl ?_
      refine EQ.val (fun _ hw => (fa_23_0 rfl)) rfl ?_
      refine EQ.val (fun _ hw => (ld_3 rfl (below_load hw (q1.at (j := 2) rfl)))) rfl ?_
      refine EQ.val (fun _ hw => (x_move rfl)) rfl ?_
      refine EQ.val (fun _ hw => (x_leq rfl rfl (by first | assumption | exact decide_eq_true (by omega)))) rfl ?_
      refine EQ.val (fun _ hw => (x_move rfl)) rfl ?_
      refine EQ.valg rfl rfl (fun _ hw => (x_move rfl)) rfl ?_
      refine EQ.valg rfl rfl (fun _ hw => (fa_90_3 rfl)) rfl ?_
      refine EQ.valg rfl rfl (fun _ hw => (fa_23_1 rfl)) rfl ?_
      refine EQ.valg rfl rfl (fun _ hw => (ld_3 rfl (below_load hw (q1.at (j := 5) rfl)))) rfl ?_
      refine EQ.valg rfl rfl (fun _ hw => (x_lss rfl rfl rfl)) rfl ?_
      refine EQ.val (fun _ hw => (x_pick_t rfl rfl)) rfl ?_
      refine EQ.val (fun _ hw => (fa_90_2 rfl)) rfl ?_
      refine EQ.val (fun _ hw => (fa_23_1 rfl)) rfl ?_
      refine EQ.val (fun _ hw => (ld_3 rfl (below_load hw (q1.at (j := 3) rfl)))) rfl ?_
      refine EQ.val (fun _ hw => (x_move rfl)) rfl ?_
      refine EQ.val (fun _ hw => (x_leq rfl rfl (by first | assumption | exact decide_eq_false (by omega)))) rfl ?_
      refine EQ.val (fun _ hw => (x_move rfl)) rfl ?_
      refine EQ.skip rfl rfl rfl rfl ?_
      refine EQ.skip rfl rfl rfl rfl ?_
      refine EQ.skip rfl rfl rfl rfl ?_
      refine EQ.skip rfl rfl rfl rfl ?_
      refine EQ.skip rfl rfl rfl rfl ?_
      refine EQ.val (fun _ hw => (x_pick_f rfl rfl)) rfl ?_
      refine EQ.val (fun _ hw => (x_assign rfl)) rfl ?_
      refine EQ.val (fun _ hw => (x_assign rfl)) rfl ?_
      refine EQ.fin (fun w6 hw_ => ?_)
      replace q1 := q1.below hw_ q1.lt
      replace q2 := q2.below hw_ q2.lt
      replace hbw := Below.on hbw hw_ hbw.size
      clear hw_
      refine EX.seq ?_
      refine EC.ret ?_
      exact EX.done (res2 rfl rfl rfl) ⟨by simp [mayShut, mustShut, hin, h1, h2], hbw⟩
    ·
      refine EC.regionQ (by kernel_rfl) (by kernel_rfl) ?_
      refine EQ.val (fun _ hw => (fa_90_2 rfl)) rfl ?_
      refine EQ.val (fun _ hw => (fa_23_0 rfl)) rfl ?_
      refine EQ.val (fun _ hw => (ld_3 rfl (below_load hw (q1.at (j := 2) rfl)))) rfl ?_
      refine EQ.val (fun _ hw => (x_move rfl)) rfl ?_
      refine EQ.val (fun _ hw => (x_leq rfl rfl (by first | assumption | exact decide_eq_false (by omega)))) rfl ?_
      refine EQ.val (fun _ hw => (x_move rfl)) rfl ?_
      refine EQ.skip rfl rfl rfl rfl ?_
      refine EQ.skip rfl rfl rfl rfl ?_
      refine EQ.skip rfl rfl rfl rfl ?_
      refine EQ.skip rfl rfl rfl rfl ?_
      refine EQ.skip rfl rfl rfl rfl ?_
      refine EQ.val (fun _ hw => (x_pick_f rfl rfl)) rfl ?_
      refine EQ.val (fun _ hw => (fa_90_2 rfl)) rfl ?_
      refine EQ.val (fun _ hw => (fa_23_1 rfl)) rfl ?_
      refine EQ.val (fun _ hw => (ld_3 rfl (below_load hw (q1.at (j := 3) rfl)))) rfl ?_
      refine EQ.val (fun _ hw => (x_move rfl)) rfl ?_
      refine EQ.val (fun _ hw => (x_leq rfl rfl (by first | assumption | exact decide_eq_true (by omega)))) rfl ?_
      refine EQ.val (fun _ hw => (x_move rfl)) rfl ?_
      refine EQ.valg rfl rfl (fun _ hw => (x_move rfl)) rfl ?_
      refine EQ.valg rfl rfl (fun _ hw => (fa_90_3 rfl)) rfl ?_
      refine EQ.valg rfl rfl (fun _ hw => (fa_23_0 rfl)) rfl ?_
      refine EQ.valg rfl rfl (fun _ hw => (ld_3 rfl (below_load hw (q1.at (j := 4) rfl)))) rfl ?_
      refine EQ.valg rfl rfl (fun _ hw => (x_lss rfl rfl rfl)) rfl ?_
      refine EQ.val (fun _ hw => (x_pick_t rfl rfl)) rfl ?_
      refine EQ.val (fun _ hw => (x_assign rfl)) rfl ?_
      refine EQ.val (fun _ hw => (x_assign rfl)) rfl ?_
      refine EQ.fin (fun w7 hw_ => ?_)
      replace q1 := q1.below hw_ q1.lt
      replace q2 := q2.below hw_ q2.lt
      replace hbw := Below.on hbw hw_ hbw.size
      clear hw_
      refine EX.seq ?_
      refine EC.ret ?_
      exact EX.done (res2 rfl rfl rfl) ⟨by simp [mayShut, mustShut, hin, h1, h2], hbw⟩
    ·
      refine EC.regionQ (by kernel_rfl) (by kernel_rfl) ?_
      refine EQ.val (fun _ hw => (fa_90_2 rfl)) rfl ?_
      refine EQ.val (fun _ hw => (fa_23_0 rfl)) rfl ?_
      refine EQ.val (fun _ hw => (ld_3 rfl (below_load hw (q1.at (j := 2) rfl)))) rfl ?_
      refine EQ.val (fun _ hw => (x_move rfl)) rfl ?_
      refine EQ.val (fun _ hw => (x_leq rfl rfl (by first | assumption | exact decide_eq_false (by omega)))) rfl ?_
      refine EQ.val (fun _ hw => (x_move rfl)) rfl ?_
      refine EQ.skip rfl rfl rfl rfl ?_
      refine EQ.skip rfl rfl rfl rfl ?_
      refine EQ.skip rfl rfl rfl rfl ?_
      refine EQ.skip rfl rfl rfl rfl ?_
      refine EQ.skip rfl rfl rfl rfl ?_
      refine EQ.val (fun _ hw => (x_pick_f rfl rfl)) rfl ?_
      refine EQ.val (fun _ hw => (fa_90_2 rfl)) rfl ?_
      refine EQ.val (fun _ hw => (fa_23_1 rfl)) rfl ?_
      refine EQ.val (fun _ hw => (ld_3 rfl (below_load hw (q1.at (j := 3) rfl)))) rfl ?_
      refine EQ.val (fun _ hw => (x_move rfl)) rfl ?_
      refine EQ.val (fun _ hw => (x_leq rfl rfl (by first | assumption | exact decide_eq_false (by omega)))) rfl ?_
      refine EQ.val (fun _ hw => (x_move rfl)) rfl ?_
      refine EQ.skip rfl rfl rfl rfl ?_
      refine EQ.skip rfl rfl rfl rfl ?_
      refine EQ.skip rfl rfl rfl rfl ?_
      refine EQ.skip rfl rfl rfl rfl ?_
      refine EQ.skip rfl rfl rfl rfl ?_
      refine EQ.val (fun _ hw => (x_pick_f rfl rfl)) rfl ?_
      refine EQ.val (fun _ hw => (x_assign rfl)) rfl ?_
      refine EQ.val (fun _ hw => (x_assign rfl)) rfl ?_
      refine EQ.fin (fun w8 hw_ => ?_)
      replace q1 := q1.below hw_ q1.lt
      replace q2 := q2.below hw_ q2.lt
      replace hbw := Below.on hbw hw_ hbw.size
      clear hw_
      refine EX.seq ?_
      refine EC.ret ?_
      exact EX.done (res2 rfl rfl rfl) ⟨by simp [mayShut, mustShut, hin, h1, h2], hbw⟩
set_option maxHeartbeats 4000000 in
set_option maxRecDepth 100000 in
theorem closed_any (rv : River) (sides : List (List Bd)) (v u s : Value) (vs ss : List Value) (l : List Clos) (vl : Value) (p t : Int) (w : World) (B : Nat) (hr : RdRiver w B v u rv vs) (hs : RdSides w B s sides ss) (hB : B ≤ w.heap.size) (hcl : Rd w B 6 vl l.length (closesC l)) (hl : rv.reaches.length ≤ 1048576) (hl2 : rv.shoals.length ≤ 1048576) (hcv : CurvesB rv.reaches) (hl3 : sides.length ≤ 1048576) (hsb : SidesB sides) :
    Calls Try.prog 48 #[.agg #[v, u], s, vl, .int .i64 p, .int .i64 t] w fun e w' => e = .returned (.tuple #[.bool (cldMay rv sides l p t), .bool (cldMust rv sides l p t), .int .i64 (cldErr rv sides l p t)]) ∧ Below w.heap.size w w' := by
  obtain ⟨Ac, cac, rfl, _⟩ := hcl.shape
  obtain ⟨A, c, rfl, _⟩ := hr.reaches.shape
  obtain ⟨A', c', rfl, _⟩ := hr.shoals.shape
  obtain ⟨D, d, rfl, _⟩ := hs.rd.shape
  have hbw := Below.refl w.heap.size w
  refine EC.enter 122 Try.func48 rfl rfl rfl ?_
  refine EC.seq ?_
  refine EC.region ?_
  refine EL.newP (bx_47 rfl) rfl ?_
  intro g1 w1 q1 hb1 hg1 hl1
  have bhbw_1 := Nat.le_trans hbw.size hg1
  replace hbw := Below.on hbw hb1 hbw.size
  clear hb1 hg1 hl1
  refine EL.val (x_assign rfl) rfl ?_
  refine EL.val (x_assign rfl) rfl ?_
  refine EL.val (x_assign rfl) rfl ?_
  refine EL.nil ?_
  refine EX.seq ?_
  refine EC.seq ?_
  refine EC.region ?_
  refine EL.val (ld_47 rfl (q1.at (j := 0) rfl) (q1.at (j := 1) rfl)) rfl ?_
  refine EL.val (x_move rfl) rfl ?_
  by_cases hst : startErr rv sides = 0
  ·
    obtain ⟨hok, hO⟩ := startErr_ok hst
    have hR := riverB_ok hok
    have hpl := hR.places
    have hhr := hO.hours
    refine EL.call (cl_73 rfl rfl) rfl (open_ok rv sides _ _ _ vs ss _ B (hr.below (hbw.mono hB)) (hs.below (hbw.mono hB)) (Nat.le_trans hB hbw.size) hl hl2 hcv hl3 hsb hst) ?_
    rintro e w2 ⟨⟨g, vf, fs, rfl, hge_, hS, _⟩, hc2⟩
    refine ⟨_, rfl, ?_⟩
    replace q1 := q1.below hc2 q1.lt
    replace hbw := Below.on hbw hc2 hbw.size
    clear hc2 hge_
    have hin := Below.refl w2.heap.size w2
    refine EL.val (x_move rfl) rfl ?_
    refine EL.val (x_extract rfl rfl) rfl ?_
    refine EL.val (x_extract rfl rfl) rfl ?_
    refine EL.val (x_assign rfl) rfl ?_
    refine EL.val (x_assign rfl) rfl ?_
    refine EL.nil ?_
    refine EX.seq ?_
    refine EC.seq ?_
    refine EC.block ?_
    refine EC.seq ?_
    refine EC.region ?_
    refine EL.val (x_move rfl) rfl ?_
    refine EL.val (x_neq rfl rfl (by first | assumption | exact decide_eq_false (by omega))) rfl ?_
    refine EL.val (x_assign rfl) rfl ?_
    refine EL.nil ?_
    refine EX.seq ?_
    refine EC.no rfl ?_
    refine EC.seq ?_
    refine EC.region ?_
    refine EL.val (x_move rfl) rfl ?_
    refine EL.val (ln_86 rfl) rfl ?_
    by_cases h40 : 40 < l.length
    ·
      have hce : closErr (placesOf rv.reaches) l = 5 := by rw [closErr, if_pos (by omega)]
      obtain ⟨hve, hva, hvb⟩ := cld_clos (l := l) (p := p) (t := t) hst (by omega)
      refine EL.val (x_gtr rfl rfl (by first | assumption | exact decide_eq_true (by omega))) rfl ?_
      refine EL.val (x_assign rfl) rfl ?_
      refine EL.nil ?_
      refine EX.seq ?_
      refine EC.yes rfl ?_
      refine EC.seq ?_
      refine EC.region ?_
      refine EL.val (x_assign rfl) rfl ?_
      refine EL.val (x_assign rfl) rfl ?_
      refine EL.val (x_assign rfl) rfl ?_
      refine EL.nil ?_
      refine EX.seq ?_
      refine EC.ret ?_
      refine EX.blk_ret ?_
      refine EX.seq_ret ?_
      exact EX.done (res3 rfl rfl rfl rfl) ⟨by rw [hva, hvb, hve]; first | rfl | rw [hce], hbw⟩
    ·
      refine EL.val (x_gtr rfl rfl (by first | assumption | exact decide_eq_false (by omega))) rfl ?_
      refine EL.val (x_assign rfl) rfl ?_
      refine EL.nil ?_
      refine EX.seq ?_
      refine EC.no rfl ?_
      refine EC.skip ?_
      refine EX.blk ?_
      refine EX.seq ?_
      refine EC.seq ?_
      refine EC.region ?_
      refine EL.val (ld_47 rfl (q1.at (j := 0) rfl) (q1.at (j := 1) rfl)) rfl ?_
      refine EL.call (cl_68 rfl) rfl (length_any rv _ _ vs _ B (hr.below (hbw.mono hB)) (Nat.le_trans hB hbw.size) hl (river_lens hok)) ?_
      rintro e w3 ⟨rfl, hc3⟩
      refine ⟨_, rfl, ?_⟩
      replace q1 := q1.below hc3 q1.lt
      replace hbw := Below.on hbw hc3 hbw.size
      replace hin := Below.on hin hc3 hin.size
      clear hc3
      refine EL.val (x_sub rfl rfl (by first | assumption | exact IntWalk.i64_in _ ⟨by omega, by omega⟩)) rfl ?_
      refine EL.val (x_assign rfl) rfl ?_
      refine EL.nil ?_
      refine EX.seq ?_
      refine EC.seq ?_
      refine EC.seq ?_
      refine EC.region ?_
      refine EL.val (x_move rfl) rfl ?_
      refine EL.val (ln_86 rfl) rfl ?_
      refine EL.val (x_move rfl) rfl ?_
      refine EL.nil ?_
      refine EX.seq ?_
      refine EC.block ?_
      refine EC.loopD [10, 11, 12, 16, 42, 43, 44, 45, 46, 47, 48, 49, 50, 51, 52, 53, 54, 55, 56, 57, 58, 59, 60, 61, 62, 63, 64, 65, 66, 67, 68, 69, 70] (fun x : Nat => [(42, .int .i64 (x : Nat))]) (fun x W => x ≤ l.length ∧ (∀ j, j < x → closOk (placesOf rv.reaches) (l.getD j clos0) = true) ∧ Below w2.heap.size w2 W ∧ Below w.heap.size w W) (fun x => l.length - x) 0 ⟨Nat.zero_le _, fun j hj => absurd hj (Nat.not_lt_zero _), hin, hbw⟩ ⟨rfl, trivial⟩ ?_
      clear hin hbw
      rintro j wr ⟨hj, hI, hin, hbw⟩
      by_cases hlt : j < l.length
      ·
        obtain ⟨bc, oc, rfl, _, cc⟩ := closes_cells l j hlt _ _ _ _ _ hcl
        obtain ⟨y, ey⟩ : ∃ y, y = l.getD j clos0 := ⟨_, rfl⟩
        rw [← ey] at cc
        refine EC.seq ?_
        refine EC.region ?_
        refine EL.val (x_lss rfl rfl (by first | assumption | exact decide_eq_true (by omega))) rfl ?_
        refine EL.nil ?_
        refine EX.seq ?_
        refine EC.seq ?_
        refine EC.yes rfl ?_
        refine EC.skip ?_
        refine EX.seq ?_
        refine EC.seq ?_
        refine EC.block ?_
        refine EC.seq ?_
        refine EC.region ?_
        refine EL.val (ix_86 rfl rfl hlt) rfl ?_
        refine EL.val (ld_90 rfl (below_load hbw cc.c0) (below_load hbw cc.c1) (below_load hbw cc.c2) (below_load hbw cc.c3) (below_load hbw cc.c4) (below_load hbw cc.c5)) rfl ?_
        refine EL.newP al_90 rfl ?_
        intro g4 w4 q4 hb4 hg4 hl4
        have bhin_4 := Nat.le_trans hin.size hg4
        have bhbw_4 := Nat.le_trans hbw.size hg4
        replace hin := Below.on hin hb4 hin.size
        replace hbw := Below.on hbw hb4 hbw.size
        clear hb4 hg4 hl4
        refine EL.store rfl rfl q4 sz_90 rfl rfl rfl rfl ?_
        intro w5 hq5 hg5
        replace hin := below_store hin hg5 bhin_4
        replace hbw := below_store hbw hg5 bhbw_4
        replace q4 := hq5
        clear hg5 hq5
        refine EL.nil ?_
        refine EX.seq ?_
        refine EC.seq ?_
        refine EC.region ?_
        refine EL.val (x_move rfl) rfl ?_
        refine EL.val (fa_90_0 rfl) rfl ?_
        refine EL.val (ld_3 rfl (q4.at (j := 0) rfl)) rfl ?_
        refine EL.val (fa_90_1 rfl) rfl ?_
        refine EL.val (ld_3 rfl (q4.at (j := 1) rfl)) rfl ?_
        refine EL.newS (bs_121_2 rfl rfl) rfl ?_
        intro g6 w6 q6 hb6 hg6 hl6
        have n4_6 : g4 ≠ g6 := Nat.ne_of_lt (Nat.lt_of_lt_of_le q4.lt hg6)
        have bhin_6 := Nat.le_trans hin.size hg6
        have bhbw_6 := Nat.le_trans hbw.size hg6
        replace q4 := q4.below hb6 q4.lt
        replace hin := Below.on hin hb6 hin.size
        replace hbw := Below.on hbw hb6 hbw.size
        clear hb6 hg6 hl6
        cases hw2 : (inB 0 (placesOf rv.reaches - 1) y.fr && inB 0 (placesOf rv.reaches - 1) y.to)
        ·
          have hno : closOk (placesOf rv.reaches) y = false := by
            cases e : closOk (placesOf rv.reaches) y
            · rfl
            · have h1 := closOk_iff.1 e
              have h9 : (inB 0 (placesOf rv.reaches - 1) y.fr && inB 0 (placesOf rv.reaches - 1) y.to) = true := by rw [Bool.and_eq_true]; exact ⟨inB_iff.2 (by omega), inB_iff.2 (by omega)⟩
              rw [h9] at hw2
              cases hw2
          have hce : closErr (placesOf rv.reaches) l = 2 := by rw [closErr, if_neg h40, if_pos (clos_all_not hlt (by rw [← ey]; exact hno))]
          obtain ⟨hve, hva, hvb⟩ := cld_clos (l := l) (p := p) (t := t) hst (by omega)
          refine EL.call (cl_57 rfl rfl rfl) rfl (withinB2 _ _ _ _ _ _ q6 hw2) ?_
          rintro e w7 ⟨rfl, hc7⟩
          refine ⟨_, rfl, ?_⟩
          replace q4 := q4.below hc7 q4.lt
          replace q6 := q6.below hc7 q6.lt
          replace hin := Below.on hin hc7 hin.size
          replace hbw := Below.on hbw hc7 hbw.size
          clear hc7
          refine EL.val (x_not rfl) rfl ?_
          refine EL.val (x_move rfl) rfl ?_
          refine EL.skip rfl rfl rfl rfl ?_
          refine EL.skip rfl rfl rfl rfl ?_
          refine EL.skip rfl rfl rfl rfl ?_
          refine EL.skip rfl rfl rfl rfl ?_
          refine EL.skip rfl rfl rfl rfl ?_
          refine EL.val (x_pick_t rfl rfl) rfl ?_
          refine EL.val (x_move rfl) rfl ?_
          refine EL.skip rfl rfl rfl rfl ?_
          refine EL.skip rfl rfl rfl rfl ?_
          refine EL.skip rfl rfl rfl rfl ?_
          refine EL.skip rfl rfl rfl rfl ?_
          refine EL.skip rfl rfl rfl rfl ?_
          refine EL.skip rfl rfl rfl rfl ?_
          refine EL.skip rfl rfl rfl rfl ?_
          refine EL.val (x_pick_t rfl rfl) rfl ?_
          refine EL.nil ?_
          refine EX.seq ?_
          refine EC.yes rfl ?_
          refine EC.seq ?_
          refine EC.region ?_
          refine EL.val (x_assign rfl) rfl ?_
          refine EL.val (x_assign rfl) rfl ?_
          refine EL.val (x_assign rfl) rfl ?_
          refine EL.nil ?_
          refine EX.seq ?_
          refine EC.ret ?_
          refine EX.blk_ret ?_
          refine EX.seq_ret ?_
          refine EX.seq_ret ?_
          refine EX.blk_ret ?_
          refine EX.seq_ret ?_
          exact EX.done (res3 rfl rfl rfl rfl) ⟨by rw [hva, hvb, hve]; first | rfl | rw [hce], hbw⟩
        ·
          have hw2_ := by have h := hw2; rw [Bool.and_eq_true, inB_iff, inB_iff] at h; exact h
          refine EL.call (cl_57 rfl rfl rfl) rfl (withinB2 _ _ _ _ _ _ q6 hw2) ?_
          rintro e w8 ⟨rfl, hc8⟩
          refine ⟨_, rfl, ?_⟩
          replace q4 := q4.below hc8 q4.lt
          replace q6 := q6.below hc8 q6.lt
          replace hin := Below.on hin hc8 hin.size
          replace hbw := Below.on hbw hc8 hbw.size
          clear hc8
          refine EL.val (x_not rfl) rfl ?_
          refine EL.val (x_move rfl) rfl ?_
          refine EL.valg rfl rfl (fa_90_0 rfl) rfl ?_
          refine EL.valg rfl rfl (ld_3 rfl (q4.at (j := 0) rfl)) rfl ?_
          refine EL.valg rfl rfl (fa_90_1 rfl) rfl ?_
          refine EL.valg rfl rfl (ld_3 rfl (q4.at (j := 1) rfl)) rfl ?_
          by_cases hgt : y.to < y.fr
          ·
            have hno : closOk (placesOf rv.reaches) y = false := by
              cases e : closOk (placesOf rv.reaches) y
              · rfl
              · have h1 := closOk_iff.1 e
                omega
            have hce : closErr (placesOf rv.reaches) l = 2 := by rw [closErr, if_neg h40, if_pos (clos_all_not hlt (by rw [← ey]; exact hno))]
            obtain ⟨hve, hva, hvb⟩ := cld_clos (l := l) (p := p) (t := t) hst (by omega)
            refine EL.valg rfl rfl (x_gtr rfl rfl (by first | assumption | exact decide_eq_true (by omega))) rfl ?_
            refine EL.val (x_pick_f rfl rfl) rfl ?_
            refine EL.val (x_move rfl) rfl ?_
            refine EL.skip rfl rfl rfl rfl ?_
            refine EL.skip rfl rfl rfl rfl ?_
            refine EL.skip rfl rfl rfl rfl ?_
            refine EL.skip rfl rfl rfl rfl ?_
            refine EL.skip rfl rfl rfl rfl ?_
            refine EL.skip rfl rfl rfl rfl ?_
            refine EL.skip rfl rfl rfl rfl ?_
            refine EL.val (x_pick_t rfl rfl) rfl ?_
            refine EL.nil ?_
            refine EX.seq ?_
            refine EC.yes rfl ?_
            refine EC.seq ?_
            refine EC.region ?_
            refine EL.val (x_assign rfl) rfl ?_
            refine EL.val (x_assign rfl) rfl ?_
            refine EL.val (x_assign rfl) rfl ?_
            refine EL.nil ?_
            refine EX.seq ?_
            refine EC.ret ?_
            refine EX.blk_ret ?_
            refine EX.seq_ret ?_
            refine EX.seq_ret ?_
            refine EX.blk_ret ?_
            refine EX.seq_ret ?_
            exact EX.done (res3 rfl rfl rfl rfl) ⟨by rw [hva, hvb, hve]; first | rfl | rw [hce], hbw⟩
          ·
            refine EL.valg rfl rfl (x_gtr rfl rfl (by first | assumption | exact decide_eq_false (by omega))) rfl ?_
            refine EL.val (x_pick_f rfl rfl) rfl ?_
            refine EL.val (x_move rfl) rfl ?_
            refine EL.valg rfl rfl (fa_90_2 rfl) rfl ?_
            refine EL.valg rfl rfl (ld_23 rfl (q4.at (j := 2) rfl) (q4.at (j := 3) rfl)) rfl ?_
            refine EL.valg rfl rfl (fa_90_3 rfl) rfl ?_
            refine EL.valg rfl rfl (ld_23 rfl (q4.at (j := 4) rfl) (q4.at (j := 5) rfl)) rfl ?_
            refine EL.newSg rfl rfl (bs_28_2 rfl rfl) rfl ?_
            intro g9 w9 q9 hb9 hg9 hl9
            have n4_9 : g4 ≠ g9 := Nat.ne_of_lt (Nat.lt_of_lt_of_le q4.lt hg9)
            have n6_9 : g6 ≠ g9 := Nat.ne_of_lt (Nat.lt_of_lt_of_le q6.lt hg9)
            have bhin_9 := Nat.le_trans hin.size hg9
            have bhbw_9 := Nat.le_trans hbw.size hg9
            replace q4 := q4.below hb9 q4.lt
            replace q6 := q6.below hb9 q6.lt
            replace hin := Below.on hin hb9 hin.size
            replace hbw := Below.on hbw hb9 hbw.size
            clear hb9 hg9 hl9
            cases hiv : [y.bg, y.en].all (bdOk (-400) 800)
            ·
              have hno : closOk (placesOf rv.reaches) y = false := by
                cases e : closOk (placesOf rv.reaches) y
                · rfl
                · have h1 := closOk_iff.1 e
                  simp [h1.2.2.1, h1.2.2.2] at hiv
              have hce : closErr (placesOf rv.reaches) l = 2 := by rw [closErr, if_neg h40, if_pos (clos_all_not hlt (by rw [← ey]; exact hno))]
              obtain ⟨hve, hva, hvb⟩ := cld_clos (l := l) (p := p) (t := t) hst (by omega)
              refine EL.callg rfl rfl (cl_58 rfl rfl rfl) rfl (isValid_any [y.bg, y.en] (-400) 800 _ _ _ (rd_blk (k := 2) (l := bdsC [y.bg, y.en]) q9 rfl) (Nat.le_refl _) (by simp)) ?_
              rintro e w10 ⟨he, hc10⟩
              rw [hiv] at he
              subst he
              refine ⟨_, rfl, ?_⟩
              replace q4 := q4.below hc10 q4.lt
              replace q6 := q6.below hc10 q6.lt
              replace q9 := q9.below hc10 q9.lt
              replace hin := Below.on hin hc10 hin.size
              replace hbw := Below.on hbw hc10 hbw.size
              clear hc10
              refine EL.valg rfl rfl (x_not rfl) rfl ?_
              refine EL.val (x_pick_f rfl rfl) rfl ?_
              refine EL.nil ?_
              refine EX.seq ?_
              refine EC.yes rfl ?_
              refine EC.seq ?_
              refine EC.region ?_
              refine EL.val (x_assign rfl) rfl ?_
              refine EL.val (x_assign rfl) rfl ?_
              refine EL.val (x_assign rfl) rfl ?_
              refine EL.nil ?_
              refine EX.seq ?_
              refine EC.ret ?_
              refine EX.blk_ret ?_
              refine EX.seq_ret ?_
              refine EX.seq_ret ?_
              refine EX.blk_ret ?_
              refine EX.seq_ret ?_
              exact EX.done (res3 rfl rfl rfl rfl) ⟨by rw [hva, hvb, hve]; first | rfl | rw [hce], hbw⟩
            ·
              have hiv_ : bdOk (-400) 800 y.bg = true ∧ bdOk (-400) 800 y.en = true := by simpa using hiv
              refine EL.callg rfl rfl (cl_58 rfl rfl rfl) rfl (isValid_any [y.bg, y.en] (-400) 800 _ _ _ (rd_blk (k := 2) (l := bdsC [y.bg, y.en]) q9 rfl) (Nat.le_refl _) (by simp)) ?_
              rintro e w11 ⟨he, hc11⟩
              rw [hiv] at he
              subst he
              refine ⟨_, rfl, ?_⟩
              replace q4 := q4.below hc11 q4.lt
              replace q6 := q6.below hc11 q6.lt
              replace q9 := q9.below hc11 q9.lt
              replace hin := Below.on hin hc11 hin.size
              replace hbw := Below.on hbw hc11 hbw.size
              clear hc11
              refine EL.valg rfl rfl (x_not rfl) rfl ?_
              refine EL.val (x_pick_f rfl rfl) rfl ?_
              refine EL.nil ?_
              refine EX.seq ?_
              refine EC.no rfl ?_
              refine EC.skip ?_
              refine EX.blk ?_
              refine EX.seq ?_
              refine EC.region ?_
              refine EL.val (x_add rfl rfl (by first | assumption | exact IntWalk.i64_in _ ⟨by omega, by omega⟩)) rfl ?_
              refine EL.val (x_move rfl) rfl ?_
              refine EL.nil ?_
              refine EX.roundD (j + 1) ⟨rfl, trivial⟩ (by repeat first | exact Sub.refl _ | refine sub_past rfl ?_ | refine sub_del rfl ?_ | refine sub_insL_nil ?_) ⟨hlt, fun i hi => ?_, hin, hbw⟩ (by omega)
              rcases Nat.lt_or_ge i j with h | h
              · exact hI i h
              · obtain rfl : i = j := by omega
                rw [← ey]
                exact closOk_iff.2 ⟨by omega, by omega, hiv_.1, hiv_.2⟩
      ·
        obtain rfl : j = l.length := by omega
        have hce : closErr (placesOf rv.reaches) l = 0 := by rw [closErr, if_neg h40, if_neg (by rw [all_of_getD hI]; simp)]
        refine EC.seq ?_
        refine EC.region ?_
        refine EL.val (x_lss rfl rfl (by first | assumption | exact decide_eq_false (by omega))) rfl ?_
        refine EL.nil ?_
        refine EX.seq ?_
        refine EC.seq ?_
        refine EC.no rfl ?_
        refine EC.exit ?_
        refine EX.seq_exit ?_
        refine EX.seq_exit ?_
        refine EX.blk_here ?_
        refine EX.seq ?_
        refine EC.seq ?_
        refine EC.region ?_
        refine EL.val (x_move rfl) rfl ?_
        refine EL.val (x_move rfl) rfl ?_
        refine EL.val (x_move rfl) rfl ?_
        cases hp : inB 0 (placesOf rv.reaches - 1) p
        ·
          obtain ⟨hve, hva, hvb⟩ := cld_none (l := l) (t := t) hst hce hp
          refine EL.call (cl_74 rfl rfl rfl) rfl (loc_none (hS.below hin) hin.size hok p t hp) ?_
          rintro e w12 ⟨rfl, hc12⟩
          refine ⟨_, rfl, ?_⟩
          replace hin := Below.on hin hc12 hin.size
          replace hbw := Below.on hbw hc12 hbw.size
          clear hc12
          refine EL.val (x_move rfl) rfl ?_
          refine EL.val (x_extract rfl rfl) rfl ?_
          refine EL.val (x_extract rfl rfl) rfl ?_
          refine EL.newP al_129 rfl ?_
          intro g13 w13 q13 hb13 hg13 hl13
          have bhin_13 := Nat.le_trans hin.size hg13
          have bhbw_13 := Nat.le_trans hbw.size hg13
          replace hin := Below.on hin hb13 hin.size
          replace hbw := Below.on hbw hb13 hbw.size
          clear hb13 hg13 hl13
          refine EL.store rfl rfl q13 sz_129 rfl rfl rfl rfl ?_
          intro w14 hq14 hg14
          replace hin := below_store hin hg14 bhin_13
          replace hbw := below_store hbw hg14 bhbw_13
          replace q13 := hq14
          clear hg14 hq14
          refine EL.val (x_assign rfl) rfl ?_
          refine EL.nil ?_
          refine EX.seq ?_
          refine EC.seq ?_
          refine EC.seq ?_
          refine EC.region ?_
          refine EL.val (x_move rfl) rfl ?_
          refine EL.val (x_neq rfl rfl (by first | assumption | exact decide_eq_true (by omega))) rfl ?_
          refine EL.nil ?_
          refine EX.seq ?_
          refine EC.yes rfl ?_
          refine EC.seq ?_
          refine EC.region ?_
          refine EL.val (x_move rfl) rfl ?_
          refine EL.val (x_assign rfl) rfl ?_
          refine EL.val (x_assign rfl) rfl ?_
          refine EL.val (x_assign rfl) rfl ?_
          refine EL.nil ?_
          refine EX.seq ?_
          refine EC.ret ?_
          refine EX.seq_ret ?_
          exact EX.done (res3 rfl rfl rfl rfl) ⟨by rw [hva, hvb, hve]; first | rfl | rw [hce], hbw⟩
        ·
          cases ht : inB 0 (((sides.getD 0 []).length : Nat) - 1 : Int) t
          ·
            obtain ⟨hve, hva, hvb⟩ := cld_range (l := l) hst hce hp ht
            refine EL.call (cl_74 rfl rfl rfl) rfl (loc_range (hS.below hin) hin.size hok p t hp ht) ?_
            rintro e w15 ⟨⟨A1, n1, c1, A2, n2, c2, rfl, _⟩, hc15⟩
            refine ⟨_, rfl, ?_⟩
            replace hin := Below.on hin hc15 hin.size
            replace hbw := Below.on hbw hc15 hbw.size
            clear hc15
            refine EL.val (x_move rfl) rfl ?_
            refine EL.val (x_extract rfl rfl) rfl ?_
            refine EL.val (x_extract rfl rfl) rfl ?_
            refine EL.newP al_129 rfl ?_
            intro g16 w16 q16 hb16 hg16 hl16
            have bhin_16 := Nat.le_trans hin.size hg16
            have bhbw_16 := Nat.le_trans hbw.size hg16
            replace hin := Below.on hin hb16 hin.size
            replace hbw := Below.on hbw hb16 hbw.size
            clear hb16 hg16 hl16
            refine EL.store rfl rfl q16 sz_129 rfl rfl rfl rfl ?_
            intro w17 hq17 hg17
            replace hin := below_store hin hg17 bhin_16
            replace hbw := below_store hbw hg17 bhbw_16
            replace q16 := hq17
            clear hg17 hq17
            refine EL.val (x_assign rfl) rfl ?_
            refine EL.nil ?_
            refine EX.seq ?_
            refine EC.seq ?_
            refine EC.seq ?_
            refine EC.region ?_
            refine EL.val (x_move rfl) rfl ?_
            refine EL.val (x_neq rfl rfl (by first | assumption | exact decide_eq_true (by omega))) rfl ?_
            refine EL.nil ?_
            refine EX.seq ?_
            refine EC.yes rfl ?_
            refine EC.seq ?_
            refine EC.region ?_
            refine EL.val (x_move rfl) rfl ?_
            refine EL.val (x_assign rfl) rfl ?_
            refine EL.val (x_assign rfl) rfl ?_
            refine EL.val (x_assign rfl) rfl ?_
            refine EL.nil ?_
            refine EX.seq ?_
            refine EC.ret ?_
            refine EX.seq_ret ?_
            exact EX.done (res3 rfl rfl rfl rfl) ⟨by rw [hva, hvb, hve]; first | rfl | rw [hce], hbw⟩
          ·
            obtain ⟨hve, hva, hvb⟩ := cld_ok (l := l) hst hce hp ht
            have hp_ := inB_iff.1 hp
            have ht_ := inB_iff.1 ht
            have hri := reachOf_lt rv.reaches p (by omega) (by omega)
            refine EL.call (cl_74 rfl rfl rfl) rfl (loc_ok (hS.below hin) hin.size hok p t hp ht) ?_
            rintro e w18 ⟨⟨A1, n1, c1, A2, n2, c2, rfl, _⟩, hc18⟩
            refine ⟨_, rfl, ?_⟩
            replace hin := Below.on hin hc18 hin.size
            replace hbw := Below.on hbw hc18 hbw.size
            clear hc18
            refine EL.val (x_move rfl) rfl ?_
            refine EL.val (x_extract rfl rfl) rfl ?_
            refine EL.val (x_extract rfl rfl) rfl ?_
            refine EL.newP al_129 rfl ?_
            intro g19 w19 q19 hb19 hg19 hl19
            have bhin_19 := Nat.le_trans hin.size hg19
            have bhbw_19 := Nat.le_trans hbw.size hg19
            replace hin := Below.on hin hb19 hin.size
            replace hbw := Below.on hbw hb19 hbw.size
            clear hb19 hg19 hl19
            refine EL.store rfl rfl q19 sz_129 rfl rfl rfl rfl ?_
            intro w20 hq20 hg20
            replace hin := below_store hin hg20 bhin_19
            replace hbw := below_store hbw hg20 bhbw_19
            replace q19 := hq20
            clear hg20 hq20
            refine EL.val (x_assign rfl) rfl ?_
            refine EL.nil ?_
            refine EX.seq ?_
            refine EC.seq ?_
            refine EC.seq ?_
            refine EC.region ?_
            refine EL.val (x_move rfl) rfl ?_
            refine EL.val (x_neq rfl rfl (by first | assumption | exact decide_eq_false (by omega))) rfl ?_
            refine EL.nil ?_
            refine EX.seq ?_
            refine EC.no rfl ?_
            refine EC.skip ?_
            refine EX.seq ?_
            refine EC.seq ?_
            refine EC.region ?_
            refine EL.val (x_move rfl) rfl ?_
            refine EL.val (fa_129_1 rfl) rfl ?_
            refine EL.val (ld_3 rfl (q19.at (j := 9) rfl)) rfl ?_
            refine EL.val (x_move rfl) rfl ?_
            refine EL.call (cl_78 rfl rfl rfl) rfl (slevel_any (hS.below hin) hin.size (reachOf rv.reaches p) t hri (by omega)) ?_
            rintro e w21 ⟨rfl, hc21⟩
            refine ⟨_, rfl, ?_⟩
            replace q19 := q19.below hc21 q19.lt
            replace hin := Below.on hin hc21 hin.size
            replace hbw := Below.on hbw hc21 hbw.size
            clear hc21
            refine EL.newP al_23 rfl ?_
            intro g22 w22 q22 hb22 hg22 hl22
            have n19_22 : g19 ≠ g22 := Nat.ne_of_lt (Nat.lt_of_lt_of_le q19.lt hg22)
            have bhin_22 := Nat.le_trans hin.size hg22
            have bhbw_22 := Nat.le_trans hbw.size hg22
            replace q19 := q19.below hb22 q19.lt
            replace hin := Below.on hin hb22 hin.size
            replace hbw := Below.on hbw hb22 hbw.size
            clear hb22 hg22 hl22
            refine EL.store rfl rfl q22 sz_23 rfl rfl rfl rfl ?_
            intro w23 hq23 hg23
            replace q19 := q19.grown hg23 (fun h => n19_22 (Option.some.inj h))
            replace hin := below_store hin hg23 bhin_22
            replace hbw := below_store hbw hg23 bhbw_22
            replace q22 := hq23
            clear hg23 hq23
            refine EL.nil ?_
            refine EX.seq ?_
            refine EC.seq ?_
            refine EC.regionQ (by kernel_rfl) (by kernel_rfl) ?_
            refine EQ.val (fun _ hw => (fa_23_1 rfl)) rfl ?_
            refine EQ.val (fun _ hw => (ld_3 rfl (below_load hw (q22.at (j := 1) rfl)))) rfl ?_
            refine EQ.val (fun _ hw => (fa_129_0 rfl)) rfl ?_
            refine EQ.val (fun _ hw => (fa_50_6 rfl)) rfl ?_
            refine EQ.val (fun _ hw => (ld_3 rfl (below_load hw (q19.at (j := 8) rfl)))) rfl ?_
            refine EQ.val (fun _ hw => (x_gtr rfl rfl rfl)) rfl ?_
            refine EQ.val (fun _ hw => (fa_23_0 rfl)) rfl ?_
            refine EQ.val (fun _ hw => (ld_3 rfl (below_load hw (q22.at (j := 0) rfl)))) rfl ?_
            refine EQ.val (fun _ hw => (fa_129_0 rfl)) rfl ?_
            refine EQ.val (fun _ hw => (fa_50_6 rfl)) rfl ?_
            refine EQ.val (fun _ hw => (ld_3 rfl (below_load hw (q19.at (j := 8) rfl)))) rfl ?_
            refine EQ.val (fun _ hw => (x_gtr rfl rfl rfl)) rfl ?_
            refine EQ.val (fun _ hw => (x_assign rfl)) rfl ?_
            refine EQ.val (fun _ hw => (x_assign rfl)) rfl ?_
            refine EQ.fin (fun w24 hw_ => ?_)
            replace q19 := q19.below hw_ q19.lt
            replace q22 := q22.below hw_ q22.lt
            replace hin := Below.on hin hw_ hin.size
            replace hbw := Below.on hbw hw_ hbw.size
            clear hw_
            refine EX.seq ?_
            refine EC.seq ?_
            refine EC.seq ?_
            refine EC.region ?_
            refine EL.val (x_move rfl) rfl ?_
            refine EL.val (ln_86 rfl) rfl ?_
            refine EL.val (x_move rfl) rfl ?_
            refine EL.nil ?_
            refine EX.seq ?_
            refine EC.block ?_
            refine EC.loopD [10, 11, 20, 21, 22, 100, 101, 102, 103, 104, 105, 106, 107, 108, 109, 110, 111, 112, 113, 114, 115, 116, 117, 118, 119] (fun x : Nat × Bool × Bool => [(100, .int .i64 (x.1 : Nat)), (10, .bool x.2.1), (11, .bool x.2.2)]) (fun x W => x.1 ≤ l.length ∧ x.2.1 = mayAny (lvAt rv sides p t) (flAt rv p) p t (l.take x.1) ∧ x.2.2 = mustAny (lvAt rv sides p t) (flAt rv p) p t (l.take x.1) ∧ Below w.heap.size w W) (fun x => l.length - x.1) (0, decide (flAt rv p < (lvAt rv sides p t).hi), decide (flAt rv p < (lvAt rv sides p t).lo)) ⟨Nat.zero_le _, by simp [mayAny], by simp [mustAny], hbw⟩ ⟨rfl, rfl, rfl, trivial⟩ ?_
            clear hin hbw
            rintro ⟨j, P, S⟩ wr ⟨hj, hP, hM, hbw⟩
            simp only at hj hP hM
            by_cases hlt : j < l.length
            ·
              obtain ⟨bc, oc, rfl, _, cc⟩ := closes_cells l j hlt _ _ _ _ _ hcl
              have h1 := mayAny_take (lv := lvAt rv sides p t) (fl := flAt rv p) (p := p) (t := t) hlt
              have h2 := mustAny_take (lv := lvAt rv sides p t) (fl := flAt rv p) (p := p) (t := t) hlt
              rw [← hP] at h1
              rw [← hM] at h2
              obtain ⟨y, ey⟩ : ∃ y, y = l.getD j clos0 := ⟨_, rfl⟩
              rw [← ey] at cc h1 h2
              clear hP hM
              cases P <;> cases S
              ·
                refine EC.seq ?_
                refine EC.region ?_
                refine EL.val (x_lss rfl rfl (by first | assumption | exact decide_eq_true (by omega))) rfl ?_
                refine EL.nil ?_
                refine EX.seq ?_
                refine EC.seq ?_
                refine EC.yes rfl ?_
                refine EC.skip ?_
                refine EX.seq ?_
                refine EC.seq ?_
                refine EC.block ?_
                refine EC.seq ?_
                refine EC.region ?_
                refine EL.val (ix_86 rfl rfl hlt) rfl ?_
                refine EL.val (ld_90 rfl (below_load hbw cc.c0) (below_load hbw cc.c1) (below_load hbw cc.c2) (below_load hbw cc.c3) (below_load hbw cc.c4) (below_load hbw cc.c5)) rfl ?_
                refine EL.newP al_90 rfl ?_
                intro g25 w25 q25 hb25 hg25 hl25
                have bhbw_25 := Nat.le_trans hbw.size hg25
                replace hbw := Below.on hbw hb25 hbw.size
                clear hb25 hg25 hl25
                refine EL.store rfl rfl q25 sz_90 rfl rfl rfl rfl ?_
                intro w26 hq26 hg26
                replace hbw := below_store hbw hg26 bhbw_25
                replace q25 := hq26
                clear hg26 hq26
                refine EL.nil ?_
                refine EX.seq ?_
                refine EC.seq ?_
                refine EC.region ?_
                refine EL.val (ld_90 rfl (q25.at (j := 0) rfl) (q25.at (j := 1) rfl) (q25.at (j := 2) rfl) (q25.at (j := 3) rfl) (q25.at (j := 4) rfl) (q25.at (j := 5) rfl)) rfl ?_
                refine EL.val (x_move rfl) rfl ?_
                refine EL.val (x_move rfl) rfl ?_
                refine EL.call (cl_79 rfl rfl rfl) rfl (shut_any y p t _) ?_
                rintro e w27 ⟨rfl, hc27⟩
                refine ⟨_, rfl, ?_⟩
                replace q25 := q25.below hc27 q25.lt
                replace hbw := Below.on hbw hc27 hbw.size
                clear hc27
                refine EL.val (x_move rfl) rfl ?_
                refine EL.val (x_extract rfl rfl) rfl ?_
                refine EL.val (x_extract rfl rfl) rfl ?_
                refine EL.val (x_assign rfl) rfl ?_
                refine EL.val (x_assign rfl) rfl ?_
                refine EL.nil ?_
                refine EX.seq ?_
                refine EC.region ?_
                refine EL.val (x_move rfl) rfl ?_
                refine EL.val (x_move rfl) rfl ?_
                refine EL.valg rfl rfl (x_move rfl) rfl ?_
                refine EL.val (x_pick_f rfl rfl) rfl ?_
                refine EL.val (x_move rfl) rfl ?_
                refine EL.val (x_move rfl) rfl ?_
                refine EL.valg rfl rfl (x_move rfl) rfl ?_
                refine EL.val (x_pick_f rfl rfl) rfl ?_
                refine EL.val (x_assign rfl) rfl ?_
                refine EL.val (x_assign rfl) rfl ?_
                refine EL.nil ?_
                refine EX.blk ?_
                refine EX.seq ?_
                refine EC.region ?_
                refine EL.val (x_add rfl rfl (by first | assumption | exact IntWalk.i64_in _ ⟨by omega, by omega⟩)) rfl ?_
                refine EL.val (x_move rfl) rfl ?_
                refine EL.nil ?_
                refine EX.roundD (j + 1, mayShut p t y, mustShut p t y) ⟨rfl, rfl, rfl, trivial⟩ (by repeat first | exact Sub.refl _ | refine sub_past rfl ?_ | refine sub_del rfl ?_ | refine sub_insL_nil ?_) ⟨hlt, by rw [h1]; rfl, by rw [h2]; rfl, hbw⟩ (by simp only; omega)
              ·
                refine EC.seq ?_
                refine EC.region ?_
                refine EL.val (x_lss rfl rfl (by first | assumption | exact decide_eq_true (by omega))) rfl ?_
                refine EL.nil ?_
                refine EX.seq ?_
                refine EC.seq ?_
                refine EC.yes rfl ?_
                refine EC.skip ?_
                refine EX.seq ?_
                refine EC.seq ?_
                refine EC.block ?_
                refine EC.seq ?_
                refine EC.region ?_
                refine EL.val (ix_86 rfl rfl hlt) rfl ?_
                refine EL.val (ld_90 rfl (below_load hbw cc.c0) (below_load hbw cc.c1) (below_load hbw cc.c2) (below_load hbw cc.c3) (below_load hbw cc.c4) (below_load hbw cc.c5)) rfl ?_
                refine EL.newP al_90 rfl ?_
                intro g28 w28 q28 hb28 hg28 hl28
                have bhbw_28 := Nat.le_trans hbw.size hg28
                replace hbw := Below.on hbw hb28 hbw.size
                clear hb28 hg28 hl28
                refine EL.store rfl rfl q28 sz_90 rfl rfl rfl rfl ?_
                intro w29 hq29 hg29
                replace hbw := below_store hbw hg29 bhbw_28
                replace q28 := hq29
                clear hg29 hq29
                refine EL.nil ?_
                refine EX.seq ?_
                refine EC.seq ?_
                refine EC.region ?_
                refine EL.val (ld_90 rfl (q28.at (j := 0) rfl) (q28.at (j := 1) rfl) (q28.at (j := 2) rfl) (q28.at (j := 3) rfl) (q28.at (j := 4) rfl) (q28.at (j := 5) rfl)) rfl ?_
                refine EL.val (x_move rfl) rfl ?_
                refine EL.val (x_move rfl) rfl ?_
                refine EL.call (cl_79 rfl rfl rfl) rfl (shut_any y p t _) ?_
                rintro e w30 ⟨rfl, hc30⟩
                refine ⟨_, rfl, ?_⟩
                replace q28 := q28.below hc30 q28.lt
                replace hbw := Below.on hbw hc30 hbw.size
                clear hc30
                refine EL.val (x_move rfl) rfl ?_
                refine EL.val (x_extract rfl rfl) rfl ?_
                refine EL.val (x_extract rfl rfl) rfl ?_
                refine EL.val (x_assign rfl) rfl ?_
                refine EL.val (x_assign rfl) rfl ?_
                refine EL.nil ?_
                refine EX.seq ?_
                refine EC.region ?_
                refine EL.val (x_move rfl) rfl ?_
                refine EL.val (x_move rfl) rfl ?_
                refine EL.valg rfl rfl (x_move rfl) rfl ?_
                refine EL.val (x_pick_f rfl rfl) rfl ?_
                refine EL.val (x_move rfl) rfl ?_
                refine EL.val (x_move rfl) rfl ?_
                refine EL.skip rfl rfl rfl rfl ?_
                refine EL.val (x_pick_t rfl rfl) rfl ?_
                refine EL.val (x_assign rfl) rfl ?_
                refine EL.val (x_assign rfl) rfl ?_
                refine EL.nil ?_
                refine EX.blk ?_
                refine EX.seq ?_
                refine EC.region ?_
                refine EL.val (x_add rfl rfl (by first | assumption | exact IntWalk.i64_in _ ⟨by omega, by omega⟩)) rfl ?_
                refine EL.val (x_move rfl) rfl ?_
                refine EL.nil ?_
                refine EX.roundD (j + 1, mayShut p t y, true) ⟨rfl, rfl, rfl, trivial⟩ (by repeat first | exact Sub.refl _ | refine sub_past rfl ?_ | refine sub_del rfl ?_ | refine sub_insL_nil ?_) ⟨hlt, by rw [h1]; rfl, by rw [h2]; rfl, hbw⟩ (by simp only; omega)
              ·
                refine EC.seq ?_
                refine EC.region ?_
                refine EL.val (x_lss rfl rfl (by first | assumption | exact decide_eq_true (by omega))) rfl ?_
                refine EL.nil ?_
                refine EX.seq ?_
                refine EC.seq ?_
                refine EC.yes rfl ?_
                refine EC.skip ?_
                refine EX.seq ?_
                refine EC.seq ?_
                refine EC.block ?_
                refine EC.seq ?_
                refine EC.region ?_
                refine EL.val (ix_86 rfl rfl hlt) rfl ?_
                refine EL.val (ld_90 rfl (below_load hbw cc.c0) (below_load hbw cc.c1) (below_load hbw cc.c2) (below_load hbw cc.c3) (below_load hbw cc.c4) (below_load hbw cc.c5)) rfl ?_
                refine EL.newP al_90 rfl ?_
                intro g31 w31 q31 hb31 hg31 hl31
                have bhbw_31 := Nat.le_trans hbw.size hg31
                replace hbw := Below.on hbw hb31 hbw.size
                clear hb31 hg31 hl31
                refine EL.store rfl rfl q31 sz_90 rfl rfl rfl rfl ?_
                intro w32 hq32 hg32
                replace hbw := below_store hbw hg32 bhbw_31
                replace q31 := hq32
                clear hg32 hq32
                refine EL.nil ?_
                refine EX.seq ?_
                refine EC.seq ?_
                refine EC.region ?_
                refine EL.val (ld_90 rfl (q31.at (j := 0) rfl) (q31.at (j := 1) rfl) (q31.at (j := 2) rfl) (q31.at (j := 3) rfl) (q31.at (j := 4) rfl) (q31.at (j := 5) rfl)) rfl ?_
                refine EL.val (x_move rfl) rfl ?_
                refine EL.val (x_move rfl) rfl ?_
                refine EL.call (cl_79 rfl rfl rfl) rfl (shut_any y p t _) ?_
                rintro e w33 ⟨rfl, hc33⟩
                refine ⟨_, rfl, ?_⟩
                replace q31 := q31.below hc33 q31.lt
                replace hbw := Below.on hbw hc33 hbw.size
                clear hc33
                refine EL.val (x_move rfl) rfl ?_
                refine EL.val (x_extract rfl rfl) rfl ?_
                refine EL.val (x_extract rfl rfl) rfl ?_
                refine EL.val (x_assign rfl) rfl ?_
                refine EL.val (x_assign rfl) rfl ?_
                refine EL.nil ?_
                refine EX.seq ?_
                refine EC.region ?_
                refine EL.val (x_move rfl) rfl ?_
                refine EL.val (x_move rfl) rfl ?_
                refine EL.skip rfl rfl rfl rfl ?_
                refine EL.val (x_pick_t rfl rfl) rfl ?_
                refine EL.val (x_move rfl) rfl ?_
                refine EL.val (x_move rfl) rfl ?_
                refine EL.valg rfl rfl (x_move rfl) rfl ?_
                refine EL.val (x_pick_f rfl rfl) rfl ?_
                refine EL.val (x_assign rfl) rfl ?_
                refine EL.val (x_assign rfl) rfl ?_
                refine EL.nil ?_
                refine EX.blk ?_
                refine EX.seq ?_
                refine EC.region ?_
                refine EL.val (x_add rfl rfl (by first | assumption | exact IntWalk.i64_in _ ⟨by omega, by omega⟩)) rfl ?_
                refine EL.val (x_move rfl) rfl ?_
                refine EL.nil ?_
                refine EX.roundD (j + 1, true, mustShut p t y) ⟨rfl, rfl, rfl, trivial⟩ (by repeat first | exact Sub.refl _ | refine sub_past rfl ?_ | refine sub_del rfl ?_ | refine sub_insL_nil ?_) ⟨hlt, by rw [h1]; rfl, by rw [h2]; rfl, hbw⟩ (by simp only; omega)
              ·
                refine EC.seq ?_
                refine EC.region ?_
                refine EL.val (x_lss rfl rfl (by first | assumption | exact decide_eq_true (by omega))) rfl ?_
                refine EL.nil ?_
                refine EX.seq ?_
                refine EC.seq ?_
                refine EC.yes rfl ?_
                refine EC.skip ?_
                refine EX.seq ?_
                refine EC.seq ?_
                refine EC.block ?_
                refine EC.seq ?_
                refine EC.region ?_
                refine EL.val (ix_86 rfl rfl hlt) rfl ?_
                refine EL.val (ld_90 rfl (below_load hbw cc.c0) (below_load hbw cc.c1) (below_load hbw cc.c2) (below_load hbw cc.c3) (below_load hbw cc.c4) (below_load hbw cc.c5)) rfl ?_
                refine EL.newP al_90 rfl ?_
                intro g34 w34 q34 hb34 hg34 hl34
                have bhbw_34 := Nat.le_trans hbw.size hg34
                replace hbw := Below.on hbw hb34 hbw.size
                clear hb34 hg34 hl34
                refine EL.store rfl rfl q34 sz_90 rfl rfl rfl rfl ?_
                intro w35 hq35 hg35
                replace hbw := below_store hbw hg35 bhbw_34
                replace q34 := hq35
                clear hg35 hq35
                refine EL.nil ?_
                refine EX.seq ?_
                refine EC.seq ?_
                refine EC.region ?_
                refine EL.val (ld_90 rfl (q34.at (j := 0) rfl) (q34.at (j := 1) rfl) (q34.at (j := 2) rfl) (q34.at (j := 3) rfl) (q34.at (j := 4) rfl) (q34.at (j := 5) rfl)) rfl ?_
                refine EL.val (x_move rfl) rfl ?_
                refine EL.val (x_move rfl) rfl ?_
                refine EL.call (cl_79 rfl rfl rfl) rfl (shut_any y p t _) ?_
                rintro e w36 ⟨rfl, hc36⟩
                refine ⟨_, rfl, ?_⟩
                replace q34 := q34.below hc36 q34.lt
                replace hbw := Below.on hbw hc36 hbw.size
                clear hc36
                refine EL.val (x_move rfl) rfl ?_
                refine EL.val (x_extract rfl rfl) rfl ?_
                refine EL.val (x_extract rfl rfl) rfl ?_
                refine EL.val (x_assign rfl) rfl ?_
                refine EL.val (x_assign rfl) rfl ?_
                refine EL.nil ?_
                refine EX.seq ?_
                refine EC.region ?_
                refine EL.val (x_move rfl) rfl ?_
                refine EL.val (x_move rfl) rfl ?_
                refine EL.skip rfl rfl rfl rfl ?_
                refine EL.val (x_pick_t rfl rfl) rfl ?_
                refine EL.val (x_move rfl) rfl ?_
                refine EL.val (x_move rfl) rfl ?_
                refine EL.skip rfl rfl rfl rfl ?_
                refine EL.val (x_pick_t rfl rfl) rfl ?_
                refine EL.val (x_assign rfl) rfl ?_
                refine EL.val (x_assign rfl) rfl ?_
                refine EL.nil ?_
                refine EX.blk ?_
                refine EX.seq ?_
                refine EC.region ?_
                refine EL.val (x_add rfl rfl (by first | assumption | exact IntWalk.i64_in _ ⟨by omega, by omega⟩)) rfl ?_
                refine EL.val (x_move rfl) rfl ?_
                refine EL.nil ?_
                refine EX.roundD (j + 1, true, true) ⟨rfl, rfl, rfl, trivial⟩ (by repeat first | exact Sub.refl _ | refine sub_past rfl ?_ | refine sub_del rfl ?_ | refine sub_insL_nil ?_) ⟨hlt, by rw [h1]; rfl, by rw [h2]; rfl, hbw⟩ (by simp only; omega)
            ·
              obtain rfl : j = l.length := by omega
              rw [List.take_length] at hP hM
              refine EC.seq ?_
              refine EC.region ?_
              refine EL.val (x_lss rfl rfl (by first | assumption | exact decide_eq_false (by omega))) rfl ?_
              refine EL.nil ?_
              refine EX.seq ?_
              refine EC.seq ?_
              refine EC.no rfl ?_
              refine EC.exit ?_
              refine EX.seq_exit ?_
              refine EX.seq_exit ?_
              refine EX.blk_here ?_
              refine EX.seq ?_
              refine EC.seq ?_
              refine EC.region ?_
              refine EL.val (x_move rfl) rfl ?_
              refine EL.val (x_move rfl) rfl ?_
              refine EL.val (x_assign rfl) rfl ?_
              refine EL.val (x_assign rfl) rfl ?_
              refine EL.val (x_assign rfl) rfl ?_
              refine EL.nil ?_
              refine EX.seq ?_
              refine EC.ret ?_
              exact EX.done (res3 rfl rfl rfl rfl) ⟨by rw [hve, hva, hvb, hP, hM], hbw⟩
  ·
    obtain ⟨hve, hva, hvb⟩ := cld_open (l := l) (p := p) (t := t) hst
    refine EL.call (cl_73 rfl rfl) rfl (open_bad rv sides _ _ _ vs ss _ B (hr.below (hbw.mono hB)) (hs.below (hbw.mono hB)) (Nat.le_trans hB hbw.size) hl hl2 hcv hl3 hsb hst) ?_
    rintro e w37 ⟨rfl, hc37⟩
    refine ⟨_, rfl, ?_⟩
    replace q1 := q1.below hc37 q1.lt
    replace hbw := Below.on hbw hc37 hbw.size
    clear hc37
    refine EL.val (x_move rfl) rfl ?_
    refine EL.val (x_extract rfl rfl) rfl ?_
    refine EL.val (x_extract rfl rfl) rfl ?_
    refine EL.val (x_assign rfl) rfl ?_
    refine EL.val (x_assign rfl) rfl ?_
    refine EL.nil ?_
    refine EX.seq ?_
    refine EC.seq ?_
    refine EC.block ?_
    refine EC.seq ?_
    refine EC.region ?_
    refine EL.val (x_move rfl) rfl ?_
    refine EL.val (x_neq rfl rfl (by first | assumption | exact decide_eq_true (by omega))) rfl ?_
    refine EL.val (x_assign rfl) rfl ?_
    refine EL.nil ?_
    refine EX.seq ?_
    refine EC.yes rfl ?_
    refine EC.seq ?_
    refine EC.region ?_
    refine EL.val (x_move rfl) rfl ?_
    refine EL.val (x_assign rfl) rfl ?_
    refine EL.val (x_assign rfl) rfl ?_
    refine EL.val (x_assign rfl) rfl ?_
    refine EL.nil ?_
    refine EX.seq ?_
    refine EC.ret ?_
    refine EX.blk_ret ?_
    refine EX.seq_ret ?_
    exact EX.done (res3 rfl rfl rfl rfl) ⟨by rw [hva, hvb, hve]; first | rfl | rw [hce], hbw⟩
end Go.Proofs.Ytncnlhkmdljgpaa
set_option linter.unusedVariables false
namespace Go.Proofs.Ytncnlhkmdljgpaa
open Go
/-- each bounds of a row, and of all rows, changed in their order -/
def upB (f : Nat → Bd → Bd) (l : List Bd) : Nat → List Bd
  | 0 => l
  | k + 1 => (upB f l k).set k (f k (l.getD k bd0))
def upS (f : Nat → Nat → Bd → Bd) (l : List (List Bd)) : Nat → List (List Bd)
  | 0 => l
  | i + 1 => (upS f l i).set i (upB (f i) (l.getD i []) (l.getD i []).length)
theorem upB_len {f : Nat → Bd → Bd} (l : List Bd) : ∀ i, (upB f l i).length = l.length
  | 0 => rfl
  | i + 1 => by rw [upB, List.length_set, upB_len l i]
theorem upS_len {f : Nat → Nat → Bd → Bd} (l : List (List Bd)) : ∀ i, (upS f l i).length = l.length
  | 0 => rfl
  | i + 1 => by rw [upS, List.length_set, upS_len l i]
theorem upB_at {f : Nat → Bd → Bd} (l : List Bd) : ∀ {i j : Nat}, i ≤ l.length → (upB f l i).getD j bd0 = if j < i then f j (l.getD j bd0) else l.getD j bd0
  | 0, j, _ => by simp [upB]
  | i + 1, j, hi_ => by
    rw [upB, getD_setR (by rw [upB_len]; omega), upB_at l (i := i) (by omega)]
    by_cases h : i = j
    · subst h; simp
    · by_cases h2 : j < i
      · rw [if_neg h, if_pos h2, if_pos (by omega)]
      · rw [if_neg h, if_neg h2, if_neg (by omega)]
theorem upS_at {f : Nat → Nat → Bd → Bd} (l : List (List Bd)) : ∀ {i j : Nat}, i ≤ l.length → (upS f l i).getD j [] = if j < i then upB (f j) (l.getD j []) (l.getD j []).length else l.getD j []
  | 0, j, _ => by simp [upS]
  | i + 1, j, hi_ => by
    rw [upS, getD_setR (by rw [upS_len]; omega), upS_at l (i := i) (by omega)]
    by_cases h : i = j
    · subst h; simp
    · by_cases h2 : j < i
      · rw [if_neg h, if_pos h2, if_pos (by omega)]
      · rw [if_neg h, if_neg h2, if_neg (by omega)]
theorem upS_row {f : Nat → Nat → Bd → Bd} (l : List (List Bd)) (i : Nat) : ((upS f l l.length).getD i []).length = (l.getD i []).length := by
  rw [upS_at l (Nat.le_refl _)]
  split
  · rw [upB_len]
  · rfl
theorem upS_bd {f : Nat → Nat → Bd → Bd} (l : List (List Bd)) {i k : Nat} (hi : i < l.length) (hk : k < (l.getD i []).length) : ((upS f l l.length).getD i []).getD k bd0 = f i k ((l.getD i []).getD k bd0) := by
  rw [upS_at l (Nat.le_refl _), if_pos hi, upB_at _ (Nat.le_refl _), if_pos hk]
/-- a forecast with other sides of the same form is valid -/
theorem startErr_sides {r : River} {s s' : List (List Bd)} (h : startErr r s = 0) (hl : s'.length = s.length) (hrow : ∀ i, (s'.getD i []).length = (s.getD i []).length) (hb : ∀ i k, i < s.length → k < (s.getD 0 []).length → bdOk 0 10000000000 ((s'.getD i []).getD k bd0) = true) : startErr r s' = 0 := by
  have h1 := (startErr_ok h).1
  have hS := (startErr_ok h).2
  have hm := hS.many
  have hh := hS.hours
  unfold startErr
  rw [if_neg (by rw [h1]; simp), if_neg (by rw [hrow]; omega), if_neg, if_neg (by rw [hrow]; omega), if_neg]
  · rw [Bool.not_eq_false, List.all_eq_true]
    intro l hl'
    obtain ⟨i, hi, rfl⟩ := List.getElem_of_mem hl'
    rw [List.all_eq_true]
    intro x hx
    obtain ⟨k, hk, rfl⟩ := List.getElem_of_mem hx
    have e1 : s'.getD i [] = s'[i] := by simp [hi]
    have h2 := hrow i
    have h3 := hS.same i (by omega)
    rw [e1] at h2
    have := hb i k (by omega) (by omega)
    rw [e1] at this
    simpa [hk] using this
  · rw [Bool.not_eq_false, List.all_eq_true]
    intro l hl'
    obtain ⟨i, hi, rfl⟩ := List.getElem_of_mem hl'
    have e1 : s'.getD i [] = s'[i] := by simp [hi]
    have h2 := hrow i
    have h3 := hS.same i (by omega)
    rw [e1] at h2
    simp only [decide_eq_true_eq]
    rw [hrow 0]
    omega
/-- no flow has a lesser Low (a greater High), where no side has -/
theorem flowIn_lo {r : River} {s s' : List (List Bd)} (hS : StartOk r s) (hs : ∀ i k, i < s.length → k < (s.getD 0 []).length → ((s.getD i []).getD k bd0).lo ≤ ((s'.getD i []).getD k bd0).lo) : ∀ (i : Nat) (t : Int), i < r.reaches.length → t < (s.getD 0 []).length → (flowIn r.reaches s i t).lo ≤ (flowIn r.reaches s' i t).lo
  | 0, t, h, ht => by
    have hm := hS.many
    rw [flowIn, flowIn]
    split
    · exact Int.le_refl _
    · exact hs 0 _ (by omega) (by omega)
  | i + 1, t, h, ht => by
    have hm := hS.many
    rw [flowIn, flowIn]
    split
    · exact Int.le_refl _
    · have hd := (hS.river.reach i (by omega)).delay
      have h1 := flowIn_lo hS hs i (t - (r.reaches.getD i reach0).delay) (by omega) (by omega)
      have h2 := hs (i + 1) t.toNat (by omega) (by omega)
      simp only [Bd.add]
      omega
theorem flowIn_hi {r : River} {s s' : List (List Bd)} (hS : StartOk r s) (hs : ∀ i k, i < s.length → k < (s.getD 0 []).length → ((s.getD i []).getD k bd0).hi ≤ ((s'.getD i []).getD k bd0).hi) : ∀ (i : Nat) (t : Int), i < r.reaches.length → t < (s.getD 0 []).length → (flowIn r.reaches s i t).hi ≤ (flowIn r.reaches s' i t).hi
  | 0, t, h, ht => by
    have hm := hS.many
    rw [flowIn, flowIn]
    split
    · exact Int.le_refl _
    · exact hs 0 _ (by omega) (by omega)
  | i + 1, t, h, ht => by
    have hm := hS.many
    rw [flowIn, flowIn]
    split
    · exact Int.le_refl _
    · have hd := (hS.river.reach i (by omega)).delay
      have h1 := flowIn_hi hS hs i (t - (r.reaches.getD i reach0).delay) (by omega) (by omega)
      have h2 := hs (i + 1) t.toNat (by omega) (by omega)
      simp only [Bd.add]
      omega
theorem level_lo {x : Reach} (hx : ReachOk x) {f g : Bd} (h : f.lo ≤ g.lo) : (levelAt x f).lo ≤ (levelAt x g).lo := by
  have := curve_le' (up := false) hx.curve hx.rows.1 h
  simp only [levelAt]; omega
theorem level_hi {x : Reach} (hx : ReachOk x) {f g : Bd} (h : f.hi ≤ g.hi) : (levelAt x f).hi ≤ (levelAt x g).hi := by
  have := curve_le' (up := true) hx.curve hx.rows.1 h
  simp only [levelAt]; omega
section
variable {r : River} {s s' : List (List Bd)} {p t : Int} (hS : StartOk r s) (hp1 : 0 ≤ p) (hp2 : p < placesOf r.reaches) (ht : t < (s.getD 0 []).length)
include hS hp1 hp2 ht
theorem lv_lo (hs : ∀ i k, i < s.length → k < (s.getD 0 []).length → ((s.getD i []).getD k bd0).lo ≤ ((s'.getD i []).getD k bd0).lo) : (lvAt r s p t).lo ≤ (lvAt r s' p t).lo ∧ (depthAt r s p t).lo ≤ (depthAt r s' p t).lo := by
  have hlt := reachOf_lt r.reaches p hp1 hp2
  have h1 := level_lo (hS.river.reach _ hlt) (flowIn_lo hS hs _ t hlt ht)
  refine ⟨h1, ?_⟩
  simp only [depthAt]
  omega
theorem lv_hi (hs : ∀ i k, i < s.length → k < (s.getD 0 []).length → ((s.getD i []).getD k bd0).hi ≤ ((s'.getD i []).getD k bd0).hi) : (lvAt r s p t).hi ≤ (lvAt r s' p t).hi ∧ (depthAt r s p t).hi ≤ (depthAt r s' p t).hi := by
  have hlt := reachOf_lt r.reaches p hp1 hp2
  have h1 := level_hi (hS.river.reach _ hlt) (flowIn_hi hS hs _ t hlt ht)
  refine ⟨h1, ?_⟩
  simp only [depthAt]
  omega
theorem lv_le : (lvAt r s p t).lo ≤ (lvAt r s p t).hi := by
  have hlt := reachOf_lt r.reaches p hp1 hp2
  exact level_le (hS.river.reach _ hlt) (flowIn_small hS _ t hlt ht).2.1
end
theorem lv_hi' {r : River} {s s' : List (List Bd)} {p t : Int} (hS : StartOk r s') (hh : (s'.getD 0 []).length = (s.getD 0 []).length) (hl : s'.length = s.length) (hp1 : 0 ≤ p) (hp2 : p < placesOf r.reaches) (ht : t < (s.getD 0 []).length) (hs : ∀ i k, i < s.length → k < (s.getD 0 []).length → ((s'.getD i []).getD k bd0).hi ≤ ((s.getD i []).getD k bd0).hi) : (lvAt r s' p t).hi ≤ (lvAt r s p t).hi ∧ (depthAt r s' p t).hi ≤ (depthAt r s p t).hi :=
  lv_hi hS hp1 hp2 (by rw [hh]; exact ht) (fun i k h1 h2 => hs i k (by omega) (by rw [← hh]; exact h2))
/-- the bounds, narrower; and moved up -/
def narB (y z : Int) (b : Bd) : Bd := ⟨pickI b (y.tdiv 2), pickI b (y.tdiv 2) + ((b.hi - pickI b (y.tdiv 2)) * z).tdiv 255⟩
def incB (y : Int) (b : Bd) : Bd := ⟨min 10000000000 (b.lo + y), min 10000000000 (b.hi + y)⟩
theorem narB_in {b : Bd} {y z : Int} (hb : b.lo ≤ b.hi) (hy : 0 ≤ y ∧ y ≤ 255) (hz : 0 ≤ z ∧ z ≤ 255) : b.lo ≤ (narB y z b).lo ∧ (narB y z b).lo ≤ (narB y z b).hi ∧ (narB y z b).hi ≤ b.hi := by
  have e2 : y.tdiv 2 = y / 2 := Int.tdiv_eq_ediv_of_nonneg hy.1
  have h1 := pick_bd (b := b) (y := y.tdiv 2) hb (by omega) (by omega)
  have h2 := pick_bd (b := ⟨pickI b (y.tdiv 2), b.hi⟩) (y := z) h1.2 hz.1 hz.2
  have e : (narB y z b).hi = pickI ⟨pickI b (y.tdiv 2), b.hi⟩ z := rfl
  rw [e]
  exact ⟨h1.1, h2.1, h2.2⟩
def lessF (bs zs : List Int) (i k : Nat) (b : Bd) : Bd := narB (partI zs (i + k)) (partI bs (i + k)) b
def moreF (zs : List Int) (i k : Nat) (b : Bd) : Bd := incB (partI zs (i + k)) b
def withShoal (r : River) (x : Shoal) : River := ⟨r.reaches, r.shoals ++ [x]⟩
theorem riverB_shoal {r : River} {x : Shoal} (h : riverB r = true) (hf : r.shoals.length < 40) (hx : shoalB (placesOf r.reaches) x = true) : riverB (withShoal r x) = true := by
  simp only [riverB, withShoal, Bool.and_eq_true, List.all_append, List.all_cons, List.all_nil, Bool.and_true] at h ⊢
  refine ⟨h.1, ?_, h.2.2.1, h.2.2.2, hx⟩
  simp only [List.length_append, List.length_singleton, decide_eq_true_eq]
  omega
theorem startErr_shoal {r : River} {x : Shoal} {s : List (List Bd)} (h : startErr r s = 0) (hf : r.shoals.length < 40) (hx : shoalB (placesOf r.reaches) x = true) : startErr (withShoal r x) s = 0 := by
  have h1 := (startErr_ok h).1
  have h2 := riverB_shoal h1 hf hx
  unfold startErr at h ⊢
  rw [if_neg (by rw [h1]; simp)] at h
  rw [if_neg (by rw [h2]; simp)]
  exact h
theorem depth_shoal {r : River} {x : Shoal} {s : List (List Bd)} {p t : Int} : (depthAt (withShoal r x) s p t).lo ≤ (depthAt r s p t).lo ∧ (depthAt (withShoal r x) s p t).hi ≤ (depthAt r s p t).hi := by
  have key : (bedAt r p t).lo ≤ (bedAt (withShoal r x) p t).lo ∧ (bedAt r p t).hi ≤ (bedAt (withShoal r x) p t).hi := by
    unfold bedAt withShoal shoalsAt
    simp only [List.filter_append]
    by_cases e : x.place = p
    · rw [show List.filter (fun s => decide (s.place = p)) [x] = [x] by simp [e], topOf_append]
      simp only [Bd.top]
      omega
    · rw [show List.filter (fun s => decide (s.place = p)) [x] = [] by simp [e], List.append_nil]
      exact ⟨Int.le_refl _, Int.le_refl _⟩
  simp only [depthAt] at key ⊢
  simp only [withShoal] at key ⊢
  omega
/-- what RiverNarrows compares -/
structure Nar (r : River) (s sl sm : List (List Bd)) (x : Shoal) (p t : Int) : Prop where
  el : startErr r sl = 0
  em : startErr r sm = 0
  ex : startErr (withShoal r x) sm = 0
  hl : (sl.getD 0 []).length = (s.getD 0 []).length
  hm : (sm.getD 0 []).length = (s.getD 0 []).length
  nl : sl.length = s.length
  nm : sm.length = s.length
  bl : SidesB sl
  bm : SidesB sm
  d1 : (depthAt r s p t).lo ≤ (depthAt r sl p t).lo
  d2 : (depthAt r sl p t).hi ≤ (depthAt r s p t).hi
  d3 : (depthAt r s p t).lo ≤ (depthAt r sm p t).lo
  d4 : (depthAt r s p t).hi ≤ (depthAt r sm p t).hi
  d5 : (depthAt (withShoal r x) sm p t).lo ≤ (depthAt r sm p t).lo
  d6 : (depthAt (withShoal r x) sm p t).hi ≤ (depthAt r sm p t).hi
  d7 : 0 ≤ (depthAt r s p t).lo
  d8 : (depthAt r sl p t).lo ≤ (depthAt r sl p t).hi
  l1 : (lvAt r s p t).lo ≤ (lvAt r s p t).hi
  l2 : (lvAt r sl p t).lo ≤ (lvAt r sl p t).hi
  l3 : (lvAt r sl p t).hi ≤ (lvAt r s p t).hi
  l4 : (lvAt r s p t).lo ≤ (lvAt r sl p t).lo
theorem nar_all {r : River} {s : List (List Bd)} {bs zs : List Int} {x : Shoal} {p t : Int} (h : startErr r s = 0) (hb : ∀ y ∈ bs, 0 ≤ y ∧ y ≤ 255) (hz : ∀ y ∈ zs, 0 ≤ y ∧ y ≤ 255) (hsb : SidesB s) (hf : r.shoals.length < 40) (hx : shoalB (placesOf r.reaches) x = true) (hp1 : 0 ≤ p) (hp2 : p < placesOf r.reaches) (ht0 : 0 ≤ t) (ht : t < (s.getD 0 []).length) :
    Nar r s (upS (lessF bs zs) s s.length) (upS (moreF zs) s s.length) x p t := by
  have hS := (startErr_ok h).2
  have key1 : ∀ i k, i < s.length → k < (s.getD 0 []).length → ((s.getD i []).getD k bd0).lo ≤ (((upS (lessF bs zs) s s.length).getD i []).getD k bd0).lo ∧ (((upS (lessF bs zs) s s.length).getD i []).getD k bd0).lo ≤ (((upS (lessF bs zs) s s.length).getD i []).getD k bd0).hi ∧ (((upS (lessF bs zs) s s.length).getD i []).getD k bd0).hi ≤ ((s.getD i []).getD k bd0).hi := by
    intro i k hi hk
    rw [upS_bd s hi (by rw [hS.same i hi]; exact hk)]
    exact narB_in (hS.side i k hi hk).2.1 (part_bd hz _) (part_bd hb _)
  have key2 : ∀ i k, i < s.length → k < (s.getD 0 []).length → (((upS (moreF zs) s s.length).getD i []).getD k bd0) = incB (partI zs (i + k)) ((s.getD i []).getD k bd0) := by
    intro i k hi hk
    rw [upS_bd s hi (by rw [hS.same i hi]; exact hk)]
    rfl
  have e1 : startErr r (upS (lessF bs zs) s s.length) = 0 := startErr_sides h (upS_len s _) (upS_row s) (fun i k hi hk => by
    have a := key1 i k hi hk
    have b := hS.side i k hi hk
    rw [bdOk_iff]
    omega)
  have e2 : startErr r (upS (moreF zs) s s.length) = 0 := startErr_sides h (upS_len s _) (upS_row s) (fun i k hi hk => by
    have b := hS.side i k hi hk
    have c := part_bd hz (i + k)
    rw [key2 i k hi hk, bdOk_iff]
    simp only [incB]
    omega)
  have hSl := (startErr_ok e1).2
  have hSm := (startErr_ok e2).2
  have hin : ∀ i k, i < s.length → k < (s.getD 0 []).length → ((s.getD i []).getD k bd0).lo ≤ (((upS (moreF zs) s s.length).getD i []).getD k bd0).lo ∧ ((s.getD i []).getD k bd0).hi ≤ (((upS (moreF zs) s s.length).getD i []).getD k bd0).hi := by
    intro i k hi hk
    have b := hS.side i k hi hk
    have c := part_bd hz (i + k)
    rw [key2 i k hi hk]
    simp only [incB]
    omega
  have a1 := lv_lo hS hp1 hp2 ht (fun i k hi hk => (key1 i k hi hk).1)
  have a2 := lv_hi' hSl (upS_row s 0) (upS_len s _) hp1 hp2 ht (fun i k hi hk => (key1 i k hi hk).2.2)
  have a3 := lv_lo hS hp1 hp2 ht (fun i k hi hk => (hin i k hi hk).1)
  have a4 := lv_hi hS hp1 hp2 ht (fun i k hi hk => (hin i k hi hk).2)
  have a5 := depth_shoal (r := r) (x := x) (s := upS (moreF zs) s s.length) (p := p) (t := t)
  have a6 := depth_le hSl hp1 hp2 (by rw [upS_row s 0]; exact ht)
  exact ⟨e1, e2, startErr_shoal e2 hf hx, upS_row s 0, upS_row s 0, upS_len s _, upS_len s _, fun i hi => by rw [upS_row]; rw [upS_len] at hi; exact hsb i hi, fun i hi => by rw [upS_row]; rw [upS_len] at hi; exact hsb i hi, a1.2, a2.2, a3.2, a4.2, a5.1, a5.2, by simp only [depthAt]; omega, a6, lv_le hS hp1 hp2 ht, lv_le hSl hp1 hp2 (by rw [upS_row s 0]; exact ht), a2.1, a1.1⟩
end Go.Proofs.Ytncnlhkmdljgpaa
set_option linter.unusedVariables false
namespace Go.Proofs.Ytncnlhkmdljgpaa
open Go Go.RowKit
theorem OwnSides.far {w w' : World} {base g : Nat} {s : Value} {l : List (List Bd)} {fs : List Value} {cs : Array Value} (h : OwnSides w base s l fs) (hq : Blk w g 23 cs) (hap : ∀ j, j < fs.length → (fs.getD j undef).ownBlock ≠ some g) (hg : w.grownBy w' (some g)) : OwnSides w' base s l fs :=
  ⟨own_type h.own hq rfl hg, h.len, fun i hi => (h.each i hi).kept hg (.inr (hap i (by rw [h.len]; exact hi))), h.apart⟩
/-- two forecasts of the same river -/
structure TwoF (w : World) (base : Nat) (rv : River) (aL uL aM uM : Value) (vsL vsM : List Value) (sL sM : Value) (ssL ssM : List Value) (l m : List (List Bd)) : Prop where
  rL : OwnRiver w base aL uL rv vsL
  rM : OwnRiver w base aM uM rv vsM
  fL : OwnSides w base sL l ssL
  fM : OwnSides w base sM m ssM
  pL : PW ssL
  pM : PW ssM
  ap : ∀ i j, i < ssL.length → j < ssM.length → Apart (ssL.getD i undef) (ssM.getD j undef)
  sh : Apart uL uM
section
variable {w w' : World} {base : Nat} {rv : River} {aL uL aM uM sL sM : Value} {vsL vsM ssL ssM : List Value} {l m : List (List Bd)}
theorem TwoF.below (h : TwoF w base rv aL uL aM uM vsL vsM sL sM ssL ssM l m) (hb : Below w.heap.size w w') : TwoF w' base rv aL uL aM uM vsL vsM sL sM ssL ssM l m :=
  ⟨h.rL.below hb, h.rM.below hb, OwnSides.below h.fL hb, OwnSides.below h.fM hb, h.pL, h.pM, h.ap, h.sh⟩
theorem TwoF.type {g T : Nat} {cs : Array Value} (h : TwoF w base rv aL uL aM uM vsL vsM sL sM ssL ssM l m) (hq : Blk w g T cs) (h1 : Nat.beq T 50 = false) (h2 : Nat.beq T 126 = false) (h3 : Nat.beq T 97 = false) (h4 : Nat.beq T 28 = false) (h5 : Nat.beq T 23 = false) (hg : w.grownBy w' (some g)) : TwoF w' base rv aL uL aM uM vsL vsM sL sM ssL ssM l m :=
  ⟨h.rL.type hq h1 h2 h3 hg, h.rM.type hq h1 h2 h3 hg, OwnSides.type h.fL hq h4 h5 hg, OwnSides.type h.fM hq h4 h5 hg, h.pL, h.pM, h.ap, h.sh⟩
theorem own_len (h : OwnSides w base sL l ssL) : ssL.length = l.length := by have := h.len; rwa [rowsB_len] at this
theorem TwoF.setL {g c i : Nat} {row : List Bd} (h : TwoF w base rv aL uL aM uM vsL vsM sL sM ssL ssM l m) (hi : i < l.length) (hv : ssL.getD i undef = .slice (some ⟨g, 0, none⟩) row.length c) (hrow : row.length = (l.getD i []).length) (hown : w'.ownsRow base 23 2 (.slice (some ⟨g, 0, none⟩) row.length c) row.length (bdsC row)) (hg : w.grownBy w' (some g)) {cs : Array Value} (hq : Blk w g 23 cs) :
    TwoF w' base rv aL uL aM uM vsL vsM sL sM ssL ssM (l.set i row) m :=
  ⟨h.rL.type hq rfl rfl rfl hg, h.rM.type hq rfl rfl rfl hg, OwnSides.set h.fL h.pL hi hv hrow hown hg, OwnSides.far h.fM hq (fun j hj => h.ap i j (by rw [own_len h.fL]; exact hi) hj g (by rw [hv]; rfl)) hg, h.pL, h.pM, h.ap, h.sh⟩
theorem TwoF.setM {g c i : Nat} {row : List Bd} (h : TwoF w base rv aL uL aM uM vsL vsM sL sM ssL ssM l m) (hi : i < m.length) (hv : ssM.getD i undef = .slice (some ⟨g, 0, none⟩) row.length c) (hrow : row.length = (m.getD i []).length) (hown : w'.ownsRow base 23 2 (.slice (some ⟨g, 0, none⟩) row.length c) row.length (bdsC row)) (hg : w.grownBy w' (some g)) {cs : Array Value} (hq : Blk w g 23 cs) :
    TwoF w' base rv aL uL aM uM vsL vsM sL sM ssL ssM l (m.set i row) :=
  ⟨h.rL.type hq rfl rfl rfl hg, h.rM.type hq rfl rfl rfl hg, OwnSides.far h.fL hq (fun j hj e => h.ap j i hj (by rw [own_len h.fM]; exact hi) g e (by rw [hv]; rfl)) hg, OwnSides.set h.fM h.pM hi hv hrow hown hg, h.pL, h.pM, h.ap, h.sh⟩
/-- a row that is about to be changed -/
theorem row_of {s : Value} {ss : List Value} {ll : List (List Bd)} {i n : Nat} {row : List Bd} {o : Option Addr} {c : Nat} {l0 : List (List Bd)} (h : OwnSides w base (.slice o n c) (l0.set i row) ss) (hi : i < l0.length) (hn : 0 < row.length) : ∃ g b off cr, ss.getD i undef = .slice (some ⟨g, 0, none⟩) row.length cr ∧ o = some ⟨b, off, none⟩ ∧ w.cell? ⟨b, off + i, none⟩ = some (.slice (some ⟨g, 0, none⟩) row.length cr) ∧ w.ownsRow base 23 2 (.slice (some ⟨g, 0, none⟩) row.length cr) row.length (bdsC row) := by
  have hsr := Rows.each h i (by rw [rowsB_len, List.length_set]; exact hi)
  have e8 : (rowsB (l0.set i row)).getD i (0, []) = (row.length, bdsC row) := by simp [rowsB, hi]
  rw [e8] at hsr
  simp only at hsr
  obtain ⟨Ar, cr, er, _⟩ := (Rd.of_own hsr).shape
  rw [er] at hsr
  obtain ⟨gR, rfl⟩ := own_slice hsr hn
  obtain ⟨b1, o1, e1_, _, hsc1⟩ := sides_cell h.rd i (by rw [List.length_set]; exact hi)
  rw [er] at hsc1
  exact ⟨gR, b1, o1, cr, er, e1_, hsc1, hsr⟩
end
theorem own_cells {w : World} {base g c k : Nat} {row : List Bd} (h : w.ownsRow base 23 2 (.slice (some ⟨g, 0, none⟩) row.length c) row.length (bdsC row)) (hk : k < row.length) : w.cell? ⟨g, 0 + k * 2, none⟩ = some (.int .i64 (row.getD k bd0).lo) ∧ w.cell? ⟨g, 0 + k * 2 + 1, none⟩ = some (.int .i64 (row.getD k bd0).hi) := by
  obtain ⟨b, o, e, _, h1, h2⟩ := bds_cells row k hk w _ _ _ _ (Rd.of_own h)
  injection e with e
  injection e with e1 e2
  subst e1
  subst e2
  exact ⟨h1, h2⟩
theorem bd_setL : ∀ {l : List Bd} {i : Nat} (a : Int), i < l.length → spl (bdsC l) (i * 2) [.int .i64 a] = bdsC (l.set i ⟨a, (l.getD i bd0).hi⟩)
  | [], i, _, h => by simp at h
  | x :: l, 0, a, _ => by
    show Value.int .i64 a :: ovr (Value.int .i64 x.hi :: bdsC l) [] = _
    rw [ovr_eq _ _ (by simp)]
    rfl
  | x :: l, i + 1, a, h => by
    have ih := bd_setL (l := l) (i := i) a (by simpa using h)
    rw [show (i + 1) * 2 = i * 2 + 2 by omega]
    show bdC x ++ spl (bdsC l) (i * 2) [.int .i64 a] = _
    rw [ih]
    rfl
theorem bd_setH : ∀ {l : List Bd} {i : Nat} (a : Int), i < l.length → spl (bdsC l) (i * 2 + 1) [.int .i64 a] = bdsC (l.set i ⟨(l.getD i bd0).lo, a⟩)
  | [], i, _, h => by simp at h
  | x :: l, 0, a, _ => by
    show Value.int .i64 x.lo :: Value.int .i64 a :: ovr (bdsC l) [] = _
    rw [ovr_eq _ _ (by simp)]
    rfl
  | x :: l, i + 1, a, h => by
    have ih := bd_setH (l := l) (i := i) a (by simpa using h)
    rw [show (i + 1) * 2 + 1 = i * 2 + 1 + 2 by omega]
    show bdC x ++ spl (bdsC l) (i * 2 + 1) [.int .i64 a] = _
    rw [ih]
    rfl
theorem set_same {ms : List (List Bd)} {i : Nat} {row : List Bd} (h : ms.getD i [] = row) (hi : i < ms.length) : ms.set i row = ms := by
  apply List.ext_getElem?
  intro j
  rw [List.getElem?_set]
  by_cases e : i = j
  · subst e
    rw [if_pos rfl, ← h]
    simp [hi]
  · rw [if_neg e]
section
variable {P : Program} {n : Nat} {L : List Oper} {Q : Exit → Act → World → Prop} {cls : List (List Nat)} {m : Nat} {alc : List Nat} {w w1 : World} {i : Nat} {val : Nat → Value} {a : Act} {σ : Sg} {fl : Nat → Bool}
/-- a store into a row of one's own, in a head -/
theorem ts_storeRow {ty t g o k base e size mm cap : Nat} {x y : Operand} {pos : String} {af : Array Edge} {l' xs : List Value} {v : Value} {K : Act → World → Prop} (ha : Env n σ a) (ho : nthO L i = some ⟨none, .store t x y, ty, pos, af, none⟩) (hx : evS σ x = some (.pointer (some ⟨g, o, none⟩))) (hy : evS σ y = some v) (hown : w1.ownsRow base e size (.slice (some ⟨g, 0, none⟩) mm cap) mm xs) (hs : (P.info? t).map (·.size) = some k) (hv : v.cells.toList = l') (hk : lenV l' = k) (hok : o + k ≤ xs.length) (h1 : allOne l' = true)
    (next : ∀ w', w'.ownsRow base e size (.slice (some ⟨g, 0, none⟩) mm cap) mm (spl xs o l') → w1.grownBy w' (some g) → K a w') : wpOp P L.toArray Q i K a w1 := by
  obtain ⟨hl, ⟨h, _⟩ | ⟨g', cap', cur, h, hb, hg, hc1, hc2, hc3, hc4⟩⟩ := hown
  · cases h
  · injection h with h _ h2
    injection h with h
    injection h with h _
    subst h
    subst h2
    have hlk : l'.length = k := by rw [← lenV_eq]; exact hk
    have hle : mm * size ≤ cur.toList.length := by rw [Array.length_toList, hc3]; exact Nat.mul_le_mul_right _ hc1
    have hq : Blk w1 g e cur.toList.toArray := hg
    refine ts_store ha ho hx hy hq hs hv hk (by simp only [Nat.ble_eq, lenV_eq]; omega) h1 fun w' hq' hgr => next w' ?_ hgr
    have hx2 : spl xs o l' = (spl cur.toList o l').take (mm * size) := by rw [spl_take (by omega) hle, hc4]
    refine ⟨by rw [spl_len (by omega)]; exact hl, .inr ⟨g, cap, _, rfl, hb, hq', hc1, hc2, ?_, ?_⟩⟩
    · rw [List.size_toArray, spl_len (by omega), Array.length_toList]; exact hc3
    · rw [hx2]
end
end Go.Proofs.Ytncnlhkmdljgpaa
set_option linter.unusedVariables false
set_option linter.unusedSimpArgs false
namespace Go.Proofs.Ytncnlhkmdljgpaa
open Go Go.RowKit
section
variable {n : Nat} {σ : Sg} {w : World} {P : Program}
end
section
variable {w w' : World} {base e osize n tb size g : Nat} {vf : Value} {outer : List Value} {fs : List Value} {F : List (Nat × List Value)}
theorem Stream.below {v u : Value} {F : List (List Bd)} (h : Stream w base g v u vf fs F) (hb : Below w.heap.size w w') : Stream w' base g v u vf fs F := ⟨h.blk.below hb h.blk.lt, h.rows.below hb⟩
end
section
variable {rv : River} {sides : List (List Bd)} {l : List Pass} {j n : Nat}
end
theorem Stream.keepB {w w' : World} {base g C : Nat} {v u vf : Value} {fs : List Value} {F : List (List Bd)} (h : Stream w base g v u vf fs F) (hb : Below C w w') (hlt : g < C ∧ (∀ k, vf.ownBlock = some k → k < C) ∧ ∀ x ∈ fs, ∀ k, x.ownBlock = some k → k < C) : Stream w' base g v u vf fs F :=
  ⟨h.blk.below hb hlt.1, h.rows.keepB hb hlt.2.1 fun j hj k hk => hlt.2.2 _ (getD_mem (by rw [h.rows.len]; exact hj)) k hk⟩
end Go.Proofs.Ytncnlhkmdljgpaa
set_option linter.unusedVariables false
set_option linter.unusedSimpArgs false
namespace Go.Proofs.Ytncnlhkmdljgpaa
open Go Go.RowKit
section
variable {n : Nat} {σ : Sg} {w : World} {dst : Option Tmp} {ty : TypeId} {pos : String} {af : Array Edge} {g : Option (Nat × Bool)} {x y z : Operand} {at' : Array TypeId}
theorem bd_97_0_1 {x0 x1 : Operand} {z0 : Int} {v1_0 : Value} {v1_1 : Value} (h0 : evS σ x0 = some (.int .i64 z0)) (h1 : evS σ x1 = some (.agg #[v1_0, v1_1])) : Gives Try.prog n σ w ⟨dst, .build 97 #[(0, x0), (1, x1)], ty, pos, af, g⟩ (.agg #[.int .i64 z0, v1_0, v1_1, .int .i64 0, .int .i64 0, .int .i64 0]) := fun a ha => by
  simp only [execOp, List.map_toArray, List.map_cons, List.map_nil, ha.eval h0, ha.eval h1]
  go_simp
theorem sz_45 : (Try.prog.info? 45).map (·.size) = some 1 := by kernel_rfl
theorem bs_86_1 {x0 : Operand} {v0_0 v0_1 v0_2 v0_3 v0_4 v0_5 : Value} (h0 : evS σ x0 = some (.agg #[v0_0, v0_1, v0_2, v0_3, v0_4, v0_5]))  (a : Act) (ha : Env n σ a) : (execOp a.eval ⟨dst, .buildSlice 86 1 #[(0, x0)], ty, pos, af, g⟩).run Try.prog w = .ok (.value (.slice (some ⟨w.heap.size, 0, none⟩) 1 1)) (w.alloc (.cells #[v0_0, v0_1, v0_2, v0_3, v0_4, v0_5] 90)) := by
  simp only [execOp, List.map_toArray, List.map_cons, List.map_nil, ha.eval h0]
  go_simp
theorem bd_90_0_1_2_3 {x0 x1 x2 x3 : Operand} {z0 : Int} {z1 : Int} {v2_0 : Value} {v2_1 : Value} {v3_0 : Value} {v3_1 : Value} (h0 : evS σ x0 = some (.int .i64 z0)) (h1 : evS σ x1 = some (.int .i64 z1)) (h2 : evS σ x2 = some (.agg #[v2_0, v2_1])) (h3 : evS σ x3 = some (.agg #[v3_0, v3_1])) : Gives Try.prog n σ w ⟨dst, .build 90 #[(0, x0), (1, x1), (2, x2), (3, x3)], ty, pos, af, g⟩ (.agg #[.int .i64 z0, .int .i64 z1, v2_0, v2_1, v3_0, v3_1]) := fun a ha => by
  simp only [execOp, List.map_toArray, List.map_cons, List.map_nil, ha.eval h0, ha.eval h1, ha.eval h2, ha.eval h3]
  go_simp
end
end Go.Proofs.Ytncnlhkmdljgpaa
