/- River: the laws' helper large (printed by gen_w8.py). -/
import Derived.Test.YtncnlhkmdljgpaaX0
import Derived.Test.YtncnlhkmdljgpaaV16
set_option linter.unusedVariables false
namespace Go.Proofs.Ytncnlhkmdljgpaa
open Go Go.RowKit

/-- what `large` lets by -/
structure Fine (r : River) (sides : List (List Bd)) : Prop where
  nreaches : r.reaches.length ≤ 25
  nshoals : r.shoals.length ≤ 50
  nsides : sides.length ≤ 25
  curve : ∀ i, i < r.reaches.length → (r.reaches.getD i reach0).curve.length ≤ 40
  side : ∀ i, i < sides.length → (sides.getD i []).length ≤ 450

set_option maxRecDepth 100000 in
theorem large_any (rv : River) (sides : List (List Bd)) (v u s : Value) (vs ss : List Value) (w : World) (B : Nat) (hr : RdRiver w B v u rv vs) (hs : RdSides w B s sides ss) (hB : B ≤ w.heap.size) :
    Calls Try.prog 23 #[.agg #[v, u, s]] w fun e w' => (e = .returned (.bool true) ∨ e = .returned (.bool false) ∧ Fine rv sides) ∧ Below w.heap.size w w' := by
  obtain ⟨A, c, rfl, _⟩ := hr.reaches.shape
  obtain ⟨A', c', rfl, _⟩ := hr.shoals.shape
  obtain ⟨D, d, rfl, _⟩ := hs.rd.shape
  have hbw := Below.refl w.heap.size w
  refine EC.enter 54 Try.func23 rfl rfl rfl ?_
  by_cases h1 : 25 < rv.reaches.length
  ·
    refine EC.seq ?_
    refine EC.region ?_
    refine EL.newP (bx_54 rfl) rfl ?_
    intro g1 w1 q1 hb1 hg1 hl1
    have bhbw_1 := Nat.le_trans hbw.size hg1
    replace hbw := Below.on hbw hb1 hbw.size
    clear hb1 hg1 hl1
    refine EL.val (x_assign rfl) rfl ?_
    refine EL.nil ?_
    refine EX.seq ?_
    refine EC.seq ?_
    refine EC.seq ?_
    refine EC.region ?_
    refine EL.val (fa_54_0 rfl) rfl ?_
    refine EL.val (fa_47_0 rfl) rfl ?_
    refine EL.val (ld_44 rfl (q1.at (j := 0) rfl)) rfl ?_
    refine EL.val (ln_44 rfl) rfl ?_
    refine EL.val (x_gtr rfl rfl (by first | assumption | exact decide_eq_true (by omega))) rfl ?_
    refine EL.val (x_move rfl) rfl ?_
    refine EL.skip rfl rfl rfl rfl ?_
    refine EL.skip rfl rfl rfl rfl ?_
    refine EL.skip rfl rfl rfl rfl ?_
    refine EL.skip rfl rfl rfl rfl ?_
    refine EL.skip rfl rfl rfl rfl ?_
    refine EL.val (x_pick_t rfl rfl) rfl ?_
    refine EL.val (x_move rfl) rfl ?_
    refine EL.skip rfl rfl rfl rfl ?_
    refine EL.skip rfl rfl rfl rfl ?_
    refine EL.skip rfl rfl rfl rfl ?_
    refine EL.skip rfl rfl rfl rfl ?_
    refine EL.val (x_pick_t rfl rfl) rfl ?_
    refine EL.nil ?_
    refine EX.seq ?_
    refine EC.yes rfl ?_
    refine EC.seq ?_
    refine EC.region ?_
    refine EL.val (x_assign rfl) rfl ?_
    refine EL.nil ?_
    refine EX.seq ?_
    refine EC.ret ?_
    refine EX.seq_ret ?_
    exact EX.done (res1 rfl rfl) ⟨.inl rfl, hbw⟩
  by_cases h2 : 50 < rv.shoals.length
  ·
    refine EC.seq ?_
    refine EC.region ?_
    refine EL.newP (bx_54 rfl) rfl ?_
    intro g2 w2 q2 hb2 hg2 hl2
    have bhbw_2 := Nat.le_trans hbw.size hg2
    replace hbw := Below.on hbw hb2 hbw.size
    clear hb2 hg2 hl2
    refine EL.val (x_assign rfl) rfl ?_
    refine EL.nil ?_
    refine EX.seq ?_
    refine EC.seq ?_
    refine EC.seq ?_
    refine EC.region ?_
    refine EL.val (fa_54_0 rfl) rfl ?_
    refine EL.val (fa_47_0 rfl) rfl ?_
    refine EL.val (ld_44 rfl (q2.at (j := 0) rfl)) rfl ?_
    refine EL.val (ln_44 rfl) rfl ?_
    refine EL.val (x_gtr rfl rfl (by first | assumption | exact decide_eq_false (by omega))) rfl ?_
    refine EL.val (x_move rfl) rfl ?_
    refine EL.valg rfl rfl (fa_54_0 rfl) rfl ?_
    refine EL.valg rfl rfl (fa_47_1 rfl) rfl ?_
    refine EL.valg rfl rfl (ld_45 rfl (q2.at (j := 1) rfl)) rfl ?_
    refine EL.valg rfl rfl (ln_45 rfl) rfl ?_
    refine EL.valg rfl rfl (x_gtr rfl rfl (by first | assumption | exact decide_eq_true (by omega))) rfl ?_
    refine EL.val (x_pick_f rfl rfl) rfl ?_
    refine EL.val (x_move rfl) rfl ?_
    refine EL.skip rfl rfl rfl rfl ?_
    refine EL.skip rfl rfl rfl rfl ?_
    refine EL.skip rfl rfl rfl rfl ?_
    refine EL.skip rfl rfl rfl rfl ?_
    refine EL.val (x_pick_t rfl rfl) rfl ?_
    refine EL.nil ?_
    refine EX.seq ?_
    refine EC.yes rfl ?_
    refine EC.seq ?_
    refine EC.region ?_
    refine EL.val (x_assign rfl) rfl ?_
    refine EL.nil ?_
    refine EX.seq ?_
    refine EC.ret ?_
    refine EX.seq_ret ?_
    exact EX.done (res1 rfl rfl) ⟨.inl rfl, hbw⟩
  by_cases h3 : 25 < sides.length
  ·
    refine EC.seq ?_
    refine EC.region ?_
    refine EL.newP (bx_54 rfl) rfl ?_
    intro g3 w3 q3 hb3 hg3 hl3
    have bhbw_3 := Nat.le_trans hbw.size hg3
    replace hbw := Below.on hbw hb3 hbw.size
    clear hb3 hg3 hl3
    refine EL.val (x_assign rfl) rfl ?_
    refine EL.nil ?_
    refine EX.seq ?_
    refine EC.seq ?_
    refine EC.seq ?_
    refine EC.region ?_
    refine EL.val (fa_54_0 rfl) rfl ?_
    refine EL.val (fa_47_0 rfl) rfl ?_
    refine EL.val (ld_44 rfl (q3.at (j := 0) rfl)) rfl ?_
    refine EL.val (ln_44 rfl) rfl ?_
    refine EL.val (x_gtr rfl rfl (by first | assumption | exact decide_eq_false (by omega))) rfl ?_
    refine EL.val (x_move rfl) rfl ?_
    refine EL.valg rfl rfl (fa_54_0 rfl) rfl ?_
    refine EL.valg rfl rfl (fa_47_1 rfl) rfl ?_
    refine EL.valg rfl rfl (ld_45 rfl (q3.at (j := 1) rfl)) rfl ?_
    refine EL.valg rfl rfl (ln_45 rfl) rfl ?_
    refine EL.valg rfl rfl (x_gtr rfl rfl (by first | assumption | exact decide_eq_false (by omega))) rfl ?_
    refine EL.val (x_pick_f rfl rfl) rfl ?_
    refine EL.val (x_move rfl) rfl ?_
    refine EL.valg rfl rfl (fa_54_1 rfl) rfl ?_
    refine EL.valg rfl rfl (ld_52 rfl (q3.at (j := 2) rfl)) rfl ?_
    refine EL.valg rfl rfl (ln_52 rfl) rfl ?_
    refine EL.valg rfl rfl (x_gtr rfl rfl (by first | assumption | exact decide_eq_true (by omega))) rfl ?_
    refine EL.val (x_pick_f rfl rfl) rfl ?_
    refine EL.nil ?_
    refine EX.seq ?_
    refine EC.yes rfl ?_
    refine EC.seq ?_
    refine EC.region ?_
    refine EL.val (x_assign rfl) rfl ?_
    refine EL.nil ?_
    refine EX.seq ?_
    refine EC.ret ?_
    refine EX.seq_ret ?_
    exact EX.done (res1 rfl rfl) ⟨.inl rfl, hbw⟩
  refine EC.seq ?_
  refine EC.region ?_
  refine EL.newP (bx_54 rfl) rfl ?_
  intro g4 w4 q4 hb4 hg4 hl4
  have bhbw_4 := Nat.le_trans hbw.size hg4
  replace hbw := Below.on hbw hb4 hbw.size
  clear hb4 hg4 hl4
  refine EL.val (x_assign rfl) rfl ?_
  refine EL.nil ?_
  refine EX.seq ?_
  refine EC.seq ?_
  refine EC.seq ?_
  refine EC.region ?_
  refine EL.val (fa_54_0 rfl) rfl ?_
  refine EL.val (fa_47_0 rfl) rfl ?_
  refine EL.val (ld_44 rfl (q4.at (j := 0) rfl)) rfl ?_
  refine EL.val (ln_44 rfl) rfl ?_
  refine EL.val (x_gtr rfl rfl (by first | assumption | exact decide_eq_false (by omega))) rfl ?_
  refine EL.val (x_move rfl) rfl ?_
  refine EL.valg rfl rfl (fa_54_0 rfl) rfl ?_
  refine EL.valg rfl rfl (fa_47_1 rfl) rfl ?_
  refine EL.valg rfl rfl (ld_45 rfl (q4.at (j := 1) rfl)) rfl ?_
  refine EL.valg rfl rfl (ln_45 rfl) rfl ?_
  refine EL.valg rfl rfl (x_gtr rfl rfl (by first | assumption | exact decide_eq_false (by omega))) rfl ?_
  refine EL.val (x_pick_f rfl rfl) rfl ?_
  refine EL.val (x_move rfl) rfl ?_
  refine EL.valg rfl rfl (fa_54_1 rfl) rfl ?_
  refine EL.valg rfl rfl (ld_52 rfl (q4.at (j := 2) rfl)) rfl ?_
  refine EL.valg rfl rfl (ln_52 rfl) rfl ?_
  refine EL.valg rfl rfl (x_gtr rfl rfl (by first | assumption | exact decide_eq_false (by omega))) rfl ?_
  refine EL.val (x_pick_f rfl rfl) rfl ?_
  refine EL.nil ?_
  refine EX.seq ?_
  refine EC.no rfl ?_
  refine EC.skip ?_
  refine EX.seq ?_
  refine EC.seq ?_
  refine EC.seq ?_
  refine EC.region ?_
  refine EL.val (x_assign rfl) rfl ?_
  refine EL.nil ?_
  refine EX.seq ?_
  refine EC.block ?_
  refine EC.loopD [2, 3, 23, 24, 25, 26, 27, 28, 29, 30, 31, 32, 33, 34, 35, 36, 37, 38, 39] (fun x : Nat => [(3, .int .i64 (x : Nat))]) (fun x W => x ≤ rv.reaches.length ∧ (∀ i, i < x → (rv.reaches.getD i reach0).curve.length ≤ 40) ∧ Blk W g4 54 #[.slice A rv.reaches.length c, .slice A' rv.shoals.length c', .slice D sides.length d] ∧ Below w.heap.size w W) (fun x => rv.reaches.length - x) 0 ⟨Nat.zero_le _, fun i hi => absurd hi (Nat.not_lt_zero _), q4, hbw⟩ ⟨rfl, trivial⟩ ?_
  clear q4 hbw
  rintro i wr ⟨hi, hf, q4, hbw⟩
  by_cases hlt : i < rv.reaches.length
  ·
    obtain ⟨b, o, rfl, _, cc⟩ := reaches_cells hr.reaches i hlt
    have h4 := hr.reaches.curve i hlt
    obtain ⟨As, cs, es, _⟩ := h4.shape
    rw [es] at cc
    by_cases h5 : 40 < (rv.reaches.getD i reach0).curve.length
    ·
      refine EC.seq ?_
      refine EC.seq ?_
      refine EC.region ?_
      refine EL.val (x_move rfl) rfl ?_
      refine EL.val (fa_54_0 rfl) rfl ?_
      refine EL.val (fa_47_0 rfl) rfl ?_
      refine EL.val (ld_44 rfl (q4.at (j := 0) rfl)) rfl ?_
      refine EL.val (ln_44 rfl) rfl ?_
      refine EL.val (x_lss rfl rfl (by first | assumption | exact decide_eq_true (by omega))) rfl ?_
      refine EL.nil ?_
      refine EX.seq ?_
      refine EC.yes rfl ?_
      refine EC.skip ?_
      refine EX.seq ?_
      refine EC.seq ?_
      refine EC.block ?_
      refine EC.seq ?_
      refine EC.region ?_
      refine EL.val (fa_54_0 rfl) rfl ?_
      refine EL.val (fa_47_0 rfl) rfl ?_
      refine EL.val (ld_44 rfl (q4.at (j := 0) rfl)) rfl ?_
      refine EL.val (x_move rfl) rfl ?_
      refine EL.val (ix_44 rfl rfl hlt) rfl ?_
      refine EL.val (fa_50_3 rfl) rfl ?_
      refine EL.val (ld_48 rfl (below_load hbw cc.c4)) rfl ?_
      refine EL.val (ln_48 rfl) rfl ?_
      refine EL.val (x_gtr rfl rfl (by first | assumption | exact decide_eq_true (by omega))) rfl ?_
      refine EL.nil ?_
      refine EX.seq ?_
      refine EC.yes rfl ?_
      refine EC.seq ?_
      refine EC.region ?_
      refine EL.val (x_assign rfl) rfl ?_
      refine EL.nil ?_
      refine EX.seq ?_
      refine EC.ret ?_
      refine EX.blk_ret ?_
      refine EX.seq_ret ?_
      refine EX.seq_ret ?_
      refine EX.blk_ret ?_
      refine EX.seq_ret ?_
      exact EX.done (res1 rfl rfl) ⟨.inl rfl, hbw⟩
    ·
      refine EC.seq ?_
      refine EC.seq ?_
      refine EC.region ?_
      refine EL.val (x_move rfl) rfl ?_
      refine EL.val (fa_54_0 rfl) rfl ?_
      refine EL.val (fa_47_0 rfl) rfl ?_
      refine EL.val (ld_44 rfl (q4.at (j := 0) rfl)) rfl ?_
      refine EL.val (ln_44 rfl) rfl ?_
      refine EL.val (x_lss rfl rfl (by first | assumption | exact decide_eq_true (by omega))) rfl ?_
      refine EL.nil ?_
      refine EX.seq ?_
      refine EC.yes rfl ?_
      refine EC.skip ?_
      refine EX.seq ?_
      refine EC.seq ?_
      refine EC.block ?_
      refine EC.seq ?_
      refine EC.region ?_
      refine EL.val (fa_54_0 rfl) rfl ?_
      refine EL.val (fa_47_0 rfl) rfl ?_
      refine EL.val (ld_44 rfl (q4.at (j := 0) rfl)) rfl ?_
      refine EL.val (x_move rfl) rfl ?_
      refine EL.val (ix_44 rfl rfl hlt) rfl ?_
      refine EL.val (fa_50_3 rfl) rfl ?_
      refine EL.val (ld_48 rfl (below_load hbw cc.c4)) rfl ?_
      refine EL.val (ln_48 rfl) rfl ?_
      refine EL.val (x_gtr rfl rfl (by first | assumption | exact decide_eq_false (by omega))) rfl ?_
      refine EL.nil ?_
      refine EX.seq ?_
      refine EC.no rfl ?_
      refine EC.skip ?_
      refine EX.blk ?_
      refine EX.seq ?_
      refine EC.region ?_
      refine EL.val (x_move rfl) rfl ?_
      refine EL.val (x_add rfl rfl (by first | assumption | exact IntWalk.i64_in _ ⟨by omega, by omega⟩)) rfl ?_
      refine EL.val (x_assign rfl) rfl ?_
      refine EL.nil ?_
      refine EX.roundD (i + 1) ⟨rfl, trivial⟩ (by repeat first | exact Sub.refl _ | refine sub_past rfl ?_ | refine sub_del rfl ?_ | refine sub_insL_nil ?_) ⟨hlt, fun k hk => (Nat.lt_succ_iff_lt_or_eq.1 hk).elim (hf k) (fun e => by subst e; omega), q4, hbw⟩ (by omega)
  ·
    obtain rfl : i = rv.reaches.length := by omega
    refine EC.seq ?_
    refine EC.seq ?_
    refine EC.region ?_
    refine EL.val (x_move rfl) rfl ?_
    refine EL.val (fa_54_0 rfl) rfl ?_
    refine EL.val (fa_47_0 rfl) rfl ?_
    refine EL.val (ld_44 rfl (q4.at (j := 0) rfl)) rfl ?_
    refine EL.val (ln_44 rfl) rfl ?_
    refine EL.val (x_lss rfl rfl (by first | assumption | exact decide_eq_false (by omega))) rfl ?_
    refine EL.nil ?_
    refine EX.seq ?_
    refine EC.no rfl ?_
    refine EC.exit ?_
    refine EX.seq_exit ?_
    refine EX.seq_exit ?_
    refine EX.blk_here ?_
    refine EX.seq ?_
    refine EC.seq ?_
    refine EC.seq ?_
    refine EC.region ?_
    refine EL.val (x_assign rfl) rfl ?_
    refine EL.nil ?_
    refine EX.seq ?_
    refine EC.block ?_
    refine EC.loopD [2, 4, 40, 41, 42, 43, 44, 45, 46, 47, 48, 49, 50, 51, 52, 53] (fun x : Nat => [(4, .int .i64 (x : Nat))]) (fun x W => x ≤ sides.length ∧ (∀ i, i < x → (sides.getD i []).length ≤ 450) ∧ Blk W g4 54 #[.slice A rv.reaches.length c, .slice A' rv.shoals.length c', .slice D sides.length d] ∧ Below w.heap.size w W) (fun x => sides.length - x) 0 ⟨Nat.zero_le _, fun i hi => absurd hi (Nat.not_lt_zero _), q4, hbw⟩ ⟨rfl, trivial⟩ ?_
    clear q4 hbw
    rintro j wj ⟨hj, hg, q4, hbw⟩
    by_cases hjl : j < sides.length
    ·
      obtain ⟨b, o, rfl, _, cc⟩ := sides_cell hs j hjl
      have h4 := hs.side j hjl
      obtain ⟨As, cs, es, _⟩ := h4.shape
      rw [es] at cc
      by_cases h5 : 450 < (sides.getD j []).length
      ·
        refine EC.seq ?_
        refine EC.seq ?_
        refine EC.region ?_
        refine EL.val (x_move rfl) rfl ?_
        refine EL.val (fa_54_1 rfl) rfl ?_
        refine EL.val (ld_52 rfl (q4.at (j := 2) rfl)) rfl ?_
        refine EL.val (ln_52 rfl) rfl ?_
        refine EL.val (x_lss rfl rfl (by first | assumption | exact decide_eq_true (by omega))) rfl ?_
        refine EL.nil ?_
        refine EX.seq ?_
        refine EC.yes rfl ?_
        refine EC.skip ?_
        refine EX.seq ?_
        refine EC.seq ?_
        refine EC.block ?_
        refine EC.seq ?_
        refine EC.region ?_
        refine EL.val (fa_54_1 rfl) rfl ?_
        refine EL.val (ld_52 rfl (q4.at (j := 2) rfl)) rfl ?_
        refine EL.val (x_move rfl) rfl ?_
        refine EL.val (ix_52 rfl rfl hjl) rfl ?_
        refine EL.val (ld_28 rfl (below_load hbw cc)) rfl ?_
        refine EL.val (ln_28 rfl) rfl ?_
        refine EL.val (x_gtr rfl rfl (by first | assumption | exact decide_eq_true (by omega))) rfl ?_
        refine EL.nil ?_
        refine EX.seq ?_
        refine EC.yes rfl ?_
        refine EC.seq ?_
        refine EC.region ?_
        refine EL.val (x_assign rfl) rfl ?_
        refine EL.nil ?_
        refine EX.seq ?_
        refine EC.ret ?_
        refine EX.blk_ret ?_
        refine EX.seq_ret ?_
        refine EX.seq_ret ?_
        refine EX.blk_ret ?_
        refine EX.seq_ret ?_
        exact EX.done (res1 rfl rfl) ⟨.inl rfl, hbw⟩
      ·
        refine EC.seq ?_
        refine EC.seq ?_
        refine EC.region ?_
        refine EL.val (x_move rfl) rfl ?_
        refine EL.val (fa_54_1 rfl) rfl ?_
        refine EL.val (ld_52 rfl (q4.at (j := 2) rfl)) rfl ?_
        refine EL.val (ln_52 rfl) rfl ?_
        refine EL.val (x_lss rfl rfl (by first | assumption | exact decide_eq_true (by omega))) rfl ?_
        refine EL.nil ?_
        refine EX.seq ?_
        refine EC.yes rfl ?_
        refine EC.skip ?_
        refine EX.seq ?_
        refine EC.seq ?_
        refine EC.block ?_
        refine EC.seq ?_
        refine EC.region ?_
        refine EL.val (fa_54_1 rfl) rfl ?_
        refine EL.val (ld_52 rfl (q4.at (j := 2) rfl)) rfl ?_
        refine EL.val (x_move rfl) rfl ?_
        refine EL.val (ix_52 rfl rfl hjl) rfl ?_
        refine EL.val (ld_28 rfl (below_load hbw cc)) rfl ?_
        refine EL.val (ln_28 rfl) rfl ?_
        refine EL.val (x_gtr rfl rfl (by first | assumption | exact decide_eq_false (by omega))) rfl ?_
        refine EL.nil ?_
        refine EX.seq ?_
        refine EC.no rfl ?_
        refine EC.skip ?_
        refine EX.blk ?_
        refine EX.seq ?_
        refine EC.region ?_
        refine EL.val (x_move rfl) rfl ?_
        refine EL.val (x_add rfl rfl (by first | assumption | exact IntWalk.i64_in _ ⟨by omega, by omega⟩)) rfl ?_
        refine EL.val (x_assign rfl) rfl ?_
        refine EL.nil ?_
        refine EX.roundD (j + 1) ⟨rfl, trivial⟩ (by repeat first | exact Sub.refl _ | refine sub_past rfl ?_ | refine sub_del rfl ?_ | refine sub_insL_nil ?_) ⟨hjl, fun k hk => (Nat.lt_succ_iff_lt_or_eq.1 hk).elim (hg k) (fun e => by subst e; omega), q4, hbw⟩ (by omega)
    ·
      obtain rfl : j = sides.length := by omega
      refine EC.seq ?_
      refine EC.seq ?_
      refine EC.region ?_
      refine EL.val (x_move rfl) rfl ?_
      refine EL.val (fa_54_1 rfl) rfl ?_
      refine EL.val (ld_52 rfl (q4.at (j := 2) rfl)) rfl ?_
      refine EL.val (ln_52 rfl) rfl ?_
      refine EL.val (x_lss rfl rfl (by first | assumption | exact decide_eq_false (by omega))) rfl ?_
      refine EL.nil ?_
      refine EX.seq ?_
      refine EC.no rfl ?_
      refine EC.exit ?_
      refine EX.seq_exit ?_
      refine EX.seq_exit ?_
      refine EX.blk_here ?_
      refine EX.seq ?_
      refine EC.seq ?_
      refine EC.region ?_
      refine EL.val (x_assign rfl) rfl ?_
      refine EL.nil ?_
      refine EX.seq ?_
      refine EC.ret ?_
      exact EX.done (res1 rfl rfl) ⟨.inr ⟨rfl, by omega, by omega, by omega, hf, hg⟩, hbw⟩
end Go.Proofs.Ytncnlhkmdljgpaa
