/- River: the laws' helper valid (printed by gen_w19.py). -/
import Derived.Test.YtncnlhkmdljgpaaLaw0
import Derived.Test.YtncnlhkmdljgpaaExB
set_option linter.unusedVariables false
set_option linter.unusedSimpArgs false
namespace Go.Proofs.Ytncnlhkmdljgpaa
open Go Go.RowKit

/-- all of a slice's elements at once -/
theorem sides_all {l : List (List Bd)} {vs : List Value} {w : World} {B : Nat} {A : Option Addr} {n c : Nat} (hr : RdSides w B (.slice A n c) l vs) (h0 : 0 < l.length) :
    ∃ b o, A = some ⟨b, o, none⟩ ∧ b < B ∧ ∀ k, k < l.length → w.cell? ⟨b, o + k, none⟩ = some (vs.getD k undef) := by
  obtain ⟨hv, hrd, _⟩ := hr
  have hn : n = l.length := by obtain ⟨_, _, _, e, _⟩ := hrd; injection e
  subst hn
  obtain ⟨b, off, rfl, hb, hc⟩ := hrd.at_ (by omega)
  exact ⟨b, off, rfl, hb, fun k hk => hc k _ (by simp [show k < vs.length by omega])⟩
theorem bds_all {l : List Bd} {w : World} {B : Nat} {A : Option Addr} {n c : Nat} (hr : Rd w B 2 (.slice A n c) n (bdsC l)) (h0 : 0 < l.length) :
    ∃ b o, A = some ⟨b, o, none⟩ ∧ b < B ∧ ∀ k, k < l.length → w.cell? ⟨b, o + k * 2, none⟩ = some (.int .i64 (l.getD k bd0).lo) ∧ w.cell? ⟨b, o + k * 2 + 1, none⟩ = some (.int .i64 (l.getD k bd0).hi) := by
  obtain ⟨b, o, e, hb, _⟩ := bds_cells l 0 h0 w B A n c hr
  refine ⟨b, o, e, hb, fun k hk => ?_⟩
  obtain ⟨b1, o1, e1, _, h1, h2⟩ := bds_cells l k hk w B A n c hr
  rw [e] at e1
  injection e1 with e1
  injection e1 with e2 e3
  subst e2
  subst e3
  exact ⟨h1, h2⟩

set_option maxRecDepth 100000 in
theorem valid_any (rv : River) (sides : List (List Bd)) (v u s : Value) (vs ss : List Value) (w : World) (B : Nat) (hr : RdRiver w B v u rv vs) (hs : RdSides w B s sides ss) (hB : B ≤ w.heap.size) :
    Calls Try.prog 44 #[.agg #[v, u, s]] w fun e w' => (e = .returned (.bool false) ∨ e = .returned (.bool true) ∧ Fine rv sides ∧ startErr rv sides = 0) ∧ Below w.heap.size w w' := by
  obtain ⟨A, c, rfl, _⟩ := hr.reaches.shape
  obtain ⟨A', c', rfl, _⟩ := hr.shoals.shape
  obtain ⟨D, d, rfl, _⟩ := hs.rd.shape
  have hbw := Below.refl w.heap.size w
  refine EC.enter 98 Try.func44 rfl rfl rfl ?_
  refine EC.seq ?_
  refine EC.region ?_
  refine EL.newP (bx_54 rfl) rfl ?_
  intro g1 w1 q1 hb1 hg1 hl1
  have bhbw_1 := Nat.le_trans hbw.size hg1
  replace hbw := Below.on hbw hb1 hbw.size
  clear hb1 hg1 hl1
  refine EL.val (x_assign rfl) rfl ?_
  refine EL.nil ?_
  refine EX.seq ?_
  refine EC.seq ?_
  refine EC.seq ?_
  refine EC.region ?_
  refine EL.val (ld_54 rfl (q1.at (j := 0) rfl) (q1.at (j := 1) rfl) (q1.at (j := 2) rfl)) rfl ?_
  refine EL.call (cl_23 rfl) rfl (large_any rv sides _ _ _ vs ss _ _ (hr.below (hbw.mono hB)) (hs.below (hbw.mono hB)) (Nat.le_trans hB hbw.size)) ?_
  rintro e w_l ⟨rfl | ⟨rfl, hfine⟩, hc_⟩
  ·
    refine ⟨_, rfl, ?_⟩
    replace q1 := q1.below hc_ q1.lt
    replace hbw := Below.on hbw hc_ hbw.size
    clear hc_
    refine EL.val (x_move rfl) rfl ?_
    refine EL.skip rfl rfl rfl rfl ?_
    refine EL.skip rfl rfl rfl rfl ?_
    refine EL.skip rfl rfl rfl rfl ?_
    refine EL.skip rfl rfl rfl rfl ?_
    refine EL.skip rfl rfl rfl rfl ?_
    refine EL.val (x_pick_t rfl rfl) rfl ?_
    refine EL.val (x_move rfl) rfl ?_
    refine EL.skip rfl rfl rfl rfl ?_
    refine EL.skip rfl rfl rfl rfl ?_
    refine EL.skip rfl rfl rfl rfl ?_
    refine EL.skip rfl rfl rfl rfl ?_
    refine EL.skip rfl rfl rfl rfl ?_
    refine EL.skip rfl rfl rfl rfl ?_
    refine EL.skip rfl rfl rfl rfl ?_
    refine EL.skip rfl rfl rfl rfl ?_
    refine EL.val (x_pick_t rfl rfl) rfl ?_
    refine EL.val (x_move rfl) rfl ?_
    refine EL.skip rfl rfl rfl rfl ?_
    refine EL.skip rfl rfl rfl rfl ?_
    refine EL.skip rfl rfl rfl rfl ?_
    refine EL.skip rfl rfl rfl rfl ?_
    refine EL.skip rfl rfl rfl rfl ?_
    refine EL.skip rfl rfl rfl rfl ?_
    refine EL.val (x_pick_t rfl rfl) rfl ?_
    refine EL.val (x_move rfl) rfl ?_
    refine EL.skip rfl rfl rfl rfl ?_
    refine EL.skip rfl rfl rfl rfl ?_
    refine EL.skip rfl rfl rfl rfl ?_
    refine EL.skip rfl rfl rfl rfl ?_
    refine EL.skip rfl rfl rfl rfl ?_
    refine EL.val (x_pick_t rfl rfl) rfl ?_
    refine EL.nil ?_
    refine EX.seq ?_
    refine EC.yes rfl ?_
    refine EC.seq ?_
    refine EC.region ?_
    refine EL.val (x_assign rfl) rfl ?_
    refine EL.nil ?_
    refine EX.seq ?_
    refine EC.ret ?_
    refine EX.seq_ret ?_
    exact EX.done (res1 rfl rfl) ⟨.inl rfl, hbw⟩
  ·
    have f1 := hfine.nreaches
    have f2 := hfine.nshoals
    have f3 := hfine.curves
    have f4 := hfine.sidesB
    have f5 := hfine.nsides
    refine ⟨_, rfl, ?_⟩
    replace q1 := q1.below hc_ q1.lt
    replace hbw := Below.on hbw hc_ hbw.size
    clear hc_
    refine EL.val (x_move rfl) rfl ?_
    refine EL.valg rfl rfl (fa_54_0 rfl) rfl ?_
    refine EL.valg rfl rfl (fa_47_0 rfl) rfl ?_
    refine EL.valg rfl rfl (ld_44 rfl (q1.at (j := 0) rfl)) rfl ?_
    refine EL.valg rfl rfl (ln_44 rfl) rfl ?_
    by_cases h1_7 : rv.reaches.length < 1
    ·
      refine EL.valg rfl rfl (x_lss rfl rfl (by first | assumption | exact decide_eq_true (by omega))) rfl ?_
      refine EL.val (x_pick_f rfl rfl) rfl ?_
      refine EL.val (x_move rfl) rfl ?_
      refine EL.skip rfl rfl rfl rfl ?_
      refine EL.skip rfl rfl rfl rfl ?_
      refine EL.skip rfl rfl rfl rfl ?_
      refine EL.skip rfl rfl rfl rfl ?_
      refine EL.skip rfl rfl rfl rfl ?_
      refine EL.skip rfl rfl rfl rfl ?_
      refine EL.skip rfl rfl rfl rfl ?_
      refine EL.skip rfl rfl rfl rfl ?_
      refine EL.val (x_pick_t rfl rfl) rfl ?_
      refine EL.val (x_move rfl) rfl ?_
      refine EL.skip rfl rfl rfl rfl ?_
      refine EL.skip rfl rfl rfl rfl ?_
      refine EL.skip rfl rfl rfl rfl ?_
      refine EL.skip rfl rfl rfl rfl ?_
      refine EL.skip rfl rfl rfl rfl ?_
      refine EL.skip rfl rfl rfl rfl ?_
      refine EL.val (x_pick_t rfl rfl) rfl ?_
      refine EL.val (x_move rfl) rfl ?_
      refine EL.skip rfl rfl rfl rfl ?_
      refine EL.skip rfl rfl rfl rfl ?_
      refine EL.skip rfl rfl rfl rfl ?_
      refine EL.skip rfl rfl rfl rfl ?_
      refine EL.skip rfl rfl rfl rfl ?_
      refine EL.val (x_pick_t rfl rfl) rfl ?_
      refine EL.nil ?_
      refine EX.seq ?_
      refine EC.yes rfl ?_
      refine EC.seq ?_
      refine EC.region ?_
      refine EL.val (x_assign rfl) rfl ?_
      refine EL.nil ?_
      refine EX.seq ?_
      refine EC.ret ?_
      refine EX.seq_ret ?_
      exact EX.done (res1 rfl rfl) ⟨.inl rfl, hbw⟩
    ·
      refine EL.valg rfl rfl (x_lss rfl rfl (by first | assumption | exact decide_eq_false (by omega))) rfl ?_
      refine EL.val (x_pick_f rfl rfl) rfl ?_
      refine EL.val (x_move rfl) rfl ?_
      refine EL.valg rfl rfl (fa_54_1 rfl) rfl ?_
      refine EL.valg rfl rfl (ld_52 rfl (q1.at (j := 2) rfl)) rfl ?_
      refine EL.valg rfl rfl (ln_52 rfl) rfl ?_
      refine EL.valg rfl rfl (fa_54_0 rfl) rfl ?_
      refine EL.valg rfl rfl (fa_47_0 rfl) rfl ?_
      refine EL.valg rfl rfl (ld_44 rfl (q1.at (j := 0) rfl)) rfl ?_
      refine EL.valg rfl rfl (ln_44 rfl) rfl ?_
      by_cases h1_17 : sides.length ≠ rv.reaches.length
      ·
        refine EL.valg rfl rfl (x_neq rfl rfl (by first | assumption | exact decide_eq_true (by omega))) rfl ?_
        refine EL.val (x_pick_f rfl rfl) rfl ?_
        refine EL.val (x_move rfl) rfl ?_
        refine EL.skip rfl rfl rfl rfl ?_
        refine EL.skip rfl rfl rfl rfl ?_
        refine EL.skip rfl rfl rfl rfl ?_
        refine EL.skip rfl rfl rfl rfl ?_
        refine EL.skip rfl rfl rfl rfl ?_
        refine EL.skip rfl rfl rfl rfl ?_
        refine EL.val (x_pick_t rfl rfl) rfl ?_
        refine EL.val (x_move rfl) rfl ?_
        refine EL.skip rfl rfl rfl rfl ?_
        refine EL.skip rfl rfl rfl rfl ?_
        refine EL.skip rfl rfl rfl rfl ?_
        refine EL.skip rfl rfl rfl rfl ?_
        refine EL.skip rfl rfl rfl rfl ?_
        refine EL.val (x_pick_t rfl rfl) rfl ?_
        refine EL.nil ?_
        refine EX.seq ?_
        refine EC.yes rfl ?_
        refine EC.seq ?_
        refine EC.region ?_
        refine EL.val (x_assign rfl) rfl ?_
        refine EL.nil ?_
        refine EX.seq ?_
        refine EC.ret ?_
        refine EX.seq_ret ?_
        exact EX.done (res1 rfl rfl) ⟨.inl rfl, hbw⟩
      ·
        obtain ⟨bS, oS, rfl, _, hsc⟩ := sides_all hs (by omega)
        have hs0 := hs.side 0 (by omega)
        obtain ⟨As, cs, es, _⟩ := hs0.shape
        have c0 := hsc 0 (by omega)
        rw [es] at c0
        refine EL.valg rfl rfl (x_neq rfl rfl (by first | assumption | exact decide_eq_false (by omega))) rfl ?_
        refine EL.val (x_pick_f rfl rfl) rfl ?_
        refine EL.val (x_move rfl) rfl ?_
        refine EL.valg rfl rfl (fa_54_1 rfl) rfl ?_
        refine EL.valg rfl rfl (ld_52 rfl (q1.at (j := 2) rfl)) rfl ?_
        refine EL.valg rfl rfl (ix_52 (k := 0) rfl rfl (by omega)) rfl ?_
        refine EL.valg rfl rfl (ld_28 rfl (below_load hbw c0)) rfl ?_
        refine EL.valg rfl rfl (ln_28 rfl) rfl ?_
        by_cases h1_25 : (sides.getD 0 []).length < 1
        ·
          refine EL.valg rfl rfl (x_lss rfl rfl (by first | assumption | exact decide_eq_true (by omega))) rfl ?_
          refine EL.val (x_pick_f rfl rfl) rfl ?_
          refine EL.val (x_move rfl) rfl ?_
          refine EL.skip rfl rfl rfl rfl ?_
          refine EL.skip rfl rfl rfl rfl ?_
          refine EL.skip rfl rfl rfl rfl ?_
          refine EL.skip rfl rfl rfl rfl ?_
          refine EL.skip rfl rfl rfl rfl ?_
          refine EL.val (x_pick_t rfl rfl) rfl ?_
          refine EL.nil ?_
          refine EX.seq ?_
          refine EC.yes rfl ?_
          refine EC.seq ?_
          refine EC.region ?_
          refine EL.val (x_assign rfl) rfl ?_
          refine EL.nil ?_
          refine EX.seq ?_
          refine EC.ret ?_
          refine EX.seq_ret ?_
          exact EX.done (res1 rfl rfl) ⟨.inl rfl, hbw⟩
        ·
          refine EL.valg rfl rfl (x_lss rfl rfl (by first | assumption | exact decide_eq_false (by omega))) rfl ?_
          refine EL.val (x_pick_f rfl rfl) rfl ?_
          refine EL.val (x_move rfl) rfl ?_
          refine EL.valg rfl rfl (fa_54_0 rfl) rfl ?_
          refine EL.valg rfl rfl (ld_47 rfl (q1.at (j := 0) rfl) (q1.at (j := 1) rfl)) rfl ?_
          refine EL.callg rfl rfl (cl_24 rfl) rfl (copied_any rv _ _ vs _ B (hr.below (hbw.mono hB)) (Nat.le_trans hB hbw.size) (by omega) (by omega) f3) ?_
          rintro e w2 ⟨⟨v1, u1, vs1, rfl, hcp⟩, hc2⟩
          refine ⟨_, rfl, ?_⟩
          replace q1 := q1.below hc2 q1.lt
          replace hbw := Below.on hbw hc2 hbw.size
          clear hc2
          refine EL.callg rfl rfl (cl_25 rfl) rfl (check_any rv _ _ vs1 _ _ hcp (Nat.le_refl _) (by omega) (by omega) f3) ?_
          rintro e w3 ⟨rfl, hc3⟩
          refine ⟨_, rfl, ?_⟩
          replace q1 := q1.below hc3 q1.lt
          replace hbw := Below.on hbw hc3 hbw.size
          clear hc3
          rcases Bool.eq_false_or_eq_true (riverB rv) with hok | hok
          ·
            have hd : errB (riverB rv) = 0 := by rw [hok]; rfl
            refine EL.valg rfl rfl (x_neq rfl rfl (by first | assumption | exact decide_eq_false (by omega))) rfl ?_
            refine EL.val (x_pick_f rfl rfl) rfl ?_
            refine EL.nil ?_
            refine EX.seq ?_
            refine EC.no rfl ?_
            refine EC.skip ?_
            refine EX.seq ?_
            refine EC.seq ?_
            refine EC.seq ?_
            refine EC.region ?_
            refine EL.val (x_assign rfl) rfl ?_
            refine EL.nil ?_
            refine EX.seq ?_
            refine EC.block ?_
            refine EC.loopD [2, 3, 4, 5, 40, 41, 42, 43, 44, 45, 46, 47, 48, 49, 50, 51, 52, 53, 54, 55, 56, 57, 58, 59, 60, 61, 62, 63, 64, 65, 66, 67, 68, 69, 70, 71, 72, 73, 74, 75, 76, 77, 78, 79, 80, 81, 82, 83, 84, 85, 86, 87, 88, 89, 90, 91] (fun x : Nat => [(3, .int .i64 (x : Nat))]) (fun x W => x ≤ sides.length ∧ (∀ j, j < x → (sides.getD j []).length = (sides.getD 0 []).length ∧ ∀ y, y < (sides.getD j []).length → bdOk 0 10000000000 ((sides.getD j []).getD y bd0) = true) ∧ Blk W g1 54 #[.slice A rv.reaches.length c, .slice A' rv.shoals.length c', .slice (some ⟨bS, oS, none⟩) sides.length d] ∧ Below w.heap.size w W) (fun x => sides.length - x) 0 ⟨Nat.zero_le _, fun j hj => absurd hj (Nat.not_lt_zero _), q1, hbw⟩ ⟨rfl, trivial⟩ ?_
            clear q1 hbw
            rintro i wr ⟨hi, hI, q1, hbw⟩
            by_cases hlt : i < sides.length
            ·
              have ci := hsc i hlt
              have hs450 := hfine.side i hlt
              have hsi := hs.side i hlt
              obtain ⟨Ai, cai, ei, _⟩ := hsi.shape
              rw [ei] at ci hsi
              refine EC.seq ?_
              refine EC.seq ?_
              refine EC.region ?_
              refine EL.val (x_move rfl) rfl ?_
              refine EL.val (fa_54_1 rfl) rfl ?_
              refine EL.val (ld_52 rfl (q1.at (j := 2) rfl)) rfl ?_
              refine EL.val (ln_52 rfl) rfl ?_
              refine EL.val (x_lss rfl rfl (by first | assumption | exact decide_eq_true (by omega))) rfl ?_
              refine EL.nil ?_
              refine EX.seq ?_
              refine EC.yes rfl ?_
              refine EC.skip ?_
              refine EX.seq ?_
              refine EC.seq ?_
              refine EC.block ?_
              refine EC.seq ?_
              refine EC.seq ?_
              by_cases hsame : (sides.getD i []).length = (sides.getD 0 []).length
              ·
                refine EC.regionQ (by kernel_rfl) (by kernel_rfl) ?_
                refine EQ.val (fun _ hw => (fa_54_1 rfl)) rfl ?_
                refine EQ.val (fun _ hw => (ld_52 rfl (below_load hw (q1.at (j := 2) rfl)))) rfl ?_
                refine EQ.val (fun _ hw => (x_move rfl)) rfl ?_
                refine EQ.val (fun _ hw => (ix_52 rfl rfl hlt)) rfl ?_
                refine EQ.val (fun _ hw => (ld_28 rfl (below_load hw (below_load hbw ci)))) rfl ?_
                refine EQ.val (fun _ hw => (ln_28 rfl)) rfl ?_
                refine EQ.val (fun _ hw => (fa_54_1 rfl)) rfl ?_
                refine EQ.val (fun _ hw => (ld_52 rfl (below_load hw (q1.at (j := 2) rfl)))) rfl ?_
                refine EQ.val (fun _ hw => (ix_52 (k := 0) rfl rfl (by omega))) rfl ?_
                refine EQ.val (fun _ hw => (ld_28 rfl (below_load hw (below_load hbw c0)))) rfl ?_
                refine EQ.val (fun _ hw => (ln_28 rfl)) rfl ?_
                refine EQ.val (fun _ hw => (x_neq rfl rfl (by first | assumption | exact decide_eq_false (by omega)))) rfl ?_
                refine EQ.fin (fun w_ hw_ => ?_)
                replace q1 := q1.below hw_ q1.lt
                replace hbw := Below.on hbw hw_ hbw.size
                clear hw_
                refine EX.seq ?_
                refine EC.no rfl ?_
                refine EC.skip ?_
                refine EX.seq ?_
                refine EC.seq ?_
                refine EC.region ?_
                refine EL.val (x_assign rfl) rfl ?_
                refine EL.nil ?_
                refine EX.seq ?_
                refine EC.block ?_
                refine EC.loopD [2, 4, 5, 59, 60, 61, 62, 63, 64, 65, 66, 67, 68, 69, 70, 71, 72, 73, 74, 75, 76, 77, 78, 79, 80, 81, 82, 83, 84, 85, 86, 87, 88, 89, 90, 91] (fun x : Nat => [(4, .int .i64 (x : Nat))]) (fun x W => x ≤ (sides.getD i []).length ∧ (∀ y, y < x → bdOk 0 10000000000 ((sides.getD i []).getD y bd0) = true) ∧ Blk W g1 54 #[.slice A rv.reaches.length c, .slice A' rv.shoals.length c', .slice (some ⟨bS, oS, none⟩) sides.length d] ∧ Below w.heap.size w W) (fun x => (sides.getD i []).length - x) 0 ⟨Nat.zero_le _, fun j hj => absurd hj (Nat.not_lt_zero _), q1, hbw⟩ ⟨rfl, trivial⟩ ?_
                clear q1 hbw
                rintro k wk ⟨hk, hK, q1, hbw⟩
                by_cases hkl : k < (sides.getD i []).length
                ·
                  obtain ⟨bR, oR, rfl, _, d0, d1⟩ := bds_cells _ k hkl _ _ _ _ _ hsi
                  obtain ⟨y, ey⟩ : ∃ y, y = (sides.getD i []).getD k bd0 := ⟨_, rfl⟩
                  rw [← ey] at d0 d1
                  refine EC.seq ?_
                  refine EC.seq ?_
                  refine EC.region ?_
                  refine EL.val (x_move rfl) rfl ?_
                  refine EL.val (fa_54_1 rfl) rfl ?_
                  refine EL.val (ld_52 rfl (q1.at (j := 2) rfl)) rfl ?_
                  refine EL.val (x_move rfl) rfl ?_
                  refine EL.val (ix_52 rfl rfl hlt) rfl ?_
                  refine EL.val (ld_28 rfl (below_load hbw ci)) rfl ?_
                  refine EL.val (ln_28 rfl) rfl ?_
                  refine EL.val (x_lss rfl rfl (by first | assumption | exact decide_eq_true (by omega))) rfl ?_
                  refine EL.nil ?_
                  refine EX.seq ?_
                  refine EC.yes rfl ?_
                  refine EC.skip ?_
                  refine EX.seq ?_
                  refine EC.seq ?_
                  refine EC.block ?_
                  refine EC.seq ?_
                  refine EC.region ?_
                  refine EL.val (fa_54_1 rfl) rfl ?_
                  refine EL.val (ld_52 rfl (q1.at (j := 2) rfl)) rfl ?_
                  refine EL.val (x_move rfl) rfl ?_
                  refine EL.val (ix_52 rfl rfl hlt) rfl ?_
                  refine EL.val (ld_28 rfl (below_load hbw ci)) rfl ?_
                  refine EL.val (x_move rfl) rfl ?_
                  refine EL.val (ix_28 rfl rfl hkl) rfl ?_
                  refine EL.val (ld_23 rfl (below_load hbw d0) (below_load hbw d1)) rfl ?_
                  refine EL.newP al_23 rfl ?_
                  intro g4 w4 q4 hb4 hg4 hl4
                  have n1_4 : g1 ≠ g4 := Nat.ne_of_lt (Nat.lt_of_lt_of_le q1.lt hg4)
                  have bhbw_4 := Nat.le_trans hbw.size hg4
                  replace q1 := q1.below hb4 q1.lt
                  replace hbw := Below.on hbw hb4 hbw.size
                  clear hb4 hg4 hl4
                  refine EL.store rfl rfl q4 sz_23 rfl rfl rfl rfl ?_
                  intro w5 hq5 hg5
                  replace q1 := q1.grown hg5 (fun h => n1_4 (Option.some.inj h))
                  replace hbw := below_store hbw hg5 bhbw_4
                  replace q4 := hq5
                  clear hg5 hq5
                  refine EL.nil ?_
                  refine EX.seq ?_
                  refine EC.seq ?_
                  refine EC.region ?_
                  refine EL.val (fa_23_0 rfl) rfl ?_
                  refine EL.val (ld_3 rfl (q4.at (j := 0) rfl)) rfl ?_
                  by_cases h12_2 : y.lo < 0
                  ·
                    refine EL.val (x_lss rfl rfl (by first | assumption | exact decide_eq_true (by omega))) rfl ?_
                    refine EL.val (x_move rfl) rfl ?_
                    refine EL.skip rfl rfl rfl rfl ?_
                    refine EL.skip rfl rfl rfl rfl ?_
                    refine EL.skip rfl rfl rfl rfl ?_
                    refine EL.skip rfl rfl rfl rfl ?_
                    refine EL.skip rfl rfl rfl rfl ?_
                    refine EL.val (x_pick_t rfl rfl) rfl ?_
                    refine EL.val (x_move rfl) rfl ?_
                    refine EL.skip rfl rfl rfl rfl ?_
                    refine EL.skip rfl rfl rfl rfl ?_
                    refine EL.skip rfl rfl rfl rfl ?_
                    refine EL.val (x_pick_t rfl rfl) rfl ?_
                    refine EL.nil ?_
                    refine EX.seq ?_
                    refine EC.yes rfl ?_
                    refine EC.seq ?_
                    refine EC.region ?_
                    refine EL.val (x_assign rfl) rfl ?_
                    refine EL.nil ?_
                    refine EX.seq ?_
                    refine EC.ret ?_
                    refine EX.blk_ret ?_
                    refine EX.seq_ret ?_
                    refine EX.seq_ret ?_
                    refine EX.blk_ret ?_
                    refine EX.blk_ret ?_
                    refine EX.seq_ret ?_
                    refine EX.seq_ret ?_
                    refine EX.blk_ret ?_
                    refine EX.seq_ret ?_
                    exact EX.done (res1 rfl rfl) ⟨.inl rfl, hbw⟩
                  ·
                    refine EL.val (x_lss rfl rfl (by first | assumption | exact decide_eq_false (by omega))) rfl ?_
                    refine EL.val (x_move rfl) rfl ?_
                    refine EL.valg rfl rfl (fa_23_0 rfl) rfl ?_
                    refine EL.valg rfl rfl (ld_3 rfl (q4.at (j := 0) rfl)) rfl ?_
                    refine EL.valg rfl rfl (fa_23_1 rfl) rfl ?_
                    refine EL.valg rfl rfl (ld_3 rfl (q4.at (j := 1) rfl)) rfl ?_
                    by_cases h12_8 : y.hi < y.lo
                    ·
                      refine EL.valg rfl rfl (x_gtr rfl rfl (by first | assumption | exact decide_eq_true (by omega))) rfl ?_
                      refine EL.val (x_pick_f rfl rfl) rfl ?_
                      refine EL.val (x_move rfl) rfl ?_
                      refine EL.skip rfl rfl rfl rfl ?_
                      refine EL.skip rfl rfl rfl rfl ?_
                      refine EL.skip rfl rfl rfl rfl ?_
                      refine EL.val (x_pick_t rfl rfl) rfl ?_
                      refine EL.nil ?_
                      refine EX.seq ?_
                      refine EC.yes rfl ?_
                      refine EC.seq ?_
                      refine EC.region ?_
                      refine EL.val (x_assign rfl) rfl ?_
                      refine EL.nil ?_
                      refine EX.seq ?_
                      refine EC.ret ?_
                      refine EX.blk_ret ?_
                      refine EX.seq_ret ?_
                      refine EX.seq_ret ?_
                      refine EX.blk_ret ?_
                      refine EX.blk_ret ?_
                      refine EX.seq_ret ?_
                      refine EX.seq_ret ?_
                      refine EX.blk_ret ?_
                      refine EX.seq_ret ?_
                      exact EX.done (res1 rfl rfl) ⟨.inl rfl, hbw⟩
                    ·
                      refine EL.valg rfl rfl (x_gtr rfl rfl (by first | assumption | exact decide_eq_false (by omega))) rfl ?_
                      refine EL.val (x_pick_f rfl rfl) rfl ?_
                      refine EL.val (x_move rfl) rfl ?_
                      refine EL.valg rfl rfl (fa_23_1 rfl) rfl ?_
                      refine EL.valg rfl rfl (ld_3 rfl (q4.at (j := 1) rfl)) rfl ?_
                      by_cases h12_13 : 10000000000 < y.hi
                      ·
                        refine EL.valg rfl rfl (x_gtr rfl rfl (by first | assumption | exact decide_eq_true (by omega))) rfl ?_
                        refine EL.val (x_pick_f rfl rfl) rfl ?_
                        refine EL.nil ?_
                        refine EX.seq ?_
                        refine EC.yes rfl ?_
                        refine EC.seq ?_
                        refine EC.region ?_
                        refine EL.val (x_assign rfl) rfl ?_
                        refine EL.nil ?_
                        refine EX.seq ?_
                        refine EC.ret ?_
                        refine EX.blk_ret ?_
                        refine EX.seq_ret ?_
                        refine EX.seq_ret ?_
                        refine EX.blk_ret ?_
                        refine EX.blk_ret ?_
                        refine EX.seq_ret ?_
                        refine EX.seq_ret ?_
                        refine EX.blk_ret ?_
                        refine EX.seq_ret ?_
                        exact EX.done (res1 rfl rfl) ⟨.inl rfl, hbw⟩
                      ·
                        refine EL.valg rfl rfl (x_gtr rfl rfl (by first | assumption | exact decide_eq_false (by omega))) rfl ?_
                        refine EL.val (x_pick_f rfl rfl) rfl ?_
                        refine EL.nil ?_
                        refine EX.seq ?_
                        refine EC.no rfl ?_
                        refine EC.skip ?_
                        refine EX.blk ?_
                        refine EX.seq ?_
                        refine EC.region ?_
                        refine EL.val (x_move rfl) rfl ?_
                        refine EL.val (x_add rfl rfl (by first | assumption | exact IntWalk.i64_in _ ⟨by omega, by omega⟩)) rfl ?_
                        refine EL.val (x_assign rfl) rfl ?_
                        refine EL.nil ?_
                        refine EX.roundD (k + 1) ⟨rfl, trivial⟩ (by repeat first | exact Sub.refl _ | refine sub_past rfl ?_ | refine sub_del rfl ?_ | refine sub_insL_nil ?_) ⟨hkl, fun j hj => ?_, q1, hbw⟩ (by omega)
                        rcases Nat.lt_or_ge j k with h | h
                        · exact hK j h
                        · obtain rfl : j = k := by omega
                          rw [← ey]
                          exact bdOk_iff.2 (by omega)
                ·
                  obtain rfl : k = (sides.getD i []).length := by omega
                  refine EC.seq ?_
                  refine EC.seq ?_
                  refine EC.region ?_
                  refine EL.val (x_move rfl) rfl ?_
                  refine EL.val (fa_54_1 rfl) rfl ?_
                  refine EL.val (ld_52 rfl (q1.at (j := 2) rfl)) rfl ?_
                  refine EL.val (x_move rfl) rfl ?_
                  refine EL.val (ix_52 rfl rfl hlt) rfl ?_
                  refine EL.val (ld_28 rfl (below_load hbw ci)) rfl ?_
                  refine EL.val (ln_28 rfl) rfl ?_
                  refine EL.val (x_lss rfl rfl (by first | assumption | exact decide_eq_false (by omega))) rfl ?_
                  refine EL.nil ?_
                  refine EX.seq ?_
                  refine EC.no rfl ?_
                  refine EC.exit ?_
                  refine EX.seq_exit ?_
                  refine EX.seq_exit ?_
                  refine EX.blk_here ?_
                  refine EX.blk ?_
                  refine EX.seq ?_
                  refine EC.region ?_
                  refine EL.val (x_move rfl) rfl ?_
                  refine EL.val (x_add rfl rfl (by first | assumption | exact IntWalk.i64_in _ ⟨by omega, by omega⟩)) rfl ?_
                  refine EL.val (x_assign rfl) rfl ?_
                  refine EL.nil ?_
                  refine EX.roundD (i + 1) ⟨rfl, trivial⟩ (by repeat first | exact Sub.refl _ | refine sub_past rfl ?_ | refine sub_del rfl ?_ | refine sub_insL_nil ?_) ⟨hlt, fun j hj => ?_, q1, hbw⟩ (by omega)
                  rcases Nat.lt_or_ge j i with h | h
                  · exact hI j h
                  · obtain rfl : j = i := by omega
                    exact ⟨hsame, hK⟩
              ·
                refine EC.regionQ (by kernel_rfl) (by kernel_rfl) ?_
                refine EQ.val (fun _ hw => (fa_54_1 rfl)) rfl ?_
                refine EQ.val (fun _ hw => (ld_52 rfl (below_load hw (q1.at (j := 2) rfl)))) rfl ?_
                refine EQ.val (fun _ hw => (x_move rfl)) rfl ?_
                refine EQ.val (fun _ hw => (ix_52 rfl rfl hlt)) rfl ?_
                refine EQ.val (fun _ hw => (ld_28 rfl (below_load hw (below_load hbw ci)))) rfl ?_
                refine EQ.val (fun _ hw => (ln_28 rfl)) rfl ?_
                refine EQ.val (fun _ hw => (fa_54_1 rfl)) rfl ?_
                refine EQ.val (fun _ hw => (ld_52 rfl (below_load hw (q1.at (j := 2) rfl)))) rfl ?_
                refine EQ.val (fun _ hw => (ix_52 (k := 0) rfl rfl (by omega))) rfl ?_
                refine EQ.val (fun _ hw => (ld_28 rfl (below_load hw (below_load hbw c0)))) rfl ?_
                refine EQ.val (fun _ hw => (ln_28 rfl)) rfl ?_
                refine EQ.val (fun _ hw => (x_neq rfl rfl (by first | assumption | exact decide_eq_true (by omega)))) rfl ?_
                refine EQ.fin (fun w_ hw_ => ?_)
                replace q1 := q1.below hw_ q1.lt
                replace hbw := Below.on hbw hw_ hbw.size
                clear hw_
                refine EX.seq ?_
                refine EC.yes rfl ?_
                refine EC.seq ?_
                refine EC.region ?_
                refine EL.val (x_assign rfl) rfl ?_
                refine EL.nil ?_
                refine EX.seq ?_
                refine EC.ret ?_
                refine EX.seq_ret ?_
                refine EX.blk_ret ?_
                refine EX.seq_ret ?_
                refine EX.seq_ret ?_
                refine EX.blk_ret ?_
                refine EX.seq_ret ?_
                exact EX.done (res1 rfl rfl) ⟨.inl rfl, hbw⟩
            ·
              obtain rfl : i = sides.length := by omega
              refine EC.seq ?_
              refine EC.seq ?_
              refine EC.region ?_
              refine EL.val (x_move rfl) rfl ?_
              refine EL.val (fa_54_1 rfl) rfl ?_
              refine EL.val (ld_52 rfl (q1.at (j := 2) rfl)) rfl ?_
              refine EL.val (ln_52 rfl) rfl ?_
              refine EL.val (x_lss rfl rfl (by first | assumption | exact decide_eq_false (by omega))) rfl ?_
              refine EL.nil ?_
              refine EX.seq ?_
              refine EC.no rfl ?_
              refine EC.exit ?_
              refine EX.seq_exit ?_
              refine EX.seq_exit ?_
              refine EX.blk_here ?_
              refine EX.seq ?_
              refine EC.seq ?_
              refine EC.region ?_
              refine EL.val (fa_54_1 rfl) rfl ?_
              refine EL.val (ld_52 rfl (q1.at (j := 2) rfl)) rfl ?_
              refine EL.val (ix_52 (k := 0) rfl rfl (by omega)) rfl ?_
              refine EL.val (ld_28 rfl (below_load hbw c0)) rfl ?_
              refine EL.val (ln_28 rfl) rfl ?_
              by_cases h14_5 : (sides.getD 0 []).length ≤ 400
              ·
                refine EL.val (x_leq rfl rfl (by first | assumption | exact decide_eq_true (by omega))) rfl ?_
                refine EL.val (x_assign rfl) rfl ?_
                refine EL.nil ?_
                refine EX.seq ?_
                refine EC.ret ?_
                exact EX.done (res1 rfl rfl) ⟨.inr ⟨rfl, hfine, start0 hok (by omega) (fun j hj => (hI j hj).1) (by omega) (fun j hj => (hI j hj).2)⟩, hbw⟩
              ·
                refine EL.val (x_leq rfl rfl (by first | assumption | exact decide_eq_false (by omega))) rfl ?_
                refine EL.val (x_assign rfl) rfl ?_
                refine EL.nil ?_
                refine EX.seq ?_
                refine EC.ret ?_
                exact EX.done (res1 rfl rfl) ⟨.inl rfl, hbw⟩
          ·
            have hd : errB (riverB rv) = 2 := by rw [hok]; rfl
            refine EL.valg rfl rfl (x_neq rfl rfl (by first | assumption | exact decide_eq_true (by omega))) rfl ?_
            refine EL.val (x_pick_f rfl rfl) rfl ?_
            refine EL.nil ?_
            refine EX.seq ?_
            refine EC.yes rfl ?_
            refine EC.seq ?_
            refine EC.region ?_
            refine EL.val (x_assign rfl) rfl ?_
            refine EL.nil ?_
            refine EX.seq ?_
            refine EC.ret ?_
            refine EX.seq_ret ?_
            exact EX.done (res1 rfl rfl) ⟨.inl rfl, hbw⟩
end Go.Proofs.Ytncnlhkmdljgpaa
