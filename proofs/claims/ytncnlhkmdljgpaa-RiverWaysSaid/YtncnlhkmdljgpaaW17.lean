/- River: the program's Volume (printed by gen_w17.py). -/
import Derived.Test.YtncnlhkmdljgpaaLaw0
import Derived.Test.YtncnlhkmdljgpaaVolMath
import Derived.Test.YtncnlhkmdljgpaaExB
set_option linter.unusedVariables false
set_option linter.unusedSimpArgs false
namespace Go.Proofs.Ytncnlhkmdljgpaa
open Go Go.RowKit

theorem cell_grown {w w' : World} {b o g : Nat} {u : Value} (hg : w.grownBy w' (some g)) (hc : w.cell? ⟨b, o, none⟩ = some u) (hne : b ≠ g) : w'.cell? ⟨b, o, none⟩ = some u :=
  far_cell (v := .slice (some ⟨g, 0, none⟩) 0 0) hg hc (fun e => hne (Option.some.inj e).symm)
/-- what Volume returns -/
def volErr (rv : River) (sides : List (List Bd)) (i a b : Int) : Int := if startErr rv sides ≠ 0 then startErr rv sides else if inB 0 ((rv.reaches.length : Nat) - 1 : Int) i = false then 7 else if 0 ≤ a ∧ a ≤ b ∧ b ≤ (sides.getD 0 []).length then 0 else 3
def volRes (rv : River) (sides : List (List Bd)) (i a b : Int) : Bd := if volErr rv sides i a b = 0 then volOf rv.reaches sides i.toNat a (b - a).toNat else bd0
section
variable {rv : River} {sides : List (List Bd)} {i a b : Int}
theorem vol_open (h : startErr rv sides ≠ 0) : volErr rv sides i a b = startErr rv sides ∧ volRes rv sides i a b = bd0 := by simp [volRes, volErr, h]
theorem vol_none (h : startErr rv sides = 0) (hi : inB 0 ((rv.reaches.length : Nat) - 1 : Int) i = false) : volErr rv sides i a b = 7 ∧ volRes rv sides i a b = bd0 := by simp [volRes, volErr, h, hi]
theorem vol_range (h : startErr rv sides = 0) (hi : inB 0 ((rv.reaches.length : Nat) - 1 : Int) i = true) (hr : ¬(0 ≤ a ∧ a ≤ b ∧ b ≤ (sides.getD 0 []).length)) : volErr rv sides i a b = 3 ∧ volRes rv sides i a b = bd0 := by
  have e : volErr rv sides i a b = 3 := by rw [volErr, if_neg (by omega), hi, if_neg (by simp), if_neg hr]
  exact ⟨e, by rw [volRes, e]; rfl⟩
theorem vol_ok (h : startErr rv sides = 0) (hi : inB 0 ((rv.reaches.length : Nat) - 1 : Int) i = true) (hr : 0 ≤ a ∧ a ≤ b ∧ b ≤ (sides.getD 0 []).length) : volErr rv sides i a b = 0 ∧ volRes rv sides i a b = volOf rv.reaches sides i.toNat a (b - a).toNat := by
  have e : volErr rv sides i a b = 0 := by rw [volErr, if_neg (by omega), hi, if_neg (by simp), if_pos hr]
  exact ⟨e, by rw [volRes, if_pos e]⟩
end
theorem vol_nat {rv : River} {sides : List (List Bd)} (k a b : Nat) (h : startErr rv sides = 0) (hi : inB 0 ((rv.reaches.length : Nat) - 1 : Int) (k : Int) = true) (h1 : a ≤ b) (h2 : b ≤ (sides.getD 0 []).length) : volErr rv sides (k : Int) (a : Int) (b : Int) = 0 ∧ volRes rv sides (k : Int) (a : Int) (b : Int) = volOf rv.reaches sides k (a : Int) (b - a) := by
  have := vol_ok (a := (a : Int)) (b := (b : Int)) h hi (by omega)
  rwa [show ((k : Int)).toNat = k by omega, show ((b : Int) - (a : Int)).toNat = b - a by omega] at this
theorem hours_bel {w : World} {B g : Nat} {r : River} {sides : List (List Bd)} {v u vf : Value} {vs fs : List Value} (h : StreamOk w B g r sides v u vf vs fs) :
    Calls Try.prog 77 #[.pointer (some ⟨g, 0, none⟩)] w fun e w' => e = .returned (.int .i64 (sides.getD 0 []).length) ∧ Below w.heap.size w w' :=
  (hours_any h).mono fun e w' h => ⟨h.1, by rw [← h.2]; exact Below.refl _ _⟩

set_option maxRecDepth 100000 in
theorem vol_any (rv : River) (sides : List (List Bd)) (v u s : Value) (vs ss : List Value) (i a b : Int) (w : World) (B : Nat) (hr : RdRiver w B v u rv vs) (hs : RdSides w B s sides ss) (hB : B ≤ w.heap.size) (hl : rv.reaches.length ≤ 1048576) (hl2 : rv.shoals.length ≤ 1048576) (hcv : CurvesB rv.reaches) (hl3 : sides.length ≤ 1048576) (hsb : SidesB sides) :
    Calls Try.prog 46 #[.agg #[v, u], s, .int .i64 i, .int .i64 a, .int .i64 b] w fun e w' => e = .returned (.tuple #[.agg #[.int .i64 (volRes rv sides i a b).lo, .int .i64 (volRes rv sides i a b).hi], .int .i64 (volErr rv sides i a b)]) ∧ Below w.heap.size w w' := by
  obtain ⟨A, c, rfl, _⟩ := hr.reaches.shape
  obtain ⟨A', c', rfl, _⟩ := hr.shoals.shape
  obtain ⟨D, d, rfl, _⟩ := hs.rd.shape
  have hbw := Below.refl w.heap.size w
  refine EC.enter 79 Try.func46 rfl rfl rfl ?_
  refine EC.seq ?_
  refine EC.region ?_
  refine EL.newP (bx_47 rfl) rfl ?_
  intro g1 w1 q1 hb1 hg1 hl1
  have bhbw_1 := Nat.le_trans hbw.size hg1
  replace hbw := Below.on hbw hb1 hbw.size
  clear hb1 hg1 hl1
  refine EL.newP al_23 rfl ?_
  intro g2 w2 q2 hb2 hg2 hl2
  have n1_2 : g1 ≠ g2 := Nat.ne_of_lt (Nat.lt_of_lt_of_le q1.lt hg2)
  have bhbw_2 := Nat.le_trans hbw.size hg2
  replace q1 := q1.below hb2 q1.lt
  replace hbw := Below.on hbw hb2 hbw.size
  clear hb2 hg2 hl2
  refine EL.val (x_assign rfl) rfl ?_
  refine EL.nil ?_
  refine EX.seq ?_
  refine EC.seq ?_
  refine EC.region ?_
  refine EL.val (ld_47 rfl (q1.at (j := 0) rfl) (q1.at (j := 1) rfl)) rfl ?_
  refine EL.val (x_move rfl) rfl ?_
  by_cases hst : startErr rv sides = 0
  ·
    obtain ⟨_, hO⟩ := startErr_ok hst
    have hsm := hO.river.some
    have hhr := hO.hours
    have lo2 := q2.lt
    refine EL.call (cl_73 rfl rfl) rfl (open_ok rv sides _ _ _ vs ss _ B (hr.below (hbw.mono hB)) (hs.below (hbw.mono hB)) (Nat.le_trans hB hbw.size) hl hl2 hcv hl3 hsb hst) ?_
    rintro e w3 ⟨⟨g, vf, fs, rfl, hge_, hS, hT⟩, hc3⟩
    refine ⟨_, rfl, ?_⟩
    replace q1 := q1.below hc3 q1.lt
    replace q2 := q2.below hc3 q2.lt
    replace hbw := Below.on hbw hc3 hbw.size
    clear hc3
    have hin := Below.refl w3.heap.size w3
    refine EL.val (x_move rfl) rfl ?_
    refine EL.val (x_extract rfl rfl) rfl ?_
    refine EL.val (x_extract rfl rfl) rfl ?_
    refine EL.val (x_assign rfl) rfl ?_
    refine EL.val (x_assign rfl) rfl ?_
    refine EL.nil ?_
    refine EX.seq ?_
    refine EC.seq ?_
    refine EC.block ?_
    refine EC.seq ?_
    refine EC.region ?_
    refine EL.val (x_move rfl) rfl ?_
    refine EL.val (x_neq rfl rfl (by first | assumption | exact decide_eq_false (by omega))) rfl ?_
    refine EL.val (x_assign rfl) rfl ?_
    refine EL.nil ?_
    refine EX.seq ?_
    refine EC.no rfl ?_
    refine EC.seq ?_
    refine EC.region ?_
    refine EL.val (fa_47_0 rfl) rfl ?_
    refine EL.val (ld_44 rfl (q1.at (j := 0) rfl)) rfl ?_
    refine EL.val (ln_44 rfl) rfl ?_
    refine EL.val (x_sub rfl rfl (by first | assumption | exact IntWalk.i64_in _ ⟨by omega, by omega⟩)) rfl ?_
    refine EL.val (x_move rfl) rfl ?_
    refine EL.newS (bs_121_1 rfl) rfl ?_
    intro g4 w4 q4 hb4 hg4 hl4
    have n1_4 : g1 ≠ g4 := Nat.ne_of_lt (Nat.lt_of_lt_of_le q1.lt hg4)
    have n2_4 : g2 ≠ g4 := Nat.ne_of_lt (Nat.lt_of_lt_of_le q2.lt hg4)
    have bhbw_4 := Nat.le_trans hbw.size hg4
    have bhin_4 := Nat.le_trans hin.size hg4
    replace q1 := q1.below hb4 q1.lt
    replace q2 := q2.below hb4 q2.lt
    replace hbw := Below.on hbw hb4 hbw.size
    replace hin := Below.on hin hb4 hin.size
    clear hb4 hg4 hl4
    cases hi : inB 0 ((rv.reaches.length : Nat) - 1 : Int) i
    ·
      obtain ⟨hve, hvr⟩ := vol_none (a := a) (b := b) hst hi
      refine EL.call (cl_57 rfl rfl rfl) rfl (withinB1 _ _ _ _ _ q4 hi) ?_
      rintro e w5 ⟨rfl, hc5⟩
      refine ⟨_, rfl, ?_⟩
      replace q1 := q1.below hc5 q1.lt
      replace q2 := q2.below hc5 q2.lt
      replace q4 := q4.below hc5 q4.lt
      replace hbw := Below.on hbw hc5 hbw.size
      replace hin := Below.on hin hc5 hin.size
      clear hc5
      refine EL.val (x_not rfl) rfl ?_
      refine EL.val (x_assign rfl) rfl ?_
      refine EL.nil ?_
      refine EX.seq ?_
      refine EC.yes rfl ?_
      refine EC.seq ?_
      refine EC.region ?_
      refine EL.val (ld_23 rfl (q2.at (j := 0) rfl) (q2.at (j := 1) rfl)) rfl ?_
      refine EL.store rfl rfl q2 sz_23 rfl rfl rfl rfl ?_
      intro w6 hq6 hg6
      replace q1 := q1.grown hg6 (fun h => n1_2 (Option.some.inj h))
      replace q4 := q4.grown hg6 (fun h => n2_4.symm (Option.some.inj h))
      replace hbw := below_store hbw hg6 bhbw_2
      clear hin
      replace q2 := hq6
      clear hg6 hq6
      refine EL.val (x_assign rfl) rfl ?_
      refine EL.nil ?_
      refine EX.seq ?_
      refine EC.ret ?_
      refine EX.blk_ret ?_
      refine EX.seq_ret ?_
      exact EX.done (resct rfl rfl rfl (lv_23 (q2.at rfl) (q2.at rfl))) ⟨by rw [hve, hvr]; rfl, hbw⟩
    ·
      have hi_ := inB_iff.1 hi
      refine EL.call (cl_57 rfl rfl rfl) rfl (withinB1 _ _ _ _ _ q4 hi) ?_
      rintro e w7 ⟨rfl, hc7⟩
      refine ⟨_, rfl, ?_⟩
      replace q1 := q1.below hc7 q1.lt
      replace q2 := q2.below hc7 q2.lt
      replace q4 := q4.below hc7 q4.lt
      replace hbw := Below.on hbw hc7 hbw.size
      replace hin := Below.on hin hc7 hin.size
      clear hc7
      refine EL.val (x_not rfl) rfl ?_
      refine EL.val (x_assign rfl) rfl ?_
      refine EL.nil ?_
      refine EX.seq ?_
      refine EC.no rfl ?_
      refine EC.seq ?_
      refine EC.region ?_
      refine EL.val (x_move rfl) rfl ?_
      refine EL.call (cl_77 rfl) rfl (hours_bel (hS.below hin)) ?_
      rintro e w8 ⟨rfl, hc8⟩
      refine ⟨_, rfl, ?_⟩
      replace q1 := q1.below hc8 q1.lt
      replace q2 := q2.below hc8 q2.lt
      replace q4 := q4.below hc8 q4.lt
      replace hbw := Below.on hbw hc8 hbw.size
      replace hin := Below.on hin hc8 hin.size
      clear hc8
      refine EL.val (x_move rfl) rfl ?_
      refine EL.val (x_move rfl) rfl ?_
      refine EL.newS (bs_121_2 rfl rfl) rfl ?_
      intro g9 w9 q9 hb9 hg9 hl9
      have n1_9 : g1 ≠ g9 := Nat.ne_of_lt (Nat.lt_of_lt_of_le q1.lt hg9)
      have n2_9 : g2 ≠ g9 := Nat.ne_of_lt (Nat.lt_of_lt_of_le q2.lt hg9)
      have n4_9 : g4 ≠ g9 := Nat.ne_of_lt (Nat.lt_of_lt_of_le q4.lt hg9)
      have bhbw_9 := Nat.le_trans hbw.size hg9
      have bhin_9 := Nat.le_trans hin.size hg9
      replace q1 := q1.below hb9 q1.lt
      replace q2 := q2.below hb9 q2.lt
      replace q4 := q4.below hb9 q4.lt
      replace hbw := Below.on hbw hb9 hbw.size
      replace hin := Below.on hin hb9 hin.size
      clear hb9 hg9 hl9
      cases hr2 : (inB 0 ((sides.getD 0 []).length : Nat) a && inB 0 ((sides.getD 0 []).length : Nat) b)
      ·
        have hnr : ¬(0 ≤ a ∧ a ≤ b ∧ b ≤ ((sides.getD 0 []).length : Nat)) := fun h => by
          have h1 : (inB 0 ((sides.getD 0 []).length : Nat) a && inB 0 ((sides.getD 0 []).length : Nat) b) = true := by rw [Bool.and_eq_true]; exact ⟨inB_iff.2 (by omega), inB_iff.2 (by omega)⟩
          rw [h1] at hr2
          cases hr2
        obtain ⟨hve, hvr⟩ := vol_range hst hi (a := a) (b := b) hnr
        refine EL.call (cl_57 rfl rfl rfl) rfl (withinB2 _ _ _ _ _ _ q9 (show (inB 0 ((sides.getD 0 []).length : Nat) a && inB 0 ((sides.getD 0 []).length : Nat) b) = false from hr2)) ?_
        rintro e w10 ⟨rfl, hc10⟩
        refine ⟨_, rfl, ?_⟩
        replace q1 := q1.below hc10 q1.lt
        replace q2 := q2.below hc10 q2.lt
        replace q4 := q4.below hc10 q4.lt
        replace q9 := q9.below hc10 q9.lt
        replace hbw := Below.on hbw hc10 hbw.size
        replace hin := Below.on hin hc10 hin.size
        clear hc10
        refine EL.val (x_not rfl) rfl ?_
        refine EL.val (x_move rfl) rfl ?_
        refine EL.skip rfl rfl rfl rfl ?_
        refine EL.skip rfl rfl rfl rfl ?_
        refine EL.skip rfl rfl rfl rfl ?_
        refine EL.val (x_pick_t rfl rfl) rfl ?_
        refine EL.val (x_assign rfl) rfl ?_
        refine EL.nil ?_
        refine EX.seq ?_
        refine EC.yes rfl ?_
        refine EC.seq ?_
        refine EC.region ?_
        refine EL.val (ld_23 rfl (q2.at (j := 0) rfl) (q2.at (j := 1) rfl)) rfl ?_
        refine EL.store rfl rfl q2 sz_23 rfl rfl rfl rfl ?_
        intro w11 hq11 hg11
        replace q1 := q1.grown hg11 (fun h => n1_2 (Option.some.inj h))
        replace q4 := q4.grown hg11 (fun h => n2_4.symm (Option.some.inj h))
        replace q9 := q9.grown hg11 (fun h => n2_9.symm (Option.some.inj h))
        replace hbw := below_store hbw hg11 bhbw_2
        clear hin
        replace q2 := hq11
        clear hg11 hq11
        refine EL.val (x_assign rfl) rfl ?_
        refine EL.nil ?_
        refine EX.seq ?_
        refine EC.ret ?_
        refine EX.blk_ret ?_
        refine EX.seq_ret ?_
        exact EX.done (resct rfl rfl rfl (lv_23 (q2.at rfl) (q2.at rfl))) ⟨by rw [hve, hvr]; rfl, hbw⟩
      ·
        have hr_ : (0 ≤ a ∧ a ≤ ((sides.getD 0 []).length : Nat)) ∧ 0 ≤ b ∧ b ≤ ((sides.getD 0 []).length : Nat) := by rw [Bool.and_eq_true] at hr2; exact ⟨inB_iff.1 hr2.1, inB_iff.1 hr2.2⟩
        refine EL.call (cl_57 rfl rfl rfl) rfl (withinB2 _ _ _ _ _ _ q9 (show (inB 0 ((sides.getD 0 []).length : Nat) a && inB 0 ((sides.getD 0 []).length : Nat) b) = true from hr2)) ?_
        rintro e w12 ⟨rfl, hc12⟩
        refine ⟨_, rfl, ?_⟩
        replace q1 := q1.below hc12 q1.lt
        replace q2 := q2.below hc12 q2.lt
        replace q4 := q4.below hc12 q4.lt
        replace q9 := q9.below hc12 q9.lt
        replace hbw := Below.on hbw hc12 hbw.size
        replace hin := Below.on hin hc12 hin.size
        clear hc12
        refine EL.val (x_not rfl) rfl ?_
        refine EL.val (x_move rfl) rfl ?_
        refine EL.valg rfl rfl (x_move rfl) rfl ?_
        refine EL.valg rfl rfl (x_move rfl) rfl ?_
        by_cases hab : b < a
        ·
          obtain ⟨hve, hvr⟩ := vol_range hst hi (a := a) (b := b) (by omega)
          refine EL.valg rfl rfl (x_gtr rfl rfl (by first | assumption | exact decide_eq_true (by omega))) rfl ?_
          refine EL.val (x_pick_f rfl rfl) rfl ?_
          refine EL.val (x_assign rfl) rfl ?_
          refine EL.nil ?_
          refine EX.seq ?_
          refine EC.yes rfl ?_
          refine EC.seq ?_
          refine EC.region ?_
          refine EL.val (ld_23 rfl (q2.at (j := 0) rfl) (q2.at (j := 1) rfl)) rfl ?_
          refine EL.store rfl rfl q2 sz_23 rfl rfl rfl rfl ?_
          intro w13 hq13 hg13
          replace q1 := q1.grown hg13 (fun h => n1_2 (Option.some.inj h))
          replace q4 := q4.grown hg13 (fun h => n2_4.symm (Option.some.inj h))
          replace q9 := q9.grown hg13 (fun h => n2_9.symm (Option.some.inj h))
          replace hbw := below_store hbw hg13 bhbw_2
          clear hin
          replace q2 := hq13
          clear hg13 hq13
          refine EL.val (x_assign rfl) rfl ?_
          refine EL.nil ?_
          refine EX.seq ?_
          refine EC.ret ?_
          refine EX.blk_ret ?_
          refine EX.seq_ret ?_
          exact EX.done (resct rfl rfl rfl (lv_23 (q2.at rfl) (q2.at rfl))) ⟨by rw [hve, hvr]; rfl, hbw⟩
        ·
          obtain ⟨k, rfl⟩ : ∃ k : Nat, i = k := ⟨i.toNat, by omega⟩
          obtain ⟨p, rfl⟩ : ∃ k : Nat, a = k := ⟨a.toNat, by omega⟩
          obtain ⟨q, rfl⟩ : ∃ k : Nat, b = k := ⟨b.toNat, by omega⟩
          obtain ⟨hve, hvr⟩ := vol_nat k p q hst hi (by omega) (by omega)
          have hpq : p ≤ q := by omega
          have hmany := hO.many
          obtain ⟨Af, cf, rfl, _⟩ := hS.flows.rd.shape
          have hkf : k < (flowsUp rv.reaches sides sides.length).length := by rw [flowsUp_len]; omega
          obtain ⟨bF, oF, rfl, _, c0⟩ := sides_cell hS.flows k hkf
          have hrow := hS.flows.side k hkf
          rw [flowsUp_at _ _ (by rw [flowsUp_len] at hkf; exact hkf), flowsOf_len] at hrow
          obtain ⟨As, cs, es, hsc⟩ := hrow.shape
          rw [es] at c0 hrow
          obtain ⟨bR, oR, rfl, _, _, _⟩ := bds_cells _ 0 (by rw [flowsOf_len]; omega) _ _ _ _ _ hrow
          have hbR : bR ≠ g2 := by
            have h1 := hT.rows.each k (by simpa [rowsB] using hkf)
            rw [es] at h1
            have h2 := (h1.lt bR rfl).1
            omega
          obtain ⟨oS, hoS⟩ : ∃ y, (if cs = p then oR else oR + p * 2) = y := ⟨_, rfl⟩
          have hsl : ∀ j, j < q - p → w3.cell? ⟨bR, oS + j * 2, none⟩ = some (.int .i64 (flowIn rv.reaches sides k ((p : Int) + (j : Nat))).lo) ∧ w3.cell? ⟨bR, oS + j * 2 + 1, none⟩ = some (.int .i64 (flowIn rv.reaches sides k ((p : Int) + (j : Nat))).hi) := fun j hj => by
            obtain ⟨b1, o1, e1, _, d0, d1⟩ := bds_cells _ (p + j) (by rw [flowsOf_len]; omega) _ _ _ _ _ hrow
            injection e1 with e1
            injection e1 with e2 e3
            subst e2
            subst e3
            rw [flowsOf_at _ _ (by omega)] at d0 d1
            rw [if_neg (by omega)] at hoS
            subst hoS
            rw [show ((p + j : Nat) : Int) = (p : Int) + (j : Nat) by omega] at d0 d1
            rw [show oR + p * 2 + j * 2 = oR + (p + j) * 2 by omega]
            exact ⟨d0, d1⟩
          refine EL.valg rfl rfl (x_gtr rfl rfl (by first | assumption | exact decide_eq_false (by omega))) rfl ?_
          refine EL.val (x_pick_f rfl rfl) rfl ?_
          refine EL.val (x_assign rfl) rfl ?_
          refine EL.nil ?_
          refine EX.seq ?_
          refine EC.no rfl ?_
          refine EC.skip ?_
          refine EX.blk ?_
          refine EX.seq ?_
          refine EC.seq ?_
          refine EC.seq ?_
          refine EC.region ?_
          refine EL.val (x_move rfl) rfl ?_
          refine EL.val (x_nilCheck rfl) rfl ?_
          refine EL.val (fa_141_1 rfl) rfl ?_
          refine EL.val (ld_52 rfl ((hS.below hin).blk.at (j := 2) rfl)) rfl ?_
          refine EL.val (x_move rfl) rfl ?_
          refine EL.val (ix_52 rfl rfl hkf) rfl ?_
          refine EL.val (ld_28 rfl (below_load hin c0)) rfl ?_
          refine EL.val (x_move rfl) rfl ?_
          refine EL.val (x_move rfl) rfl ?_
          refine EL.val (sl_28 rfl rfl rfl hpq (by omega) hoS) rfl ?_
          refine EL.val (ln_28 rfl) rfl ?_
          refine EL.val (x_move rfl) rfl ?_
          refine EL.nil ?_
          refine EX.seq ?_
          refine EC.block ?_
          have hsl := fun j hj => (⟨below_load hin (hsl j hj).1, below_load hin (hsl j hj).2⟩ : _ ∧ _)
          have hgW := bhbw_2
          refine EC.loopD [14, 61, 62, 63, 64, 65, 66, 67, 68, 69, 70, 71, 72, 73, 74, 75, 76, 77] (fun x : Nat => [(61, .int .i64 (x : Nat))]) (fun x W => x ≤ q - p ∧ Blk W g2 23 #[.int .i64 (sumN (flowIn rv.reaches sides k) (p : Int) x).lo, .int .i64 (sumN (flowIn rv.reaches sides k) (p : Int) x).hi] ∧ (∀ j, j < q - p → W.cell? ⟨bR, oS + j * 2, none⟩ = some (.int .i64 (flowIn rv.reaches sides k ((p : Int) + (j : Nat))).lo) ∧ W.cell? ⟨bR, oS + j * 2 + 1, none⟩ = some (.int .i64 (flowIn rv.reaches sides k ((p : Int) + (j : Nat))).hi)) ∧ Below w.heap.size w W) (fun x => q - p - x) 0 ⟨Nat.zero_le _, q2, hsl, hbw⟩ ⟨rfl, trivial⟩ ?_
          clear q2 hin hsl hbw
          rintro x wr ⟨hj, q2, hsl, hbw⟩
          by_cases hlt : x < q - p
          ·
            have hbl := fun h => (block_lt_of_cell (hsl x h).1 : bR < wr.heap.size)
            have hbl := hbl hlt
            have hb1 := sumN_bd (f := flowIn rv.reaches sides k) (a := (p : Int)) (M := 200000000000) (n := x) (fun y hy => flowIn_small hO k _ (by omega) (by omega))
            have hb2 := flowIn_small hO k ((p : Int) + (x : Nat)) (by omega) (by omega)
            replace q2 : Blk wr g2 23 #[.int .i64 (sumN (flowIn rv.reaches sides k) (p : Int) x).lo, .int .i64 (sumN (flowIn rv.reaches sides k) (p : Int) x).hi] := q2
            have wlo : IntKind.i64.wrap ((sumN (flowIn rv.reaches sides k) (p : Int) x).lo + (flowIn rv.reaches sides k ((p : Int) + (x : Nat))).lo) = (sumN (flowIn rv.reaches sides k) (p : Int) (x + 1)).lo := IntWalk.i64_in _ ⟨by omega, by omega⟩
            have whi : IntKind.i64.wrap ((sumN (flowIn rv.reaches sides k) (p : Int) x).hi + (flowIn rv.reaches sides k ((p : Int) + (x : Nat))).hi) = (sumN (flowIn rv.reaches sides k) (p : Int) (x + 1)).hi := IntWalk.i64_in _ ⟨by omega, by omega⟩
            have bhbw_2 := hgW
            refine EC.seq ?_
            refine EC.region ?_
            refine EL.val (x_lss rfl rfl (by first | assumption | exact decide_eq_true (by omega))) rfl ?_
            refine EL.nil ?_
            refine EX.seq ?_
            refine EC.seq ?_
            refine EC.yes rfl ?_
            refine EC.skip ?_
            refine EX.seq ?_
            refine EC.seq ?_
            refine EC.block ?_
            refine EC.seq ?_
            refine EC.region ?_
            refine EL.val (ix_28 rfl rfl hlt) rfl ?_
            refine EL.val (ld_23 rfl (hsl x hlt).1 (hsl x hlt).2) rfl ?_
            refine EL.newP al_23 rfl ?_
            intro g14 w14 q14 hb14 hg14 hl14
            have n2_14 : g2 ≠ g14 := Nat.ne_of_lt (Nat.lt_of_lt_of_le q2.lt hg14)
            have bhbw_14 := Nat.le_trans hbw.size hg14
            replace q2 := q2.below hb14 q2.lt
            replace hsl := fun j hj => (⟨below_load hb14 (hsl j hj).1, below_load hb14 (hsl j hj).2⟩ : _ ∧ _)
            replace hbw := Below.on hbw hb14 hbw.size
            have hbx14 : bR ≠ g14 := Nat.ne_of_lt (Nat.lt_of_lt_of_le hbl hg14)
            clear hb14 hg14 hl14
            refine EL.store rfl rfl q14 sz_23 rfl rfl rfl rfl ?_
            intro w15 hq15 hg15
            replace q2 := q2.grown hg15 (fun h => n2_14 (Option.some.inj h))
            replace hsl := fun j hj => (⟨cell_grown hg15 (hsl j hj).1 (hbx14), cell_grown hg15 (hsl j hj).2 (hbx14)⟩ : _ ∧ _)
            replace hbw := below_store hbw hg15 bhbw_14
            replace q14 := hq15
            clear hg15 hq15
            refine EL.nil ?_
            refine EX.seq ?_
            have lt_2 := q2.lt
            have lt_14 := q14.lt
            refine EC.regionS [[], [0], [], [2], [0, 1, 2, 3], [], [5], [], [7], [5, 6, 7, 8], [0, 1, 2, 3, 4, 5, 6], [0, 1, 2, 3, 4, 5, 6, 10], [0, 1, 2, 3, 4, 5, 6, 7, 8, 9, 10, 11], [0, 1, 2, 3, 4, 5, 6, 7, 8, 9, 10, 11, 12]] 12 [] [11] (fun fl w_ => w15.grownBy w_ (some g2) ∧ (fl 11 = false → Blk w_ g2 23 _)) (phiS (fun i_ r => match i_ with | 0 => r 0 = .pointer (some ⟨g2, 0, none⟩) | 1 => r 1 = .int .i64 (sumN (flowIn rv.reaches sides k) (p : Int) x).lo | 2 => r 2 = .pointer (some ⟨g14, 0, none⟩) | 3 => r 3 = .int .i64 (flowIn rv.reaches sides k ((p : Int) + (x : Nat))).lo | 4 => r 4 = .int .i64 (sumN (flowIn rv.reaches sides k) (p : Int) (x + 1)).lo | 5 => r 5 = .pointer (some ⟨g2, 1, none⟩) | 6 => r 6 = .int .i64 (sumN (flowIn rv.reaches sides k) (p : Int) x).hi | 7 => r 7 = .pointer (some ⟨g14, 1, none⟩) | 8 => r 8 = .int .i64 (flowIn rv.reaches sides k ((p : Int) + (x : Nat))).hi | 9 => r 9 = .int .i64 (sumN (flowIn rv.reaches sides k) (p : Int) (x + 1)).hi | 10 => r 10 = .pointer (some ⟨g2, 0, none⟩) | _ => True) [(11, fun _ r w_ => Blk w_ g2 23 #[.int .i64 (sumN (flowIn rv.reaches sides k) (p : Int) (x + 1)).lo, .int .i64 (sumN (flowIn rv.reaches sides k) (p : Int) x).hi])]) (by kernel_rfl) rfl rfl (by intro i hi; simp at hi; first | (subst hi; exact ⟨by simp, by omega⟩) | (rcases hi with rfl | rfl | rfl <;> exact ⟨by simp, by omega⟩) | (rcases hi with rfl | rfl <;> exact ⟨by simp, by omega⟩)) (base_own q2) (phiS_cons monoS_own (phiS_nil)) (fun i_ hi_ hs_ => ?_) (fun i_ hi_ => ?_) ?_
            · match i_, hi_ with
              | 0, _ =>
                intro val fl w1 a hb ha hd hfl
                obtain ⟨hb, hg0⟩ := hb
                have ha := ha.sub (Sub.ins (d := 10) (Sub.nil _) rfl)
                exact ss_val ha rfl rfl (fa_23_0 rfl) rfl rfl
              | 1, _ =>
                intro val fl w1 a hb ha hd hfl
                obtain ⟨hb, hg0⟩ := hb
                have e0 : val 0 = .pointer (some ⟨g2, 0, none⟩) := hd 0 (memB_mem.1 rfl)
                have ha := ha.sub (Sub.ins (d := 65) (Sub.nil _) (dep_get rfl e0))
                exact ss_val ha rfl rfl (ld_3 rfl ((hg0 (hfl 11 (by simp) (memB_mem.1 rfl))).at (j := 0) rfl)) rfl rfl
              | 2, _ =>
                intro val fl w1 a hb ha hd hfl
                obtain ⟨hb, hg0⟩ := hb
                have ha := ha.sub (Sub.ins (d := 14) (Sub.nil _) rfl)
                exact ss_val ha rfl rfl (fa_23_0 rfl) rfl rfl
              | 3, _ =>
                intro val fl w1 a hb ha hd hfl
                obtain ⟨hb, hg0⟩ := hb
                have e2 : val 2 = .pointer (some ⟨g14, 0, none⟩) := hd 2 (memB_mem.1 rfl)
                have ha := ha.sub (Sub.ins (d := 67) (Sub.nil _) (dep_get rfl e2))
                exact ss_val ha rfl rfl (ld_3 rfl ((q14.grown hb (fun h => n2_14.symm (Option.some.inj h))).at (j := 0) rfl)) rfl rfl
              | 4, _ =>
                intro val fl w1 a hb ha hd hfl
                obtain ⟨hb, hg0⟩ := hb
                have e1 : val 1 = .int .i64 (sumN (flowIn rv.reaches sides k) (p : Int) x).lo := hd 1 (memB_mem.1 rfl)
                have e3 : val 3 = .int .i64 (flowIn rv.reaches sides k ((p : Int) + (x : Nat))).lo := hd 3 (memB_mem.1 rfl)
                have ha := ha.sub (Sub.ins (d := 68) (Sub.ins (d := 66) (Sub.nil _) (dep_get rfl e1)) (dep_get rfl e3))
                exact ss_val ha rfl rfl (x_add rfl rfl wlo) rfl rfl
              | 5, _ =>
                intro val fl w1 a hb ha hd hfl
                obtain ⟨hb, hg0⟩ := hb
                have ha := ha.sub (Sub.ins (d := 10) (Sub.nil _) rfl)
                exact ss_val ha rfl rfl (fa_23_1 rfl) rfl rfl
              | 6, _ =>
                intro val fl w1 a hb ha hd hfl
                obtain ⟨hb, hg0⟩ := hb
                have e5 : val 5 = .pointer (some ⟨g2, 1, none⟩) := hd 5 (memB_mem.1 rfl)
                have ha := ha.sub (Sub.ins (d := 70) (Sub.nil _) (dep_get rfl e5))
                exact ss_val ha rfl rfl (ld_3 rfl ((hg0 (hfl 11 (by simp) (memB_mem.1 rfl))).at (j := 1) rfl)) rfl rfl
              | 7, _ =>
                intro val fl w1 a hb ha hd hfl
                obtain ⟨hb, hg0⟩ := hb
                have ha := ha.sub (Sub.ins (d := 14) (Sub.nil _) rfl)
                exact ss_val ha rfl rfl (fa_23_1 rfl) rfl rfl
              | 8, _ =>
                intro val fl w1 a hb ha hd hfl
                obtain ⟨hb, hg0⟩ := hb
                have e7 : val 7 = .pointer (some ⟨g14, 1, none⟩) := hd 7 (memB_mem.1 rfl)
                have ha := ha.sub (Sub.ins (d := 72) (Sub.nil _) (dep_get rfl e7))
                exact ss_val ha rfl rfl (ld_3 rfl ((q14.grown hb (fun h => n2_14.symm (Option.some.inj h))).at (j := 1) rfl)) rfl rfl
              | 9, _ =>
                intro val fl w1 a hb ha hd hfl
                obtain ⟨hb, hg0⟩ := hb
                have e6 : val 6 = .int .i64 (sumN (flowIn rv.reaches sides k) (p : Int) x).hi := hd 6 (memB_mem.1 rfl)
                have e8 : val 8 = .int .i64 (flowIn rv.reaches sides k ((p : Int) + (x : Nat))).hi := hd 8 (memB_mem.1 rfl)
                have ha := ha.sub (Sub.ins (d := 73) (Sub.ins (d := 71) (Sub.nil _) (dep_get rfl e6)) (dep_get rfl e8))
                exact ss_val ha rfl rfl (x_add rfl rfl whi) rfl rfl
              | 10, _ =>
                intro val fl w1 a hb ha hd hfl
                obtain ⟨hb, hg0⟩ := hb
                have ha := ha.sub (Sub.ins (d := 10) (Sub.nil _) rfl)
                exact ss_val ha rfl rfl (fa_23_0 rfl) rfl rfl
              | 11, _ =>
                exact absurd (by simp) hs_
              | k + 12, h => exact absurd h (by omega)
            · simp only [List.mem_singleton] at hi_; subst hi_
              intro val fl w1 a hb hfi ha hd hfl
              obtain ⟨hb, hg0⟩ := hb
              have e10 : val 10 = .pointer (some ⟨g2, 0, none⟩) := hd 10 (memB_mem.1 rfl)
              have e4 : val 4 = .int .i64 (sumN (flowIn rv.reaches sides k) (p : Int) (x + 1)).lo := hd 4 (memB_mem.1 rfl)
              have ha := ha.sub (Sub.ins (d := 69) (Sub.ins (d := 75) (Sub.nil _) (dep_get rfl e10)) (dep_get rfl e4))
              refine ts_store ha rfl rfl rfl (hg0 hfi) sz_3 rfl rfl rfl rfl ?_
              intro w' hq hgr
              refine ⟨undef, rfl, hgr.size, ⟨grown_two hb hgr, fun h => by rw [fset_eq] at h; cases h⟩, hq, fun j _ hj hn hA => ?_⟩
              exact phiS_cons_st (C := fun j => j ≠ 11 ∧ 11 ∉ clsAt [[], [0], [], [2], [0, 1, 2, 3], [], [5], [], [7], [5, 6, 7, 8], [0, 1, 2, 3, 4, 5, 6], [0, 1, 2, 3, 4, 5, 6, 10], [0, 1, 2, 3, 4, 5, 6, 7, 8, 9, 10, 11], [0, 1, 2, 3, 4, 5, 6, 7, 8, 9, 10, 11, 12]] j ∧ ∀ p ∈ [], (p = j ∨ p ∈ clsAt [[], [0], [], [2], [0, 1, 2, 3], [], [5], [], [7], [5, 6, 7, 8], [0, 1, 2, 3, 4, 5, 6], [0, 1, 2, 3, 4, 5, 6, 10], [0, 1, 2, 3, 4, 5, 6, 7, 8, 9, 10, 11], [0, 1, 2, 3, 4, 5, 6, 7, 8, 9, 10, 11, 12]] j) → ∀ q ∈ [], (q = 11 ∨ q ∈ clsAt [[], [0], [], [2], [0, 1, 2, 3], [], [5], [], [7], [5, 6, 7, 8], [0, 1, 2, 3, 4, 5, 6], [0, 1, 2, 3, 4, 5, 6, 10], [0, 1, 2, 3, 4, 5, 6, 7, 8, 9, 10, 11], [0, 1, 2, 3, 4, 5, 6, 7, 8, 9, 10, 11, 12]] 11) → p ≠ q → val p ≠ val q) (fun hc => absurd rfl hc.1) (fun _ _ h => h) j ⟨hj, hn, hA⟩
            · intro val fl w' hfl hb halc hd
              obtain ⟨hb, _⟩ := hb
              have e0 : val 0 = .pointer (some ⟨g2, 0, none⟩) := hd 0 (by omega)
              have e1 : val 1 = .int .i64 (sumN (flowIn rv.reaches sides k) (p : Int) x).lo := hd 1 (by omega)
              have e2 : val 2 = .pointer (some ⟨g14, 0, none⟩) := hd 2 (by omega)
              have e3 : val 3 = .int .i64 (flowIn rv.reaches sides k ((p : Int) + (x : Nat))).lo := hd 3 (by omega)
              have e4 : val 4 = .int .i64 (sumN (flowIn rv.reaches sides k) (p : Int) (x + 1)).lo := hd 4 (by omega)
              have e5 : val 5 = .pointer (some ⟨g2, 1, none⟩) := hd 5 (by omega)
              have e6 : val 6 = .int .i64 (sumN (flowIn rv.reaches sides k) (p : Int) x).hi := hd 6 (by omega)
              have e7 : val 7 = .pointer (some ⟨g14, 1, none⟩) := hd 7 (by omega)
              have e8 : val 8 = .int .i64 (flowIn rv.reaches sides k ((p : Int) + (x : Nat))).hi := hd 8 (by omega)
              have e9 : val 9 = .int .i64 (sumN (flowIn rv.reaches sides k) (p : Int) (x + 1)).hi := hd 9 (by omega)
              have e10 : val 10 = .pointer (some ⟨g2, 0, none⟩) := hd 10 (by omega)
              refine EL.ends (cs := [.pointer (some ⟨g2, 0, none⟩), .int .i64 (sumN (flowIn rv.reaches sides k) (p : Int) x).lo, .pointer (some ⟨g14, 0, none⟩), .int .i64 (flowIn rv.reaches sides k ((p : Int) + (x : Nat))).lo, .int .i64 (sumN (flowIn rv.reaches sides k) (p : Int) (x + 1)).lo, .pointer (some ⟨g2, 1, none⟩), .int .i64 (sumN (flowIn rv.reaches sides k) (p : Int) x).hi, .pointer (some ⟨g14, 1, none⟩), .int .i64 (flowIn rv.reaches sides k ((p : Int) + (x : Nat))).hi, .int .i64 (sumN (flowIn rv.reaches sides k) (p : Int) (x + 1)).hi, .pointer (some ⟨g2, 0, none⟩), val 11]) ⟨e0, e1, e2, e3, e4, e5, e6, e7, e8, e9, e10, rfl, trivial⟩ rfl ?_
              have q2 : Blk w' g2 23 #[.int .i64 (sumN (flowIn rv.reaches sides k) (p : Int) (x + 1)).lo, .int .i64 (sumN (flowIn rv.reaches sides k) (p : Int) x).hi] := hd 11 (by omega)
              replace q14 := q14.grown hb (fun h => n2_14.symm (Option.some.inj h))
              replace hsl := fun j hj => (⟨cell_grown hb (hsl j hj).1 hbR, cell_grown hb (hsl j hj).2 hbR⟩ : _ ∧ _)
              replace hbw := below_store hbw hb bhbw_2
              refine EL.val (fa_23_1 rfl) rfl ?_
              refine EL.store rfl rfl q2 sz_3 rfl rfl rfl rfl ?_
              intro w16 hq16 hg16
              replace q14 := q14.grown hg16 (fun h => n2_14.symm (Option.some.inj h))
              replace hsl := fun j hj => (⟨cell_grown hg16 (hsl j hj).1 hbR, cell_grown hg16 (hsl j hj).2 hbR⟩ : _ ∧ _)
              replace hbw := below_store hbw hg16 bhbw_2
              replace q2 := hq16
              clear hg16 hq16
              refine EL.nil ?_
              refine EX.blk ?_
              refine EX.seq ?_
              refine EC.region ?_
              refine EL.val (x_add rfl rfl (by first | assumption | exact IntWalk.i64_in _ ⟨by omega, by omega⟩)) rfl ?_
              refine EL.val (x_move rfl) rfl ?_
              refine EL.nil ?_
              refine EX.roundD (x + 1) ⟨rfl, trivial⟩ (by repeat first | exact Sub.refl _ | refine sub_past rfl ?_ | refine sub_del rfl ?_ | refine sub_insL_nil ?_) ⟨hlt, q2, hsl, hbw⟩ (by omega)
          ·
            obtain rfl : x = q - p := by omega
            have bhbw_2 := hgW
            refine EC.seq ?_
            refine EC.region ?_
            refine EL.val (x_lss rfl rfl (by first | assumption | exact decide_eq_false (by omega))) rfl ?_
            refine EL.nil ?_
            refine EX.seq ?_
            refine EC.seq ?_
            refine EC.no rfl ?_
            refine EC.exit ?_
            refine EX.seq_exit ?_
            refine EX.seq_exit ?_
            refine EX.blk_here ?_
            refine EX.seq ?_
            refine EC.seq ?_
            refine EC.region ?_
            refine EL.val (ld_23 rfl (q2.at (j := 0) rfl) (q2.at (j := 1) rfl)) rfl ?_
            refine EL.store rfl rfl q2 sz_23 rfl rfl rfl rfl ?_
            intro w17 hq17 hg17
            replace hbw := below_store hbw hg17 bhbw_2
            replace q2 := hq17
            clear hg17 hq17
            refine EL.val (x_assign rfl) rfl ?_
            refine EL.nil ?_
            refine EX.seq ?_
            refine EC.ret ?_
            exact EX.done (resct rfl rfl rfl (lv_23 (q2.at rfl) (q2.at rfl))) ⟨by rw [hve, hvr]; rfl, hbw⟩
  ·
    obtain ⟨hve, hvr⟩ := vol_open (i := i) (a := a) (b := b) hst
    refine EL.call (cl_73 rfl rfl) rfl (open_bad rv sides _ _ _ vs ss _ B (hr.below (hbw.mono hB)) (hs.below (hbw.mono hB)) (Nat.le_trans hB hbw.size) hl hl2 hcv hl3 hsb hst) ?_
    rintro e w18 ⟨rfl, hc18⟩
    refine ⟨_, rfl, ?_⟩
    replace q1 := q1.below hc18 q1.lt
    replace q2 := q2.below hc18 q2.lt
    replace hbw := Below.on hbw hc18 hbw.size
    clear hc18
    refine EL.val (x_move rfl) rfl ?_
    refine EL.val (x_extract rfl rfl) rfl ?_
    refine EL.val (x_extract rfl rfl) rfl ?_
    refine EL.val (x_assign rfl) rfl ?_
    refine EL.val (x_assign rfl) rfl ?_
    refine EL.nil ?_
    refine EX.seq ?_
    refine EC.seq ?_
    refine EC.block ?_
    refine EC.seq ?_
    refine EC.region ?_
    refine EL.val (x_move rfl) rfl ?_
    refine EL.val (x_neq rfl rfl (by first | assumption | exact decide_eq_true (by omega))) rfl ?_
    refine EL.val (x_assign rfl) rfl ?_
    refine EL.nil ?_
    refine EX.seq ?_
    refine EC.yes rfl ?_
    refine EC.seq ?_
    refine EC.region ?_
    refine EL.val (ld_23 rfl (q2.at (j := 0) rfl) (q2.at (j := 1) rfl)) rfl ?_
    refine EL.val (x_move rfl) rfl ?_
    refine EL.store rfl rfl q2 sz_23 rfl rfl rfl rfl ?_
    intro w19 hq19 hg19
    replace q1 := q1.grown hg19 (fun h => n1_2 (Option.some.inj h))
    replace hbw := below_store hbw hg19 bhbw_2
    replace q2 := hq19
    clear hg19 hq19
    refine EL.val (x_assign rfl) rfl ?_
    refine EL.nil ?_
    refine EX.seq ?_
    refine EC.ret ?_
    refine EX.blk_ret ?_
    refine EX.seq_ret ?_
    exact EX.done (resct rfl rfl rfl (lv_23 (q2.at rfl) (q2.at rfl))) ⟨by rw [hve, hvr]; rfl, hbw⟩
end Go.Proofs.Ytncnlhkmdljgpaa
