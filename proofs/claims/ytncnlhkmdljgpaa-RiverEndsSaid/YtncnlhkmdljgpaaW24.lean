/- River: the program's Levels, the reference's Flows (printed by gen_w24.py). -/
import Derived.Test.YtncnlhkmdljgpaaW19
import Derived.Test.YtncnlhkmdljgpaaW11
import Derived.Test.YtncnlhkmdljgpaaExB
set_option linter.unusedVariables false
set_option linter.unusedSimpArgs false
namespace Go.Proofs.Ytncnlhkmdljgpaa
open Go Go.RowKit

/-- the levels of a reach, of all reaches -/
def lvIn (rv : River) (sides : List (List Bd)) (i : Nat) (t : Int) : Bd := levelAt (rv.reaches.getD i reach0) (flowIn rv.reaches sides i t)
def lvOf (rv : River) (sides : List (List Bd)) (i : Nat) : List Bd := (List.range (sides.getD 0 []).length).map fun h : Nat => lvIn rv sides i h
def lvUp (rv : River) (sides : List (List Bd)) : List (List Bd) := (List.range rv.reaches.length).map (lvOf rv sides)
theorem lvUp_len (rv : River) (sides : List (List Bd)) : (lvUp rv sides).length = rv.reaches.length := by simp [lvUp]
theorem lvUp_at (rv : River) (sides : List (List Bd)) {i : Nat} (hi : i < rv.reaches.length) : (lvUp rv sides).getD i [] = lvOf rv sides i := by simp [lvUp, hi]
theorem lvOf_len (rv : River) (sides : List (List Bd)) (i : Nat) : (lvOf rv sides i).length = (sides.getD 0 []).length := by simp [lvOf]
theorem lvOf_at (rv : River) (sides : List (List Bd)) {i t : Nat} (ht : t < (sides.getD 0 []).length) : (lvOf rv sides i).getD t bd0 = lvIn rv sides i (t : Int) := by
  unfold lvOf
  rw [List.getD_eq_getElem?_getD, List.getElem?_map, List.getElem?_range ht]
  rfl
theorem lvOf_take (rv : River) (sides : List (List Bd)) {i j : Nat} (hj : j < (sides.getD 0 []).length) : (lvOf rv sides i).take (j + 1) = (lvOf rv sides i).take j ++ [lvIn rv sides i (j : Int)] := by
  rw [List.take_succ_eq_append_getElem (by rw [lvOf_len]; exact hj)]
  simp [lvOf]

/-- what Levels returns -/
def LevelsPost (w : World) (rv : River) (sides : List (List Bd)) (e : Ending) (w' : World) : Prop :=
  (∃ v fs, e = .returned (.tuple #[v, .int .i64 (startErr rv sides)]) ∧ (startErr rv sides ≠ 0 → v = .slice none 0 0) ∧ (startErr rv sides = 0 → RdSides w' w'.heap.size v (lvUp rv sides) fs)) ∧ Below w.heap.size w w'
set_option maxHeartbeats 4000000 in
set_option maxRecDepth 100000 in
theorem levels_any (rv : River) (sides : List (List Bd)) (v u s : Value) (vs ss : List Value) (w : World) (B : Nat) (hr : RdRiver w B v u rv vs) (hs : RdSides w B s sides ss) (hB : B ≤ w.heap.size) (hl : rv.reaches.length ≤ 1048576) (hl2 : rv.shoals.length ≤ 1048576) (hcv : CurvesB rv.reaches) (hl3 : sides.length ≤ 1048576) (hsb : SidesB sides) :
    Calls Try.prog 41 #[.agg #[v, u], s] w (LevelsPost w rv sides) := by
  obtain ⟨A, c, rfl, _⟩ := hr.reaches.shape
  obtain ⟨A', c', rfl, _⟩ := hr.shoals.shape
  obtain ⟨D, d, rfl, _⟩ := hs.rd.shape
  have hbw := Below.refl w.heap.size w
  refine EC.enter 47 Try.func41 rfl rfl rfl ?_
  refine EC.seq ?_
  refine EC.region ?_
  refine EL.newP (bx_47 rfl) rfl ?_
  intro g1 w1 q1 hb1 hg1 hl1
  have bhbw_1 := Nat.le_trans hbw.size hg1
  replace hbw := Below.on hbw hb1 hbw.size
  clear hb1 hg1 hl1
  refine EL.val (x_assign rfl) rfl ?_
  refine EL.val (x_assign rfl) rfl ?_
  refine EL.nil ?_
  refine EX.seq ?_
  refine EC.seq ?_
  refine EC.region ?_
  refine EL.val (ld_47 rfl (q1.at (j := 0) rfl) (q1.at (j := 1) rfl)) rfl ?_
  refine EL.val (x_move rfl) rfl ?_
  by_cases hst : startErr rv sides = 0
  ·
    obtain ⟨hok, hO⟩ := startErr_ok hst
    have hhr := hO.hours
    have hsm := hO.river.some
    refine EL.call (cl_73 rfl rfl) rfl (open_ok rv sides _ _ _ vs ss _ B (hr.below (hbw.mono hB)) (hs.below (hbw.mono hB)) (Nat.le_trans hB hbw.size) hl hl2 hcv hl3 hsb hst) ?_
    rintro e w2 ⟨⟨g, vf, fs_, rfl, hge_, hS, _⟩, hc2⟩
    refine ⟨_, rfl, ?_⟩
    replace q1 := q1.below hc2 q1.lt
    replace hbw := Below.on hbw hc2 hbw.size
    clear hc2 hge_
    have hin := Below.refl w2.heap.size w2
    have hwS := hbw.size
    refine EL.val (x_move rfl) rfl ?_
    refine EL.val (x_extract rfl rfl) rfl ?_
    refine EL.val (x_extract rfl rfl) rfl ?_
    refine EL.val (x_assign rfl) rfl ?_
    refine EL.val (x_assign rfl) rfl ?_
    refine EL.nil ?_
    refine EX.seq ?_
    refine EC.seq ?_
    refine EC.seq ?_
    refine EC.region ?_
    refine EL.val (x_move rfl) rfl ?_
    refine EL.val (x_neq rfl rfl (by first | assumption | exact decide_eq_false (by omega))) rfl ?_
    refine EL.nil ?_
    refine EX.seq ?_
    refine EC.no rfl ?_
    refine EC.skip ?_
    refine EX.seq ?_
    refine EC.seq ?_
    refine EC.seq ?_
    refine EC.region ?_
    refine EL.val (x_move rfl) rfl ?_
    refine EL.val (x_nilCheck rfl) rfl ?_
    refine EL.val (fa_141_0 rfl) rfl ?_
    refine EL.val (fa_47_0 rfl) rfl ?_
    refine EL.val (ld_44 rfl ((hS.below hin).blk.at (j := 0) rfl)) rfl ?_
    refine EL.val (ln_44 rfl) rfl ?_
    refine EL.val (x_move rfl) rfl ?_
    refine EL.nil ?_
    refine EX.seq ?_
    refine EC.block ?_
    refine EC.loopD [4, 7, 8, 9, 25, 26, 27, 28, 29, 30, 31, 32, 33, 34, 35, 36, 37, 38, 39, 40, 41, 42, 43, 44, 45] (fun x : Nat × Value × List Value => [(25, .int .i64 (x.1 : Nat)), (4, x.2.1)]) (fun x W => x.1 ≤ rv.reaches.length ∧ Rows W w2.heap.size 28 1 x.2.1 x.1 x.2.2 23 2 x.2.2 (rowsB ((lvUp rv sides).take x.1)) ∧ w2.heap.size ≤ W.heap.size ∧ Below w2.heap.size w2 W ∧ Below w.heap.size w W) (fun x => rv.reaches.length - x.1) (0, _, []) ⟨Nat.zero_le _, Rows.start (own_nil _ _ _ _), hin.size, hin, hbw⟩ ⟨rfl, rfl, trivial⟩ ?_
    clear hin hbw
    rintro ⟨i, vo, fs⟩ wr ⟨hi, hR, hbo, hin, hbw⟩
    simp only at hi hR
    by_cases hlt : i < rv.reaches.length
    ·
      have hbr := Below.refl wr.heap.size wr
      refine EC.seq ?_
      refine EC.region ?_
      refine EL.val (x_lss rfl rfl (by first | assumption | exact decide_eq_true (by omega))) rfl ?_
      refine EL.nil ?_
      refine EX.seq ?_
      refine EC.seq ?_
      refine EC.yes rfl ?_
      refine EC.skip ?_
      refine EX.seq ?_
      refine EC.seq ?_
      refine EC.block ?_
      refine EC.seq ?_
      refine EC.region ?_
      refine EL.val (x_move rfl) rfl ?_
      refine EL.val (x_assign rfl) rfl ?_
      refine EL.nil ?_
      refine EX.seq ?_
      refine EC.seq ?_
      refine EC.region ?_
      refine EL.val (x_assign rfl) rfl ?_
      refine EL.nil ?_
      refine EX.seq ?_
      refine EC.seq ?_
      refine EC.seq ?_
      refine EC.region ?_
      refine EL.val (x_move rfl) rfl ?_
      refine EL.call (cl_77 rfl) rfl (hours_any (hS.below hin)) ?_
      rintro e _ ⟨rfl, rfl⟩
      refine ⟨_, rfl, ?_⟩
      refine EL.val (x_move rfl) rfl ?_
      refine EL.nil ?_
      refine EX.seq ?_
      refine EC.block ?_
      refine EC.loopD [8, 9, 30, 31, 32, 33, 34, 35, 36, 37, 38, 39, 40] (fun x : Nat × Value => [(30, .int .i64 (x.1 : Nat)), (8, x.2)]) (fun x W => x.1 ≤ (sides.getD 0 []).length ∧ W.ownsRow wr.heap.size 23 2 x.2 x.1 (bdsC ((lvOf rv sides i).take x.1)) ∧ Below w2.heap.size w2 W ∧ Below w.heap.size w W ∧ Below wr.heap.size wr W) (fun x => (sides.getD 0 []).length - x.1) (0, _) ⟨Nat.zero_le _, own_nil _ _ _ _, hin, hbw, hbr⟩ ⟨rfl, rfl, trivial⟩ ?_
      clear hin hbw hbr
      rintro ⟨k, vi⟩ wk ⟨hk, ho, hin, hbw, hbr⟩
      simp only at hk ho
      by_cases hkl : k < (sides.getD 0 []).length
      ·
        refine EC.seq ?_
        refine EC.region ?_
        refine EL.val (x_lss rfl rfl (by first | assumption | exact decide_eq_true (by omega))) rfl ?_
        refine EL.nil ?_
        refine EX.seq ?_
        refine EC.seq ?_
        refine EC.yes rfl ?_
        refine EC.skip ?_
        refine EX.seq ?_
        refine EC.seq ?_
        refine EC.block ?_
        refine EC.seq ?_
        refine EC.region ?_
        refine EL.val (x_move rfl) rfl ?_
        refine EL.val (x_assign rfl) rfl ?_
        refine EL.nil ?_
        refine EX.seq ?_
        refine EC.region ?_
        refine EL.val (x_move rfl) rfl ?_
        refine EL.val (x_move rfl) rfl ?_
        refine EL.val (x_move rfl) rfl ?_
        refine EL.val (x_move rfl) rfl ?_
        refine EL.call (cl_78 rfl rfl rfl) rfl (slevel_any (hS.below hin) hin.size i (k : Int) hlt (by omega)) ?_
        rintro e w3 ⟨rfl, hc3⟩
        refine ⟨_, rfl, ?_⟩
        replace ho := own_below ho hc3 (Nat.le_refl _)
        replace hin := Below.on hin hc3 hin.size
        replace hbw := Below.on hbw hc3 hbw.size
        replace hbr := Below.on hbr hc3 hbr.size
        clear hc3
        refine EL.newS (bs_28_1 rfl) rfl ?_
        intro g4 w4 q4 hb4 hg4 hl4
        have bhin_4 := Nat.le_trans hin.size hg4
        have bhbw_4 := Nat.le_trans hbw.size hg4
        have bhbr_4 := Nat.le_trans hbr.size hg4
        replace ho := own_below ho hb4 (Nat.le_refl _)
        replace hin := Below.on hin hb4 hin.size
        replace hbw := Below.on hbw hb4 hbw.size
        replace hbr := Below.on hbr hb4 hbr.size
        clear hb4 hg4 hl4
        refine EL.push bds_elem rfl rfl ho (rd_one (l := bdC (lvIn rv sides i (k : Int))) q4 rfl) (by simp [bdC, Value.oneCell']) (by omega) rfl hbr.size rfl ?_
        intro v2 w5 ho2 hgr5 hb5 _
        have hsz_ := hbr.size
        replace hin := hin.trans (hb5.mono (by omega))
        replace hbw := hbw.trans (hb5.mono (by omega))
        replace hbr := hbr.trans hb5
        refine EL.val (x_assign rfl) rfl ?_
        refine EL.nil ?_
        refine EX.blk ?_
        refine EX.seq ?_
        refine EC.region ?_
        refine EL.val (x_add rfl rfl (by first | assumption | exact IntWalk.i64_in _ ⟨by omega, by omega⟩)) rfl ?_
        refine EL.val (x_move rfl) rfl ?_
        refine EL.nil ?_
        refine EX.roundD (k + 1, v2) ⟨rfl, rfl, trivial⟩ (by repeat first | exact Sub.refl _ | refine sub_past rfl ?_ | refine sub_del rfl ?_ | refine sub_insL_nil ?_) ⟨hkl, by rw [lvOf_take rv sides hkl, bdsC_snoc]; exact ho2, hin, hbw, hbr⟩ (by simp only; omega)
      ·
        obtain rfl : k = (sides.getD 0 []).length := by omega
        rw [List.take_of_length_le (by rw [lvOf_len]; exact Nat.le_refl _)] at ho
        obtain ⟨Al, cl, rfl, _⟩ := (Rd.of_own ho).shape
        refine EC.seq ?_
        refine EC.region ?_
        refine EL.val (x_lss rfl rfl (by first | assumption | exact decide_eq_false (by omega))) rfl ?_
        refine EL.nil ?_
        refine EX.seq ?_
        refine EC.seq ?_
        refine EC.no rfl ?_
        refine EC.exit ?_
        refine EX.seq_exit ?_
        refine EX.seq_exit ?_
        refine EX.blk_here ?_
        refine EX.seq ?_
        refine EC.region ?_
        refine EL.val (x_move rfl) rfl ?_
        refine EL.val (x_move rfl) rfl ?_
        refine EL.newS (bs_52_1 rfl) rfl ?_
        intro g6 w6 q6 hb6 hg6 hl6
        have bhin_6 := Nat.le_trans hin.size hg6
        have bhbw_6 := Nat.le_trans hbw.size hg6
        have bhbr_6 := Nat.le_trans hbr.size hg6
        replace ho := own_below ho hb6 (Nat.le_refl _)
        replace hin := Below.on hin hb6 hin.size
        replace hbw := Below.on hbw hb6 hbw.size
        replace hbr := Below.on hbr hb6 hbr.size
        clear hb6 hg6 hl6
        have hR2 := hR.below hbr
        have hap := apart_fresh hR.own (fun g h => (ho.lt g h).1)
        have ho3 := own_less ho hbo
        have hsz_ := hbr.size
        refine EL.push lists_elem rfl rfl hR2.own (rd_one (l := [.slice Al (sides.getD 0 []).length cl]) q6 rfl) (by simp [Value.oneCell']) (by omega) rfl (Nat.le_trans hbo hbr.size) rfl ?_
        intro v' w7 ho4 hgr7 hb7 hat7
        have hR3 := hR2.push0 ho3 hap ho4 hgr7 hat7
        have hbo2 := Nat.le_trans (Nat.le_trans hbo hbr.size) hb7.size
        replace hin := hin.trans (hb7.mono (Nat.le_refl _))
        replace hbw := hbw.trans (hb7.mono hwS)
        refine EL.val (x_assign rfl) rfl ?_
        refine EL.nil ?_
        refine EX.blk ?_
        refine EX.seq ?_
        refine EC.region ?_
        refine EL.val (x_add rfl rfl (by first | assumption | exact IntWalk.i64_in _ ⟨by omega, by omega⟩)) rfl ?_
        refine EL.val (x_move rfl) rfl ?_
        refine EL.nil ?_
        refine EX.roundD (i + 1, v', fs ++ [_]) ⟨rfl, rfl, trivial⟩ (by repeat first | exact Sub.refl _ | refine sub_past rfl ?_ | refine sub_del rfl ?_ | refine sub_insL_nil ?_) ⟨hlt, by rw [rowsB_take (by rw [lvUp_len]; exact hlt), lvUp_at rv sides hlt, lvOf_len]; exact hR3, hbo2, hin, hbw⟩ (by simp only; omega)
    ·
      obtain rfl : i = rv.reaches.length := by omega
      rw [List.take_of_length_le (by rw [lvUp_len]; exact Nat.le_refl _)] at hR
      refine EC.seq ?_
      refine EC.region ?_
      refine EL.val (x_lss rfl rfl (by first | assumption | exact decide_eq_false (by omega))) rfl ?_
      refine EL.nil ?_
      refine EX.seq ?_
      refine EC.seq ?_
      refine EC.no rfl ?_
      refine EC.exit ?_
      refine EX.seq_exit ?_
      refine EX.seq_exit ?_
      refine EX.blk_here ?_
      refine EX.seq ?_
      refine EC.seq ?_
      refine EC.region ?_
      refine EL.val (x_move rfl) rfl ?_
      refine EL.val (x_assign rfl) rfl ?_
      refine EL.val (x_assign rfl) rfl ?_
      refine EL.nil ?_
      refine EX.seq ?_
      refine EC.ret ?_
      exact EX.done (res2 rfl rfl rfl) ⟨⟨_, _, by rw [hst], fun h => absurd hst h, fun _ => hR.sides⟩, hbw⟩
  ·
    refine EL.call (cl_73 rfl rfl) rfl (open_bad rv sides _ _ _ vs ss _ B (hr.below (hbw.mono hB)) (hs.below (hbw.mono hB)) (Nat.le_trans hB hbw.size) hl hl2 hcv hl3 hsb hst) ?_
    rintro e w8 ⟨rfl, hc8⟩
    refine ⟨_, rfl, ?_⟩
    replace q1 := q1.below hc8 q1.lt
    replace hbw := Below.on hbw hc8 hbw.size
    clear hc8
    refine EL.val (x_move rfl) rfl ?_
    refine EL.val (x_extract rfl rfl) rfl ?_
    refine EL.val (x_extract rfl rfl) rfl ?_
    refine EL.val (x_assign rfl) rfl ?_
    refine EL.val (x_assign rfl) rfl ?_
    refine EL.nil ?_
    refine EX.seq ?_
    refine EC.seq ?_
    refine EC.seq ?_
    refine EC.region ?_
    refine EL.val (x_move rfl) rfl ?_
    refine EL.val (x_neq rfl rfl (by first | assumption | exact decide_eq_true (by omega))) rfl ?_
    refine EL.nil ?_
    refine EX.seq ?_
    refine EC.yes rfl ?_
    refine EC.seq ?_
    refine EC.region ?_
    refine EL.val (x_move rfl) rfl ?_
    refine EL.val (x_assign rfl) rfl ?_
    refine EL.val (x_assign rfl) rfl ?_
    refine EL.nil ?_
    refine EX.seq ?_
    refine EC.ret ?_
    refine EX.seq_ret ?_
    exact EX.done (res2 rfl rfl rfl) ⟨⟨_, [], rfl, fun _ => rfl, fun h => absurd h hst⟩, hbw⟩

set_option maxHeartbeats 4000000 in
set_option maxRecDepth 100000 in
theorem rflows_any (rv : River) (sides : List (List Bd)) (v u s : Value) (vs ss : List Value) (w : World) (B : Nat) (hr : RdRiver w B v u rv vs) (hs : RdSides w B s sides ss) (hB : B ≤ w.heap.size) (hS : StartOk rv sides) (hl3 : sides.length ≤ 1048575) :
    Calls Try.prog 43 #[.agg #[v, u], s] w fun e w' => (∃ v' fs, e = .returned v' ∧ RdSides w' w'.heap.size v' (flowsUp rv.reaches sides sides.length) fs) ∧ Below w.heap.size w w' := by
  have hhr := hS.hours
  have hmany := hS.many
  have hsm := hS.river.some
  obtain ⟨A, c, rfl, _⟩ := hr.reaches.shape
  obtain ⟨A', c', rfl, _⟩ := hr.shoals.shape
  obtain ⟨D, d, rfl, _⟩ := hs.rd.shape
  have hbw := Below.refl w.heap.size w
  obtain ⟨bS, oS, rfl, _, hsc⟩ := sides_all hs (by omega)
  refine EC.enter 39 Try.func43 rfl rfl rfl ?_
  refine EC.seq ?_
  refine EC.region ?_
  refine EL.newP (bx_47 rfl) rfl ?_
  intro g1 w1 q1 hb1 hg1 hl1
  have bhbw_1 := Nat.le_trans hbw.size hg1
  replace hbw := Below.on hbw hb1 hbw.size
  clear hb1 hg1 hl1
  refine EL.val (x_assign rfl) rfl ?_
  refine EL.nil ?_
  refine EX.seq ?_
  refine EC.seq ?_
  refine EC.region ?_
  have sz_base := hbw.size
  have lt_base := q1.lt
  have st2_hbw := hbw.size
  refine EL.newS bs_52_0 rfl ?_
  intro g3 w3 q3 hb3 hg3 hl3
  have n1_3 : g1 ≠ g3 := Nat.ne_of_lt (Nat.lt_of_lt_of_le q1.lt hg3)
  have bhbw_3 := Nat.le_trans hbw.size hg3
  replace q1 := q1.below hb3 q1.lt
  replace hbw := Below.on hbw hb3 hbw.size
  clear hb3 hl3
  refine EL.val (x_assign rfl) rfl ?_
  refine EL.nil ?_
  refine EX.seq ?_
  refine EC.seq ?_
  refine EC.seq ?_
  refine EC.region ?_
  refine EL.val (x_assign rfl) rfl ?_
  refine EL.nil ?_
  refine EX.seq ?_
  refine EC.block ?_
  have hwS : w.heap.size ≤ w1.heap.size := sz_base
  have hbx0 : g1 < w1.heap.size := lt_base
  refine EC.loopD [5, 6, 7, 8, 10, 11, 12, 13, 14, 15, 16, 17, 18, 19, 20, 21, 22, 23, 24, 25, 26, 27, 28, 29, 30, 31, 32, 33, 34, 35, 36, 37] (fun x : Nat × Value × List Value => [(6, .int .i64 (x.1 : Nat)), (5, x.2.1)]) (fun x W => x.1 ≤ sides.length ∧ Rows W w1.heap.size 28 1 x.2.1 x.1 x.2.2 23 2 x.2.2 (rowsB ((flowsUp rv.reaches sides sides.length).take x.1)) ∧ w1.heap.size ≤ W.heap.size ∧ Blk W g1 47 #[.slice A rv.reaches.length c, .slice A' rv.shoals.length c'] ∧ Below w.heap.size w W) (fun x => sides.length - x.1) (0, _, []) ⟨Nat.zero_le _, Rows.start (own_empty 1 q3 hg3), Nat.le_of_lt (Nat.lt_of_le_of_lt hg3 q3.lt), q1, hbw⟩ ⟨rfl, rfl, trivial⟩ ?_
  clear q1 hbw
  rintro ⟨i, vo, fs⟩ wr ⟨hi, hR, hbo, q1, hbw⟩
  simp only at hi hR
  by_cases hlt : i < sides.length
  ·
    have hbr := Below.refl wr.heap.size wr
    have ci := hsc i hlt
    have hsi := hs.side i hlt
    have hsame := hS.same i hlt
    obtain ⟨Ai, cai, ei, _⟩ := hsi.shape
    rw [ei] at ci
    rw [hsame] at ci
    refine EC.seq ?_
    refine EC.seq ?_
    refine EC.region ?_
    refine EL.val (x_move rfl) rfl ?_
    refine EL.val (x_move rfl) rfl ?_
    refine EL.val (ln_52 rfl) rfl ?_
    refine EL.val (x_lss rfl rfl (by first | assumption | exact decide_eq_true (by omega))) rfl ?_
    refine EL.nil ?_
    refine EX.seq ?_
    refine EC.yes rfl ?_
    refine EC.skip ?_
    refine EX.seq ?_
    refine EC.seq ?_
    refine EC.block ?_
    refine EC.seq ?_
    refine EC.region ?_
    have hbr0 := hbr.size
    have st4_hbw := hbw.size
    have st4_hbr := hbr.size
    refine EL.newS bs_28_0 rfl ?_
    intro g5 w5 q5 hb5 hg5 hl5
    have n1_5 : g1 ≠ g5 := Nat.ne_of_lt (Nat.lt_of_lt_of_le q1.lt hg5)
    have bhbw_5 := Nat.le_trans hbw.size hg5
    have bhbr_5 := Nat.le_trans hbr.size hg5
    replace q1 := q1.below hb5 q1.lt
    replace hbw := Below.on hbw hb5 hbw.size
    replace hbr := Below.on hbr hb5 hbr.size
    clear hb5 hl5
    refine EL.val (x_assign rfl) rfl ?_
    refine EL.nil ?_
    refine EX.seq ?_
    refine EC.seq ?_
    refine EC.seq ?_
    refine EC.region ?_
    refine EL.val (x_assign rfl) rfl ?_
    refine EL.nil ?_
    refine EX.seq ?_
    refine EC.block ?_
    refine EC.loopD [7, 8, 17, 18, 19, 20, 21, 22, 23, 24, 25, 26, 27, 28, 29, 30, 31, 32, 33] (fun x : Nat × Value => [(8, .int .i64 (x.1 : Nat)), (7, x.2)]) (fun x W => x.1 ≤ (sides.getD 0 []).length ∧ W.ownsRow wr.heap.size 23 2 x.2 x.1 (bdsC ((flowsOf rv.reaches sides (sides.getD 0 []).length i).take x.1)) ∧ Blk W g1 47 #[.slice A rv.reaches.length c, .slice A' rv.shoals.length c'] ∧ Below w.heap.size w W ∧ Below wr.heap.size wr W) (fun x => (sides.getD 0 []).length - x.1) (0, _) ⟨Nat.zero_le _, own_empty 2 q5 (Nat.le_trans hbr0 hg5), q1, hbw, hbr⟩ ⟨rfl, rfl, trivial⟩ ?_
    clear q1 hbw hbr
    rintro ⟨k, vi⟩ wk ⟨hk, ho, q1, hbw, hbr⟩
    simp only at hk ho
    by_cases hkl : k < (sides.getD 0 []).length
    ·
      refine EC.seq ?_
      refine EC.seq ?_
      refine EC.region ?_
      refine EL.val (x_move rfl) rfl ?_
      refine EL.val (x_move rfl) rfl ?_
      refine EL.val (x_move rfl) rfl ?_
      refine EL.val (ix_52 rfl rfl hlt) rfl ?_
      refine EL.val (ld_28 rfl (below_load hbw ci)) rfl ?_
      refine EL.val (ln_28 rfl) rfl ?_
      refine EL.val (x_lss rfl rfl (by first | assumption | exact decide_eq_true (by omega))) rfl ?_
      refine EL.nil ?_
      refine EX.seq ?_
      refine EC.yes rfl ?_
      refine EC.skip ?_
      refine EX.seq ?_
      refine EC.seq ?_
      refine EC.block ?_
      refine EC.region ?_
      refine EL.val (x_move rfl) rfl ?_
      refine EL.val (ld_47 rfl (q1.at (j := 0) rfl) (q1.at (j := 1) rfl)) rfl ?_
      refine EL.val (x_move rfl) rfl ?_
      refine EL.val (x_move rfl) rfl ?_
      refine EL.val (x_move rfl) rfl ?_
      refine EL.call (cl_47 rfl rfl rfl rfl) rfl (rflow_any rv sides _ _ _ vs ss B hS i (k : Int) _ (hr.below (hbw.mono hB)) (hs.below (hbw.mono hB)) (Nat.le_trans hB hbw.size) (by omega) (by omega)) ?_
      rintro e w6 ⟨rfl, hc6⟩
      refine ⟨_, rfl, ?_⟩
      replace q1 := q1.below hc6 q1.lt
      replace ho := own_below ho hc6 (Nat.le_refl _)
      replace hbw := Below.on hbw hc6 hbw.size
      replace hbr := Below.on hbr hc6 hbr.size
      clear hc6
      refine EL.newS (bs_28_1 rfl) rfl ?_
      intro g7 w7 q7 hb7 hg7 hl7
      have n1_7 : g1 ≠ g7 := Nat.ne_of_lt (Nat.lt_of_lt_of_le q1.lt hg7)
      have bhbw_7 := Nat.le_trans hbw.size hg7
      have bhbr_7 := Nat.le_trans hbr.size hg7
      replace q1 := q1.below hb7 q1.lt
      replace ho := own_below ho hb7 (Nat.le_refl _)
      replace hbw := Below.on hbw hb7 hbw.size
      replace hbr := Below.on hbr hb7 hbr.size
      clear hb7 hg7 hl7
      have lo_1 := q1.lt
      refine EL.push bds_elem rfl rfl ho (rd_one (l := bdC (flowIn rv.reaches sides i (k : Int))) q7 rfl) (by simp [bdC, Value.oneCell']) (by omega) rfl hbr.size rfl ?_
      intro v2 w8 ho2 hgr8 hb8 _
      have hsz_ := hbr.size
      replace q1 := q1.below (hb8) (by omega)
      replace hbw := hbw.trans (hb8.mono (by omega))
      replace hbr := hbr.trans hb8
      refine EL.val (x_assign rfl) rfl ?_
      refine EL.nil ?_
      refine EX.blk ?_
      refine EX.seq ?_
      refine EC.region ?_
      refine EL.val (x_move rfl) rfl ?_
      refine EL.val (x_add rfl rfl (by first | assumption | exact IntWalk.i64_in _ ⟨by omega, by omega⟩)) rfl ?_
      refine EL.val (x_assign rfl) rfl ?_
      refine EL.nil ?_
      refine EX.roundD (k + 1, v2) ⟨rfl, rfl, trivial⟩ (by repeat first | exact Sub.refl _ | refine sub_past rfl ?_ | refine sub_del rfl ?_ | refine sub_insL_nil ?_) ⟨hkl, by rw [flowsOf_take rv.reaches sides hkl, bdsC_snoc]; exact ho2, q1, hbw, hbr⟩ (by simp only; omega)
    ·
      obtain rfl : k = (sides.getD 0 []).length := by omega
      rw [List.take_of_length_le (by rw [flowsOf_len]; exact Nat.le_refl _)] at ho
      obtain ⟨Al, cl, rfl, _⟩ := (Rd.of_own ho).shape
      refine EC.seq ?_
      refine EC.seq ?_
      refine EC.region ?_
      refine EL.val (x_move rfl) rfl ?_
      refine EL.val (x_move rfl) rfl ?_
      refine EL.val (x_move rfl) rfl ?_
      refine EL.val (ix_52 rfl rfl hlt) rfl ?_
      refine EL.val (ld_28 rfl (below_load hbw ci)) rfl ?_
      refine EL.val (ln_28 rfl) rfl ?_
      refine EL.val (x_lss rfl rfl (by first | assumption | exact decide_eq_false (by omega))) rfl ?_
      refine EL.nil ?_
      refine EX.seq ?_
      refine EC.no rfl ?_
      refine EC.exit ?_
      refine EX.seq_exit ?_
      refine EX.seq_exit ?_
      refine EX.blk_here ?_
      refine EX.seq ?_
      refine EC.region ?_
      refine EL.val (x_move rfl) rfl ?_
      refine EL.val (x_move rfl) rfl ?_
      refine EL.newS (bs_52_1 rfl) rfl ?_
      intro g9 w9 q9 hb9 hg9 hl9
      have n1_9 : g1 ≠ g9 := Nat.ne_of_lt (Nat.lt_of_lt_of_le q1.lt hg9)
      have bhbw_9 := Nat.le_trans hbw.size hg9
      have bhbr_9 := Nat.le_trans hbr.size hg9
      replace q1 := q1.below hb9 q1.lt
      replace ho := own_below ho hb9 (Nat.le_refl _)
      replace hbw := Below.on hbw hb9 hbw.size
      replace hbr := Below.on hbr hb9 hbr.size
      clear hb9 hg9 hl9
      have lo_1 := q1.lt
      have hR2 := hR.below hbr
      have hap := apart_fresh hR.own (fun g h => (ho.lt g h).1)
      have ho3 := own_less ho hbo
      have hsz_ := hbr.size
      refine EL.push lists_elem rfl rfl hR2.own (rd_one (l := [.slice Al (sides.getD 0 []).length cl]) q9 rfl) (by simp [Value.oneCell']) (by omega) rfl (Nat.le_trans hbo hbr.size) rfl ?_
      intro v' w10 ho4 hgr10 hb10 hat10
      have hR3 := hR2.push0 ho3 hap ho4 hgr10 hat10
      have hbo2 := Nat.le_trans (Nat.le_trans hbo hbr.size) hb10.size
      replace q1 := q1.below hb10 hbx0
      replace hbw := hbw.trans (hb10.mono hwS)
      refine EL.val (x_assign rfl) rfl ?_
      refine EL.nil ?_
      refine EX.blk ?_
      refine EX.seq ?_
      refine EC.region ?_
      refine EL.val (x_move rfl) rfl ?_
      refine EL.val (x_add rfl rfl (by first | assumption | exact IntWalk.i64_in _ ⟨by omega, by omega⟩)) rfl ?_
      refine EL.val (x_assign rfl) rfl ?_
      refine EL.nil ?_
      refine EX.roundD (i + 1, v', fs ++ [_]) ⟨rfl, rfl, trivial⟩ (by repeat first | exact Sub.refl _ | refine sub_past rfl ?_ | refine sub_del rfl ?_ | refine sub_insL_nil ?_) ⟨hlt, by rw [rowsB_take (by rw [flowsUp_len]; exact hlt), flowsUp_at rv.reaches sides hlt, flowsOf_len]; exact hR3, hbo2, q1, hbw⟩ (by simp only; omega)
  ·
    obtain rfl : i = sides.length := by omega
    rw [List.take_of_length_le (by rw [flowsUp_len]; exact Nat.le_refl _)] at hR
    refine EC.seq ?_
    refine EC.seq ?_
    refine EC.region ?_
    refine EL.val (x_move rfl) rfl ?_
    refine EL.val (x_move rfl) rfl ?_
    refine EL.val (ln_52 rfl) rfl ?_
    refine EL.val (x_lss rfl rfl (by first | assumption | exact decide_eq_false (by omega))) rfl ?_
    refine EL.nil ?_
    refine EX.seq ?_
    refine EC.no rfl ?_
    refine EC.exit ?_
    refine EX.seq_exit ?_
    refine EX.seq_exit ?_
    refine EX.blk_here ?_
    refine EX.seq ?_
    refine EC.seq ?_
    refine EC.region ?_
    refine EL.val (x_move rfl) rfl ?_
    refine EL.val (x_assign rfl) rfl ?_
    refine EL.nil ?_
    refine EX.seq ?_
    refine EC.ret ?_
    exact EX.done (res1 rfl rfl) ⟨⟨_, _, rfl, hR.sides⟩, hbw⟩
end Go.Proofs.Ytncnlhkmdljgpaa
