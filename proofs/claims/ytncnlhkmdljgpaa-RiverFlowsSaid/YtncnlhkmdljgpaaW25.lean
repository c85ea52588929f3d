/- River: the law RiverFlows, its walk (printed by gen_w25.py). -/
import Derived.Test.YtncnlhkmdljgpaaW24
import Derived.Test.YtncnlhkmdljgpaaLaw1
import Derived.Test.YtncnlhkmdljgpaaW9
import Derived.Test.YtncnlhkmdljgpaaW12
import Derived.Test.YtncnlhkmdljgpaaExR25
set_option linter.unusedVariables false
set_option linter.unusedSimpArgs false
namespace Go.Proofs.Ytncnlhkmdljgpaa
open Go Go.RowKit

set_option maxHeartbeats 8000000 in
set_option maxRecDepth 100000 in
theorem flows_law (rv : River) (sides : List (List Bd)) (v u s : Value) (vs ss : List Value) (w : World) (B : Nat) (hr : RdRiver w B v u rv vs) (hs : RdSides w B s sides ss) (hB : B ≤ w.heap.size) :
    Calls Try.prog 7 #[.agg #[v, u, s]] w fun e w' => e = .returned (.bool true) ∧ Below w.heap.size w w' := by
  obtain ⟨A, c, rfl, _⟩ := hr.reaches.shape
  obtain ⟨A', c', rfl, _⟩ := hr.shoals.shape
  obtain ⟨D, d, rfl, _⟩ := hs.rd.shape
  have hbw := Below.refl w.heap.size w
  refine EC.enter 145 Try.func7 rfl rfl rfl ?_
  refine EC.seq ?_
  refine EC.region ?_
  refine EL.newP (bx_54 rfl) rfl ?_
  intro g1 w1 q1 hb1 hg1 hl1
  have bhbw_1 := Nat.le_trans hbw.size hg1
  replace hbw := Below.on hbw hb1 hbw.size
  clear hb1 hg1 hl1
  refine EL.val (x_assign rfl) rfl ?_
  refine EL.nil ?_
  refine EX.seq ?_
  refine EC.seq ?_
  refine EC.seq ?_
  refine EC.region ?_
  refine EL.val (ld_54 rfl (q1.at (j := 0) rfl) (q1.at (j := 1) rfl) (q1.at (j := 2) rfl)) rfl ?_
  refine EL.call (cl_23 rfl) rfl (large_any rv sides _ _ _ vs ss _ _ (hr.below (hbw.mono hB)) (hs.below (hbw.mono hB)) (Nat.le_trans hB hbw.size)) ?_
  rintro e w_l ⟨rfl | ⟨rfl, hfine⟩, hc_⟩
  ·
    refine ⟨_, rfl, ?_⟩
    replace q1 := q1.below hc_ q1.lt
    replace hbw := Below.on hbw hc_ hbw.size
    clear hc_
    refine EL.nil ?_
    refine EX.seq ?_
    refine EC.yes rfl ?_
    refine EC.seq ?_
    refine EC.region ?_
    refine EL.call cl_16 rfl (known_any _) ?_
    rintro e w2 ⟨rfl, hc2⟩
    refine ⟨_, rfl, ?_⟩
    replace q1 := q1.below hc2 q1.lt
    replace hbw := Below.on hbw hc2 hbw.size
    clear hc2
    refine EL.val (x_assign rfl) rfl ?_
    refine EL.nil ?_
    refine EX.seq ?_
    refine EC.ret ?_
    refine EX.seq_ret ?_
    exact EX.done (res1 rfl rfl) ⟨rfl, hbw⟩
  ·
    have f1 := hfine.nreaches
    have f2 := hfine.nshoals
    have f3 := hfine.curves
    have f4 := hfine.sidesB
    have f5 := hfine.nsides
    refine ⟨_, rfl, ?_⟩
    replace q1 := q1.below hc_ q1.lt
    replace hbw := Below.on hbw hc_ hbw.size
    clear hc_
    refine EL.nil ?_
    refine EX.seq ?_
    refine EC.no rfl ?_
    refine EC.skip ?_
    refine EX.seq ?_
    refine EC.seq ?_
    have lt_1 := q1.lt
    refine EC.regionP [[], [0], [0, 1], [], [3], [0, 1, 2, 3, 4], [], [0, 1, 2, 3, 4, 5, 6], [0, 1, 2, 3, 4, 5, 6, 7]] 7 [6] (phi (fun i_ r => match i_ with | 0 => r 0 = .pointer (some ⟨g1, 0, none⟩) | 1 => r 1 = .agg #[.slice A rv.reaches.length c, .slice A' rv.shoals.length c'] | 3 => r 3 = .pointer (some ⟨g1, 2, none⟩) | 4 => r 4 = .slice D sides.length d | _ => True) [(2, fun r w_ => ∃ a b vs, r 2 = .agg #[a, b] ∧ OwnRiver w_ w_l.heap.size a b rv vs), (5, fun r w_ => ∃ v ss, r 5 = v ∧ OwnSides w_ w_l.heap.size v sides ss), (6, fun r w_ => ∃ g_, r 6 = .pointer (some ⟨g_, 0, none⟩) ∧ Blk w_ g_ 47 #[.slice none 0 0, .slice none 0 0])]) (by kernel_rfl) rfl rfl (phi_cons mono_oriv (phi_cons mono_osid (phi_cons mono_alloc (phi_nil)))) (fun i_ hi_ => ?_) ?_
    · match i_, hi_ with
      | 0, _ =>
        intro val w1 a hb ha hd
        have ha := ha.sub (Sub.ins (d := 1) (Sub.nil _) rfl)
        exact hs_val ha rfl rfl (fa_54_0 rfl) rfl rfl
      | 1, _ =>
        intro val w1 a hb ha hd
        have e0 : val 0 = .pointer (some ⟨g1, 0, none⟩) := hd 0 (memB_mem.1 rfl)
        have ha := ha.sub (Sub.ins (d := 16) (Sub.nil _) (dep_get rfl e0))
        exact hs_val ha rfl rfl (ld_47 rfl ((q1.below hb q1.lt).at (j := 0) rfl) ((q1.below hb q1.lt).at (j := 1) rfl)) rfl rfl
      | 2, _ =>
        intro val w1 a hb ha hd
        have e1 : val 1 = .agg #[.slice A rv.reaches.length c, .slice A' rv.shoals.length c'] := hd 1 (memB_mem.1 rfl)
        have ha := ha.sub (Sub.ins (d := 17) (Sub.nil _) (dep_get rfl e1))
        refine hs_call ha rfl rfl (cl_24 rfl) (copied_OR rv _ _ vs _ B (hr.below ((Below.on hbw hb hbw.size).mono hB)) (Nat.le_trans hB (Below.on hbw hb hbw.size).size) (by omega) (by omega) f3) rfl ?_
        rintro e w' ⟨⟨v1, u1, vs1, rfl, hcp⟩, hb'⟩
        exact ⟨_, rfl, hb', ⟨_, _, _, rfl, hcp.less hb.size⟩⟩
      | 3, _ =>
        intro val w1 a hb ha hd
        have ha := ha.sub (Sub.ins (d := 1) (Sub.nil _) rfl)
        exact hs_val ha rfl rfl (fa_54_1 rfl) rfl rfl
      | 4, _ =>
        intro val w1 a hb ha hd
        have e3 : val 3 = .pointer (some ⟨g1, 2, none⟩) := hd 3 (memB_mem.1 rfl)
        have ha := ha.sub (Sub.ins (d := 19) (Sub.nil _) (dep_get rfl e3))
        exact hs_val ha rfl rfl (ld_52 rfl ((q1.below hb q1.lt).at (j := 2) rfl)) rfl rfl
      | 5, _ =>
        intro val w1 a hb ha hd
        have e4 : val 4 = .slice D sides.length d := hd 4 (memB_mem.1 rfl)
        have ha := ha.sub (Sub.ins (d := 20) (Sub.nil _) (dep_get rfl e4))
        refine hs_call ha rfl rfl (cl_34 rfl) (forecast_OS sides _ ss _ B (hs.below ((Below.on hbw hb hbw.size).mono hB)) (Nat.le_trans hB (Below.on hbw hb hbw.size).size) (by omega) f4) rfl ?_
        rintro e w' ⟨⟨v1, ss1, rfl, hcp⟩, hb'⟩
        exact ⟨_, rfl, hb', ⟨_, _, rfl, Rows.less hcp hb.size⟩⟩
      | 6, _ =>
        intro val w1 a hb ha hd
        have ha := ha.sub (Sub.nil _)
        exact hs_newP ha rfl rfl al_47 (fun g w' hq _ _ => ⟨g, rfl, hq⟩)
      | k + 7, h => exact absurd h (by omega)
    · intro val wR3 hb halc hd
      have e0 : val 0 = .pointer (some ⟨g1, 0, none⟩) := hd 0 (by omega)
      have e1 : val 1 = .agg #[.slice A rv.reaches.length c, .slice A' rv.shoals.length c'] := hd 1 (by omega)
      obtain ⟨a2_, b2_, vs2_, e2, q2_⟩ := hd 2 (by omega)
      have e3 : val 3 = .pointer (some ⟨g1, 2, none⟩) := hd 3 (by omega)
      have e4 : val 4 = .slice D sides.length d := hd 4 (by omega)
      obtain ⟨v5_, ss5_, e5, q5_⟩ := hd 5 (by omega)
      obtain ⟨ga6_3, e6, qa6_3⟩ := hd 6 (by omega)
      refine EL.ends (cs := [.pointer (some ⟨g1, 0, none⟩), .agg #[.slice A rv.reaches.length c, .slice A' rv.shoals.length c'], .agg #[a2_, b2_], .pointer (some ⟨g1, 2, none⟩), .slice D sides.length d, v5_, .pointer (some ⟨ga6_3, 0, none⟩)]) ⟨e0, e1, e2, e3, e4, e5, e6, trivial⟩ rfl ?_
      replace q1 := q1.below hb q1.lt
      have bge3 := alc_ge halc (i := 6) rfl rfl e6
      have n1_3 : g1 ≠ ga6_3 := Nat.ne_of_lt (Nat.lt_of_lt_of_le lt_1 bge3)
      have bhbw_3 := Nat.le_trans hbw.size bge3
      replace hbw := Below.on hbw hb hbw.size
      clear hb
      obtain ⟨A2_, c2_, rfl, _⟩ := q2_.rd.reaches.shape
      obtain ⟨B2_, d2_, rfl, _⟩ := q2_.rd.shoals.shape
      obtain ⟨A5_, c5_, rfl, _⟩ := q5_.rd.rd.shape
      refine EL.store rfl rfl qa6_3 sz_47 rfl rfl rfl rfl ?_
      intro w4 hq4 hg4
      replace q1 := q1.grown hg4 (fun h => n1_3 (Option.some.inj h))
      replace q2_ := q2_.type qa6_3 rfl rfl rfl hg4
      replace q5_ := OwnSides.type q5_ qa6_3 rfl rfl hg4
      replace hbw := below_store hbw hg4 bhbw_3
      replace qa6_3 := hq4
      clear hg4 hq4
      refine EL.val (x_assign rfl) rfl ?_
      refine EL.nil ?_
      refine EX.seq ?_
      refine EC.seq ?_
      refine EC.region ?_
      refine EL.val (ld_47 rfl (qa6_3.at (j := 0) rfl) (qa6_3.at (j := 1) rfl)) rfl ?_
      refine EL.val (x_move rfl) rfl ?_
      by_cases hst : startErr rv sides = 0
      ·
        have hS := (startErr_ok hst).2
        have hhr := hS.hours
        have hmany := hS.many
        have hsm := hS.river.some
        refine EL.call (cl_40 rfl rfl) rfl (flows_any rv sides _ _ _ _ _ _ _ q2_.rd q5_.rd (Nat.le_refl _) (by omega) (by omega) f3 (by omega) f4) ?_
        rintro e w5 ⟨⟨vF, fF, rfl, hnF, hyF⟩, hc5⟩
        refine ⟨_, rfl, ?_⟩
        replace q1 := q1.below hc5 q1.lt
        replace qa6_3 := qa6_3.below hc5 qa6_3.lt
        replace q2_ := q2_.below hc5
        replace q5_ := OwnSides.below q5_ hc5
        replace hbw := Below.on hbw hc5 hbw.size
        clear hc5
        have hF := hyF hst
        clear hnF hyF
        obtain ⟨AF, cF, rfl, _⟩ := hF.rd.shape
        have bF := Below.refl w5.heap.size w5
        refine EL.val (x_move rfl) rfl ?_
        refine EL.val (x_extract rfl rfl) rfl ?_
        refine EL.val (x_extract rfl rfl) rfl ?_
        refine EL.val (x_assign rfl) rfl ?_
        refine EL.val (x_assign rfl) rfl ?_
        refine EL.nil ?_
        refine EX.seq ?_
        refine EC.seq ?_
        refine EC.region ?_
        refine EL.val (ld_47 rfl (qa6_3.at (j := 0) rfl) (qa6_3.at (j := 1) rfl)) rfl ?_
        refine EL.val (x_move rfl) rfl ?_
        refine EL.call (cl_41 rfl rfl) rfl (levels_any rv sides _ _ _ _ _ _ _ q2_.rd q5_.rd (Nat.le_refl _) (by omega) (by omega) f3 (by omega) f4) ?_
        rintro e w6 ⟨⟨vL, fL, rfl, hnL, hyL⟩, hc6⟩
        refine ⟨_, rfl, ?_⟩
        replace q1 := q1.below hc6 q1.lt
        replace qa6_3 := qa6_3.below hc6 qa6_3.lt
        replace q2_ := q2_.below hc6
        replace q5_ := OwnSides.below q5_ hc6
        replace hbw := Below.on hbw hc6 hbw.size
        replace bF := Below.on bF hc6 bF.size
        clear hc6
        have hL := hyL hst
        clear hnL hyL
        obtain ⟨AL, cL, rfl, _⟩ := hL.rd.shape
        have bL := Below.refl w6.heap.size w6
        refine EL.val (x_move rfl) rfl ?_
        refine EL.val (x_extract rfl rfl) rfl ?_
        refine EL.val (x_extract rfl rfl) rfl ?_
        refine EL.val (x_assign rfl) rfl ?_
        refine EL.val (x_assign rfl) rfl ?_
        refine EL.nil ?_
        refine EX.seq ?_
        refine EC.seq ?_
        refine EC.seq ?_
        refine EC.region ?_
        refine EL.val (ld_47 rfl (qa6_3.at (j := 0) rfl) (qa6_3.at (j := 1) rfl)) rfl ?_
        refine EL.val (fa_54_0 rfl) rfl ?_
        refine EL.val (ld_47 rfl (q1.at (j := 0) rfl) (q1.at (j := 1) rfl)) rfl ?_
        refine EL.call (cl_27 rfl rfl) rfl (unchanged_eq rv _ _ _ _ _ vs _ _ B q2_.rd (hr.below (hbw.mono hB)) (Nat.le_refl _) (Nat.le_trans hB hbw.size) (by omega) (by omega) f3) ?_
        rintro e w7 ⟨rfl, hc7⟩
        refine ⟨_, rfl, ?_⟩
        replace q1 := q1.below hc7 q1.lt
        replace qa6_3 := qa6_3.below hc7 qa6_3.lt
        replace q2_ := q2_.below hc7
        replace q5_ := OwnSides.below q5_ hc7
        replace hbw := Below.on hbw hc7 hbw.size
        replace bF := Below.on bF hc7 bF.size
        replace bL := Below.on bL hc7 bL.size
        clear hc7
        refine EL.val (x_not rfl) rfl ?_
        refine EL.val (x_move rfl) rfl ?_
        refine EL.valg rfl rfl (x_move rfl) rfl ?_
        refine EL.valg rfl rfl (fa_54_1 rfl) rfl ?_
        refine EL.valg rfl rfl (ld_52 rfl (q1.at (j := 2) rfl)) rfl ?_
        refine EL.callg rfl rfl (cl_42 rfl rfl) rfl (equal_eq sides _ _ _ ss _ _ B q5_.rd (hs.below (hbw.mono hB)) (Nat.le_refl _) (Nat.le_trans hB hbw.size) (by omega) f4) ?_
        rintro e w8 ⟨rfl, hc8⟩
        refine ⟨_, rfl, ?_⟩
        replace q1 := q1.below hc8 q1.lt
        replace qa6_3 := qa6_3.below hc8 qa6_3.lt
        replace q2_ := q2_.below hc8
        replace q5_ := OwnSides.below q5_ hc8
        replace hbw := Below.on hbw hc8 hbw.size
        replace bF := Below.on bF hc8 bF.size
        replace bL := Below.on bL hc8 bL.size
        clear hc8
        refine EL.valg rfl rfl (x_not rfl) rfl ?_
        refine EL.val (x_pick_f rfl rfl) rfl ?_
        refine EL.nil ?_
        refine EX.seq ?_
        refine EC.no rfl ?_
        refine EC.skip ?_
        refine EX.seq ?_
        refine EC.seq ?_
        refine EC.seq ?_
        refine EC.region ?_
        refine EL.val (fa_54_0 rfl) rfl ?_
        refine EL.val (ld_47 rfl (q1.at (j := 0) rfl) (q1.at (j := 1) rfl)) rfl ?_
        refine EL.val (fa_54_1 rfl) rfl ?_
        refine EL.val (ld_52 rfl (q1.at (j := 2) rfl)) rfl ?_
        refine EL.call (cl_38 rfl rfl) rfl (rstart_any rv sides _ _ _ vs ss _ B (hr.below (hbw.mono hB)) (hs.below (hbw.mono hB)) (Nat.le_trans hB hbw.size) (by omega) (by omega) f3 (by omega) f4) ?_
        rintro e w9 ⟨rfl, hc9⟩
        refine ⟨_, rfl, ?_⟩
        replace q1 := q1.below hc9 q1.lt
        replace qa6_3 := qa6_3.below hc9 qa6_3.lt
        replace q2_ := q2_.below hc9
        replace q5_ := OwnSides.below q5_ hc9
        replace hbw := Below.on hbw hc9 hbw.size
        replace bF := Below.on bF hc9 bF.size
        replace bL := Below.on bL hc9 bL.size
        clear hc9
        refine EL.val (x_assign rfl) rfl ?_
        refine EL.nil ?_
        refine EX.seq ?_
        refine EC.seq ?_
        refine EC.region ?_
        refine EL.val (x_move rfl) rfl ?_
        refine EL.val (x_neq rfl rfl (by first | assumption | exact decide_eq_false (by omega))) rfl ?_
        refine EL.nil ?_
        refine EX.seq ?_
        refine EC.no rfl ?_
        refine EC.skip ?_
        refine EX.seq ?_
        refine EC.seq ?_
        refine EC.region ?_
        refine EL.val (fa_54_0 rfl) rfl ?_
        refine EL.val (ld_47 rfl (q1.at (j := 0) rfl) (q1.at (j := 1) rfl)) rfl ?_
        refine EL.val (fa_54_1 rfl) rfl ?_
        refine EL.val (ld_52 rfl (q1.at (j := 2) rfl)) rfl ?_
        refine EL.call (cl_43 rfl rfl) rfl (rflows_any rv sides _ _ _ vs ss _ B (hr.below (hbw.mono hB)) (hs.below (hbw.mono hB)) (Nat.le_trans hB hbw.size) hS (by omega)) ?_
        rintro e w10 ⟨⟨vG, fG, rfl, hG⟩, hc10⟩
        refine ⟨_, rfl, ?_⟩
        replace q1 := q1.below hc10 q1.lt
        replace qa6_3 := qa6_3.below hc10 qa6_3.lt
        replace hbw := Below.on hbw hc10 hbw.size
        replace bF := Below.on bF hc10 bF.size
        replace bL := Below.on bL hc10 bL.size
        clear hc10
        obtain ⟨AG, cG, rfl, _⟩ := hG.rd.shape
        have bG := Below.refl w10.heap.size w10
        have lF : (flowsUp rv.reaches sides sides.length).length = sides.length := flowsUp_len _ _ _
        have lL : (lvUp rv sides).length = rv.reaches.length := lvUp_len _ _
        refine EL.val (x_assign rfl) rfl ?_
        refine EL.nil ?_
        refine EX.seq ?_
        refine EC.seq ?_
        refine EC.seq ?_
        refine EC.region ?_
        refine EL.val (x_move rfl) rfl ?_
        refine EL.val (x_neq rfl rfl (by first | assumption | exact decide_eq_false (by omega))) rfl ?_
        refine EL.val (x_move rfl) rfl ?_
        refine EL.valg rfl rfl (x_move rfl) rfl ?_
        refine EL.valg rfl rfl (x_neq rfl rfl (by first | assumption | exact decide_eq_false (by omega))) rfl ?_
        refine EL.val (x_pick_f rfl rfl) rfl ?_
        refine EL.val (x_move rfl) rfl ?_
        refine EL.valg rfl rfl (x_move rfl) rfl ?_
        refine EL.valg rfl rfl (x_move rfl) rfl ?_
        refine EL.callg rfl rfl (cl_42 rfl rfl) rfl (equal_eq (flowsUp rv.reaches sides sides.length) _ _ _ _ _ _ _ (hF.below bF) (hG.below bG) bF.size bG.size (by rw [flowsUp_len]; omega) (fun i hi => by rw [flowsUp_at _ _ (by rwa [flowsUp_len] at hi), flowsOf_len]; omega)) ?_
        rintro e w11 ⟨rfl, hc11⟩
        refine ⟨_, rfl, ?_⟩
        replace q1 := q1.below hc11 q1.lt
        replace qa6_3 := qa6_3.below hc11 qa6_3.lt
        replace hbw := Below.on hbw hc11 hbw.size
        replace bF := Below.on bF hc11 bF.size
        replace bL := Below.on bL hc11 bL.size
        replace bG := Below.on bG hc11 bG.size
        clear hc11
        refine EL.valg rfl rfl (x_not rfl) rfl ?_
        refine EL.val (x_pick_f rfl rfl) rfl ?_
        refine EL.val (x_move rfl) rfl ?_
        refine EL.valg rfl rfl (x_move rfl) rfl ?_
        refine EL.valg rfl rfl (ln_52 rfl) rfl ?_
        refine EL.valg rfl rfl (x_move rfl) rfl ?_
        refine EL.valg rfl rfl (ln_52 rfl) rfl ?_
        refine EL.valg rfl rfl (x_neq rfl rfl (by first | assumption | exact decide_eq_false (by omega))) rfl ?_
        refine EL.val (x_pick_f rfl rfl) rfl ?_
        refine EL.nil ?_
        refine EX.seq ?_
        refine EC.no rfl ?_
        refine EC.skip ?_
        refine EX.seq ?_
        refine EC.seq ?_
        refine EC.seq ?_
        refine EC.region ?_
        refine EL.val (x_assign rfl) rfl ?_
        refine EL.nil ?_
        refine EX.seq ?_
        refine EC.block ?_
        refine EC.loopD [2, 11, 12, 96, 97, 98, 99, 100, 101, 102, 103, 104, 105, 106, 107, 108, 109, 110, 111, 112, 113, 114, 115, 116, 117, 118, 119, 120, 121, 122, 123, 124, 125, 126, 127, 128, 129, 130, 131, 132, 133, 134, 135, 136, 137, 138, 139, 140, 141, 142, 143] (fun x : Nat => [(11, .int .i64 (x : Nat))]) (fun x W => x ≤ rv.reaches.length ∧ Blk W g1 54 #[.slice A rv.reaches.length c, .slice A' rv.shoals.length c', .slice D sides.length d] ∧ Below w.heap.size w W ∧ Below w6.heap.size w6 W ∧ Below w10.heap.size w10 W) (fun x => rv.reaches.length - x) 0 ⟨Nat.zero_le _, q1, hbw, bL, bG⟩ ⟨rfl, trivial⟩ ?_
        clear bF q1 hbw bL bG
        rintro i wr ⟨hi, q1, hbw, bL, bG⟩
        by_cases hlt : i < rv.reaches.length
        ·
          obtain ⟨bl, ol, rfl, _, cl⟩ := sides_cell hL i (by omega)
          obtain ⟨bg_, og, rfl, _, cg⟩ := sides_cell hG i (by omega)
          have hLr := hL.side i (by omega)
          have hGr := hG.side i (by omega)
          rw [lvUp_at _ _ hlt, lvOf_len] at hLr
          rw [flowsUp_at _ _ (by omega), flowsOf_len] at hGr
          obtain ⟨Al, cl_, el, _⟩ := hLr.shape
          obtain ⟨Ag, cg_, eg, _⟩ := hGr.shape
          rw [el] at cl hLr
          rw [eg] at cg hGr
          refine EC.seq ?_
          refine EC.seq ?_
          refine EC.region ?_
          refine EL.val (x_move rfl) rfl ?_
          refine EL.val (x_move rfl) rfl ?_
          refine EL.val (ln_52 rfl) rfl ?_
          refine EL.val (x_lss rfl rfl (by first | assumption | exact decide_eq_true (by omega))) rfl ?_
          refine EL.nil ?_
          refine EX.seq ?_
          refine EC.yes rfl ?_
          refine EC.skip ?_
          refine EX.seq ?_
          refine EC.seq ?_
          refine EC.block ?_
          refine EC.seq ?_
          refine EC.seq ?_
          refine EC.regionQ (by kernel_rfl) (by kernel_rfl) ?_
          refine EQ.val (fun _ hw => (x_move rfl)) rfl ?_
          refine EQ.val (fun _ hw => (x_move rfl)) rfl ?_
          refine EQ.val (fun _ hw => (ix_52 rfl rfl (by omega))) rfl ?_
          refine EQ.val (fun _ hw => (ld_28 rfl (below_load hw (below_load bL cl)))) rfl ?_
          refine EQ.val (fun _ hw => (ln_28 rfl)) rfl ?_
          refine EQ.val (fun _ hw => (x_move rfl)) rfl ?_
          refine EQ.val (fun _ hw => (x_move rfl)) rfl ?_
          refine EQ.val (fun _ hw => (ix_52 rfl rfl (by omega))) rfl ?_
          refine EQ.val (fun _ hw => (ld_28 rfl (below_load hw (below_load bG cg)))) rfl ?_
          refine EQ.val (fun _ hw => (ln_28 rfl)) rfl ?_
          refine EQ.val (fun _ hw => (x_neq rfl rfl (by first | assumption | exact decide_eq_false (by omega)))) rfl ?_
          refine EQ.fin (fun w12 hw_ => ?_)
          replace q1 := q1.below hw_ q1.lt
          replace hbw := Below.on hbw hw_ hbw.size
          replace bL := Below.on bL hw_ bL.size
          replace bG := Below.on bG hw_ bG.size
          clear hw_
          refine EX.seq ?_
          refine EC.no rfl ?_
          refine EC.skip ?_
          refine EX.seq ?_
          refine EC.seq ?_
          refine EC.region ?_
          refine EL.val (x_assign rfl) rfl ?_
          refine EL.nil ?_
          refine EX.seq ?_
          refine EC.block ?_
          refine EC.loopD [2, 12, 113, 114, 115, 116, 117, 118, 119, 120, 121, 122, 123, 124, 125, 126, 127, 128, 129, 130, 131, 132, 133, 134, 135, 136, 137, 138, 139, 140, 141, 142, 143] (fun x : Nat => [(12, .int .i64 (x : Nat))]) (fun x W => x ≤ (sides.getD 0 []).length ∧ Blk W g1 54 #[.slice A rv.reaches.length c, .slice A' rv.shoals.length c', .slice D sides.length d] ∧ Below w.heap.size w W ∧ Below w6.heap.size w6 W ∧ Below w10.heap.size w10 W) (fun x => (sides.getD 0 []).length - x) 0 ⟨Nat.zero_le _, q1, hbw, bL, bG⟩ ⟨rfl, trivial⟩ ?_
          clear q1 hbw bL bG
          rintro k wk ⟨hk, q1, hbw, bL, bG⟩
          by_cases hkl : k < (sides.getD 0 []).length
          ·
            obtain ⟨bl2, ol2, rfl, _, d0, d1⟩ := bds_cells _ k (by rw [lvOf_len]; exact hkl) _ _ _ _ _ hLr
            obtain ⟨bg2, og2, rfl, _, g0, g1⟩ := bds_cells _ k (by rw [flowsOf_len]; exact hkl) _ _ _ _ _ hGr
            rw [lvOf_at _ _ hkl, lvIn] at d0 d1
            rw [flowsOf_at _ _ hkl] at g0 g1
            obtain ⟨br, or_, rfl, _, cc⟩ := reaches_cells hr.reaches i hlt
            have hcv := hr.reaches.curve i hlt
            obtain ⟨As, cs, es, _⟩ := hcv.shape
            rw [es] at cc hcv
            have hfb := flowIn_small hS i (k : Int) hlt (by omega)
            have hx := hS.river.reach i hlt
            refine EC.seq ?_
            refine EC.seq ?_
            refine EC.region ?_
            refine EL.val (x_move rfl) rfl ?_
            refine EL.val (x_move rfl) rfl ?_
            refine EL.val (x_move rfl) rfl ?_
            refine EL.val (ix_52 rfl rfl (by omega)) rfl ?_
            refine EL.val (ld_28 rfl (below_load bL cl)) rfl ?_
            refine EL.val (ln_28 rfl) rfl ?_
            refine EL.val (x_lss rfl rfl (by first | assumption | exact decide_eq_true (by omega))) rfl ?_
            refine EL.nil ?_
            refine EX.seq ?_
            refine EC.yes rfl ?_
            refine EC.skip ?_
            refine EX.seq ?_
            refine EC.seq ?_
            refine EC.block ?_
            refine EC.seq ?_
            refine EC.regionQ (by kernel_rfl) (by kernel_rfl) ?_
            refine EQ.val (fun _ hw => (x_move rfl)) rfl ?_
            refine EQ.val (fun _ hw => (x_move rfl)) rfl ?_
            refine EQ.val (fun _ hw => (ix_52 rfl rfl (by omega))) rfl ?_
            refine EQ.val (fun _ hw => (ld_28 rfl (below_load hw (below_load bL cl)))) rfl ?_
            refine EQ.val (fun _ hw => (x_move rfl)) rfl ?_
            refine EQ.val (fun _ hw => (ix_28 rfl rfl hkl)) rfl ?_
            refine EQ.val (fun _ hw => (ld_23 rfl (below_load hw (below_load bL d0)) (below_load hw (below_load bL d1)))) rfl ?_
            refine EQ.val (fun _ hw => (fa_54_0 rfl)) rfl ?_
            refine EQ.val (fun _ hw => (fa_47_0 rfl)) rfl ?_
            refine EQ.val (fun _ hw => (ld_44 rfl (below_load hw (q1.at (j := 0) rfl)))) rfl ?_
            refine EQ.val (fun _ hw => (x_move rfl)) rfl ?_
            refine EQ.val (fun _ hw => (ix_44 rfl rfl hlt)) rfl ?_
            refine EQ.val (fun _ hw => (ld_50 rfl (below_load hw (below_load hbw cc.c0)) (below_load hw (below_load hbw cc.c1)) (below_load hw (below_load hbw cc.c2)) (below_load hw (below_load hbw cc.c3)) (below_load hw (below_load hbw cc.c4)) (below_load hw (below_load hbw cc.c5)) (below_load hw (below_load hbw cc.c6)) (below_load hw (below_load hbw cc.c7)) (below_load hw (below_load hbw cc.c8)))) rfl ?_
            refine EQ.val (fun _ hw => (x_move rfl)) rfl ?_
            refine EQ.val (fun _ hw => (x_move rfl)) rfl ?_
            refine EQ.val (fun _ hw => (ix_52 rfl rfl (by omega))) rfl ?_
            refine EQ.val (fun _ hw => (ld_28 rfl (below_load hw (below_load bG cg)))) rfl ?_
            refine EQ.val (fun _ hw => (x_move rfl)) rfl ?_
            refine EQ.val (fun _ hw => (ix_28 rfl rfl hkl)) rfl ?_
            refine EQ.val (fun _ hw => (ld_23 rfl (below_load hw (below_load bG g0)) (below_load hw (below_load bG g1)))) rfl ?_
            refine EQ.call (fun _ _ _ ha => cl_31 rfl rfl _ ha) rfl (fun W hw => (rlevel_any (rv.reaches.getD i reach0) _ (flowIn rv.reaches sides i (k : Int)) W B (hcv.below ((hbw.trans (hw.mono hbw.size)).mono hB)) (Nat.le_trans hB (Nat.le_trans hbw.size hw.size)) hx (by omega)).mono fun e w' h => ⟨h.1, hw.trans (h.2.mono hw.size)⟩) ?_
            refine EQ.val (fun _ hw => (neq_23 (r := false) rfl rfl (by simp))) rfl ?_
            refine EQ.fin (fun w13 hw_ => ?_)
            replace q1 := q1.below hw_ q1.lt
            replace hbw := Below.on hbw hw_ hbw.size
            replace bL := Below.on bL hw_ bL.size
            replace bG := Below.on bG hw_ bG.size
            clear hw_
            refine EX.seq ?_
            refine EC.no rfl ?_
            refine EC.skip ?_
            refine EX.blk ?_
            refine EX.seq ?_
            refine EC.region ?_
            refine EL.val (x_move rfl) rfl ?_
            refine EL.val (x_add rfl rfl (by first | assumption | exact IntWalk.i64_in _ ⟨by omega, by omega⟩)) rfl ?_
            refine EL.val (x_assign rfl) rfl ?_
            refine EL.nil ?_
            refine EX.roundD (k + 1) ⟨rfl, trivial⟩ (by repeat first | exact Sub.refl _ | refine sub_past rfl ?_ | refine sub_del rfl ?_ | refine sub_insL_nil ?_) ⟨hkl, q1, hbw, bL, bG⟩ (by omega)
          ·
            refine EC.seq ?_
            refine EC.seq ?_
            refine EC.region ?_
            refine EL.val (x_move rfl) rfl ?_
            refine EL.val (x_move rfl) rfl ?_
            refine EL.val (x_move rfl) rfl ?_
            refine EL.val (ix_52 rfl rfl (by omega)) rfl ?_
            refine EL.val (ld_28 rfl (below_load bL cl)) rfl ?_
            refine EL.val (ln_28 rfl) rfl ?_
            refine EL.val (x_lss rfl rfl (by first | assumption | exact decide_eq_false (by omega))) rfl ?_
            refine EL.nil ?_
            refine EX.seq ?_
            refine EC.no rfl ?_
            refine EC.exit ?_
            refine EX.seq_exit ?_
            refine EX.seq_exit ?_
            refine EX.blk_here ?_
            refine EX.blk ?_
            refine EX.seq ?_
            refine EC.region ?_
            refine EL.val (x_move rfl) rfl ?_
            refine EL.val (x_add rfl rfl (by first | assumption | exact IntWalk.i64_in _ ⟨by omega, by omega⟩)) rfl ?_
            refine EL.val (x_assign rfl) rfl ?_
            refine EL.nil ?_
            refine EX.roundD (i + 1) ⟨rfl, trivial⟩ (by repeat first | exact Sub.refl _ | refine sub_past rfl ?_ | refine sub_del rfl ?_ | refine sub_insL_nil ?_) ⟨hlt, q1, hbw, bL, bG⟩ (by omega)
        ·
          refine EC.seq ?_
          refine EC.seq ?_
          refine EC.region ?_
          refine EL.val (x_move rfl) rfl ?_
          refine EL.val (x_move rfl) rfl ?_
          refine EL.val (ln_52 rfl) rfl ?_
          refine EL.val (x_lss rfl rfl (by first | assumption | exact decide_eq_false (by omega))) rfl ?_
          refine EL.nil ?_
          refine EX.seq ?_
          refine EC.no rfl ?_
          refine EC.exit ?_
          refine EX.seq_exit ?_
          refine EX.seq_exit ?_
          refine EX.blk_here ?_
          refine EX.seq ?_
          refine EC.seq ?_
          refine EC.region ?_
          refine EL.call cl_16 rfl (known_any _) ?_
          rintro e w14 ⟨rfl, hc14⟩
          refine ⟨_, rfl, ?_⟩
          replace q1 := q1.below hc14 q1.lt
          replace hbw := Below.on hbw hc14 hbw.size
          replace bL := Below.on bL hc14 bL.size
          replace bG := Below.on bG hc14 bG.size
          clear hc14
          refine EL.val (x_assign rfl) rfl ?_
          refine EL.nil ?_
          refine EX.seq ?_
          refine EC.ret ?_
          exact EX.done (res1 rfl rfl) ⟨rfl, hbw⟩
      ·
        refine EL.call (cl_40 rfl rfl) rfl (flows_any rv sides _ _ _ _ _ _ _ q2_.rd q5_.rd (Nat.le_refl _) (by omega) (by omega) f3 (by omega) f4) ?_
        rintro e w15 ⟨⟨vF, fF, rfl, hnF, hyF⟩, hc15⟩
        refine ⟨_, rfl, ?_⟩
        replace q1 := q1.below hc15 q1.lt
        replace qa6_3 := qa6_3.below hc15 qa6_3.lt
        replace q2_ := q2_.below hc15
        replace q5_ := OwnSides.below q5_ hc15
        replace hbw := Below.on hbw hc15 hbw.size
        clear hc15
        obtain rfl := hnF hst
        clear hnF hyF
        refine EL.val (x_move rfl) rfl ?_
        refine EL.val (x_extract rfl rfl) rfl ?_
        refine EL.val (x_extract rfl rfl) rfl ?_
        refine EL.val (x_assign rfl) rfl ?_
        refine EL.val (x_assign rfl) rfl ?_
        refine EL.nil ?_
        refine EX.seq ?_
        refine EC.seq ?_
        refine EC.region ?_
        refine EL.val (ld_47 rfl (qa6_3.at (j := 0) rfl) (qa6_3.at (j := 1) rfl)) rfl ?_
        refine EL.val (x_move rfl) rfl ?_
        refine EL.call (cl_41 rfl rfl) rfl (levels_any rv sides _ _ _ _ _ _ _ q2_.rd q5_.rd (Nat.le_refl _) (by omega) (by omega) f3 (by omega) f4) ?_
        rintro e w16 ⟨⟨vL, fL, rfl, hnL, hyL⟩, hc16⟩
        refine ⟨_, rfl, ?_⟩
        replace q1 := q1.below hc16 q1.lt
        replace qa6_3 := qa6_3.below hc16 qa6_3.lt
        replace q2_ := q2_.below hc16
        replace q5_ := OwnSides.below q5_ hc16
        replace hbw := Below.on hbw hc16 hbw.size
        clear hc16
        obtain rfl := hnL hst
        clear hnL hyL
        refine EL.val (x_move rfl) rfl ?_
        refine EL.val (x_extract rfl rfl) rfl ?_
        refine EL.val (x_extract rfl rfl) rfl ?_
        refine EL.val (x_assign rfl) rfl ?_
        refine EL.val (x_assign rfl) rfl ?_
        refine EL.nil ?_
        refine EX.seq ?_
        refine EC.seq ?_
        refine EC.seq ?_
        refine EC.region ?_
        refine EL.val (ld_47 rfl (qa6_3.at (j := 0) rfl) (qa6_3.at (j := 1) rfl)) rfl ?_
        refine EL.val (fa_54_0 rfl) rfl ?_
        refine EL.val (ld_47 rfl (q1.at (j := 0) rfl) (q1.at (j := 1) rfl)) rfl ?_
        refine EL.call (cl_27 rfl rfl) rfl (unchanged_eq rv _ _ _ _ _ vs _ _ B q2_.rd (hr.below (hbw.mono hB)) (Nat.le_refl _) (Nat.le_trans hB hbw.size) (by omega) (by omega) f3) ?_
        rintro e w17 ⟨rfl, hc17⟩
        refine ⟨_, rfl, ?_⟩
        replace q1 := q1.below hc17 q1.lt
        replace qa6_3 := qa6_3.below hc17 qa6_3.lt
        replace q2_ := q2_.below hc17
        replace q5_ := OwnSides.below q5_ hc17
        replace hbw := Below.on hbw hc17 hbw.size
        clear hc17
        refine EL.val (x_not rfl) rfl ?_
        refine EL.val (x_move rfl) rfl ?_
        refine EL.valg rfl rfl (x_move rfl) rfl ?_
        refine EL.valg rfl rfl (fa_54_1 rfl) rfl ?_
        refine EL.valg rfl rfl (ld_52 rfl (q1.at (j := 2) rfl)) rfl ?_
        refine EL.callg rfl rfl (cl_42 rfl rfl) rfl (equal_eq sides _ _ _ ss _ _ B q5_.rd (hs.below (hbw.mono hB)) (Nat.le_refl _) (Nat.le_trans hB hbw.size) (by omega) f4) ?_
        rintro e w18 ⟨rfl, hc18⟩
        refine ⟨_, rfl, ?_⟩
        replace q1 := q1.below hc18 q1.lt
        replace qa6_3 := qa6_3.below hc18 qa6_3.lt
        replace q2_ := q2_.below hc18
        replace q5_ := OwnSides.below q5_ hc18
        replace hbw := Below.on hbw hc18 hbw.size
        clear hc18
        refine EL.valg rfl rfl (x_not rfl) rfl ?_
        refine EL.val (x_pick_f rfl rfl) rfl ?_
        refine EL.nil ?_
        refine EX.seq ?_
        refine EC.no rfl ?_
        refine EC.skip ?_
        refine EX.seq ?_
        refine EC.seq ?_
        refine EC.seq ?_
        refine EC.region ?_
        refine EL.val (fa_54_0 rfl) rfl ?_
        refine EL.val (ld_47 rfl (q1.at (j := 0) rfl) (q1.at (j := 1) rfl)) rfl ?_
        refine EL.val (fa_54_1 rfl) rfl ?_
        refine EL.val (ld_52 rfl (q1.at (j := 2) rfl)) rfl ?_
        refine EL.call (cl_38 rfl rfl) rfl (rstart_any rv sides _ _ _ vs ss _ B (hr.below (hbw.mono hB)) (hs.below (hbw.mono hB)) (Nat.le_trans hB hbw.size) (by omega) (by omega) f3 (by omega) f4) ?_
        rintro e w19 ⟨rfl, hc19⟩
        refine ⟨_, rfl, ?_⟩
        replace q1 := q1.below hc19 q1.lt
        replace qa6_3 := qa6_3.below hc19 qa6_3.lt
        replace q2_ := q2_.below hc19
        replace q5_ := OwnSides.below q5_ hc19
        replace hbw := Below.on hbw hc19 hbw.size
        clear hc19
        refine EL.val (x_assign rfl) rfl ?_
        refine EL.nil ?_
        refine EX.seq ?_
        refine EC.seq ?_
        refine EC.region ?_
        refine EL.val (x_move rfl) rfl ?_
        refine EL.val (x_neq rfl rfl (by first | assumption | exact decide_eq_true (by omega))) rfl ?_
        refine EL.nil ?_
        refine EX.seq ?_
        refine EC.yes rfl ?_
        refine EC.seq ?_
        refine EC.region ?_
        refine EL.val (x_move rfl) rfl ?_
        refine EL.val (x_move rfl) rfl ?_
        refine EL.val (x_eql rfl rfl (by first | assumption | exact decide_eq_true (by omega))) rfl ?_
        refine EL.val (x_move rfl) rfl ?_
        refine EL.valg rfl rfl (x_move rfl) rfl ?_
        refine EL.valg rfl rfl (x_move rfl) rfl ?_
        refine EL.valg rfl rfl (x_eql rfl rfl (by first | assumption | exact decide_eq_true (by omega))) rfl ?_
        refine EL.val (x_pick_t rfl rfl) rfl ?_
        refine EL.val (x_move rfl) rfl ?_
        refine EL.valg rfl rfl (x_move rfl) rfl ?_
        refine EL.valg rfl rfl (ln_52 rfl) rfl ?_
        refine EL.valg rfl rfl (x_move rfl) rfl ?_
        refine EL.valg rfl rfl (ln_52 rfl) rfl ?_
        refine EL.valg rfl rfl (x_add rfl rfl (by first | assumption | exact IntWalk.i64_in _ ⟨by omega, by omega⟩)) rfl ?_
        refine EL.valg rfl rfl (x_eql rfl rfl (by first | assumption | exact decide_eq_true (by omega))) rfl ?_
        refine EL.val (x_pick_t rfl rfl) rfl ?_
        refine EL.val (x_move rfl) rfl ?_
        refine EL.callg rfl rfl cl_16 rfl (known_any _) ?_
        rintro e w20 ⟨rfl, hc20⟩
        refine ⟨_, rfl, ?_⟩
        replace q1 := q1.below hc20 q1.lt
        replace qa6_3 := qa6_3.below hc20 qa6_3.lt
        replace q2_ := q2_.below hc20
        replace q5_ := OwnSides.below q5_ hc20
        replace hbw := Below.on hbw hc20 hbw.size
        clear hc20
        refine EL.val (x_pick_t rfl rfl) rfl ?_
        refine EL.val (x_assign rfl) rfl ?_
        refine EL.nil ?_
        refine EX.seq ?_
        refine EC.ret ?_
        refine EX.seq_ret ?_
        exact EX.done (res1 rfl rfl) ⟨rfl, hbw⟩
end Go.Proofs.Ytncnlhkmdljgpaa
