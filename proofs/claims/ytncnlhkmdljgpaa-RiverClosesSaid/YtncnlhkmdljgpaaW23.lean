/- River: the law RiverCloses, its walk (printed by gen_w23.py). -/
import Derived.Test.YtncnlhkmdljgpaaW22
import Derived.Test.YtncnlhkmdljgpaaExR23
set_option linter.unusedVariables false
set_option linter.unusedSimpArgs false
namespace Go.Proofs.Ytncnlhkmdljgpaa
open Go Go.RowKit

theorem clos_info : (Try.prog.info? 90).map (fun i => (i.zero, i.size, i.bytes)) = some (some (.agg #[.int .i64 0, .int .i64 0, .int .i64 0, .int .i64 0, .int .i64 0, .int .i64 0]), 6, 48) := by kernel_rfl
theorem clos_elem : Elem Try.prog 86 90 6 48 := Elem.mk' Try.underlying86 clos_info rfl (by omega)
section
variable {n : Nat} {σ : Sg} {w : World} {dst : Option Tmp} {ty : TypeId} {pos : String} {af : Array Edge} {g : Option (Nat × Bool)} {x y : Operand} {t' : TypeId}
theorem eql_bool {p q r : Bool} (hx : evS σ x = some (.bool p)) (hy : evS σ y = some (.bool q)) (hr : (p == q) = r) : Gives Try.prog n σ w ⟨dst, .binOp .eql 4 x y t', ty, pos, af, g⟩ (.bool r) := fun a ha => by
  subst hr
  simp only [execOp, ha.eval hx, ha.eval hy]
  cases p <;> cases q <;> simp [go_sem]
end

set_option maxHeartbeats 8000000 in
set_option maxRecDepth 100000 in
theorem closes_law (rv : River) (sides : List (List Bd)) (v u s : Value) (vs ss : List Value) (l : List Clos) (vl : Value) (p t : Int) (w : World) (B : Nat) (hr : RdRiver w B v u rv vs) (hs : RdSides w B s sides ss) (hB : B ≤ w.heap.size) (hcl : Rd w B 6 vl l.length (closesC l)) :
    Calls Try.prog 11 #[.agg #[v, u, s], vl, .agg #[.int .i64 p, .int .i64 t]] w fun e w' => e = .returned (.bool true) ∧ Below w.heap.size w w' := by
  obtain ⟨Ac, cac, rfl, _⟩ := hcl.shape
  obtain ⟨A, c, rfl, _⟩ := hr.reaches.shape
  obtain ⟨A', c', rfl, _⟩ := hr.shoals.shape
  obtain ⟨D, d, rfl, _⟩ := hs.rd.shape
  have hbw := Below.refl w.heap.size w
  refine EC.enter 138 Try.func11 rfl rfl rfl ?_
  refine EC.seq ?_
  refine EC.region ?_
  refine EL.newP (bx_54 rfl) rfl ?_
  intro g1 w1 q1 hb1 hg1 hl1
  have bhbw_1 := Nat.le_trans hbw.size hg1
  replace hbw := Below.on hbw hb1 hbw.size
  clear hb1 hg1 hl1
  refine EL.newP (bx_79 rfl) rfl ?_
  intro g2 w2 q2 hb2 hg2 hl2
  have n1_2 : g1 ≠ g2 := Nat.ne_of_lt (Nat.lt_of_lt_of_le q1.lt hg2)
  have bhbw_2 := Nat.le_trans hbw.size hg2
  replace q1 := q1.below hb2 q1.lt
  replace hbw := Below.on hbw hb2 hbw.size
  clear hb2 hg2 hl2
  refine EL.val (x_assign rfl) rfl ?_
  refine EL.nil ?_
  refine EX.seq ?_
  refine EC.seq ?_
  refine EC.seq ?_
  refine EC.region ?_
  refine EL.val (ld_54 rfl (q1.at (j := 0) rfl) (q1.at (j := 1) rfl) (q1.at (j := 2) rfl)) rfl ?_
  refine EL.call (cl_23 rfl) rfl (large_any rv sides _ _ _ vs ss _ _ (hr.below (hbw.mono hB)) (hs.below (hbw.mono hB)) (Nat.le_trans hB hbw.size)) ?_
  rintro e w_l ⟨rfl | ⟨rfl, hfine⟩, hc_⟩
  ·
    refine ⟨_, rfl, ?_⟩
    replace q1 := q1.below hc_ q1.lt
    replace q2 := q2.below hc_ q2.lt
    replace hbw := Below.on hbw hc_ hbw.size
    clear hc_
    refine EL.val (x_move rfl) rfl ?_
    refine EL.skip rfl rfl rfl rfl ?_
    refine EL.skip rfl rfl rfl rfl ?_
    refine EL.skip rfl rfl rfl rfl ?_
    refine EL.val (x_pick_t rfl rfl) rfl ?_
    refine EL.nil ?_
    refine EX.seq ?_
    refine EC.yes rfl ?_
    refine EC.seq ?_
    refine EC.region ?_
    refine EL.call cl_16 rfl (known_any _) ?_
    rintro e w3 ⟨rfl, hc3⟩
    refine ⟨_, rfl, ?_⟩
    replace q1 := q1.below hc3 q1.lt
    replace q2 := q2.below hc3 q2.lt
    replace hbw := Below.on hbw hc3 hbw.size
    clear hc3
    refine EL.val (x_assign rfl) rfl ?_
    refine EL.nil ?_
    refine EX.seq ?_
    refine EC.ret ?_
    refine EX.seq_ret ?_
    exact EX.done (res1 rfl rfl) ⟨rfl, hbw⟩
  ·
    have f1 := hfine.nreaches
    have f2 := hfine.nshoals
    have f3 := hfine.curves
    have f4 := hfine.sidesB
    have f5 := hfine.nsides
    refine ⟨_, rfl, ?_⟩
    replace q1 := q1.below hc_ q1.lt
    replace q2 := q2.below hc_ q2.lt
    replace hbw := Below.on hbw hc_ hbw.size
    clear hc_
    refine EL.val (x_move rfl) rfl ?_
    refine EL.valg rfl rfl (x_move rfl) rfl ?_
    refine EL.valg rfl rfl (ln_86 rfl) rfl ?_
    by_cases h50 : 50 < l.length
    ·
      refine EL.valg rfl rfl (x_gtr rfl rfl (by first | assumption | exact decide_eq_true (by omega))) rfl ?_
      refine EL.val (x_pick_f rfl rfl) rfl ?_
      refine EL.nil ?_
      refine EX.seq ?_
      refine EC.yes rfl ?_
      refine EC.seq ?_
      refine EC.region ?_
      refine EL.call cl_16 rfl (known_any _) ?_
      rintro e w4 ⟨rfl, hc4⟩
      refine ⟨_, rfl, ?_⟩
      replace q1 := q1.below hc4 q1.lt
      replace q2 := q2.below hc4 q2.lt
      replace hbw := Below.on hbw hc4 hbw.size
      clear hc4
      refine EL.val (x_assign rfl) rfl ?_
      refine EL.nil ?_
      refine EX.seq ?_
      refine EC.ret ?_
      refine EX.seq_ret ?_
      exact EX.done (res1 rfl rfl) ⟨rfl, hbw⟩
    ·
      refine EL.valg rfl rfl (x_gtr rfl rfl (by first | assumption | exact decide_eq_false (by omega))) rfl ?_
      refine EL.val (x_pick_f rfl rfl) rfl ?_
      refine EL.nil ?_
      refine EX.seq ?_
      refine EC.no rfl ?_
      refine EC.skip ?_
      refine EX.seq ?_
      refine EC.seq ?_
      refine EC.region ?_
      have lo_1 := q1.lt
      have lo_2 := q2.lt
      have sz_hbw := hbw.size
      refine EL.newS bs_86_0 rfl ?_
      intro g5 w5 q5 hb5 hg5 hl5
      have n1_5 : g1 ≠ g5 := Nat.ne_of_lt (Nat.lt_of_lt_of_le q1.lt hg5)
      have n2_5 : g2 ≠ g5 := Nat.ne_of_lt (Nat.lt_of_lt_of_le q2.lt hg5)
      have bhbw_5 := Nat.le_trans hbw.size hg5
      replace q1 := q1.below hb5 q1.lt
      replace q2 := q2.below hb5 q2.lt
      replace hbw := Below.on hbw hb5 hbw.size
      clear hb5 hl5
      have oin := own_empty (base := w_l.heap.size) 6 q5 hg5
      refine EL.val (x_move rfl) rfl ?_
      refine EL.push clos_elem rfl rfl oin (hcl.below (hbw.mono hB)) (closesC_one _) (by omega) rfl (Nat.le_trans hg5 (Nat.le_of_lt q5.lt)) rfl ?_
      intro vin w6 ho hgr6 hb6 _
      replace q1 := q1.below hb6 lo_1
      replace q2 := q2.below hb6 lo_2
      replace hbw := hbw.trans (hb6.mono sz_hbw)
      rw [Nat.zero_add, List.nil_append] at ho
      obtain ⟨Aho, cho, ei, _⟩ := (Rd.of_own ho).shape
      subst ei
      clear oin
      refine EL.val (x_assign rfl) rfl ?_
      refine EL.nil ?_
      refine EX.seq ?_
      refine EC.seq ?_
      have lt_1 := q1.lt
      have lt_2 := q2.lt
      refine EC.regionP [[], [0], [0, 1], [], [3], [0, 1, 2, 3, 4], [], [], [7], [], [9], [0, 1, 2, 3, 4, 5, 6, 7, 8, 9, 10], [0, 1, 2, 3, 4, 5, 6, 7, 8, 9, 10, 11], [0, 1, 2, 3, 4, 5, 6, 7, 8, 9, 10, 11, 12], [0, 1, 2, 3, 4, 5, 6, 7, 8, 9, 10, 11, 12], [0, 1, 2, 3, 4, 5, 6, 7, 8, 9, 10, 11, 12], [0, 1, 2, 3, 4, 5, 6, 7, 8, 9, 10, 11, 12, 13], [0, 1, 2, 3, 4, 5, 6, 7, 8, 9, 10, 11, 12, 13, 14, 16], [0, 1, 2, 3, 4, 5, 6, 7, 8, 9, 10, 11, 12, 13, 14, 15, 16, 17]] 18 [] (phi (fun i_ r => match i_ with | 0 => r 0 = .pointer (some ⟨g1, 0, none⟩) | 1 => r 1 = .agg #[.slice A rv.reaches.length c, .slice A' rv.shoals.length c'] | 3 => r 3 = .pointer (some ⟨g1, 2, none⟩) | 4 => r 4 = .slice D sides.length d | 6 => r 6 = .slice Aho l.length cho | 7 => r 7 = .pointer (some ⟨g2, 0, none⟩) | 8 => r 8 = .int .i64 p | 9 => r 9 = .pointer (some ⟨g2, 1, none⟩) | 10 => r 10 = .int .i64 t | 11 => r 11 = .tuple #[.bool (cldMay rv sides l p t), .bool (cldMust rv sides l p t), .int .i64 (cldErr rv sides l p t)] | 12 => r 12 = .tuple #[.bool (cldMay rv sides l p t), .bool (cldMust rv sides l p t), .int .i64 (cldErr rv sides l p t)] | 13 => r 13 = .bool (cldMay rv sides l p t) | 14 => r 14 = .bool (cldMust rv sides l p t) | 15 => r 15 = .int .i64 (cldErr rv sides l p t) | 16 => r 16 = .bool (cldMay rv sides l p t) | 17 => r 17 = .bool (cldMust rv sides l p t) | _ => True) [(2, fun r w_ => ∃ a b vs, r 2 = .agg #[a, b] ∧ RdRiver w_ w_.heap.size a b rv vs), (5, fun r w_ => ∃ v ss, r 5 = v ∧ RdSides w_ w_.heap.size v sides ss)]) (by kernel_rfl) rfl rfl (phi_cons mono_riv (phi_cons mono_sid (phi_nil))) (fun i_ hi_ => ?_) ?_
      · match i_, hi_ with
        | 0, _ =>
          intro val w1 a hb ha hd
          have ha := ha.sub (Sub.ins (d := 3) (Sub.nil _) rfl)
          exact hs_val ha rfl rfl (fa_54_0 rfl) rfl rfl
        | 1, _ =>
          intro val w1 a hb ha hd
          have e0 : val 0 = .pointer (some ⟨g1, 0, none⟩) := hd 0 (memB_mem.1 rfl)
          have ha := ha.sub (Sub.ins (d := 27) (Sub.nil _) (dep_get rfl e0))
          exact hs_val ha rfl rfl (ld_47 rfl ((q1.below hb q1.lt).at (j := 0) rfl) ((q1.below hb q1.lt).at (j := 1) rfl)) rfl rfl
        | 2, _ =>
          intro val w1 a hb ha hd
          have e1 : val 1 = .agg #[.slice A rv.reaches.length c, .slice A' rv.shoals.length c'] := hd 1 (memB_mem.1 rfl)
          have ha := ha.sub (Sub.ins (d := 28) (Sub.nil _) (dep_get rfl e1))
          refine hs_call ha rfl rfl (cl_24 rfl) (copied_any rv _ _ vs _ B (hr.below ((Below.on hbw hb hbw.size).mono hB)) (Nat.le_trans hB (Below.on hbw hb hbw.size).size) (by omega) (by omega) f3) rfl ?_
          rintro e w' ⟨⟨v1, u1, vs1, rfl, hcp⟩, hb'⟩
          exact ⟨_, rfl, hb', ⟨_, _, _, rfl, hcp⟩⟩
        | 3, _ =>
          intro val w1 a hb ha hd
          have ha := ha.sub (Sub.ins (d := 3) (Sub.nil _) rfl)
          exact hs_val ha rfl rfl (fa_54_1 rfl) rfl rfl
        | 4, _ =>
          intro val w1 a hb ha hd
          have e3 : val 3 = .pointer (some ⟨g1, 2, none⟩) := hd 3 (memB_mem.1 rfl)
          have ha := ha.sub (Sub.ins (d := 30) (Sub.nil _) (dep_get rfl e3))
          exact hs_val ha rfl rfl (ld_52 rfl ((q1.below hb q1.lt).at (j := 2) rfl)) rfl rfl
        | 5, _ =>
          intro val w1 a hb ha hd
          have e4 : val 4 = .slice D sides.length d := hd 4 (memB_mem.1 rfl)
          have ha := ha.sub (Sub.ins (d := 31) (Sub.nil _) (dep_get rfl e4))
          refine hs_call ha rfl rfl (cl_34 rfl) (forecast_any sides _ ss _ B (hs.below ((Below.on hbw hb hbw.size).mono hB)) (Nat.le_trans hB (Below.on hbw hb hbw.size).size) (by omega) f4) rfl ?_
          rintro e w' ⟨⟨v1, ss1, rfl, hcp⟩, hb'⟩
          exact ⟨_, rfl, hb', ⟨_, _, rfl, hcp⟩⟩
        | 6, _ =>
          intro val w1 a hb ha hd
          have ha := ha.sub (Sub.ins (d := 7) (Sub.nil _) rfl)
          exact hs_val ha rfl rfl (x_move rfl) rfl rfl
        | 7, _ =>
          intro val w1 a hb ha hd
          have ha := ha.sub (Sub.ins (d := 5) (Sub.nil _) rfl)
          exact hs_val ha rfl rfl (ixa_79 (k := 0) rfl rfl (by omega)) rfl rfl
        | 8, _ =>
          intro val w1 a hb ha hd
          have e7 : val 7 = .pointer (some ⟨g2, 0, none⟩) := hd 7 (memB_mem.1 rfl)
          have ha := ha.sub (Sub.ins (d := 34) (Sub.nil _) (dep_get rfl e7))
          exact hs_val ha rfl rfl (ld_3 rfl ((q2.below hb q2.lt).at (j := 0) rfl)) rfl rfl
        | 9, _ =>
          intro val w1 a hb ha hd
          have ha := ha.sub (Sub.ins (d := 5) (Sub.nil _) rfl)
          exact hs_val ha rfl rfl (ixa_79 (k := 1) rfl rfl (by omega)) rfl rfl
        | 10, _ =>
          intro val w1 a hb ha hd
          have e9 : val 9 = .pointer (some ⟨g2, 1, none⟩) := hd 9 (memB_mem.1 rfl)
          have ha := ha.sub (Sub.ins (d := 36) (Sub.nil _) (dep_get rfl e9))
          exact hs_val ha rfl rfl (ld_3 rfl ((q2.below hb q2.lt).at (j := 1) rfl)) rfl rfl
        | 11, _ =>
          intro val w1 a hb ha hd
          obtain ⟨a2_, b2_, vs2_, e2, q2_⟩ := hd 2 (memB_mem.1 rfl)
          obtain ⟨v5_, ss5_, e5, q5_⟩ := hd 5 (memB_mem.1 rfl)
          have e6 : val 6 = .slice Aho l.length cho := hd 6 (memB_mem.1 rfl)
          have e8 : val 8 = .int .i64 p := hd 8 (memB_mem.1 rfl)
          have e10 : val 10 = .int .i64 t := hd 10 (memB_mem.1 rfl)
          have ha := ha.sub (Sub.ins (d := 37) (Sub.ins (d := 35) (Sub.ins (d := 33) (Sub.ins (d := 32) (Sub.ins (d := 29) (Sub.nil _) (dep_get rfl e2)) (dep_get rfl e5)) (dep_get rfl e6)) (dep_get rfl e8)) (dep_get rfl e10))
          refine hs_call ha rfl rfl (cl_48 rfl rfl rfl rfl rfl) (closed_any rv sides _ _ _ _ _ l _ p t _ w1.heap.size q2_ q5_ (Nat.le_refl _) (Rd.of_own (own_below ho hb (Nat.le_refl _))) (by omega) (by omega) f3 (by omega) f4) rfl ?_
          rintro e w' ⟨rfl, hb'⟩
          exact ⟨_, rfl, hb', rfl⟩
        | 12, _ =>
          intro val w1 a hb ha hd
          have e11 : val 11 = .tuple #[.bool (cldMay rv sides l p t), .bool (cldMust rv sides l p t), .int .i64 (cldErr rv sides l p t)] := hd 11 (memB_mem.1 rfl)
          have ha := ha.sub (Sub.ins (d := 38) (Sub.nil _) (dep_get rfl e11))
          exact hs_val ha rfl rfl (x_move rfl) rfl rfl
        | 13, _ =>
          intro val w1 a hb ha hd
          have e12 : val 12 = .tuple #[.bool (cldMay rv sides l p t), .bool (cldMust rv sides l p t), .int .i64 (cldErr rv sides l p t)] := hd 12 (memB_mem.1 rfl)
          have ha := ha.sub (Sub.ins (d := 26) (Sub.nil _) (dep_get rfl e12))
          exact hs_val ha rfl rfl (x_extract rfl rfl) rfl rfl
        | 14, _ =>
          intro val w1 a hb ha hd
          have e12 : val 12 = .tuple #[.bool (cldMay rv sides l p t), .bool (cldMust rv sides l p t), .int .i64 (cldErr rv sides l p t)] := hd 12 (memB_mem.1 rfl)
          have ha := ha.sub (Sub.ins (d := 26) (Sub.nil _) (dep_get rfl e12))
          exact hs_val ha rfl rfl (x_extract rfl rfl) rfl rfl
        | 15, _ =>
          intro val w1 a hb ha hd
          have e12 : val 12 = .tuple #[.bool (cldMay rv sides l p t), .bool (cldMust rv sides l p t), .int .i64 (cldErr rv sides l p t)] := hd 12 (memB_mem.1 rfl)
          have ha := ha.sub (Sub.ins (d := 26) (Sub.nil _) (dep_get rfl e12))
          exact hs_val ha rfl rfl (x_extract rfl rfl) rfl rfl
        | 16, _ =>
          intro val w1 a hb ha hd
          have e13 : val 13 = .bool (cldMay rv sides l p t) := hd 13 (memB_mem.1 rfl)
          have ha := ha.sub (Sub.ins (d := 39) (Sub.nil _) (dep_get rfl e13))
          exact hs_val ha rfl rfl (x_assign rfl) rfl rfl
        | 17, _ =>
          intro val w1 a hb ha hd
          have e14 : val 14 = .bool (cldMust rv sides l p t) := hd 14 (memB_mem.1 rfl)
          have ha := ha.sub (Sub.ins (d := 40) (Sub.nil _) (dep_get rfl e14))
          exact hs_val ha rfl rfl (x_assign rfl) rfl rfl
        | k + 18, h => exact absurd h (by omega)
      · intro val wR4 hb halc hd
        have e0 : val 0 = .pointer (some ⟨g1, 0, none⟩) := hd 0 (by omega)
        have e1 : val 1 = .agg #[.slice A rv.reaches.length c, .slice A' rv.shoals.length c'] := hd 1 (by omega)
        obtain ⟨a2_, b2_, vs2_, e2, q2_⟩ := hd 2 (by omega)
        have e3 : val 3 = .pointer (some ⟨g1, 2, none⟩) := hd 3 (by omega)
        have e4 : val 4 = .slice D sides.length d := hd 4 (by omega)
        obtain ⟨v5_, ss5_, e5, q5_⟩ := hd 5 (by omega)
        have e6 : val 6 = .slice Aho l.length cho := hd 6 (by omega)
        have e7 : val 7 = .pointer (some ⟨g2, 0, none⟩) := hd 7 (by omega)
        have e8 : val 8 = .int .i64 p := hd 8 (by omega)
        have e9 : val 9 = .pointer (some ⟨g2, 1, none⟩) := hd 9 (by omega)
        have e10 : val 10 = .int .i64 t := hd 10 (by omega)
        have e11 : val 11 = .tuple #[.bool (cldMay rv sides l p t), .bool (cldMust rv sides l p t), .int .i64 (cldErr rv sides l p t)] := hd 11 (by omega)
        have e12 : val 12 = .tuple #[.bool (cldMay rv sides l p t), .bool (cldMust rv sides l p t), .int .i64 (cldErr rv sides l p t)] := hd 12 (by omega)
        have e13 : val 13 = .bool (cldMay rv sides l p t) := hd 13 (by omega)
        have e14 : val 14 = .bool (cldMust rv sides l p t) := hd 14 (by omega)
        have e15 : val 15 = .int .i64 (cldErr rv sides l p t) := hd 15 (by omega)
        have e16 : val 16 = .bool (cldMay rv sides l p t) := hd 16 (by omega)
        have e17 : val 17 = .bool (cldMust rv sides l p t) := hd 17 (by omega)
        refine EL.ends (cs := [.pointer (some ⟨g1, 0, none⟩), .agg #[.slice A rv.reaches.length c, .slice A' rv.shoals.length c'], .agg #[a2_, b2_], .pointer (some ⟨g1, 2, none⟩), .slice D sides.length d, v5_, .slice Aho l.length cho, .pointer (some ⟨g2, 0, none⟩), .int .i64 p, .pointer (some ⟨g2, 1, none⟩), .int .i64 t, .tuple #[.bool (cldMay rv sides l p t), .bool (cldMust rv sides l p t), .int .i64 (cldErr rv sides l p t)], .tuple #[.bool (cldMay rv sides l p t), .bool (cldMust rv sides l p t), .int .i64 (cldErr rv sides l p t)], .bool (cldMay rv sides l p t), .bool (cldMust rv sides l p t), .int .i64 (cldErr rv sides l p t), .bool (cldMay rv sides l p t), .bool (cldMust rv sides l p t)]) ⟨e0, e1, e2, e3, e4, e5, e6, e7, e8, e9, e10, e11, e12, e13, e14, e15, e16, e17, trivial⟩ rfl ?_
        replace q1 := q1.below hb q1.lt
        replace q2 := q2.below hb q2.lt
        replace ho := own_below ho hb (Nat.le_refl _)
        replace hbw := Below.on hbw hb hbw.size
        clear hb
        refine EL.val (x_assign rfl) rfl ?_
        refine EL.nil ?_
        refine EX.seq ?_
        refine EC.seq ?_
        refine EC.seq ?_
        refine EC.region ?_
        refine EL.val (x_assign rfl) rfl ?_
        refine EL.nil ?_
        refine EX.seq ?_
        refine EC.block ?_
        refine EC.loopD [6, 11, 42, 43, 44, 45, 46, 47, 48, 49, 50, 51, 52, 53, 54, 55, 56] (fun x : Nat => [(11, .int .i64 (x : Nat))]) (fun x W => x ≤ l.length ∧ Blk W g1 54 #[.slice A rv.reaches.length c, .slice A' rv.shoals.length c', .slice D sides.length d] ∧ Blk W g2 79 #[.int .i64 p, .int .i64 t] ∧ Rd W wR4.heap.size 6 (.slice Aho l.length cho) l.length (closesC l) ∧ wR4.heap.size ≤ W.heap.size ∧ Below w.heap.size w W) (fun x => l.length - x) 0 ⟨Nat.zero_le _, q1, q2, Rd.of_own ho, Nat.le_refl _, hbw⟩ ⟨rfl, trivial⟩ ?_
        clear q1 q2 ho hbw
        rintro x wr ⟨hx, q1, q2, hrd, hsz, hbw⟩
        by_cases hlt : x < l.length
        ·
          obtain ⟨b1, o1, rfl, _, cc⟩ := closes_cells l x hlt _ _ _ _ _ hrd
          obtain ⟨b2, o2, rfl, _, cd⟩ := closes_cells l x hlt _ _ _ _ _ hcl
          refine EC.seq ?_
          refine EC.seq ?_
          refine EC.region ?_
          refine EL.val (x_move rfl) rfl ?_
          refine EL.val (x_move rfl) rfl ?_
          refine EL.val (ln_86 rfl) rfl ?_
          refine EL.val (x_lss rfl rfl (by first | assumption | exact decide_eq_true (by omega))) rfl ?_
          refine EL.nil ?_
          refine EX.seq ?_
          refine EC.yes rfl ?_
          refine EC.skip ?_
          refine EX.seq ?_
          refine EC.seq ?_
          refine EC.block ?_
          refine EC.seq ?_
          refine EC.regionQ (by kernel_rfl) (by kernel_rfl) ?_
          refine EQ.val (fun _ hw => (x_move rfl)) rfl ?_
          refine EQ.val (fun _ hw => (x_move rfl)) rfl ?_
          refine EQ.val (fun _ hw => (ix_86 rfl rfl hlt)) rfl ?_
          refine EQ.val (fun _ hw => (ld_90 rfl (below_load hw cc.c0) (below_load hw cc.c1) (below_load hw cc.c2) (below_load hw cc.c3) (below_load hw cc.c4) (below_load hw cc.c5))) rfl ?_
          refine EQ.val (fun _ hw => (x_move rfl)) rfl ?_
          refine EQ.val (fun _ hw => (x_move rfl)) rfl ?_
          refine EQ.val (fun _ hw => (ix_86 rfl rfl hlt)) rfl ?_
          refine EQ.val (fun _ hw => (ld_90 rfl (below_load hw (below_load hbw cd.c0)) (below_load hw (below_load hbw cd.c1)) (below_load hw (below_load hbw cd.c2)) (below_load hw (below_load hbw cd.c3)) (below_load hw (below_load hbw cd.c4)) (below_load hw (below_load hbw cd.c5)))) rfl ?_
          refine EQ.val (fun _ hw => (neq_90 (r := false) rfl rfl (by simp))) rfl ?_
          refine EQ.fin (fun w7 hw_ => ?_)
          replace q1 := q1.below hw_ q1.lt
          replace q2 := q2.below hw_ q2.lt
          replace hrd := hrd.below (hw_.mono hsz)
          replace hsz := Nat.le_trans hsz hw_.size
          replace hbw := Below.on hbw hw_ hbw.size
          clear hw_
          refine EX.seq ?_
          refine EC.no rfl ?_
          refine EC.skip ?_
          refine EX.blk ?_
          refine EX.seq ?_
          refine EC.region ?_
          refine EL.val (x_move rfl) rfl ?_
          refine EL.val (x_add rfl rfl (by first | assumption | exact IntWalk.i64_in _ ⟨by omega, by omega⟩)) rfl ?_
          refine EL.val (x_assign rfl) rfl ?_
          refine EL.nil ?_
          refine EX.roundD (x + 1) ⟨rfl, trivial⟩ (by repeat first | exact Sub.refl _ | refine sub_past rfl ?_ | refine sub_del rfl ?_ | refine sub_insL_nil ?_) ⟨hlt, q1, q2, hrd, hsz, hbw⟩ (by omega)
        ·
          clear hrd hsz
          refine EC.seq ?_
          refine EC.seq ?_
          refine EC.region ?_
          refine EL.val (x_move rfl) rfl ?_
          refine EL.val (x_move rfl) rfl ?_
          refine EL.val (ln_86 rfl) rfl ?_
          refine EL.val (x_lss rfl rfl (by first | assumption | exact decide_eq_false (by omega))) rfl ?_
          refine EL.nil ?_
          refine EX.seq ?_
          refine EC.no rfl ?_
          refine EC.exit ?_
          refine EX.seq_exit ?_
          refine EX.seq_exit ?_
          refine EX.blk_here ?_
          refine EX.seq ?_
          refine EC.seq ?_
          refine EC.region ?_
          refine EL.val (fa_54_0 rfl) rfl ?_
          refine EL.val (ld_47 rfl (q1.at (j := 0) rfl) (q1.at (j := 1) rfl)) rfl ?_
          refine EL.val (fa_54_1 rfl) rfl ?_
          refine EL.val (ld_52 rfl (q1.at (j := 2) rfl)) rfl ?_
          refine EL.call (cl_38 rfl rfl) rfl (rstart_any rv sides _ _ _ vs ss _ B (hr.below (hbw.mono hB)) (hs.below (hbw.mono hB)) (Nat.le_trans hB hbw.size) (by omega) (by omega) f3 (by omega) f4) ?_
          rintro e w8 ⟨rfl, hc8⟩
          refine ⟨_, rfl, ?_⟩
          replace q1 := q1.below hc8 q1.lt
          replace q2 := q2.below hc8 q2.lt
          replace hbw := Below.on hbw hc8 hbw.size
          clear hc8
          refine EL.val (x_assign rfl) rfl ?_
          refine EL.nil ?_
          refine EX.seq ?_
          refine EC.seq ?_
          refine EC.seq ?_
          refine EC.region ?_
          refine EL.val (x_move rfl) rfl ?_
          by_cases hst : startErr rv sides = 0
          ·
            obtain ⟨hok, hS⟩ := startErr_ok hst
            have hR := hS.river
            have hhr := hS.hours
            have hmany := hS.many
            have hsm := hR.some
            have hpl := hR.places
            obtain ⟨bS, oS, rfl, _, c0⟩ := sides_cell hs 0 (by omega)
            have hs0 := hs.side 0 (by omega)
            obtain ⟨As, cs, es, _⟩ := hs0.shape
            rw [es] at c0
            refine EL.val (x_eql rfl rfl (by first | assumption | exact decide_eq_true (by omega))) rfl ?_
            refine EL.nil ?_
            refine EX.seq ?_
            refine EC.yes rfl ?_
            refine EC.region ?_
            refine EL.val (fa_54_0 rfl) rfl ?_
            refine EL.val (ld_47 rfl (q1.at (j := 0) rfl) (q1.at (j := 1) rfl)) rfl ?_
            refine EL.val (x_move rfl) rfl ?_
            refine EL.call (cl_49 rfl rfl) rfl (rclosures_any rv _ _ vs l _ _ B (hr.below (hbw.mono hB)) (Nat.le_trans hB hbw.size) (hcl.below (hbw.mono hB)) hok (by omega)) ?_
            rintro e w9 ⟨rfl, hc9⟩
            refine ⟨_, rfl, ?_⟩
            replace q1 := q1.below hc9 q1.lt
            replace q2 := q2.below hc9 q2.lt
            replace hbw := Below.on hbw hc9 hbw.size
            clear hc9
            refine EL.val (x_assign rfl) rfl ?_
            refine EL.nil ?_
            refine EX.seq ?_
            refine EC.seq ?_
            refine EC.seq ?_
            by_cases hce : closErr (placesOf rv.reaches) l = 0
            ·
              cases hp : inB 0 (placesOf rv.reaches - 1) p
              ·
                obtain ⟨hve, hva, hvb⟩ := cld_none (l := l) (t := t) hst hce hp
                rw [hva, hvb]
                refine EC.regionQ (by kernel_rfl) (by kernel_rfl) ?_
                refine EQ.val (fun _ hw => (x_move rfl)) rfl ?_
                refine EQ.val (fun _ hw => (x_eql rfl rfl (by first | assumption | exact decide_eq_true (by omega)))) rfl ?_
                refine EQ.val (fun _ hw => (x_move rfl)) rfl ?_
                refine EQ.valg rfl rfl (fun _ hw => (ixa_79 (k := 0) rfl rfl (by omega))) rfl ?_
                refine EQ.valg rfl rfl (fun _ hw => (ld_3 rfl (below_load hw (q2.at (j := 0) rfl)))) rfl ?_
                refine EQ.valg rfl rfl (fun _ hw => (fa_54_0 rfl)) rfl ?_
                refine EQ.valg rfl rfl (fun _ hw => (ld_47 rfl (below_load hw (q1.at (j := 0) rfl)) (below_load hw (q1.at (j := 1) rfl)))) rfl ?_
                refine EQ.callg rfl rfl (fun _ _ _ ha => cl_36 rfl _ ha) rfl (fun W hw => (places_any rv _ _ vs W B (hr.below ((hbw.trans (hw.mono hbw.size)).mono hB)) (Nat.le_trans hB (Nat.le_trans hbw.size hw.size)) (by omega) (river_lens hok)).mono fun e w' h => ⟨h.1, hw.trans (h.2.mono hw.size)⟩) ?_
                refine EQ.valg rfl rfl (fun _ hw => (x_sub rfl rfl (by first | assumption | exact IntWalk.i64_in _ ⟨by omega, by omega⟩))) rfl ?_
                refine EQ.callg rfl rfl (fun _ _ _ ha => cl_35 rfl rfl rfl _ ha) rfl (fun W hw => (in_eq hp W).mono fun e w' h => ⟨h.1, hw.trans (h.2.mono hw.size)⟩) ?_
                refine EQ.valg rfl rfl (fun _ hw => (x_not rfl)) rfl ?_
                refine EQ.val (fun _ hw => (x_pick_t rfl rfl)) rfl ?_
                refine EQ.fin (fun w10 hw_ => ?_)
                replace q1 := q1.below hw_ q1.lt
                replace q2 := q2.below hw_ q2.lt
                replace hbw := Below.on hbw hw_ hbw.size
                clear hw_
                refine EX.seq ?_
                refine EC.yes rfl ?_
                refine EC.region ?_
                refine EL.val (x_assign rfl) rfl ?_
                refine EL.nil ?_
                refine EX.seq ?_
                refine EC.seq ?_
                refine EC.seq ?_
                refine EC.regionQ (by kernel_rfl) (by kernel_rfl) ?_
                refine EQ.val (fun _ hw => (x_move rfl)) rfl ?_
                refine EQ.val (fun _ hw => (x_eql rfl rfl (by first | assumption | exact decide_eq_false (by omega)))) rfl ?_
                refine EQ.val (fun _ hw => (x_move rfl)) rfl ?_
                refine EQ.skip rfl rfl rfl rfl ?_
                refine EQ.skip rfl rfl rfl rfl ?_
                refine EQ.skip rfl rfl rfl rfl ?_
                refine EQ.skip rfl rfl rfl rfl ?_
                refine EQ.skip rfl rfl rfl rfl ?_
                refine EQ.skip rfl rfl rfl rfl ?_
                refine EQ.skip rfl rfl rfl rfl ?_
                refine EQ.skip rfl rfl rfl rfl ?_
                refine EQ.skip rfl rfl rfl rfl ?_
                refine EQ.skip rfl rfl rfl rfl ?_
                refine EQ.val (fun _ hw => (x_pick_f rfl rfl)) rfl ?_
                refine EQ.fin (fun w11 hw_ => ?_)
                replace q1 := q1.below hw_ q1.lt
                replace q2 := q2.below hw_ q2.lt
                replace hbw := Below.on hbw hw_ hbw.size
                clear hw_
                refine EX.seq ?_
                refine EC.no rfl ?_
                refine EC.skip ?_
                refine EX.seq ?_
                refine EC.seq ?_
                refine EC.seq ?_
                refine EC.region ?_
                refine EL.val (x_move rfl) rfl ?_
                refine EL.val (x_neq rfl rfl (by first | assumption | exact decide_eq_true (by omega))) rfl ?_
                refine EL.nil ?_
                refine EX.seq ?_
                refine EC.yes rfl ?_
                refine EC.seq ?_
                refine EC.region ?_
                refine EL.val (x_move rfl) rfl ?_
                refine EL.val (x_move rfl) rfl ?_
                refine EL.val (x_eql rfl rfl (by first | assumption | exact decide_eq_true (by omega))) rfl ?_
                refine EL.val (x_move rfl) rfl ?_
                refine EL.valg rfl rfl (x_move rfl) rfl ?_
                refine EL.valg rfl rfl (x_not rfl) rfl ?_
                refine EL.val (x_pick_t rfl rfl) rfl ?_
                refine EL.val (x_move rfl) rfl ?_
                refine EL.valg rfl rfl (x_move rfl) rfl ?_
                refine EL.valg rfl rfl (x_not rfl) rfl ?_
                refine EL.val (x_pick_t rfl rfl) rfl ?_
                refine EL.val (x_move rfl) rfl ?_
                refine EL.callg rfl rfl cl_16 rfl (known_any _) ?_
                rintro e w12 ⟨rfl, hc12⟩
                refine ⟨_, rfl, ?_⟩
                replace q1 := q1.below hc12 q1.lt
                replace q2 := q2.below hc12 q2.lt
                replace hbw := Below.on hbw hc12 hbw.size
                clear hc12
                refine EL.val (x_pick_t rfl rfl) rfl ?_
                refine EL.val (x_assign rfl) rfl ?_
                refine EL.nil ?_
                refine EX.seq ?_
                refine EC.ret ?_
                refine EX.seq_ret ?_
                exact EX.done (res1 rfl rfl) ⟨rfl, hbw⟩
              ·
                have hp_ := inB_iff.1 hp
                refine EC.regionQ (by kernel_rfl) (by kernel_rfl) ?_
                refine EQ.val (fun _ hw => (x_move rfl)) rfl ?_
                refine EQ.val (fun _ hw => (x_eql rfl rfl (by first | assumption | exact decide_eq_true (by omega)))) rfl ?_
                refine EQ.val (fun _ hw => (x_move rfl)) rfl ?_
                refine EQ.valg rfl rfl (fun _ hw => (ixa_79 (k := 0) rfl rfl (by omega))) rfl ?_
                refine EQ.valg rfl rfl (fun _ hw => (ld_3 rfl (below_load hw (q2.at (j := 0) rfl)))) rfl ?_
                refine EQ.valg rfl rfl (fun _ hw => (fa_54_0 rfl)) rfl ?_
                refine EQ.valg rfl rfl (fun _ hw => (ld_47 rfl (below_load hw (q1.at (j := 0) rfl)) (below_load hw (q1.at (j := 1) rfl)))) rfl ?_
                refine EQ.callg rfl rfl (fun _ _ _ ha => cl_36 rfl _ ha) rfl (fun W hw => (places_any rv _ _ vs W B (hr.below ((hbw.trans (hw.mono hbw.size)).mono hB)) (Nat.le_trans hB (Nat.le_trans hbw.size hw.size)) (by omega) (river_lens hok)).mono fun e w' h => ⟨h.1, hw.trans (h.2.mono hw.size)⟩) ?_
                refine EQ.valg rfl rfl (fun _ hw => (x_sub rfl rfl (by first | assumption | exact IntWalk.i64_in _ ⟨by omega, by omega⟩))) rfl ?_
                refine EQ.callg rfl rfl (fun _ _ _ ha => cl_35 rfl rfl rfl _ ha) rfl (fun W hw => (in_eq hp W).mono fun e w' h => ⟨h.1, hw.trans (h.2.mono hw.size)⟩) ?_
                refine EQ.valg rfl rfl (fun _ hw => (x_not rfl)) rfl ?_
                refine EQ.val (fun _ hw => (x_pick_t rfl rfl)) rfl ?_
                refine EQ.fin (fun w13 hw_ => ?_)
                replace q1 := q1.below hw_ q1.lt
                replace q2 := q2.below hw_ q2.lt
                replace hbw := Below.on hbw hw_ hbw.size
                clear hw_
                refine EX.seq ?_
                refine EC.no rfl ?_
                refine EC.skip ?_
                refine EX.seq ?_
                refine EC.seq ?_
                refine EC.seq ?_
                cases ht : inB 0 (((sides.getD 0 []).length : Nat) - 1 : Int) t
                ·
                  obtain ⟨hve, hva, hvb⟩ := cld_range (l := l) hst hce hp ht
                  rw [hva, hvb]
                  refine EC.regionQ (by kernel_rfl) (by kernel_rfl) ?_
                  refine EQ.val (fun _ hw => (x_move rfl)) rfl ?_
                  refine EQ.val (fun _ hw => (x_eql rfl rfl (by first | assumption | exact decide_eq_true (by omega)))) rfl ?_
                  refine EQ.val (fun _ hw => (x_move rfl)) rfl ?_
                  refine EQ.valg rfl rfl (fun _ hw => (ixa_79 (k := 1) rfl rfl (by omega))) rfl ?_
                  refine EQ.valg rfl rfl (fun _ hw => (ld_3 rfl (below_load hw (q2.at (j := 1) rfl)))) rfl ?_
                  refine EQ.valg rfl rfl (fun _ hw => (fa_54_1 rfl)) rfl ?_
                  refine EQ.valg rfl rfl (fun _ hw => (ld_52 rfl (below_load hw (q1.at (j := 2) rfl)))) rfl ?_
                  refine EQ.valg rfl rfl (fun _ hw => (ix_52 (k := 0) rfl rfl (by omega))) rfl ?_
                  refine EQ.valg rfl rfl (fun _ hw => (ld_28 rfl (below_load hw (below_load hbw c0)))) rfl ?_
                  refine EQ.valg rfl rfl (fun _ hw => (ln_28 rfl)) rfl ?_
                  refine EQ.valg rfl rfl (fun _ hw => (x_sub rfl rfl (by first | assumption | exact IntWalk.i64_in _ ⟨by omega, by omega⟩))) rfl ?_
                  refine EQ.callg rfl rfl (fun _ _ _ ha => cl_35 rfl rfl rfl _ ha) rfl (fun W hw => (in_eq ht W).mono fun e w' h => ⟨h.1, hw.trans (h.2.mono hw.size)⟩) ?_
                  refine EQ.valg rfl rfl (fun _ hw => (x_not rfl)) rfl ?_
                  refine EQ.val (fun _ hw => (x_pick_t rfl rfl)) rfl ?_
                  refine EQ.fin (fun w14 hw_ => ?_)
                  replace q1 := q1.below hw_ q1.lt
                  replace q2 := q2.below hw_ q2.lt
                  replace hbw := Below.on hbw hw_ hbw.size
                  clear hw_
                  refine EX.seq ?_
                  refine EC.yes rfl ?_
                  refine EC.region ?_
                  refine EL.val (x_assign rfl) rfl ?_
                  refine EL.nil ?_
                  refine EX.seq ?_
                  refine EC.seq ?_
                  refine EC.seq ?_
                  refine EC.region ?_
                  refine EL.val (x_move rfl) rfl ?_
                  refine EL.val (x_neq rfl rfl (by first | assumption | exact decide_eq_true (by omega))) rfl ?_
                  refine EL.nil ?_
                  refine EX.seq ?_
                  refine EC.yes rfl ?_
                  refine EC.seq ?_
                  refine EC.region ?_
                  refine EL.val (x_move rfl) rfl ?_
                  refine EL.val (x_move rfl) rfl ?_
                  refine EL.val (x_eql rfl rfl (by first | assumption | exact decide_eq_true (by omega))) rfl ?_
                  refine EL.val (x_move rfl) rfl ?_
                  refine EL.valg rfl rfl (x_move rfl) rfl ?_
                  refine EL.valg rfl rfl (x_not rfl) rfl ?_
                  refine EL.val (x_pick_t rfl rfl) rfl ?_
                  refine EL.val (x_move rfl) rfl ?_
                  refine EL.valg rfl rfl (x_move rfl) rfl ?_
                  refine EL.valg rfl rfl (x_not rfl) rfl ?_
                  refine EL.val (x_pick_t rfl rfl) rfl ?_
                  refine EL.val (x_move rfl) rfl ?_
                  refine EL.callg rfl rfl cl_16 rfl (known_any _) ?_
                  rintro e w15 ⟨rfl, hc15⟩
                  refine ⟨_, rfl, ?_⟩
                  replace q1 := q1.below hc15 q1.lt
                  replace q2 := q2.below hc15 q2.lt
                  replace hbw := Below.on hbw hc15 hbw.size
                  clear hc15
                  refine EL.val (x_pick_t rfl rfl) rfl ?_
                  refine EL.val (x_assign rfl) rfl ?_
                  refine EL.nil ?_
                  refine EX.seq ?_
                  refine EC.ret ?_
                  refine EX.seq_ret ?_
                  exact EX.done (res1 rfl rfl) ⟨rfl, hbw⟩
                ·
                  obtain ⟨hve, hva, hvb⟩ := cld_ok (l := l) hst hce hp ht
                  have ht_ := inB_iff.1 ht
                  rw [hva, hvb]
                  refine EC.regionQ (by kernel_rfl) (by kernel_rfl) ?_
                  refine EQ.val (fun _ hw => (x_move rfl)) rfl ?_
                  refine EQ.val (fun _ hw => (x_eql rfl rfl (by first | assumption | exact decide_eq_true (by omega)))) rfl ?_
                  refine EQ.val (fun _ hw => (x_move rfl)) rfl ?_
                  refine EQ.valg rfl rfl (fun _ hw => (ixa_79 (k := 1) rfl rfl (by omega))) rfl ?_
                  refine EQ.valg rfl rfl (fun _ hw => (ld_3 rfl (below_load hw (q2.at (j := 1) rfl)))) rfl ?_
                  refine EQ.valg rfl rfl (fun _ hw => (fa_54_1 rfl)) rfl ?_
                  refine EQ.valg rfl rfl (fun _ hw => (ld_52 rfl (below_load hw (q1.at (j := 2) rfl)))) rfl ?_
                  refine EQ.valg rfl rfl (fun _ hw => (ix_52 (k := 0) rfl rfl (by omega))) rfl ?_
                  refine EQ.valg rfl rfl (fun _ hw => (ld_28 rfl (below_load hw (below_load hbw c0)))) rfl ?_
                  refine EQ.valg rfl rfl (fun _ hw => (ln_28 rfl)) rfl ?_
                  refine EQ.valg rfl rfl (fun _ hw => (x_sub rfl rfl (by first | assumption | exact IntWalk.i64_in _ ⟨by omega, by omega⟩))) rfl ?_
                  refine EQ.callg rfl rfl (fun _ _ _ ha => cl_35 rfl rfl rfl _ ha) rfl (fun W hw => (in_eq ht W).mono fun e w' h => ⟨h.1, hw.trans (h.2.mono hw.size)⟩) ?_
                  refine EQ.valg rfl rfl (fun _ hw => (x_not rfl)) rfl ?_
                  refine EQ.val (fun _ hw => (x_pick_t rfl rfl)) rfl ?_
                  refine EQ.fin (fun w16 hw_ => ?_)
                  replace q1 := q1.below hw_ q1.lt
                  replace q2 := q2.below hw_ q2.lt
                  replace hbw := Below.on hbw hw_ hbw.size
                  clear hw_
                  refine EX.seq ?_
                  refine EC.no rfl ?_
                  refine EC.skip ?_
                  refine EX.seq ?_
                  refine EC.seq ?_
                  refine EC.seq ?_
                  refine EC.region ?_
                  refine EL.val (x_move rfl) rfl ?_
                  refine EL.val (x_neq rfl rfl (by first | assumption | exact decide_eq_false (by omega))) rfl ?_
                  refine EL.nil ?_
                  refine EX.seq ?_
                  refine EC.no rfl ?_
                  refine EC.skip ?_
                  refine EX.seq ?_
                  refine EC.seq ?_
                  refine EC.region ?_
                  refine EL.val (fa_54_0 rfl) rfl ?_
                  refine EL.val (ld_47 rfl (q1.at (j := 0) rfl) (q1.at (j := 1) rfl)) rfl ?_
                  refine EL.val (fa_54_1 rfl) rfl ?_
                  refine EL.val (ld_52 rfl (q1.at (j := 2) rfl)) rfl ?_
                  refine EL.val (x_move rfl) rfl ?_
                  refine EL.val (ixa_79 (k := 0) rfl rfl (by omega)) rfl ?_
                  refine EL.val (ld_3 rfl (q2.at (j := 0) rfl)) rfl ?_
                  refine EL.val (ixa_79 (k := 1) rfl rfl (by omega)) rfl ?_
                  refine EL.val (ld_3 rfl (q2.at (j := 1) rfl)) rfl ?_
                  refine EL.call (cl_50 rfl rfl rfl rfl rfl) rfl (rclosed_any rv sides _ _ _ vs ss l _ p t _ B (hr.below (hbw.mono hB)) (hs.below (hbw.mono hB)) (Nat.le_trans hB hbw.size) (hcl.below (hbw.mono hB)) (by omega) hS (by omega) (by omega) (by omega) (by omega)) ?_
                  rintro e w17 ⟨rfl, hc17⟩
                  refine ⟨_, rfl, ?_⟩
                  replace q1 := q1.below hc17 q1.lt
                  replace q2 := q2.below hc17 q2.lt
                  replace hbw := Below.on hbw hc17 hbw.size
                  clear hc17
                  refine EL.val (x_move rfl) rfl ?_
                  refine EL.val (x_extract rfl rfl) rfl ?_
                  refine EL.val (x_extract rfl rfl) rfl ?_
                  refine EL.val (x_assign rfl) rfl ?_
                  refine EL.val (x_assign rfl) rfl ?_
                  refine EL.nil ?_
                  refine EX.seq ?_
                  refine EC.seq ?_
                  refine EC.region ?_
                  refine EL.val (x_move rfl) rfl ?_
                  refine EL.val (x_eql rfl rfl (by first | assumption | exact decide_eq_true (by omega))) rfl ?_
                  refine EL.val (x_move rfl) rfl ?_
                  refine EL.valg rfl rfl (x_move rfl) rfl ?_
                  refine EL.valg rfl rfl (x_move rfl) rfl ?_
                  refine EL.valg rfl rfl (eql_bool (r := true) rfl rfl (by simp)) rfl ?_
                  refine EL.val (x_pick_t rfl rfl) rfl ?_
                  refine EL.val (x_move rfl) rfl ?_
                  refine EL.valg rfl rfl (x_move rfl) rfl ?_
                  refine EL.valg rfl rfl (x_move rfl) rfl ?_
                  refine EL.valg rfl rfl (eql_bool (r := true) rfl rfl (by simp)) rfl ?_
                  refine EL.val (x_pick_t rfl rfl) rfl ?_
                  refine EL.val (x_move rfl) rfl ?_
                  refine EL.callg rfl rfl cl_16 rfl (known_any _) ?_
                  rintro e w18 ⟨rfl, hc18⟩
                  refine ⟨_, rfl, ?_⟩
                  replace q1 := q1.below hc18 q1.lt
                  replace q2 := q2.below hc18 q2.lt
                  replace hbw := Below.on hbw hc18 hbw.size
                  clear hc18
                  refine EL.val (x_pick_t rfl rfl) rfl ?_
                  refine EL.val (x_assign rfl) rfl ?_
                  refine EL.nil ?_
                  refine EX.seq ?_
                  refine EC.ret ?_
                  exact EX.done (res1 rfl rfl) ⟨rfl, hbw⟩
            ·
              obtain ⟨hve, hva, hvb⟩ := cld_clos (l := l) (p := p) (t := t) hst hce
              rw [hva, hvb]
              refine EC.regionQ (by kernel_rfl) (by kernel_rfl) ?_
              refine EQ.val (fun _ hw => (x_move rfl)) rfl ?_
              refine EQ.val (fun _ hw => (x_eql rfl rfl (by first | assumption | exact decide_eq_false (by omega)))) rfl ?_
              refine EQ.val (fun _ hw => (x_move rfl)) rfl ?_
              refine EQ.skip rfl rfl rfl rfl ?_
              refine EQ.skip rfl rfl rfl rfl ?_
              refine EQ.skip rfl rfl rfl rfl ?_
              refine EQ.skip rfl rfl rfl rfl ?_
              refine EQ.skip rfl rfl rfl rfl ?_
              refine EQ.skip rfl rfl rfl rfl ?_
              refine EQ.skip rfl rfl rfl rfl ?_
              refine EQ.skip rfl rfl rfl rfl ?_
              refine EQ.val (fun _ hw => (x_pick_f rfl rfl)) rfl ?_
              refine EQ.fin (fun w19 hw_ => ?_)
              replace q1 := q1.below hw_ q1.lt
              replace q2 := q2.below hw_ q2.lt
              replace hbw := Below.on hbw hw_ hbw.size
              clear hw_
              refine EX.seq ?_
              refine EC.no rfl ?_
              refine EC.skip ?_
              refine EX.seq ?_
              refine EC.seq ?_
              refine EC.seq ?_
              refine EC.regionQ (by kernel_rfl) (by kernel_rfl) ?_
              refine EQ.val (fun _ hw => (x_move rfl)) rfl ?_
              refine EQ.val (fun _ hw => (x_eql rfl rfl (by first | assumption | exact decide_eq_false (by omega)))) rfl ?_
              refine EQ.val (fun _ hw => (x_move rfl)) rfl ?_
              refine EQ.skip rfl rfl rfl rfl ?_
              refine EQ.skip rfl rfl rfl rfl ?_
              refine EQ.skip rfl rfl rfl rfl ?_
              refine EQ.skip rfl rfl rfl rfl ?_
              refine EQ.skip rfl rfl rfl rfl ?_
              refine EQ.skip rfl rfl rfl rfl ?_
              refine EQ.skip rfl rfl rfl rfl ?_
              refine EQ.skip rfl rfl rfl rfl ?_
              refine EQ.skip rfl rfl rfl rfl ?_
              refine EQ.skip rfl rfl rfl rfl ?_
              refine EQ.val (fun _ hw => (x_pick_f rfl rfl)) rfl ?_
              refine EQ.fin (fun w20 hw_ => ?_)
              replace q1 := q1.below hw_ q1.lt
              replace q2 := q2.below hw_ q2.lt
              replace hbw := Below.on hbw hw_ hbw.size
              clear hw_
              refine EX.seq ?_
              refine EC.no rfl ?_
              refine EC.skip ?_
              refine EX.seq ?_
              refine EC.seq ?_
              refine EC.seq ?_
              refine EC.region ?_
              refine EL.val (x_move rfl) rfl ?_
              refine EL.val (x_neq rfl rfl (by first | assumption | exact decide_eq_true (by omega))) rfl ?_
              refine EL.nil ?_
              refine EX.seq ?_
              refine EC.yes rfl ?_
              refine EC.seq ?_
              refine EC.region ?_
              refine EL.val (x_move rfl) rfl ?_
              refine EL.val (x_move rfl) rfl ?_
              refine EL.val (x_eql rfl rfl (by first | assumption | exact decide_eq_true (by omega))) rfl ?_
              refine EL.val (x_move rfl) rfl ?_
              refine EL.valg rfl rfl (x_move rfl) rfl ?_
              refine EL.valg rfl rfl (x_not rfl) rfl ?_
              refine EL.val (x_pick_t rfl rfl) rfl ?_
              refine EL.val (x_move rfl) rfl ?_
              refine EL.valg rfl rfl (x_move rfl) rfl ?_
              refine EL.valg rfl rfl (x_not rfl) rfl ?_
              refine EL.val (x_pick_t rfl rfl) rfl ?_
              refine EL.val (x_move rfl) rfl ?_
              refine EL.callg rfl rfl cl_16 rfl (known_any _) ?_
              rintro e w21 ⟨rfl, hc21⟩
              refine ⟨_, rfl, ?_⟩
              replace q1 := q1.below hc21 q1.lt
              replace q2 := q2.below hc21 q2.lt
              replace hbw := Below.on hbw hc21 hbw.size
              clear hc21
              refine EL.val (x_pick_t rfl rfl) rfl ?_
              refine EL.val (x_assign rfl) rfl ?_
              refine EL.nil ?_
              refine EX.seq ?_
              refine EC.ret ?_
              refine EX.seq_ret ?_
              exact EX.done (res1 rfl rfl) ⟨rfl, hbw⟩
          ·
            obtain ⟨hve, hva, hvb⟩ := cld_open (l := l) (p := p) (t := t) hst
            rw [hva, hvb]
            refine EL.val (x_eql rfl rfl (by first | assumption | exact decide_eq_false (by omega))) rfl ?_
            refine EL.nil ?_
            refine EX.seq ?_
            refine EC.no rfl ?_
            refine EC.skip ?_
            refine EX.seq ?_
            refine EC.seq ?_
            refine EC.seq ?_
            refine EC.regionQ (by kernel_rfl) (by kernel_rfl) ?_
            refine EQ.val (fun _ hw => (x_move rfl)) rfl ?_
            refine EQ.val (fun _ hw => (x_eql rfl rfl (by first | assumption | exact decide_eq_false (by omega)))) rfl ?_
            refine EQ.val (fun _ hw => (x_move rfl)) rfl ?_
            refine EQ.skip rfl rfl rfl rfl ?_
            refine EQ.skip rfl rfl rfl rfl ?_
            refine EQ.skip rfl rfl rfl rfl ?_
            refine EQ.skip rfl rfl rfl rfl ?_
            refine EQ.skip rfl rfl rfl rfl ?_
            refine EQ.skip rfl rfl rfl rfl ?_
            refine EQ.skip rfl rfl rfl rfl ?_
            refine EQ.skip rfl rfl rfl rfl ?_
            refine EQ.val (fun _ hw => (x_pick_f rfl rfl)) rfl ?_
            refine EQ.fin (fun w22 hw_ => ?_)
            replace q1 := q1.below hw_ q1.lt
            replace q2 := q2.below hw_ q2.lt
            replace hbw := Below.on hbw hw_ hbw.size
            clear hw_
            refine EX.seq ?_
            refine EC.no rfl ?_
            refine EC.skip ?_
            refine EX.seq ?_
            refine EC.seq ?_
            refine EC.seq ?_
            refine EC.regionQ (by kernel_rfl) (by kernel_rfl) ?_
            refine EQ.val (fun _ hw => (x_move rfl)) rfl ?_
            refine EQ.val (fun _ hw => (x_eql rfl rfl (by first | assumption | exact decide_eq_false (by omega)))) rfl ?_
            refine EQ.val (fun _ hw => (x_move rfl)) rfl ?_
            refine EQ.skip rfl rfl rfl rfl ?_
            refine EQ.skip rfl rfl rfl rfl ?_
            refine EQ.skip rfl rfl rfl rfl ?_
            refine EQ.skip rfl rfl rfl rfl ?_
            refine EQ.skip rfl rfl rfl rfl ?_
            refine EQ.skip rfl rfl rfl rfl ?_
            refine EQ.skip rfl rfl rfl rfl ?_
            refine EQ.skip rfl rfl rfl rfl ?_
            refine EQ.skip rfl rfl rfl rfl ?_
            refine EQ.skip rfl rfl rfl rfl ?_
            refine EQ.val (fun _ hw => (x_pick_f rfl rfl)) rfl ?_
            refine EQ.fin (fun w23 hw_ => ?_)
            replace q1 := q1.below hw_ q1.lt
            replace q2 := q2.below hw_ q2.lt
            replace hbw := Below.on hbw hw_ hbw.size
            clear hw_
            refine EX.seq ?_
            refine EC.no rfl ?_
            refine EC.skip ?_
            refine EX.seq ?_
            refine EC.seq ?_
            refine EC.seq ?_
            refine EC.region ?_
            refine EL.val (x_move rfl) rfl ?_
            refine EL.val (x_neq rfl rfl (by first | assumption | exact decide_eq_true (by omega))) rfl ?_
            refine EL.nil ?_
            refine EX.seq ?_
            refine EC.yes rfl ?_
            refine EC.seq ?_
            refine EC.region ?_
            refine EL.val (x_move rfl) rfl ?_
            refine EL.val (x_move rfl) rfl ?_
            refine EL.val (x_eql rfl rfl (by first | assumption | exact decide_eq_true (by omega))) rfl ?_
            refine EL.val (x_move rfl) rfl ?_
            refine EL.valg rfl rfl (x_move rfl) rfl ?_
            refine EL.valg rfl rfl (x_not rfl) rfl ?_
            refine EL.val (x_pick_t rfl rfl) rfl ?_
            refine EL.val (x_move rfl) rfl ?_
            refine EL.valg rfl rfl (x_move rfl) rfl ?_
            refine EL.valg rfl rfl (x_not rfl) rfl ?_
            refine EL.val (x_pick_t rfl rfl) rfl ?_
            refine EL.val (x_move rfl) rfl ?_
            refine EL.callg rfl rfl cl_16 rfl (known_any _) ?_
            rintro e w24 ⟨rfl, hc24⟩
            refine ⟨_, rfl, ?_⟩
            replace q1 := q1.below hc24 q1.lt
            replace q2 := q2.below hc24 q2.lt
            replace hbw := Below.on hbw hc24 hbw.size
            clear hc24
            refine EL.val (x_pick_t rfl rfl) rfl ?_
            refine EL.val (x_assign rfl) rfl ?_
            refine EL.nil ?_
            refine EX.seq ?_
            refine EC.ret ?_
            refine EX.seq_ret ?_
            exact EX.done (res1 rfl rfl) ⟨rfl, hbw⟩
end Go.Proofs.Ytncnlhkmdljgpaa
