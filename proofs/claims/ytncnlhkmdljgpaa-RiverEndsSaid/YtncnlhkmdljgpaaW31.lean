/- River: the law RiverEnds, its walk (printed by gen_w31.py). -/
import Derived.Test.YtncnlhkmdljgpaaEndsMath
import Derived.Test.YtncnlhkmdljgpaaLaw1
import Derived.Test.YtncnlhkmdljgpaaExR31
set_option linter.unusedVariables false
set_option linter.unusedSimpArgs false
namespace Go.Proofs.Ytncnlhkmdljgpaa
open Go Go.RowKit

theorem iv_79_0 {x y : Operand} {dst : Option Nat} {ty : Nat} {pos : String} {af : Array Edge} {g : Option (Nat × Bool)} {n : Nat} {σ : Nat → Option Value} {w : World} {p q : Int} (hx : evS σ x = some (.agg #[.int .i64 p, .int .i64 q])) (hy : evS σ y = some (.int .i64 ((0 : Nat) : Int))) : Gives Try.prog n σ w ⟨dst, .index 79 x y, ty, pos, af, g⟩ (.int .i64 p) := fun a ha => by
  simp only [execOp, ha.eval hx, ha.eval hy]
  have h : Sem.run Try.prog (Instr.index 79 (.agg #[.int .i64 p, .int .i64 q]) (.int .i64 0)) w = .ok (.int .i64 p) w := by kernel_rfl
  simp [go_sem, h]

theorem iv_79_1 {x y : Operand} {dst : Option Nat} {ty : Nat} {pos : String} {af : Array Edge} {g : Option (Nat × Bool)} {n : Nat} {σ : Nat → Option Value} {w : World} {p q : Int} (hx : evS σ x = some (.agg #[.int .i64 p, .int .i64 q])) (hy : evS σ y = some (.int .i64 ((1 : Nat) : Int))) : Gives Try.prog n σ w ⟨dst, .index 79 x y, ty, pos, af, g⟩ (.int .i64 q) := fun a ha => by
  simp only [execOp, ha.eval hx, ha.eval hy]
  have h : Sem.run Try.prog (Instr.index 79 (.agg #[.int .i64 p, .int .i64 q]) (.int .i64 1)) w = .ok (.int .i64 q) w := by kernel_rfl
  simp [go_sem, h]

theorem ba_79 {x y : Operand} {dst : Option Nat} {ty : Nat} {pos : String} {af : Array Edge} {g : Option (Nat × Bool)} {n : Nat} {σ : Nat → Option Value} {w : World} {p q : Int} (hx : evS σ x = some (.int .i64 p)) (hy : evS σ y = some (.int .i64 q)) : Gives Try.prog n σ w ⟨dst, .build 79 #[(0, x), (1, y)], ty, pos, af, g⟩ (.agg #[.int .i64 p, .int .i64 q]) := fun a ha => by
  simp only [execOp, List.map_toArray, List.map_cons, List.map_nil, ha.eval hx, ha.eval hy]
  go_simp

set_option maxHeartbeats 8000000 in
set_option maxRecDepth 100000 in
theorem ends_law (rv : River) (sides : List (List Bd)) (v u s : Value) (vs ss : List Value) (w : World) (B : Nat) (hr : RdRiver w B v u rv vs) (hs : RdSides w B s sides ss) (hB : B ≤ w.heap.size) :
    Calls Try.prog 8 #[.agg #[v, u, s]] w fun e w' => e = .returned (.bool true) ∧ Below w.heap.size w w' := by
  obtain ⟨A, c, rfl, _⟩ := hr.reaches.shape
  obtain ⟨A', c', rfl, _⟩ := hr.shoals.shape
  obtain ⟨D, d, rfl, _⟩ := hs.rd.shape
  have hbw := Below.refl w.heap.size w
  refine EC.enter 309 Try.func8 rfl rfl rfl ?_
  refine EC.seq ?_
  refine EC.region ?_
  refine EL.newP (bx_54 rfl) rfl ?_
  intro g1 w1 q1 hb1 hg1 hl1
  have bhbw_1 := Nat.le_trans hbw.size hg1
  replace hbw := Below.on hbw hb1 hbw.size
  clear hb1 hg1 hl1
  refine EL.val (x_assign rfl) rfl ?_
  refine EL.nil ?_
  refine EX.seq ?_
  refine EC.seq ?_
  refine EC.seq ?_
  refine EC.region ?_
  refine EL.val (ld_54 rfl (q1.at (j := 0) rfl) (q1.at (j := 1) rfl) (q1.at (j := 2) rfl)) rfl ?_
  refine EL.call (cl_44 rfl) rfl (valid_any rv sides _ _ _ vs ss _ _ (hr.below (hbw.mono hB)) (hs.below (hbw.mono hB)) (Nat.le_trans hB hbw.size)) ?_
  rintro e w_l ⟨rfl | ⟨rfl, hfine, hst⟩, hc_⟩
  ·
    refine ⟨_, rfl, ?_⟩
    replace q1 := q1.below hc_ q1.lt
    replace hbw := Below.on hbw hc_ hbw.size
    clear hc_
    refine EL.val (x_not rfl) rfl ?_
    refine EL.nil ?_
    refine EX.seq ?_
    refine EC.yes rfl ?_
    refine EC.seq ?_
    refine EC.region ?_
    refine EL.call cl_16 rfl (known_any _) ?_
    rintro e w2 ⟨rfl, hc2⟩
    refine ⟨_, rfl, ?_⟩
    replace q1 := q1.below hc2 q1.lt
    replace hbw := Below.on hbw hc2 hbw.size
    clear hc2
    refine EL.val (x_assign rfl) rfl ?_
    refine EL.nil ?_
    refine EX.seq ?_
    refine EC.ret ?_
    refine EX.seq_ret ?_
    exact EX.done (res1 rfl rfl) ⟨rfl, hbw⟩
  ·
    have f1 := hfine.nreaches
    have f2 := hfine.nshoals
    have f3 := hfine.curves
    have f4 := hfine.sidesB
    have f5 := hfine.nsides
    have hS := (startErr_ok hst).2
    have hhr := hS.hours
    have hmany := hS.many
    have hsm := hS.river.some
    obtain ⟨bR, oR, rfl, _, _⟩ := reaches_cells hr.reaches 0 (by omega)
    obtain ⟨bS, oS, rfl, _, hsc⟩ := sides_all hs (by omega)
    have hs0 := hs.side 0 (by omega)
    obtain ⟨A0, ca0, e0, _⟩ := hs0.shape
    have c0 := hsc 0 (by omega)
    rw [e0] at c0
    refine ⟨_, rfl, ?_⟩
    replace q1 := q1.below hc_ q1.lt
    replace hbw := Below.on hbw hc_ hbw.size
    clear hc_
    refine EL.val (x_not rfl) rfl ?_
    refine EL.nil ?_
    refine EX.seq ?_
    refine EC.no rfl ?_
    refine EC.skip ?_
    refine EX.seq ?_
    refine EC.seq ?_
    have lt_1 := q1.lt
    refine EC.regionP [[], [0], [0, 1], [], [3], [0, 1, 2, 3, 4], [0, 1, 2, 3, 4, 5], [0, 1, 2, 3, 4, 5, 6], [0, 1, 2, 3, 4, 5, 6, 7], [0, 1, 2, 3, 4, 5, 6, 7], [0, 1, 2, 3, 4, 5, 6, 7, 8], [0, 1, 2, 3, 4, 5, 6, 7, 8, 9, 10]] 11 [] (phi (fun i_ r => match i_ with | 0 => r 0 = .pointer (some ⟨g1, 0, none⟩) | 1 => r 1 = .agg #[.slice (some ⟨bR, oR, none⟩) rv.reaches.length c, .slice A' rv.shoals.length c'] | 3 => r 3 = .pointer (some ⟨g1, 2, none⟩) | 4 => r 4 = .slice (some ⟨bS, oS, none⟩) sides.length d | 9 => r 9 = .int .i64 0 | _ => True) [(2, fun r w_ => ∃ a b vs, r 2 = .agg #[a, b] ∧ RdRiver w_ w_.heap.size a b rv vs), (5, fun r w_ => ∃ v ss, r 5 = v ∧ RdSides w_ w_.heap.size v sides ss), (6, fun r w_ => ∃ A_ c_ ss_, r 6 = .tuple #[.slice A_ sides.length c_, .int .i64 0] ∧ RdSides w_ w_.heap.size (.slice A_ sides.length c_) (flowsUp rv.reaches sides sides.length) ss_), (7, fun r w_ => ∃ A_ c_ ss_, r 7 = .tuple #[.slice A_ sides.length c_, .int .i64 0] ∧ RdSides w_ w_.heap.size (.slice A_ sides.length c_) (flowsUp rv.reaches sides sides.length) ss_), (8, fun r w_ => ∃ A_ c_ ss_, r 8 = .slice A_ sides.length c_ ∧ RdSides w_ w_.heap.size (.slice A_ sides.length c_) (flowsUp rv.reaches sides sides.length) ss_), (10, fun r w_ => ∃ A_ c_ ss_, r 10 = .slice A_ sides.length c_ ∧ RdSides w_ w_.heap.size (.slice A_ sides.length c_) (flowsUp rv.reaches sides sides.length) ss_)]) (by kernel_rfl) rfl rfl (phi_cons mono_riv (phi_cons mono_sid (phi_cons mono_stup (phi_cons mono_stup (phi_cons mono_sslc (phi_cons mono_sslc (phi_nil))))))) (fun i_ hi_ => ?_) ?_
    · match i_, hi_ with
      | 0, _ =>
        intro val w1 a hb ha hd
        have ha := ha.sub (Sub.ins (d := 1) (Sub.nil _) rfl)
        exact hs_val ha rfl rfl (fa_54_0 rfl) rfl rfl
      | 1, _ =>
        intro val w1 a hb ha hd
        have e0 : val 0 = .pointer (some ⟨g1, 0, none⟩) := hd 0 (memB_mem.1 rfl)
        have ha := ha.sub (Sub.ins (d := 25) (Sub.nil _) (dep_get rfl e0))
        exact hs_val ha rfl rfl (ld_47 rfl ((q1.below hb q1.lt).at (j := 0) rfl) ((q1.below hb q1.lt).at (j := 1) rfl)) rfl rfl
      | 2, _ =>
        intro val w1 a hb ha hd
        have e1 : val 1 = .agg #[.slice (some ⟨bR, oR, none⟩) rv.reaches.length c, .slice A' rv.shoals.length c'] := hd 1 (memB_mem.1 rfl)
        have ha := ha.sub (Sub.ins (d := 26) (Sub.nil _) (dep_get rfl e1))
        refine hs_call ha rfl rfl (cl_24 rfl) (copied_any rv _ _ vs _ B (hr.below ((Below.on hbw hb hbw.size).mono hB)) (Nat.le_trans hB (Below.on hbw hb hbw.size).size) (by omega) (by omega) f3) rfl ?_
        rintro e w' ⟨⟨v1, u1, vs1, rfl, hcp⟩, hb'⟩
        exact ⟨_, rfl, hb', ⟨_, _, _, rfl, hcp⟩⟩
      | 3, _ =>
        intro val w1 a hb ha hd
        have ha := ha.sub (Sub.ins (d := 1) (Sub.nil _) rfl)
        exact hs_val ha rfl rfl (fa_54_1 rfl) rfl rfl
      | 4, _ =>
        intro val w1 a hb ha hd
        have e3 : val 3 = .pointer (some ⟨g1, 2, none⟩) := hd 3 (memB_mem.1 rfl)
        have ha := ha.sub (Sub.ins (d := 28) (Sub.nil _) (dep_get rfl e3))
        exact hs_val ha rfl rfl (ld_52 rfl ((q1.below hb q1.lt).at (j := 2) rfl)) rfl rfl
      | 5, _ =>
        intro val w1 a hb ha hd
        have e4 : val 4 = .slice (some ⟨bS, oS, none⟩) sides.length d := hd 4 (memB_mem.1 rfl)
        have ha := ha.sub (Sub.ins (d := 29) (Sub.nil _) (dep_get rfl e4))
        refine hs_call ha rfl rfl (cl_34 rfl) (forecast_any sides _ ss _ B (hs.below ((Below.on hbw hb hbw.size).mono hB)) (Nat.le_trans hB (Below.on hbw hb hbw.size).size) (by omega) f4) rfl ?_
        rintro e w' ⟨⟨v1, ss1, rfl, hcp⟩, hb'⟩
        exact ⟨_, rfl, hb', ⟨_, _, rfl, hcp⟩⟩
      | 6, _ =>
        intro val w1 a hb ha hd
        obtain ⟨a2_, b2_, vs2_, e2, q2_⟩ := hd 2 (memB_mem.1 rfl)
        obtain ⟨v5_, ss5_, e5, q5_⟩ := hd 5 (memB_mem.1 rfl)
        have ha := ha.sub (Sub.ins (d := 30) (Sub.ins (d := 27) (Sub.nil _) (dep_get rfl e2)) (dep_get rfl e5))
        refine hs_call ha rfl rfl (cl_40 rfl rfl) (flows_ok rv sides _ _ _ _ _ w1 _ q2_ q5_ (Nat.le_refl _) (by omega) (by omega) f3 (by omega) f4 hst) rfl ?_
        rintro e w' ⟨⟨A_, c_, f_, rfl, ho⟩, hb'⟩
        exact ⟨_, rfl, hb', ⟨_, _, _, rfl, ho⟩⟩
      | 7, _ =>
        intro val w1 a hb ha hd
        obtain ⟨A6F, c6F, s6F, e6, q6F⟩ := hd 6 (memB_mem.1 rfl)
        have ha := ha.sub (Sub.ins (d := 31) (Sub.nil _) (dep_get rfl e6))
        exact hs_val ha rfl rfl (x_move rfl) ⟨_, _, _, rfl, q6F⟩ rfl
      | 8, _ =>
        intro val w1 a hb ha hd
        obtain ⟨A7F, c7F, s7F, e7, q7F⟩ := hd 7 (memB_mem.1 rfl)
        have ha := ha.sub (Sub.ins (d := 24) (Sub.nil _) (dep_get rfl e7))
        exact hs_val ha rfl rfl (x_extract rfl rfl) ⟨_, _, _, rfl, q7F⟩ rfl
      | 9, _ =>
        intro val w1 a hb ha hd
        obtain ⟨A7F, c7F, s7F, e7, q7F⟩ := hd 7 (memB_mem.1 rfl)
        have ha := ha.sub (Sub.ins (d := 24) (Sub.nil _) (dep_get rfl e7))
        exact hs_val ha rfl rfl (x_extract rfl rfl) rfl rfl
      | 10, _ =>
        intro val w1 a hb ha hd
        obtain ⟨A8F, c8F, s8F, e8, q8F⟩ := hd 8 (memB_mem.1 rfl)
        have ha := ha.sub (Sub.ins (d := 32) (Sub.nil _) (dep_get rfl e8))
        exact hs_val ha rfl rfl (x_assign rfl) ⟨_, _, _, rfl, q8F⟩ rfl
      | k + 11, h => exact absurd h (by omega)
    · intro val wR3 hb halc hd
      have e0 : val 0 = .pointer (some ⟨g1, 0, none⟩) := hd 0 (by omega)
      have e1 : val 1 = .agg #[.slice (some ⟨bR, oR, none⟩) rv.reaches.length c, .slice A' rv.shoals.length c'] := hd 1 (by omega)
      obtain ⟨a2_, b2_, vs2_, e2, q2_⟩ := hd 2 (by omega)
      have e3 : val 3 = .pointer (some ⟨g1, 2, none⟩) := hd 3 (by omega)
      have e4 : val 4 = .slice (some ⟨bS, oS, none⟩) sides.length d := hd 4 (by omega)
      obtain ⟨v5_, ss5_, e5, q5_⟩ := hd 5 (by omega)
      obtain ⟨A6F, c6F, s6F, e6, q6F⟩ := hd 6 (by omega)
      obtain ⟨A7F, c7F, s7F, e7, q7F⟩ := hd 7 (by omega)
      obtain ⟨A8F, c8F, s8F, e8, q8F⟩ := hd 8 (by omega)
      have e9 : val 9 = .int .i64 0 := hd 9 (by omega)
      obtain ⟨A10F, c10F, s10F, e10, q10F⟩ := hd 10 (by omega)
      refine EL.ends (cs := [.pointer (some ⟨g1, 0, none⟩), .agg #[.slice (some ⟨bR, oR, none⟩) rv.reaches.length c, .slice A' rv.shoals.length c'], .agg #[a2_, b2_], .pointer (some ⟨g1, 2, none⟩), .slice (some ⟨bS, oS, none⟩) sides.length d, v5_, .tuple #[.slice A6F sides.length c6F, .int .i64 0], .tuple #[.slice A7F sides.length c7F, .int .i64 0], .slice A8F sides.length c8F, .int .i64 0, .slice A10F sides.length c10F]) ⟨e0, e1, e2, e3, e4, e5, e6, e7, e8, e9, e10, trivial⟩ rfl ?_
      replace q1 := q1.below hb q1.lt
      replace hbw := Below.on hbw hb hbw.size
      clear hb
      have dF := q10F
      have bF := Below.refl wR3.heap.size wR3
      clear q2_ q5_ q6F q7F q8F q10F
      refine EL.val (x_assign rfl) rfl ?_
      refine EL.nil ?_
      refine EX.seq ?_
      refine EC.seq ?_
      have lt_1 := q1.lt
      refine EC.regionP [[], [0], [0, 1], [], [3], [0, 1, 2, 3, 4], [0, 1, 2, 3, 4, 5], [0, 1, 2, 3, 4, 5, 6], [0, 1, 2, 3, 4, 5, 6, 7], [0, 1, 2, 3, 4, 5, 6, 7], [0, 1, 2, 3, 4, 5, 6, 7, 8], [0, 1, 2, 3, 4, 5, 6, 7, 8, 9, 10]] 11 [] (phi (fun i_ r => match i_ with | 0 => r 0 = .pointer (some ⟨g1, 0, none⟩) | 1 => r 1 = .agg #[.slice (some ⟨bR, oR, none⟩) rv.reaches.length c, .slice A' rv.shoals.length c'] | 3 => r 3 = .pointer (some ⟨g1, 2, none⟩) | 4 => r 4 = .slice (some ⟨bS, oS, none⟩) sides.length d | 9 => r 9 = .int .i64 0 | _ => True) [(2, fun r w_ => ∃ a b vs, r 2 = .agg #[a, b] ∧ RdRiver w_ w_.heap.size a b rv vs), (5, fun r w_ => ∃ v ss, r 5 = v ∧ RdSides w_ w_.heap.size v sides ss), (6, fun r w_ => ∃ A_ c_ ss_, r 6 = .tuple #[.slice A_ sides.length c_, .int .i64 0] ∧ RdSides w_ w_.heap.size (.slice A_ sides.length c_) (lvUp rv sides) ss_), (7, fun r w_ => ∃ A_ c_ ss_, r 7 = .tuple #[.slice A_ sides.length c_, .int .i64 0] ∧ RdSides w_ w_.heap.size (.slice A_ sides.length c_) (lvUp rv sides) ss_), (8, fun r w_ => ∃ A_ c_ ss_, r 8 = .slice A_ sides.length c_ ∧ RdSides w_ w_.heap.size (.slice A_ sides.length c_) (lvUp rv sides) ss_), (10, fun r w_ => ∃ A_ c_ ss_, r 10 = .slice A_ sides.length c_ ∧ RdSides w_ w_.heap.size (.slice A_ sides.length c_) (lvUp rv sides) ss_)]) (by kernel_rfl) rfl rfl (phi_cons mono_riv (phi_cons mono_sid (phi_cons mono_stup (phi_cons mono_stup (phi_cons mono_sslc (phi_cons mono_sslc (phi_nil))))))) (fun i_ hi_ => ?_) ?_
      · match i_, hi_ with
        | 0, _ =>
          intro val w1 a hb ha hd
          have ha := ha.sub (Sub.ins (d := 1) (Sub.nil _) rfl)
          exact hs_val ha rfl rfl (fa_54_0 rfl) rfl rfl
        | 1, _ =>
          intro val w1 a hb ha hd
          have e0 : val 0 = .pointer (some ⟨g1, 0, none⟩) := hd 0 (memB_mem.1 rfl)
          have ha := ha.sub (Sub.ins (d := 35) (Sub.nil _) (dep_get rfl e0))
          exact hs_val ha rfl rfl (ld_47 rfl ((q1.below hb q1.lt).at (j := 0) rfl) ((q1.below hb q1.lt).at (j := 1) rfl)) rfl rfl
        | 2, _ =>
          intro val w1 a hb ha hd
          have e1 : val 1 = .agg #[.slice (some ⟨bR, oR, none⟩) rv.reaches.length c, .slice A' rv.shoals.length c'] := hd 1 (memB_mem.1 rfl)
          have ha := ha.sub (Sub.ins (d := 36) (Sub.nil _) (dep_get rfl e1))
          refine hs_call ha rfl rfl (cl_24 rfl) (copied_any rv _ _ vs _ B (hr.below ((Below.on hbw hb hbw.size).mono hB)) (Nat.le_trans hB (Below.on hbw hb hbw.size).size) (by omega) (by omega) f3) rfl ?_
          rintro e w' ⟨⟨v1, u1, vs1, rfl, hcp⟩, hb'⟩
          exact ⟨_, rfl, hb', ⟨_, _, _, rfl, hcp⟩⟩
        | 3, _ =>
          intro val w1 a hb ha hd
          have ha := ha.sub (Sub.ins (d := 1) (Sub.nil _) rfl)
          exact hs_val ha rfl rfl (fa_54_1 rfl) rfl rfl
        | 4, _ =>
          intro val w1 a hb ha hd
          have e3 : val 3 = .pointer (some ⟨g1, 2, none⟩) := hd 3 (memB_mem.1 rfl)
          have ha := ha.sub (Sub.ins (d := 38) (Sub.nil _) (dep_get rfl e3))
          exact hs_val ha rfl rfl (ld_52 rfl ((q1.below hb q1.lt).at (j := 2) rfl)) rfl rfl
        | 5, _ =>
          intro val w1 a hb ha hd
          have e4 : val 4 = .slice (some ⟨bS, oS, none⟩) sides.length d := hd 4 (memB_mem.1 rfl)
          have ha := ha.sub (Sub.ins (d := 39) (Sub.nil _) (dep_get rfl e4))
          refine hs_call ha rfl rfl (cl_34 rfl) (forecast_any sides _ ss _ B (hs.below ((Below.on hbw hb hbw.size).mono hB)) (Nat.le_trans hB (Below.on hbw hb hbw.size).size) (by omega) f4) rfl ?_
          rintro e w' ⟨⟨v1, ss1, rfl, hcp⟩, hb'⟩
          exact ⟨_, rfl, hb', ⟨_, _, rfl, hcp⟩⟩
        | 6, _ =>
          intro val w1 a hb ha hd
          obtain ⟨a2_, b2_, vs2_, e2, q2_⟩ := hd 2 (memB_mem.1 rfl)
          obtain ⟨v5_, ss5_, e5, q5_⟩ := hd 5 (memB_mem.1 rfl)
          have ha := ha.sub (Sub.ins (d := 40) (Sub.ins (d := 37) (Sub.nil _) (dep_get rfl e2)) (dep_get rfl e5))
          refine hs_call ha rfl rfl (cl_41 rfl rfl) (levels_ok rv sides _ _ _ _ _ w1 _ q2_ q5_ (Nat.le_refl _) (by omega) (by omega) f3 (by omega) f4 hst) rfl ?_
          rintro e w' ⟨⟨A_, c_, f_, rfl, ho⟩, hb'⟩
          exact ⟨_, rfl, hb', ⟨_, _, _, rfl, ho⟩⟩
        | 7, _ =>
          intro val w1 a hb ha hd
          obtain ⟨A6L, c6L, s6L, e6, q6L⟩ := hd 6 (memB_mem.1 rfl)
          have ha := ha.sub (Sub.ins (d := 41) (Sub.nil _) (dep_get rfl e6))
          exact hs_val ha rfl rfl (x_move rfl) ⟨_, _, _, rfl, q6L⟩ rfl
        | 8, _ =>
          intro val w1 a hb ha hd
          obtain ⟨A7L, c7L, s7L, e7, q7L⟩ := hd 7 (memB_mem.1 rfl)
          have ha := ha.sub (Sub.ins (d := 34) (Sub.nil _) (dep_get rfl e7))
          exact hs_val ha rfl rfl (x_extract rfl rfl) ⟨_, _, _, rfl, q7L⟩ rfl
        | 9, _ =>
          intro val w1 a hb ha hd
          obtain ⟨A7L, c7L, s7L, e7, q7L⟩ := hd 7 (memB_mem.1 rfl)
          have ha := ha.sub (Sub.ins (d := 34) (Sub.nil _) (dep_get rfl e7))
          exact hs_val ha rfl rfl (x_extract rfl rfl) rfl rfl
        | 10, _ =>
          intro val w1 a hb ha hd
          obtain ⟨A8L, c8L, s8L, e8, q8L⟩ := hd 8 (memB_mem.1 rfl)
          have ha := ha.sub (Sub.ins (d := 42) (Sub.nil _) (dep_get rfl e8))
          exact hs_val ha rfl rfl (x_assign rfl) ⟨_, _, _, rfl, q8L⟩ rfl
        | k + 11, h => exact absurd h (by omega)
      · intro val wR4 hb halc hd
        have e0 : val 0 = .pointer (some ⟨g1, 0, none⟩) := hd 0 (by omega)
        have e1 : val 1 = .agg #[.slice (some ⟨bR, oR, none⟩) rv.reaches.length c, .slice A' rv.shoals.length c'] := hd 1 (by omega)
        obtain ⟨a2_, b2_, vs2_, e2, q2_⟩ := hd 2 (by omega)
        have e3 : val 3 = .pointer (some ⟨g1, 2, none⟩) := hd 3 (by omega)
        have e4 : val 4 = .slice (some ⟨bS, oS, none⟩) sides.length d := hd 4 (by omega)
        obtain ⟨v5_, ss5_, e5, q5_⟩ := hd 5 (by omega)
        obtain ⟨A6L, c6L, s6L, e6, q6L⟩ := hd 6 (by omega)
        obtain ⟨A7L, c7L, s7L, e7, q7L⟩ := hd 7 (by omega)
        obtain ⟨A8L, c8L, s8L, e8, q8L⟩ := hd 8 (by omega)
        have e9 : val 9 = .int .i64 0 := hd 9 (by omega)
        obtain ⟨A10L, c10L, s10L, e10, q10L⟩ := hd 10 (by omega)
        refine EL.ends (cs := [.pointer (some ⟨g1, 0, none⟩), .agg #[.slice (some ⟨bR, oR, none⟩) rv.reaches.length c, .slice A' rv.shoals.length c'], .agg #[a2_, b2_], .pointer (some ⟨g1, 2, none⟩), .slice (some ⟨bS, oS, none⟩) sides.length d, v5_, .tuple #[.slice A6L sides.length c6L, .int .i64 0], .tuple #[.slice A7L sides.length c7L, .int .i64 0], .slice A8L sides.length c8L, .int .i64 0, .slice A10L sides.length c10L]) ⟨e0, e1, e2, e3, e4, e5, e6, e7, e8, e9, e10, trivial⟩ rfl ?_
        replace q1 := q1.below hb q1.lt
        replace hbw := Below.on hbw hb hbw.size
        replace bF := Below.on bF hb bF.size
        clear hb
        have dL := q10L
        have bL := Below.refl wR4.heap.size wR4
        clear q2_ q5_ q6L q7L q8L q10L
        refine EL.val (x_assign rfl) rfl ?_
        refine EL.nil ?_
        refine EX.seq ?_
        refine EC.seq ?_
        refine EC.seq ?_
        refine EC.region ?_
        refine EL.val (x_move rfl) rfl ?_
        refine EL.val (x_neq rfl rfl (by first | assumption | exact decide_eq_false (by omega))) rfl ?_
        refine EL.val (x_move rfl) rfl ?_
        refine EL.valg rfl rfl (x_move rfl) rfl ?_
        refine EL.valg rfl rfl (x_neq rfl rfl (by first | assumption | exact decide_eq_false (by omega))) rfl ?_
        refine EL.val (x_pick_f rfl rfl) rfl ?_
        refine EL.val (x_move rfl) rfl ?_
        refine EL.valg rfl rfl (x_move rfl) rfl ?_
        refine EL.valg rfl rfl (ln_52 rfl) rfl ?_
        refine EL.valg rfl rfl (fa_54_1 rfl) rfl ?_
        refine EL.valg rfl rfl (ld_52 rfl (q1.at (j := 2) rfl)) rfl ?_
        refine EL.valg rfl rfl (ln_52 rfl) rfl ?_
        refine EL.valg rfl rfl (x_neq rfl rfl (by first | assumption | exact decide_eq_false (by omega))) rfl ?_
        refine EL.val (x_pick_f rfl rfl) rfl ?_
        refine EL.val (x_move rfl) rfl ?_
        refine EL.valg rfl rfl (x_move rfl) rfl ?_
        refine EL.valg rfl rfl (ln_52 rfl) rfl ?_
        refine EL.valg rfl rfl (x_move rfl) rfl ?_
        refine EL.valg rfl rfl (ln_52 rfl) rfl ?_
        refine EL.valg rfl rfl (x_neq rfl rfl (by first | assumption | exact decide_eq_false (by omega))) rfl ?_
        refine EL.val (x_pick_f rfl rfl) rfl ?_
        refine EL.nil ?_
        refine EX.seq ?_
        refine EC.no rfl ?_
        refine EC.skip ?_
        refine EX.seq ?_
        refine EC.seq ?_
        refine EC.seq ?_
        refine EC.region ?_
        refine EL.val (x_assign rfl) rfl ?_
        refine EL.nil ?_
        refine EX.seq ?_
        refine EC.block ?_
        refine EC.loopD [2, 7, 8, 9, 10, 11, 12, 13, 14, 15, 16, 65, 66, 67, 68, 69, 70, 71, 72, 73, 74, 75, 76, 77, 78, 79, 80, 81, 82, 83, 84, 85, 86, 87, 88, 89, 90, 91, 92, 93, 94, 95, 96, 97, 98, 99, 100, 101, 102, 103, 104, 105, 106, 107, 108, 109, 110, 111, 112, 113, 114, 115, 116, 117, 118, 119, 120, 121, 122, 123, 124, 125, 126, 127, 128, 129, 130, 131, 132, 133, 134, 135, 136, 137, 138, 139, 140, 141, 142, 143, 144, 145, 146, 147, 148, 149, 150, 151, 152, 153, 154, 155, 156, 157, 158, 159, 160, 161, 162, 163, 164, 165, 166, 167, 168, 169, 170, 171, 172, 173, 174, 175, 176, 177, 178, 179, 180, 181, 182, 183, 184, 185, 186, 187, 188, 189, 190, 191, 192, 193, 194, 195, 196, 197, 198, 199, 200, 201, 202, 203, 204, 205, 206, 207, 208, 209, 210, 211, 212, 213, 214, 215, 216, 217, 218, 219, 220, 221, 222, 223, 224, 225, 226, 227, 228, 229, 230, 231, 232, 233, 234, 235, 236, 237, 238, 239, 240, 241] (fun x : Nat => [(7, .int .i64 (x : Nat))]) (fun x W => x ≤ 2 ∧ Blk W g1 54 #[.slice (some ⟨bR, oR, none⟩) rv.reaches.length c, .slice A' rv.shoals.length c', .slice (some ⟨bS, oS, none⟩) sides.length d] ∧ Below w.heap.size w W ∧ Below wR3.heap.size wR3 W ∧ Below wR4.heap.size wR4 W) (fun x => 2 - x) 0 ⟨by omega, q1, hbw, bF, bL⟩ ⟨rfl, trivial⟩ ?_
        clear q1 hbw bF bL
        rintro kk wk ⟨hkk, q1, hbw, bF, bL⟩
        obtain rfl | rfl | rfl : kk = 0 ∨ kk = 1 ∨ kk = 2 := by omega
        ·
          refine EC.seq ?_
          refine EC.seq ?_
          refine EC.region ?_
          refine EL.val (x_move rfl) rfl ?_
          refine EL.val (x_lss rfl rfl (by first | assumption | exact decide_eq_true (by omega))) rfl ?_
          refine EL.nil ?_
          refine EX.seq ?_
          refine EC.yes rfl ?_
          refine EC.skip ?_
          refine EX.seq ?_
          refine EC.seq ?_
          refine EC.block ?_
          refine EC.seq ?_
          refine EC.region ?_
          refine EL.val (ld_54 rfl (q1.at (j := 0) rfl) (q1.at (j := 1) rfl) (q1.at (j := 2) rfl)) rfl ?_
          refine EL.val (x_move rfl) rfl ?_
          refine EL.val (x_eql rfl rfl (by first | assumption | exact decide_eq_false (by omega))) rfl ?_
          refine EL.call (cl_45 rfl rfl) rfl (only_false rv sides _ _ _ vs ss _ B (hr.below (hbw.mono hB)) (hs.below (hbw.mono hB)) (Nat.le_trans hB hbw.size) hfine hS) ?_
          rintro e wO ⟨⟨aO, bO_, sO, vsO, ssO, rfl, hRO, hSO⟩, hcO⟩
          refine ⟨_, rfl, ?_⟩
          replace q1 := q1.below hcO q1.lt
          replace hbw := Below.on hbw hcO hbw.size
          replace bF := Below.on bF hcO bF.size
          replace bL := Below.on bL hcO bL.size
          clear hcO
          have hK := kept (hi := false) hst f3 f4
          obtain ⟨rk, erk⟩ : ∃ z, z = (⟨mkR false rv.reaches rv.reaches.length, rv.shoals⟩ : River) := ⟨_, rfl⟩
          obtain ⟨sk, esk⟩ : ∃ z, z = mkS false sides sides.length := ⟨_, rfl⟩
          rw [← erk, ← esk] at hK
          rw [← erk] at hRO
          rw [← esk] at hSO
          clear erk esk
          obtain ⟨AO, cO, rfl, _⟩ := hRO.reaches.shape
          obtain ⟨AO', cO', rfl, _⟩ := hRO.shoals.shape
          obtain ⟨DO, dO, rfl, _⟩ := hSO.rd.shape
          have bO := Below.refl wO.heap.size wO
          have k1 := hK.len
          have k2 := hK.slen
          have k3 := hK.h0
          have k4 : rk.shoals.length = rv.shoals.length := by rw [hK.shoals]
          refine EL.newP al_54 rfl ?_
          intro g3 w3 q3 hb3 hg3 hl3
          have n1_3 : g1 ≠ g3 := Nat.ne_of_lt (Nat.lt_of_lt_of_le q1.lt hg3)
          have bhbw_3 := Nat.le_trans hbw.size hg3
          have bbF_3 := Nat.le_trans bF.size hg3
          have bbL_3 := Nat.le_trans bL.size hg3
          have bbO_3 := Nat.le_trans bO.size hg3
          replace q1 := q1.below hb3 q1.lt
          replace hbw := Below.on hbw hb3 hbw.size
          replace bF := Below.on bF hb3 bF.size
          replace bL := Below.on bL hb3 bL.size
          replace bO := Below.on bO hb3 bO.size
          clear hb3 hg3 hl3
          refine EL.store rfl rfl q3 sz_54 rfl rfl rfl rfl ?_
          intro w4 hq4 hg4
          replace q1 := q1.grown hg4 (fun h => n1_3 (Option.some.inj h))
          replace hbw := below_store hbw hg4 bhbw_3
          replace bF := below_store bF hg4 bbF_3
          replace bL := below_store bL hg4 bbL_3
          replace bO := below_store bO hg4 bbO_3
          replace q3 := hq4
          clear hg4 hq4
          refine EL.nil ?_
          refine EX.seq ?_
          refine EC.seq ?_
          refine EC.region ?_
          refine EL.val (fa_54_0 rfl) rfl ?_
          refine EL.val (ld_47 rfl (q3.at (j := 0) rfl) (q3.at (j := 1) rfl)) rfl ?_
          refine EL.val (fa_54_1 rfl) rfl ?_
          refine EL.val (ld_52 rfl (q3.at (j := 2) rfl)) rfl ?_
          refine EL.call (cl_40 rfl rfl) rfl (flows_ok rk sk _ _ _ vsO ssO _ _ (hRO.below bO) (hSO.below bO) bO.size (by omega) (by omega) hK.curves (by omega) hK.sides hK.err) ?_
          rintro e w5 ⟨⟨AG, cG, fG, rfl, dG⟩, hc5⟩
          refine ⟨_, rfl, ?_⟩
          replace q1 := q1.below hc5 q1.lt
          replace q3 := q3.below hc5 q3.lt
          replace hbw := Below.on hbw hc5 hbw.size
          replace bF := Below.on bF hc5 bF.size
          replace bL := Below.on bL hc5 bL.size
          replace bO := Below.on bO hc5 bO.size
          clear hc5
          have bG := Below.refl w5.heap.size w5
          refine EL.val (x_move rfl) rfl ?_
          refine EL.val (x_extract rfl rfl) rfl ?_
          refine EL.val (x_extract rfl rfl) rfl ?_
          refine EL.val (x_assign rfl) rfl ?_
          refine EL.val (x_assign rfl) rfl ?_
          refine EL.nil ?_
          refine EX.seq ?_
          refine EC.seq ?_
          refine EC.region ?_
          refine EL.val (fa_54_0 rfl) rfl ?_
          refine EL.val (ld_47 rfl (q3.at (j := 0) rfl) (q3.at (j := 1) rfl)) rfl ?_
          refine EL.val (fa_54_1 rfl) rfl ?_
          refine EL.val (ld_52 rfl (q3.at (j := 2) rfl)) rfl ?_
          refine EL.call (cl_41 rfl rfl) rfl (levels_ok rk sk _ _ _ vsO ssO _ _ (hRO.below bO) (hSO.below bO) bO.size (by omega) (by omega) hK.curves (by omega) hK.sides hK.err) ?_
          rintro e w6 ⟨⟨AM, cM, fM, rfl, dM⟩, hc6⟩
          refine ⟨_, rfl, ?_⟩
          replace q1 := q1.below hc6 q1.lt
          replace q3 := q3.below hc6 q3.lt
          replace hbw := Below.on hbw hc6 hbw.size
          replace bF := Below.on bF hc6 bF.size
          replace bL := Below.on bL hc6 bL.size
          replace bO := Below.on bO hc6 bO.size
          replace bG := Below.on bG hc6 bG.size
          clear hc6
          have bM := Below.refl w6.heap.size w6
          refine EL.val (x_move rfl) rfl ?_
          refine EL.val (x_extract rfl rfl) rfl ?_
          refine EL.val (x_extract rfl rfl) rfl ?_
          refine EL.val (x_assign rfl) rfl ?_
          refine EL.val (x_assign rfl) rfl ?_
          refine EL.nil ?_
          refine EX.seq ?_
          refine EC.seq ?_
          refine EC.seq ?_
          refine EC.region ?_
          refine EL.val (x_move rfl) rfl ?_
          refine EL.val (x_neq rfl rfl (by first | assumption | exact decide_eq_false (by omega))) rfl ?_
          refine EL.val (x_move rfl) rfl ?_
          refine EL.valg rfl rfl (x_move rfl) rfl ?_
          refine EL.valg rfl rfl (x_neq rfl rfl (by first | assumption | exact decide_eq_false (by omega))) rfl ?_
          refine EL.val (x_pick_f rfl rfl) rfl ?_
          refine EL.val (x_move rfl) rfl ?_
          refine EL.valg rfl rfl (x_move rfl) rfl ?_
          refine EL.valg rfl rfl (ln_52 rfl) rfl ?_
          refine EL.valg rfl rfl (x_move rfl) rfl ?_
          refine EL.valg rfl rfl (ln_52 rfl) rfl ?_
          refine EL.valg rfl rfl (x_neq rfl rfl (by first | assumption | exact decide_eq_false (by omega))) rfl ?_
          refine EL.val (x_pick_f rfl rfl) rfl ?_
          refine EL.val (x_move rfl) rfl ?_
          refine EL.valg rfl rfl (x_move rfl) rfl ?_
          refine EL.valg rfl rfl (ln_52 rfl) rfl ?_
          refine EL.valg rfl rfl (x_move rfl) rfl ?_
          refine EL.valg rfl rfl (ln_52 rfl) rfl ?_
          refine EL.valg rfl rfl (x_neq rfl rfl (by first | assumption | exact decide_eq_false (by omega))) rfl ?_
          refine EL.val (x_pick_f rfl rfl) rfl ?_
          refine EL.nil ?_
          refine EX.seq ?_
          refine EC.no rfl ?_
          refine EC.skip ?_
          refine EX.seq ?_
          refine EC.seq ?_
          refine EC.region ?_
          refine EL.val (x_assign rfl) rfl ?_
          refine EL.nil ?_
          refine EX.seq ?_
          refine EC.block ?_
          refine EC.loopD [2, 13, 14, 15, 16, 109, 110, 111, 112, 113, 114, 115, 116, 117, 118, 119, 120, 121, 122, 123, 124, 125, 126, 127, 128, 129, 130, 131, 132, 133, 134, 135, 136, 137, 138, 139, 140, 141, 142, 143, 144, 145, 146, 147, 148, 149, 150, 151, 152, 153, 154, 155, 156, 157, 158, 159, 160, 161, 162, 163, 164, 165, 166, 167, 168, 169, 170, 171, 172, 173, 174, 175, 176, 177, 178, 179, 180, 181, 182, 183, 184, 185, 186, 187, 188, 189, 190, 191, 192, 193, 194, 195, 196, 197, 198, 199, 200, 201, 202, 203, 204, 205, 206, 207, 208, 209, 210, 211, 212, 213, 214, 215, 216, 217, 218, 219, 220, 221, 222, 223, 224, 225, 226, 227, 228, 229, 230, 231, 232, 233, 234, 235, 236, 237, 238, 239, 240, 241] (fun x : Nat => [(13, .int .i64 (x : Nat))]) (fun x W => x ≤ sides.length ∧ Blk W g1 54 #[.slice (some ⟨bR, oR, none⟩) rv.reaches.length c, .slice A' rv.shoals.length c', .slice (some ⟨bS, oS, none⟩) sides.length d] ∧ Below w.heap.size w W ∧ Below wR3.heap.size wR3 W ∧ Below wR4.heap.size wR4 W ∧ Below w5.heap.size w5 W ∧ Below w6.heap.size w6 W) (fun x => sides.length - x) 0 ⟨Nat.zero_le _, q1, hbw, bF, bL, bG, bM⟩ ⟨rfl, trivial⟩ ?_
          clear q1 hbw bF bL bG bM
          rintro i wi ⟨hi, q1, hbw, bF, bL, bG, bM⟩
          by_cases hlt : i < sides.length
          ·
            obtain ⟨bF0, oF0, rfl, _, xF⟩ := sides_cell dF i (by first | rw [flowsUp_len]; omega | rw [lvUp_len]; omega)
            have rF := dF.side i (by first | rw [flowsUp_len]; omega | rw [lvUp_len]; omega)
            rw [flowsUp_at _ _ (by omega), flowsOf_len] at rF
            obtain ⟨AF0, cF0, eF0, _⟩ := rF.shape
            rw [eF0] at xF rF
            obtain ⟨bL0, oL0, rfl, _, xL⟩ := sides_cell dL i (by first | rw [flowsUp_len]; omega | rw [lvUp_len]; omega)
            have rL := dL.side i (by first | rw [flowsUp_len]; omega | rw [lvUp_len]; omega)
            rw [lvUp_at _ _ (by omega), lvOf_len] at rL
            obtain ⟨AL0, cL0, eL0, _⟩ := rL.shape
            rw [eL0] at xL rL
            obtain ⟨bG0, oG0, rfl, _, xG⟩ := sides_cell dG i (by first | rw [flowsUp_len]; omega | rw [lvUp_len]; omega)
            have rG := dG.side i (by first | rw [flowsUp_len]; omega | rw [lvUp_len]; omega)
            rw [flowsUp_at _ _ (by omega), flowsOf_len] at rG
            rw [k3] at rG
            obtain ⟨AG0, cG0, eG0, _⟩ := rG.shape
            rw [eG0] at xG rG
            obtain ⟨bM0, oM0, rfl, _, xM⟩ := sides_cell dM i (by first | rw [flowsUp_len]; omega | rw [lvUp_len]; omega)
            have rM := dM.side i (by first | rw [flowsUp_len]; omega | rw [lvUp_len]; omega)
            rw [lvUp_at _ _ (by omega), lvOf_len] at rM
            rw [k3] at rM
            obtain ⟨AM0, cM0, eM0, _⟩ := rM.shape
            rw [eM0] at xM rM
            refine EC.seq ?_
            refine EC.seq ?_
            refine EC.region ?_
            refine EL.val (x_move rfl) rfl ?_
            refine EL.val (x_move rfl) rfl ?_
            refine EL.val (ln_52 rfl) rfl ?_
            refine EL.val (x_lss rfl rfl (by first | assumption | exact decide_eq_true (by omega))) rfl ?_
            refine EL.nil ?_
            refine EX.seq ?_
            refine EC.yes rfl ?_
            refine EC.skip ?_
            refine EX.seq ?_
            refine EC.seq ?_
            refine EC.block ?_
            refine EC.seq ?_
            refine EC.seq ?_
            refine EC.regionQ (by kernel_rfl) (by kernel_rfl) ?_
            refine EQ.val (fun _ hw => (x_move rfl)) rfl ?_
            refine EQ.val (fun _ hw => (x_move rfl)) rfl ?_
            refine EQ.val (fun _ hw => (ix_52 rfl rfl (by omega))) rfl ?_
            refine EQ.val (fun _ hw => (ld_28 rfl (below_load hw (below_load bF xF)))) rfl ?_
            refine EQ.val (fun _ hw => (ln_28 rfl)) rfl ?_
            refine EQ.val (fun _ hw => (fa_54_1 rfl)) rfl ?_
            refine EQ.val (fun _ hw => (ld_52 rfl (below_load hw (q1.at (j := 2) rfl)))) rfl ?_
            refine EQ.val (fun _ hw => (ix_52 (k := 0) rfl rfl (by omega))) rfl ?_
            refine EQ.val (fun _ hw => (ld_28 rfl (below_load hw (below_load hbw c0)))) rfl ?_
            refine EQ.val (fun _ hw => (ln_28 rfl)) rfl ?_
            refine EQ.val (fun _ hw => (x_neq rfl rfl (by first | assumption | exact decide_eq_false (by omega)))) rfl ?_
            refine EQ.val (fun _ hw => (x_move rfl)) rfl ?_
            refine EQ.valg rfl rfl (fun _ hw => (x_move rfl)) rfl ?_
            refine EQ.valg rfl rfl (fun _ hw => (x_move rfl)) rfl ?_
            refine EQ.valg rfl rfl (fun _ hw => (ix_52 rfl rfl (by omega))) rfl ?_
            refine EQ.valg rfl rfl (fun _ hw => (ld_28 rfl (below_load hw (below_load bG xG)))) rfl ?_
            refine EQ.valg rfl rfl (fun _ hw => (ln_28 rfl)) rfl ?_
            refine EQ.valg rfl rfl (fun _ hw => (x_move rfl)) rfl ?_
            refine EQ.valg rfl rfl (fun _ hw => (x_move rfl)) rfl ?_
            refine EQ.valg rfl rfl (fun _ hw => (ix_52 rfl rfl (by omega))) rfl ?_
            refine EQ.valg rfl rfl (fun _ hw => (ld_28 rfl (below_load hw (below_load bF xF)))) rfl ?_
            refine EQ.valg rfl rfl (fun _ hw => (ln_28 rfl)) rfl ?_
            refine EQ.valg rfl rfl (fun _ hw => (x_neq rfl rfl (by first | assumption | exact decide_eq_false (by omega)))) rfl ?_
            refine EQ.val (fun _ hw => (x_pick_f rfl rfl)) rfl ?_
            refine EQ.val (fun _ hw => (x_move rfl)) rfl ?_
            refine EQ.valg rfl rfl (fun _ hw => (x_move rfl)) rfl ?_
            refine EQ.valg rfl rfl (fun _ hw => (x_move rfl)) rfl ?_
            refine EQ.valg rfl rfl (fun _ hw => (ix_52 rfl rfl (by omega))) rfl ?_
            refine EQ.valg rfl rfl (fun _ hw => (ld_28 rfl (below_load hw (below_load bM xM)))) rfl ?_
            refine EQ.valg rfl rfl (fun _ hw => (ln_28 rfl)) rfl ?_
            refine EQ.valg rfl rfl (fun _ hw => (x_move rfl)) rfl ?_
            refine EQ.valg rfl rfl (fun _ hw => (x_move rfl)) rfl ?_
            refine EQ.valg rfl rfl (fun _ hw => (ix_52 rfl rfl (by omega))) rfl ?_
            refine EQ.valg rfl rfl (fun _ hw => (ld_28 rfl (below_load hw (below_load bF xF)))) rfl ?_
            refine EQ.valg rfl rfl (fun _ hw => (ln_28 rfl)) rfl ?_
            refine EQ.valg rfl rfl (fun _ hw => (x_neq rfl rfl (by first | assumption | exact decide_eq_false (by omega)))) rfl ?_
            refine EQ.val (fun _ hw => (x_pick_f rfl rfl)) rfl ?_
            refine EQ.val (fun _ hw => (x_move rfl)) rfl ?_
            refine EQ.valg rfl rfl (fun _ hw => (x_move rfl)) rfl ?_
            refine EQ.valg rfl rfl (fun _ hw => (x_move rfl)) rfl ?_
            refine EQ.valg rfl rfl (fun _ hw => (ix_52 rfl rfl (by omega))) rfl ?_
            refine EQ.valg rfl rfl (fun _ hw => (ld_28 rfl (below_load hw (below_load bL xL)))) rfl ?_
            refine EQ.valg rfl rfl (fun _ hw => (ln_28 rfl)) rfl ?_
            refine EQ.valg rfl rfl (fun _ hw => (x_move rfl)) rfl ?_
            refine EQ.valg rfl rfl (fun _ hw => (x_move rfl)) rfl ?_
            refine EQ.valg rfl rfl (fun _ hw => (ix_52 rfl rfl (by omega))) rfl ?_
            refine EQ.valg rfl rfl (fun _ hw => (ld_28 rfl (below_load hw (below_load bF xF)))) rfl ?_
            refine EQ.valg rfl rfl (fun _ hw => (ln_28 rfl)) rfl ?_
            refine EQ.valg rfl rfl (fun _ hw => (x_neq rfl rfl (by first | assumption | exact decide_eq_false (by omega)))) rfl ?_
            refine EQ.val (fun _ hw => (x_pick_f rfl rfl)) rfl ?_
            refine EQ.fin (fun w7 hw_ => ?_)
            replace q1 := q1.below hw_ q1.lt
            replace hbw := Below.on hbw hw_ hbw.size
            replace bF := Below.on bF hw_ bF.size
            replace bL := Below.on bL hw_ bL.size
            replace bG := Below.on bG hw_ bG.size
            replace bM := Below.on bM hw_ bM.size
            clear hw_
            refine EX.seq ?_
            refine EC.no rfl ?_
            refine EC.skip ?_
            refine EX.seq ?_
            refine EC.seq ?_
            refine EC.region ?_
            refine EL.val (x_assign rfl) rfl ?_
            refine EL.nil ?_
            refine EX.seq ?_
            refine EC.block ?_
            refine EC.loopD [2, 14, 15, 16, 165, 166, 167, 168, 169, 170, 171, 172, 173, 174, 175, 176, 177, 178, 179, 180, 181, 182, 183, 184, 185, 186, 187, 188, 189, 190, 191, 192, 193, 194, 195, 196, 197, 198, 199, 200, 201, 202, 203, 204, 205, 206, 207, 208, 209, 210, 211, 212, 213, 214, 215, 216, 217, 218, 219, 220, 221, 222, 223, 224, 225, 226, 227, 228, 229, 230, 231, 232, 233, 234, 235, 236, 237, 238, 239, 240, 241] (fun x : Nat => [(14, .int .i64 (x : Nat))]) (fun x W => x ≤ (sides.getD 0 []).length ∧ Blk W g1 54 #[.slice (some ⟨bR, oR, none⟩) rv.reaches.length c, .slice A' rv.shoals.length c', .slice (some ⟨bS, oS, none⟩) sides.length d] ∧ Below w.heap.size w W ∧ Below wR3.heap.size wR3 W ∧ Below wR4.heap.size wR4 W ∧ Below w5.heap.size w5 W ∧ Below w6.heap.size w6 W) (fun x => (sides.getD 0 []).length - x) 0 ⟨Nat.zero_le _, q1, hbw, bF, bL, bG, bM⟩ ⟨rfl, trivial⟩ ?_
            clear q1 hbw bF bL bG bM
            rintro j wj ⟨hj, q1, hbw, bF, bL, bG, bM⟩
            by_cases hjl : j < (sides.getD 0 []).length
            ·
              obtain ⟨bF1, oF1, rfl, _, yF, zF⟩ := bds_cells _ j (by rw [flowsOf_len]; omega) _ _ _ _ _ rF
              rw [flowsOf_at _ _ (by omega)] at yF zF
              obtain ⟨bL1, oL1, rfl, _, yL, zL⟩ := bds_cells _ j (by rw [lvOf_len]; omega) _ _ _ _ _ rL
              rw [lvOf_at _ _ (by omega)] at yL zL
              obtain ⟨bG1, oG1, rfl, _, yG, zG⟩ := bds_cells _ j (by rw [flowsOf_len]; omega) _ _ _ _ _ rG
              rw [flowsOf_at _ _ (by omega)] at yG zG
              obtain ⟨bM1, oM1, rfl, _, yM, zM⟩ := bds_cells _ j (by rw [lvOf_len]; omega) _ _ _ _ _ rM
              rw [lvOf_at _ _ (by omega)] at yM zM
              have hfl := hK.flow i (j : Int) (by omega) (by omega)
              rw [hfl] at yG zG
              have hlk : (lvIn rk sk i (j : Int)).lo = (lvIn rv sides i (j : Int)).lo := by
                unfold lvIn
                rw [hfl, hK.lev i _ (by omega)]
                rfl
              refine EC.seq ?_
              refine EC.seq ?_
              refine EC.region ?_
              refine EL.val (x_move rfl) rfl ?_
              refine EL.val (x_move rfl) rfl ?_
              refine EL.val (x_move rfl) rfl ?_
              refine EL.val (ix_52 rfl rfl (by omega)) rfl ?_
              refine EL.val (ld_28 rfl (below_load bF xF)) rfl ?_
              refine EL.val (ln_28 rfl) rfl ?_
              refine EL.val (x_lss rfl rfl (by first | assumption | exact decide_eq_true (by omega))) rfl ?_
              refine EL.nil ?_
              refine EX.seq ?_
              refine EC.yes rfl ?_
              refine EC.skip ?_
              refine EX.seq ?_
              refine EC.seq ?_
              refine EC.block ?_
              refine EC.seq ?_
              refine EC.regionQ (by kernel_rfl) (by kernel_rfl) ?_
              refine EQ.val (fun _ hw => (x_move rfl)) rfl ?_
              refine EQ.val (fun _ hw => (x_move rfl)) rfl ?_
              refine EQ.val (fun _ hw => (ix_52 rfl rfl (by omega))) rfl ?_
              refine EQ.val (fun _ hw => (ld_28 rfl (below_load hw (below_load bF xF)))) rfl ?_
              refine EQ.val (fun _ hw => (x_move rfl)) rfl ?_
              refine EQ.val (fun _ hw => (ix_28 rfl rfl hjl)) rfl ?_
              refine EQ.val (fun _ hw => (fa_23_0 rfl)) rfl ?_
              refine EQ.val (fun _ hw => (ld_3 rfl (below_load hw (below_load bF yF)))) rfl ?_
              refine EQ.val (fun _ hw => (x_move rfl)) rfl ?_
              refine EQ.val (fun _ hw => (x_move rfl)) rfl ?_
              refine EQ.val (fun _ hw => (ix_52 rfl rfl (by omega))) rfl ?_
              refine EQ.val (fun _ hw => (ld_28 rfl (below_load hw (below_load bL xL)))) rfl ?_
              refine EQ.val (fun _ hw => (x_move rfl)) rfl ?_
              refine EQ.val (fun _ hw => (ix_28 rfl rfl hjl)) rfl ?_
              refine EQ.val (fun _ hw => (fa_23_0 rfl)) rfl ?_
              refine EQ.val (fun _ hw => (ld_3 rfl (below_load hw (below_load bL yL)))) rfl ?_
              refine EQ.val (fun _ hw => (x_assign rfl)) rfl ?_
              refine EQ.val (fun _ hw => (x_assign rfl)) rfl ?_
              refine EQ.fin (fun w8 hw_ => ?_)
              replace q1 := q1.below hw_ q1.lt
              replace hbw := Below.on hbw hw_ hbw.size
              replace bF := Below.on bF hw_ bF.size
              replace bL := Below.on bL hw_ bL.size
              replace bG := Below.on bG hw_ bG.size
              replace bM := Below.on bM hw_ bM.size
              clear hw_
              refine EX.seq ?_
              refine EC.seq ?_
              refine EC.seq ?_
              refine EC.region ?_
              refine EL.val (x_move rfl) rfl ?_
              refine EL.val (x_eql rfl rfl (by first | assumption | exact decide_eq_false (by omega))) rfl ?_
              refine EL.nil ?_
              refine EX.seq ?_
              refine EC.no rfl ?_
              refine EC.skip ?_
              refine EX.seq ?_
              refine EC.seq ?_
              refine EC.regionQ (by kernel_rfl) (by kernel_rfl) ?_
              refine EQ.val (fun _ hw => (x_move rfl)) rfl ?_
              refine EQ.val (fun _ hw => (x_move rfl)) rfl ?_
              refine EQ.val (fun _ hw => (ix_52 rfl rfl (by omega))) rfl ?_
              refine EQ.val (fun _ hw => (ld_28 rfl (below_load hw (below_load bG xG)))) rfl ?_
              refine EQ.val (fun _ hw => (x_move rfl)) rfl ?_
              refine EQ.val (fun _ hw => (ix_28 rfl rfl hjl)) rfl ?_
              refine EQ.val (fun _ hw => (ld_23 rfl (below_load hw (below_load bG yG)) (below_load hw (below_load bG zG)))) rfl ?_
              refine EQ.val (fun _ hw => (x_move rfl)) rfl ?_
              refine EQ.val (fun _ hw => (x_move rfl)) rfl ?_
              refine EQ.val (fun _ hw => (bd_23_0_1 rfl rfl)) rfl ?_
              refine EQ.val (fun _ hw => (neq_23 (r := false) rfl rfl (by simp [bdP, pB]))) rfl ?_
              refine EQ.val (fun _ hw => (x_move rfl)) rfl ?_
              refine EQ.valg rfl rfl (fun _ hw => (x_move rfl)) rfl ?_
              refine EQ.valg rfl rfl (fun _ hw => (x_move rfl)) rfl ?_
              refine EQ.valg rfl rfl (fun _ hw => (ix_52 rfl rfl (by omega))) rfl ?_
              refine EQ.valg rfl rfl (fun _ hw => (ld_28 rfl (below_load hw (below_load bM xM)))) rfl ?_
              refine EQ.valg rfl rfl (fun _ hw => (x_move rfl)) rfl ?_
              refine EQ.valg rfl rfl (fun _ hw => (ix_28 rfl rfl hjl)) rfl ?_
              refine EQ.valg rfl rfl (fun _ hw => (fa_23_0 rfl)) rfl ?_
              refine EQ.valg rfl rfl (fun _ hw => (ld_3 rfl (below_load hw (below_load bM yM)))) rfl ?_
              refine EQ.valg rfl rfl (fun _ hw => (x_move rfl)) rfl ?_
              refine EQ.valg rfl rfl (fun _ hw => (x_move rfl)) rfl ?_
              refine EQ.valg rfl rfl (fun _ hw => (ix_52 rfl rfl (by omega))) rfl ?_
              refine EQ.valg rfl rfl (fun _ hw => (ld_28 rfl (below_load hw (below_load bM xM)))) rfl ?_
              refine EQ.valg rfl rfl (fun _ hw => (x_move rfl)) rfl ?_
              refine EQ.valg rfl rfl (fun _ hw => (ix_28 rfl rfl hjl)) rfl ?_
              refine EQ.valg rfl rfl (fun _ hw => (fa_23_1 rfl)) rfl ?_
              refine EQ.valg rfl rfl (fun _ hw => (ld_3 rfl (below_load hw (below_load bM zM)))) rfl ?_
              refine EQ.valg rfl rfl (fun _ hw => (ba_79 rfl rfl)) rfl ?_
              refine EQ.valg rfl rfl (fun _ hw => (x_move rfl)) rfl ?_
              refine EQ.valg rfl rfl (fun _ hw => (iv_79_0 rfl rfl)) rfl ?_
              refine EQ.valg rfl rfl (fun _ hw => (x_move rfl)) rfl ?_
              refine EQ.valg rfl rfl (fun _ hw => (x_neq rfl rfl (by first | assumption | exact decide_eq_false (by omega)))) rfl ?_
              refine EQ.val (fun _ hw => (x_pick_f rfl rfl)) rfl ?_
              refine EQ.fin (fun w9 hw_ => ?_)
              replace q1 := q1.below hw_ q1.lt
              replace hbw := Below.on hbw hw_ hbw.size
              replace bF := Below.on bF hw_ bF.size
              replace bL := Below.on bL hw_ bL.size
              replace bG := Below.on bG hw_ bG.size
              replace bM := Below.on bM hw_ bM.size
              clear hw_
              refine EX.seq ?_
              refine EC.no rfl ?_
              refine EC.skip ?_
              refine EX.blk ?_
              refine EX.seq ?_
              refine EC.region ?_
              refine EL.val (x_move rfl) rfl ?_
              refine EL.val (x_add rfl rfl (by first | assumption | exact IntWalk.i64_in _ ⟨by omega, by omega⟩)) rfl ?_
              refine EL.val (x_assign rfl) rfl ?_
              refine EL.nil ?_
              refine EX.roundD (j + 1) ⟨rfl, trivial⟩ (by repeat first | exact Sub.refl _ | refine sub_past rfl ?_ | refine sub_del rfl ?_ | refine sub_insL_nil ?_) ⟨hjl, q1, hbw, bF, bL, bG, bM⟩ (by omega)
            ·
              refine EC.seq ?_
              refine EC.seq ?_
              refine EC.region ?_
              refine EL.val (x_move rfl) rfl ?_
              refine EL.val (x_move rfl) rfl ?_
              refine EL.val (x_move rfl) rfl ?_
              refine EL.val (ix_52 rfl rfl (by omega)) rfl ?_
              refine EL.val (ld_28 rfl (below_load bF xF)) rfl ?_
              refine EL.val (ln_28 rfl) rfl ?_
              refine EL.val (x_lss rfl rfl (by first | assumption | exact decide_eq_false (by omega))) rfl ?_
              refine EL.nil ?_
              refine EX.seq ?_
              refine EC.no rfl ?_
              refine EC.exit ?_
              refine EX.seq_exit ?_
              refine EX.seq_exit ?_
              refine EX.blk_here ?_
              refine EX.blk ?_
              refine EX.seq ?_
              refine EC.region ?_
              refine EL.val (x_move rfl) rfl ?_
              refine EL.val (x_add rfl rfl (by first | assumption | exact IntWalk.i64_in _ ⟨by omega, by omega⟩)) rfl ?_
              refine EL.val (x_assign rfl) rfl ?_
              refine EL.nil ?_
              refine EX.roundD (i + 1) ⟨rfl, trivial⟩ (by repeat first | exact Sub.refl _ | refine sub_past rfl ?_ | refine sub_del rfl ?_ | refine sub_insL_nil ?_) ⟨hlt, q1, hbw, bF, bL, bG, bM⟩ (by omega)
          ·
            refine EC.seq ?_
            refine EC.seq ?_
            refine EC.region ?_
            refine EL.val (x_move rfl) rfl ?_
            refine EL.val (x_move rfl) rfl ?_
            refine EL.val (ln_52 rfl) rfl ?_
            refine EL.val (x_lss rfl rfl (by first | assumption | exact decide_eq_false (by omega))) rfl ?_
            refine EL.nil ?_
            refine EX.seq ?_
            refine EC.no rfl ?_
            refine EC.exit ?_
            refine EX.seq_exit ?_
            refine EX.seq_exit ?_
            refine EX.blk_here ?_
            refine EX.blk ?_
            refine EX.seq ?_
            refine EC.region ?_
            refine EL.val (x_move rfl) rfl ?_
            refine EL.val (x_add rfl rfl (by first | assumption | exact IntWalk.i64_in _ ⟨by omega, by omega⟩)) rfl ?_
            refine EL.val (x_assign rfl) rfl ?_
            refine EL.nil ?_
            refine EX.roundD 1 ⟨rfl, trivial⟩ (by repeat first | exact Sub.refl _ | refine sub_past rfl ?_ | refine sub_del rfl ?_ | refine sub_insL_nil ?_) ⟨by omega, q1, hbw, bF, bL⟩ (by omega)
        ·
          refine EC.seq ?_
          refine EC.seq ?_
          refine EC.region ?_
          refine EL.val (x_move rfl) rfl ?_
          refine EL.val (x_lss rfl rfl (by first | assumption | exact decide_eq_true (by omega))) rfl ?_
          refine EL.nil ?_
          refine EX.seq ?_
          refine EC.yes rfl ?_
          refine EC.skip ?_
          refine EX.seq ?_
          refine EC.seq ?_
          refine EC.block ?_
          refine EC.seq ?_
          refine EC.region ?_
          refine EL.val (ld_54 rfl (q1.at (j := 0) rfl) (q1.at (j := 1) rfl) (q1.at (j := 2) rfl)) rfl ?_
          refine EL.val (x_move rfl) rfl ?_
          refine EL.val (x_eql rfl rfl (by first | assumption | exact decide_eq_true (by omega))) rfl ?_
          refine EL.call (cl_45 rfl rfl) rfl (only_true rv sides _ _ _ vs ss _ B (hr.below (hbw.mono hB)) (hs.below (hbw.mono hB)) (Nat.le_trans hB hbw.size) hfine hS) ?_
          rintro e wO ⟨⟨aO, bO_, sO, vsO, ssO, rfl, hRO, hSO⟩, hcO⟩
          refine ⟨_, rfl, ?_⟩
          replace q1 := q1.below hcO q1.lt
          replace hbw := Below.on hbw hcO hbw.size
          replace bF := Below.on bF hcO bF.size
          replace bL := Below.on bL hcO bL.size
          clear hcO
          have hK := kept (hi := true) hst f3 f4
          obtain ⟨rk, erk⟩ : ∃ z, z = (⟨mkR true rv.reaches rv.reaches.length, rv.shoals⟩ : River) := ⟨_, rfl⟩
          obtain ⟨sk, esk⟩ : ∃ z, z = mkS true sides sides.length := ⟨_, rfl⟩
          rw [← erk, ← esk] at hK
          rw [← erk] at hRO
          rw [← esk] at hSO
          clear erk esk
          obtain ⟨AO, cO, rfl, _⟩ := hRO.reaches.shape
          obtain ⟨AO', cO', rfl, _⟩ := hRO.shoals.shape
          obtain ⟨DO, dO, rfl, _⟩ := hSO.rd.shape
          have bO := Below.refl wO.heap.size wO
          have k1 := hK.len
          have k2 := hK.slen
          have k3 := hK.h0
          have k4 : rk.shoals.length = rv.shoals.length := by rw [hK.shoals]
          refine EL.newP al_54 rfl ?_
          intro g10 w10 q10 hb10 hg10 hl10
          have n1_10 : g1 ≠ g10 := Nat.ne_of_lt (Nat.lt_of_lt_of_le q1.lt hg10)
          have bhbw_10 := Nat.le_trans hbw.size hg10
          have bbF_10 := Nat.le_trans bF.size hg10
          have bbL_10 := Nat.le_trans bL.size hg10
          have bbO_10 := Nat.le_trans bO.size hg10
          replace q1 := q1.below hb10 q1.lt
          replace hbw := Below.on hbw hb10 hbw.size
          replace bF := Below.on bF hb10 bF.size
          replace bL := Below.on bL hb10 bL.size
          replace bO := Below.on bO hb10 bO.size
          clear hb10 hg10 hl10
          refine EL.store rfl rfl q10 sz_54 rfl rfl rfl rfl ?_
          intro w11 hq11 hg11
          replace q1 := q1.grown hg11 (fun h => n1_10 (Option.some.inj h))
          replace hbw := below_store hbw hg11 bhbw_10
          replace bF := below_store bF hg11 bbF_10
          replace bL := below_store bL hg11 bbL_10
          replace bO := below_store bO hg11 bbO_10
          replace q10 := hq11
          clear hg11 hq11
          refine EL.nil ?_
          refine EX.seq ?_
          refine EC.seq ?_
          refine EC.region ?_
          refine EL.val (fa_54_0 rfl) rfl ?_
          refine EL.val (ld_47 rfl (q10.at (j := 0) rfl) (q10.at (j := 1) rfl)) rfl ?_
          refine EL.val (fa_54_1 rfl) rfl ?_
          refine EL.val (ld_52 rfl (q10.at (j := 2) rfl)) rfl ?_
          refine EL.call (cl_40 rfl rfl) rfl (flows_ok rk sk _ _ _ vsO ssO _ _ (hRO.below bO) (hSO.below bO) bO.size (by omega) (by omega) hK.curves (by omega) hK.sides hK.err) ?_
          rintro e w12 ⟨⟨AG, cG, fG, rfl, dG⟩, hc12⟩
          refine ⟨_, rfl, ?_⟩
          replace q1 := q1.below hc12 q1.lt
          replace q10 := q10.below hc12 q10.lt
          replace hbw := Below.on hbw hc12 hbw.size
          replace bF := Below.on bF hc12 bF.size
          replace bL := Below.on bL hc12 bL.size
          replace bO := Below.on bO hc12 bO.size
          clear hc12
          have bG := Below.refl w12.heap.size w12
          refine EL.val (x_move rfl) rfl ?_
          refine EL.val (x_extract rfl rfl) rfl ?_
          refine EL.val (x_extract rfl rfl) rfl ?_
          refine EL.val (x_assign rfl) rfl ?_
          refine EL.val (x_assign rfl) rfl ?_
          refine EL.nil ?_
          refine EX.seq ?_
          refine EC.seq ?_
          refine EC.region ?_
          refine EL.val (fa_54_0 rfl) rfl ?_
          refine EL.val (ld_47 rfl (q10.at (j := 0) rfl) (q10.at (j := 1) rfl)) rfl ?_
          refine EL.val (fa_54_1 rfl) rfl ?_
          refine EL.val (ld_52 rfl (q10.at (j := 2) rfl)) rfl ?_
          refine EL.call (cl_41 rfl rfl) rfl (levels_ok rk sk _ _ _ vsO ssO _ _ (hRO.below bO) (hSO.below bO) bO.size (by omega) (by omega) hK.curves (by omega) hK.sides hK.err) ?_
          rintro e w13 ⟨⟨AM, cM, fM, rfl, dM⟩, hc13⟩
          refine ⟨_, rfl, ?_⟩
          replace q1 := q1.below hc13 q1.lt
          replace q10 := q10.below hc13 q10.lt
          replace hbw := Below.on hbw hc13 hbw.size
          replace bF := Below.on bF hc13 bF.size
          replace bL := Below.on bL hc13 bL.size
          replace bO := Below.on bO hc13 bO.size
          replace bG := Below.on bG hc13 bG.size
          clear hc13
          have bM := Below.refl w13.heap.size w13
          refine EL.val (x_move rfl) rfl ?_
          refine EL.val (x_extract rfl rfl) rfl ?_
          refine EL.val (x_extract rfl rfl) rfl ?_
          refine EL.val (x_assign rfl) rfl ?_
          refine EL.val (x_assign rfl) rfl ?_
          refine EL.nil ?_
          refine EX.seq ?_
          refine EC.seq ?_
          refine EC.seq ?_
          refine EC.region ?_
          refine EL.val (x_move rfl) rfl ?_
          refine EL.val (x_neq rfl rfl (by first | assumption | exact decide_eq_false (by omega))) rfl ?_
          refine EL.val (x_move rfl) rfl ?_
          refine EL.valg rfl rfl (x_move rfl) rfl ?_
          refine EL.valg rfl rfl (x_neq rfl rfl (by first | assumption | exact decide_eq_false (by omega))) rfl ?_
          refine EL.val (x_pick_f rfl rfl) rfl ?_
          refine EL.val (x_move rfl) rfl ?_
          refine EL.valg rfl rfl (x_move rfl) rfl ?_
          refine EL.valg rfl rfl (ln_52 rfl) rfl ?_
          refine EL.valg rfl rfl (x_move rfl) rfl ?_
          refine EL.valg rfl rfl (ln_52 rfl) rfl ?_
          refine EL.valg rfl rfl (x_neq rfl rfl (by first | assumption | exact decide_eq_false (by omega))) rfl ?_
          refine EL.val (x_pick_f rfl rfl) rfl ?_
          refine EL.val (x_move rfl) rfl ?_
          refine EL.valg rfl rfl (x_move rfl) rfl ?_
          refine EL.valg rfl rfl (ln_52 rfl) rfl ?_
          refine EL.valg rfl rfl (x_move rfl) rfl ?_
          refine EL.valg rfl rfl (ln_52 rfl) rfl ?_
          refine EL.valg rfl rfl (x_neq rfl rfl (by first | assumption | exact decide_eq_false (by omega))) rfl ?_
          refine EL.val (x_pick_f rfl rfl) rfl ?_
          refine EL.nil ?_
          refine EX.seq ?_
          refine EC.no rfl ?_
          refine EC.skip ?_
          refine EX.seq ?_
          refine EC.seq ?_
          refine EC.region ?_
          refine EL.val (x_assign rfl) rfl ?_
          refine EL.nil ?_
          refine EX.seq ?_
          refine EC.block ?_
          refine EC.loopD [2, 13, 14, 15, 16, 109, 110, 111, 112, 113, 114, 115, 116, 117, 118, 119, 120, 121, 122, 123, 124, 125, 126, 127, 128, 129, 130, 131, 132, 133, 134, 135, 136, 137, 138, 139, 140, 141, 142, 143, 144, 145, 146, 147, 148, 149, 150, 151, 152, 153, 154, 155, 156, 157, 158, 159, 160, 161, 162, 163, 164, 165, 166, 167, 168, 169, 170, 171, 172, 173, 174, 175, 176, 177, 178, 179, 180, 181, 182, 183, 184, 185, 186, 187, 188, 189, 190, 191, 192, 193, 194, 195, 196, 197, 198, 199, 200, 201, 202, 203, 204, 205, 206, 207, 208, 209, 210, 211, 212, 213, 214, 215, 216, 217, 218, 219, 220, 221, 222, 223, 224, 225, 226, 227, 228, 229, 230, 231, 232, 233, 234, 235, 236, 237, 238, 239, 240, 241] (fun x : Nat => [(13, .int .i64 (x : Nat))]) (fun x W => x ≤ sides.length ∧ Blk W g1 54 #[.slice (some ⟨bR, oR, none⟩) rv.reaches.length c, .slice A' rv.shoals.length c', .slice (some ⟨bS, oS, none⟩) sides.length d] ∧ Below w.heap.size w W ∧ Below wR3.heap.size wR3 W ∧ Below wR4.heap.size wR4 W ∧ Below w12.heap.size w12 W ∧ Below w13.heap.size w13 W) (fun x => sides.length - x) 0 ⟨Nat.zero_le _, q1, hbw, bF, bL, bG, bM⟩ ⟨rfl, trivial⟩ ?_
          clear q1 hbw bF bL bG bM
          rintro i wi ⟨hi, q1, hbw, bF, bL, bG, bM⟩
          by_cases hlt : i < sides.length
          ·
            obtain ⟨bF0, oF0, rfl, _, xF⟩ := sides_cell dF i (by first | rw [flowsUp_len]; omega | rw [lvUp_len]; omega)
            have rF := dF.side i (by first | rw [flowsUp_len]; omega | rw [lvUp_len]; omega)
            rw [flowsUp_at _ _ (by omega), flowsOf_len] at rF
            obtain ⟨AF0, cF0, eF0, _⟩ := rF.shape
            rw [eF0] at xF rF
            obtain ⟨bL0, oL0, rfl, _, xL⟩ := sides_cell dL i (by first | rw [flowsUp_len]; omega | rw [lvUp_len]; omega)
            have rL := dL.side i (by first | rw [flowsUp_len]; omega | rw [lvUp_len]; omega)
            rw [lvUp_at _ _ (by omega), lvOf_len] at rL
            obtain ⟨AL0, cL0, eL0, _⟩ := rL.shape
            rw [eL0] at xL rL
            obtain ⟨bG0, oG0, rfl, _, xG⟩ := sides_cell dG i (by first | rw [flowsUp_len]; omega | rw [lvUp_len]; omega)
            have rG := dG.side i (by first | rw [flowsUp_len]; omega | rw [lvUp_len]; omega)
            rw [flowsUp_at _ _ (by omega), flowsOf_len] at rG
            rw [k3] at rG
            obtain ⟨AG0, cG0, eG0, _⟩ := rG.shape
            rw [eG0] at xG rG
            obtain ⟨bM0, oM0, rfl, _, xM⟩ := sides_cell dM i (by first | rw [flowsUp_len]; omega | rw [lvUp_len]; omega)
            have rM := dM.side i (by first | rw [flowsUp_len]; omega | rw [lvUp_len]; omega)
            rw [lvUp_at _ _ (by omega), lvOf_len] at rM
            rw [k3] at rM
            obtain ⟨AM0, cM0, eM0, _⟩ := rM.shape
            rw [eM0] at xM rM
            refine EC.seq ?_
            refine EC.seq ?_
            refine EC.region ?_
            refine EL.val (x_move rfl) rfl ?_
            refine EL.val (x_move rfl) rfl ?_
            refine EL.val (ln_52 rfl) rfl ?_
            refine EL.val (x_lss rfl rfl (by first | assumption | exact decide_eq_true (by omega))) rfl ?_
            refine EL.nil ?_
            refine EX.seq ?_
            refine EC.yes rfl ?_
            refine EC.skip ?_
            refine EX.seq ?_
            refine EC.seq ?_
            refine EC.block ?_
            refine EC.seq ?_
            refine EC.seq ?_
            refine EC.regionQ (by kernel_rfl) (by kernel_rfl) ?_
            refine EQ.val (fun _ hw => (x_move rfl)) rfl ?_
            refine EQ.val (fun _ hw => (x_move rfl)) rfl ?_
            refine EQ.val (fun _ hw => (ix_52 rfl rfl (by omega))) rfl ?_
            refine EQ.val (fun _ hw => (ld_28 rfl (below_load hw (below_load bF xF)))) rfl ?_
            refine EQ.val (fun _ hw => (ln_28 rfl)) rfl ?_
            refine EQ.val (fun _ hw => (fa_54_1 rfl)) rfl ?_
            refine EQ.val (fun _ hw => (ld_52 rfl (below_load hw (q1.at (j := 2) rfl)))) rfl ?_
            refine EQ.val (fun _ hw => (ix_52 (k := 0) rfl rfl (by omega))) rfl ?_
            refine EQ.val (fun _ hw => (ld_28 rfl (below_load hw (below_load hbw c0)))) rfl ?_
            refine EQ.val (fun _ hw => (ln_28 rfl)) rfl ?_
            refine EQ.val (fun _ hw => (x_neq rfl rfl (by first | assumption | exact decide_eq_false (by omega)))) rfl ?_
            refine EQ.val (fun _ hw => (x_move rfl)) rfl ?_
            refine EQ.valg rfl rfl (fun _ hw => (x_move rfl)) rfl ?_
            refine EQ.valg rfl rfl (fun _ hw => (x_move rfl)) rfl ?_
            refine EQ.valg rfl rfl (fun _ hw => (ix_52 rfl rfl (by omega))) rfl ?_
            refine EQ.valg rfl rfl (fun _ hw => (ld_28 rfl (below_load hw (below_load bG xG)))) rfl ?_
            refine EQ.valg rfl rfl (fun _ hw => (ln_28 rfl)) rfl ?_
            refine EQ.valg rfl rfl (fun _ hw => (x_move rfl)) rfl ?_
            refine EQ.valg rfl rfl (fun _ hw => (x_move rfl)) rfl ?_
            refine EQ.valg rfl rfl (fun _ hw => (ix_52 rfl rfl (by omega))) rfl ?_
            refine EQ.valg rfl rfl (fun _ hw => (ld_28 rfl (below_load hw (below_load bF xF)))) rfl ?_
            refine EQ.valg rfl rfl (fun _ hw => (ln_28 rfl)) rfl ?_
            refine EQ.valg rfl rfl (fun _ hw => (x_neq rfl rfl (by first | assumption | exact decide_eq_false (by omega)))) rfl ?_
            refine EQ.val (fun _ hw => (x_pick_f rfl rfl)) rfl ?_
            refine EQ.val (fun _ hw => (x_move rfl)) rfl ?_
            refine EQ.valg rfl rfl (fun _ hw => (x_move rfl)) rfl ?_
            refine EQ.valg rfl rfl (fun _ hw => (x_move rfl)) rfl ?_
            refine EQ.valg rfl rfl (fun _ hw => (ix_52 rfl rfl (by omega))) rfl ?_
            refine EQ.valg rfl rfl (fun _ hw => (ld_28 rfl (below_load hw (below_load bM xM)))) rfl ?_
            refine EQ.valg rfl rfl (fun _ hw => (ln_28 rfl)) rfl ?_
            refine EQ.valg rfl rfl (fun _ hw => (x_move rfl)) rfl ?_
            refine EQ.valg rfl rfl (fun _ hw => (x_move rfl)) rfl ?_
            refine EQ.valg rfl rfl (fun _ hw => (ix_52 rfl rfl (by omega))) rfl ?_
            refine EQ.valg rfl rfl (fun _ hw => (ld_28 rfl (below_load hw (below_load bF xF)))) rfl ?_
            refine EQ.valg rfl rfl (fun _ hw => (ln_28 rfl)) rfl ?_
            refine EQ.valg rfl rfl (fun _ hw => (x_neq rfl rfl (by first | assumption | exact decide_eq_false (by omega)))) rfl ?_
            refine EQ.val (fun _ hw => (x_pick_f rfl rfl)) rfl ?_
            refine EQ.val (fun _ hw => (x_move rfl)) rfl ?_
            refine EQ.valg rfl rfl (fun _ hw => (x_move rfl)) rfl ?_
            refine EQ.valg rfl rfl (fun _ hw => (x_move rfl)) rfl ?_
            refine EQ.valg rfl rfl (fun _ hw => (ix_52 rfl rfl (by omega))) rfl ?_
            refine EQ.valg rfl rfl (fun _ hw => (ld_28 rfl (below_load hw (below_load bL xL)))) rfl ?_
            refine EQ.valg rfl rfl (fun _ hw => (ln_28 rfl)) rfl ?_
            refine EQ.valg rfl rfl (fun _ hw => (x_move rfl)) rfl ?_
            refine EQ.valg rfl rfl (fun _ hw => (x_move rfl)) rfl ?_
            refine EQ.valg rfl rfl (fun _ hw => (ix_52 rfl rfl (by omega))) rfl ?_
            refine EQ.valg rfl rfl (fun _ hw => (ld_28 rfl (below_load hw (below_load bF xF)))) rfl ?_
            refine EQ.valg rfl rfl (fun _ hw => (ln_28 rfl)) rfl ?_
            refine EQ.valg rfl rfl (fun _ hw => (x_neq rfl rfl (by first | assumption | exact decide_eq_false (by omega)))) rfl ?_
            refine EQ.val (fun _ hw => (x_pick_f rfl rfl)) rfl ?_
            refine EQ.fin (fun w14 hw_ => ?_)
            replace q1 := q1.below hw_ q1.lt
            replace hbw := Below.on hbw hw_ hbw.size
            replace bF := Below.on bF hw_ bF.size
            replace bL := Below.on bL hw_ bL.size
            replace bG := Below.on bG hw_ bG.size
            replace bM := Below.on bM hw_ bM.size
            clear hw_
            refine EX.seq ?_
            refine EC.no rfl ?_
            refine EC.skip ?_
            refine EX.seq ?_
            refine EC.seq ?_
            refine EC.region ?_
            refine EL.val (x_assign rfl) rfl ?_
            refine EL.nil ?_
            refine EX.seq ?_
            refine EC.block ?_
            refine EC.loopD [2, 14, 15, 16, 165, 166, 167, 168, 169, 170, 171, 172, 173, 174, 175, 176, 177, 178, 179, 180, 181, 182, 183, 184, 185, 186, 187, 188, 189, 190, 191, 192, 193, 194, 195, 196, 197, 198, 199, 200, 201, 202, 203, 204, 205, 206, 207, 208, 209, 210, 211, 212, 213, 214, 215, 216, 217, 218, 219, 220, 221, 222, 223, 224, 225, 226, 227, 228, 229, 230, 231, 232, 233, 234, 235, 236, 237, 238, 239, 240, 241] (fun x : Nat => [(14, .int .i64 (x : Nat))]) (fun x W => x ≤ (sides.getD 0 []).length ∧ Blk W g1 54 #[.slice (some ⟨bR, oR, none⟩) rv.reaches.length c, .slice A' rv.shoals.length c', .slice (some ⟨bS, oS, none⟩) sides.length d] ∧ Below w.heap.size w W ∧ Below wR3.heap.size wR3 W ∧ Below wR4.heap.size wR4 W ∧ Below w12.heap.size w12 W ∧ Below w13.heap.size w13 W) (fun x => (sides.getD 0 []).length - x) 0 ⟨Nat.zero_le _, q1, hbw, bF, bL, bG, bM⟩ ⟨rfl, trivial⟩ ?_
            clear q1 hbw bF bL bG bM
            rintro j wj ⟨hj, q1, hbw, bF, bL, bG, bM⟩
            by_cases hjl : j < (sides.getD 0 []).length
            ·
              obtain ⟨bF1, oF1, rfl, _, yF, zF⟩ := bds_cells _ j (by rw [flowsOf_len]; omega) _ _ _ _ _ rF
              rw [flowsOf_at _ _ (by omega)] at yF zF
              obtain ⟨bL1, oL1, rfl, _, yL, zL⟩ := bds_cells _ j (by rw [lvOf_len]; omega) _ _ _ _ _ rL
              rw [lvOf_at _ _ (by omega)] at yL zL
              obtain ⟨bG1, oG1, rfl, _, yG, zG⟩ := bds_cells _ j (by rw [flowsOf_len]; omega) _ _ _ _ _ rG
              rw [flowsOf_at _ _ (by omega)] at yG zG
              obtain ⟨bM1, oM1, rfl, _, yM, zM⟩ := bds_cells _ j (by rw [lvOf_len]; omega) _ _ _ _ _ rM
              rw [lvOf_at _ _ (by omega)] at yM zM
              have hfl := hK.flow i (j : Int) (by omega) (by omega)
              rw [hfl] at yG zG
              have hlk : (lvIn rk sk i (j : Int)).hi = (lvIn rv sides i (j : Int)).hi := by
                unfold lvIn
                rw [hfl, hK.lev i _ (by omega)]
                rfl
              refine EC.seq ?_
              refine EC.seq ?_
              refine EC.region ?_
              refine EL.val (x_move rfl) rfl ?_
              refine EL.val (x_move rfl) rfl ?_
              refine EL.val (x_move rfl) rfl ?_
              refine EL.val (ix_52 rfl rfl (by omega)) rfl ?_
              refine EL.val (ld_28 rfl (below_load bF xF)) rfl ?_
              refine EL.val (ln_28 rfl) rfl ?_
              refine EL.val (x_lss rfl rfl (by first | assumption | exact decide_eq_true (by omega))) rfl ?_
              refine EL.nil ?_
              refine EX.seq ?_
              refine EC.yes rfl ?_
              refine EC.skip ?_
              refine EX.seq ?_
              refine EC.seq ?_
              refine EC.block ?_
              refine EC.seq ?_
              refine EC.regionQ (by kernel_rfl) (by kernel_rfl) ?_
              refine EQ.val (fun _ hw => (x_move rfl)) rfl ?_
              refine EQ.val (fun _ hw => (x_move rfl)) rfl ?_
              refine EQ.val (fun _ hw => (ix_52 rfl rfl (by omega))) rfl ?_
              refine EQ.val (fun _ hw => (ld_28 rfl (below_load hw (below_load bF xF)))) rfl ?_
              refine EQ.val (fun _ hw => (x_move rfl)) rfl ?_
              refine EQ.val (fun _ hw => (ix_28 rfl rfl hjl)) rfl ?_
              refine EQ.val (fun _ hw => (fa_23_0 rfl)) rfl ?_
              refine EQ.val (fun _ hw => (ld_3 rfl (below_load hw (below_load bF yF)))) rfl ?_
              refine EQ.val (fun _ hw => (x_move rfl)) rfl ?_
              refine EQ.val (fun _ hw => (x_move rfl)) rfl ?_
              refine EQ.val (fun _ hw => (ix_52 rfl rfl (by omega))) rfl ?_
              refine EQ.val (fun _ hw => (ld_28 rfl (below_load hw (below_load bL xL)))) rfl ?_
              refine EQ.val (fun _ hw => (x_move rfl)) rfl ?_
              refine EQ.val (fun _ hw => (ix_28 rfl rfl hjl)) rfl ?_
              refine EQ.val (fun _ hw => (fa_23_0 rfl)) rfl ?_
              refine EQ.val (fun _ hw => (ld_3 rfl (below_load hw (below_load bL yL)))) rfl ?_
              refine EQ.val (fun _ hw => (x_assign rfl)) rfl ?_
              refine EQ.val (fun _ hw => (x_assign rfl)) rfl ?_
              refine EQ.fin (fun w15 hw_ => ?_)
              replace q1 := q1.below hw_ q1.lt
              replace hbw := Below.on hbw hw_ hbw.size
              replace bF := Below.on bF hw_ bF.size
              replace bL := Below.on bL hw_ bL.size
              replace bG := Below.on bG hw_ bG.size
              replace bM := Below.on bM hw_ bM.size
              clear hw_
              refine EX.seq ?_
              refine EC.seq ?_
              refine EC.seq ?_
              refine EC.region ?_
              refine EL.val (x_move rfl) rfl ?_
              refine EL.val (x_eql rfl rfl (by first | assumption | exact decide_eq_true (by omega))) rfl ?_
              refine EL.nil ?_
              refine EX.seq ?_
              refine EC.yes rfl ?_
              refine EC.regionQ (by kernel_rfl) (by kernel_rfl) ?_
              refine EQ.val (fun _ hw => (x_move rfl)) rfl ?_
              refine EQ.val (fun _ hw => (x_move rfl)) rfl ?_
              refine EQ.val (fun _ hw => (ix_52 rfl rfl (by omega))) rfl ?_
              refine EQ.val (fun _ hw => (ld_28 rfl (below_load hw (below_load bF xF)))) rfl ?_
              refine EQ.val (fun _ hw => (x_move rfl)) rfl ?_
              refine EQ.val (fun _ hw => (ix_28 rfl rfl hjl)) rfl ?_
              refine EQ.val (fun _ hw => (fa_23_1 rfl)) rfl ?_
              refine EQ.val (fun _ hw => (ld_3 rfl (below_load hw (below_load bF zF)))) rfl ?_
              refine EQ.val (fun _ hw => (x_move rfl)) rfl ?_
              refine EQ.val (fun _ hw => (x_move rfl)) rfl ?_
              refine EQ.val (fun _ hw => (ix_52 rfl rfl (by omega))) rfl ?_
              refine EQ.val (fun _ hw => (ld_28 rfl (below_load hw (below_load bL xL)))) rfl ?_
              refine EQ.val (fun _ hw => (x_move rfl)) rfl ?_
              refine EQ.val (fun _ hw => (ix_28 rfl rfl hjl)) rfl ?_
              refine EQ.val (fun _ hw => (fa_23_1 rfl)) rfl ?_
              refine EQ.val (fun _ hw => (ld_3 rfl (below_load hw (below_load bL zL)))) rfl ?_
              refine EQ.val (fun _ hw => (x_assign rfl)) rfl ?_
              refine EQ.val (fun _ hw => (x_assign rfl)) rfl ?_
              refine EQ.fin (fun w16 hw_ => ?_)
              replace q1 := q1.below hw_ q1.lt
              replace hbw := Below.on hbw hw_ hbw.size
              replace bF := Below.on bF hw_ bF.size
              replace bL := Below.on bL hw_ bL.size
              replace bG := Below.on bG hw_ bG.size
              replace bM := Below.on bM hw_ bM.size
              clear hw_
              refine EX.seq ?_
              refine EC.seq ?_
              refine EC.regionQ (by kernel_rfl) (by kernel_rfl) ?_
              refine EQ.val (fun _ hw => (x_move rfl)) rfl ?_
              refine EQ.val (fun _ hw => (x_move rfl)) rfl ?_
              refine EQ.val (fun _ hw => (ix_52 rfl rfl (by omega))) rfl ?_
              refine EQ.val (fun _ hw => (ld_28 rfl (below_load hw (below_load bG xG)))) rfl ?_
              refine EQ.val (fun _ hw => (x_move rfl)) rfl ?_
              refine EQ.val (fun _ hw => (ix_28 rfl rfl hjl)) rfl ?_
              refine EQ.val (fun _ hw => (ld_23 rfl (below_load hw (below_load bG yG)) (below_load hw (below_load bG zG)))) rfl ?_
              refine EQ.val (fun _ hw => (x_move rfl)) rfl ?_
              refine EQ.val (fun _ hw => (x_move rfl)) rfl ?_
              refine EQ.val (fun _ hw => (bd_23_0_1 rfl rfl)) rfl ?_
              refine EQ.val (fun _ hw => (neq_23 (r := false) rfl rfl (by simp [bdP, pB]))) rfl ?_
              refine EQ.val (fun _ hw => (x_move rfl)) rfl ?_
              refine EQ.valg rfl rfl (fun _ hw => (x_move rfl)) rfl ?_
              refine EQ.valg rfl rfl (fun _ hw => (x_move rfl)) rfl ?_
              refine EQ.valg rfl rfl (fun _ hw => (ix_52 rfl rfl (by omega))) rfl ?_
              refine EQ.valg rfl rfl (fun _ hw => (ld_28 rfl (below_load hw (below_load bM xM)))) rfl ?_
              refine EQ.valg rfl rfl (fun _ hw => (x_move rfl)) rfl ?_
              refine EQ.valg rfl rfl (fun _ hw => (ix_28 rfl rfl hjl)) rfl ?_
              refine EQ.valg rfl rfl (fun _ hw => (fa_23_0 rfl)) rfl ?_
              refine EQ.valg rfl rfl (fun _ hw => (ld_3 rfl (below_load hw (below_load bM yM)))) rfl ?_
              refine EQ.valg rfl rfl (fun _ hw => (x_move rfl)) rfl ?_
              refine EQ.valg rfl rfl (fun _ hw => (x_move rfl)) rfl ?_
              refine EQ.valg rfl rfl (fun _ hw => (ix_52 rfl rfl (by omega))) rfl ?_
              refine EQ.valg rfl rfl (fun _ hw => (ld_28 rfl (below_load hw (below_load bM xM)))) rfl ?_
              refine EQ.valg rfl rfl (fun _ hw => (x_move rfl)) rfl ?_
              refine EQ.valg rfl rfl (fun _ hw => (ix_28 rfl rfl hjl)) rfl ?_
              refine EQ.valg rfl rfl (fun _ hw => (fa_23_1 rfl)) rfl ?_
              refine EQ.valg rfl rfl (fun _ hw => (ld_3 rfl (below_load hw (below_load bM zM)))) rfl ?_
              refine EQ.valg rfl rfl (fun _ hw => (ba_79 rfl rfl)) rfl ?_
              refine EQ.valg rfl rfl (fun _ hw => (x_move rfl)) rfl ?_
              refine EQ.valg rfl rfl (fun _ hw => (iv_79_1 rfl rfl)) rfl ?_
              refine EQ.valg rfl rfl (fun _ hw => (x_move rfl)) rfl ?_
              refine EQ.valg rfl rfl (fun _ hw => (x_neq rfl rfl (by first | assumption | exact decide_eq_false (by omega)))) rfl ?_
              refine EQ.val (fun _ hw => (x_pick_f rfl rfl)) rfl ?_
              refine EQ.fin (fun w17 hw_ => ?_)
              replace q1 := q1.below hw_ q1.lt
              replace hbw := Below.on hbw hw_ hbw.size
              replace bF := Below.on bF hw_ bF.size
              replace bL := Below.on bL hw_ bL.size
              replace bG := Below.on bG hw_ bG.size
              replace bM := Below.on bM hw_ bM.size
              clear hw_
              refine EX.seq ?_
              refine EC.no rfl ?_
              refine EC.skip ?_
              refine EX.blk ?_
              refine EX.seq ?_
              refine EC.region ?_
              refine EL.val (x_move rfl) rfl ?_
              refine EL.val (x_add rfl rfl (by first | assumption | exact IntWalk.i64_in _ ⟨by omega, by omega⟩)) rfl ?_
              refine EL.val (x_assign rfl) rfl ?_
              refine EL.nil ?_
              refine EX.roundD (j + 1) ⟨rfl, trivial⟩ (by repeat first | exact Sub.refl _ | refine sub_past rfl ?_ | refine sub_del rfl ?_ | refine sub_insL_nil ?_) ⟨hjl, q1, hbw, bF, bL, bG, bM⟩ (by omega)
            ·
              refine EC.seq ?_
              refine EC.seq ?_
              refine EC.region ?_
              refine EL.val (x_move rfl) rfl ?_
              refine EL.val (x_move rfl) rfl ?_
              refine EL.val (x_move rfl) rfl ?_
              refine EL.val (ix_52 rfl rfl (by omega)) rfl ?_
              refine EL.val (ld_28 rfl (below_load bF xF)) rfl ?_
              refine EL.val (ln_28 rfl) rfl ?_
              refine EL.val (x_lss rfl rfl (by first | assumption | exact decide_eq_false (by omega))) rfl ?_
              refine EL.nil ?_
              refine EX.seq ?_
              refine EC.no rfl ?_
              refine EC.exit ?_
              refine EX.seq_exit ?_
              refine EX.seq_exit ?_
              refine EX.blk_here ?_
              refine EX.blk ?_
              refine EX.seq ?_
              refine EC.region ?_
              refine EL.val (x_move rfl) rfl ?_
              refine EL.val (x_add rfl rfl (by first | assumption | exact IntWalk.i64_in _ ⟨by omega, by omega⟩)) rfl ?_
              refine EL.val (x_assign rfl) rfl ?_
              refine EL.nil ?_
              refine EX.roundD (i + 1) ⟨rfl, trivial⟩ (by repeat first | exact Sub.refl _ | refine sub_past rfl ?_ | refine sub_del rfl ?_ | refine sub_insL_nil ?_) ⟨hlt, q1, hbw, bF, bL, bG, bM⟩ (by omega)
          ·
            refine EC.seq ?_
            refine EC.seq ?_
            refine EC.region ?_
            refine EL.val (x_move rfl) rfl ?_
            refine EL.val (x_move rfl) rfl ?_
            refine EL.val (ln_52 rfl) rfl ?_
            refine EL.val (x_lss rfl rfl (by first | assumption | exact decide_eq_false (by omega))) rfl ?_
            refine EL.nil ?_
            refine EX.seq ?_
            refine EC.no rfl ?_
            refine EC.exit ?_
            refine EX.seq_exit ?_
            refine EX.seq_exit ?_
            refine EX.blk_here ?_
            refine EX.blk ?_
            refine EX.seq ?_
            refine EC.region ?_
            refine EL.val (x_move rfl) rfl ?_
            refine EL.val (x_add rfl rfl (by first | assumption | exact IntWalk.i64_in _ ⟨by omega, by omega⟩)) rfl ?_
            refine EL.val (x_assign rfl) rfl ?_
            refine EL.nil ?_
            refine EX.roundD 2 ⟨rfl, trivial⟩ (by repeat first | exact Sub.refl _ | refine sub_past rfl ?_ | refine sub_del rfl ?_ | refine sub_insL_nil ?_) ⟨by omega, q1, hbw, bF, bL⟩ (by omega)
        ·
          refine EC.seq ?_
          refine EC.seq ?_
          refine EC.region ?_
          refine EL.val (x_move rfl) rfl ?_
          refine EL.val (x_lss rfl rfl (by first | assumption | exact decide_eq_false (by omega))) rfl ?_
          refine EL.nil ?_
          refine EX.seq ?_
          refine EC.no rfl ?_
          refine EC.exit ?_
          refine EX.seq_exit ?_
          refine EX.seq_exit ?_
          refine EX.blk_here ?_
          refine EX.seq ?_
          refine EC.seq ?_
          refine EC.seq ?_
          refine EC.region ?_
          refine EL.val (x_assign rfl) rfl ?_
          refine EL.nil ?_
          refine EX.seq ?_
          refine EC.block ?_
          refine EC.loopD [2, 17, 18, 19, 242, 243, 244, 245, 246, 247, 248, 249, 250, 251, 252, 253, 254, 255, 256, 257, 258, 259, 260, 261, 262, 263, 264, 265, 266, 267, 268, 269, 270, 271, 272, 273, 274, 275, 276, 277, 278, 279, 280, 281, 282, 283, 284, 285, 286, 287, 288, 289, 290, 291, 292, 293, 294, 295, 296, 297, 298, 299, 300, 301, 302, 303, 304, 305, 306, 307] (fun x : Nat => [(17, .int .i64 (x : Nat))]) (fun x W => 1 ≤ x ∧ x ≤ sides.length ∧ Blk W g1 54 #[.slice (some ⟨bR, oR, none⟩) rv.reaches.length c, .slice A' rv.shoals.length c', .slice (some ⟨bS, oS, none⟩) sides.length d] ∧ Below w.heap.size w W ∧ Below wR3.heap.size wR3 W) (fun x => sides.length - x) 1 ⟨Nat.le_refl _, by omega, q1, hbw, bF⟩ ⟨rfl, trivial⟩ ?_
          clear q1 hbw bF
          rintro i0 wi ⟨hi1, hi, q1, hbw, bF⟩
          obtain ⟨i, rfl⟩ : ∃ i, i0 = i + 1 := ⟨i0 - 1, by omega⟩
          by_cases hlt : i + 1 < sides.length
          ·
            obtain ⟨br, or_, eo_, _, cc⟩ := reaches_cells hr.reaches i (by omega)
            injection eo_ with eo_
            injection eo_ with eo1 eo2
            subst eo1
            subst eo2
            have hdl := (hS.river.reach i (by omega)).delay
            obtain ⟨dn, hdn⟩ : ∃ dn : Nat, (rv.reaches.getD i reach0).delay = (dn : Int) := ⟨_, (Int.toNat_of_nonneg hdl.1).symm⟩
            have cd := cc.c1
            rw [hdn] at cd
            obtain ⟨bF0, oF0, rfl, _, xF⟩ := sides_all dF (by rw [flowsUp_len]; omega)
            have rF := dF.side (i + 1) (by rw [flowsUp_len]; omega)
            rw [flowsUp_at _ _ (by omega), flowsOf_len] at rF
            obtain ⟨AF1, cF1, eF1, _⟩ := rF.shape
            have xF1 := xF (i + 1) (by rw [flowsUp_len]; omega)
            rw [eF1] at xF1 rF
            have rE := dF.side i (by rw [flowsUp_len]; omega)
            rw [flowsUp_at _ _ (by omega), flowsOf_len] at rE
            obtain ⟨AE1, cE1, eE1, _⟩ := rE.shape
            have xE1 := xF i (by rw [flowsUp_len]; omega)
            rw [eE1] at xE1 rE
            refine EC.seq ?_
            refine EC.seq ?_
            refine EC.region ?_
            refine EL.val (x_move rfl) rfl ?_
            refine EL.val (x_move rfl) rfl ?_
            refine EL.val (ln_52 rfl) rfl ?_
            refine EL.val (x_lss rfl rfl (by first | assumption | exact decide_eq_true (by omega))) rfl ?_
            refine EL.nil ?_
            refine EX.seq ?_
            refine EC.yes rfl ?_
            refine EC.skip ?_
            refine EX.seq ?_
            refine EC.seq ?_
            refine EC.block ?_
            refine EC.seq ?_
            refine EC.region ?_
            refine EL.val (fa_54_0 rfl) rfl ?_
            refine EL.val (fa_47_0 rfl) rfl ?_
            refine EL.val (ld_44 rfl (q1.at (j := 0) rfl)) rfl ?_
            refine EL.val (x_move rfl) rfl ?_
            refine EL.val (x_sub rfl rfl (c := (i : Int)) ((IntWalk.i64_in _ ⟨by omega, by omega⟩).trans (by omega))) rfl ?_
            refine EL.val (ix_44 rfl rfl (by omega)) rfl ?_
            refine EL.val (fa_50_1 rfl) rfl ?_
            refine EL.val (ld_3 rfl (below_load hbw cd)) rfl ?_
            refine EL.val (x_assign rfl) rfl ?_
            refine EL.nil ?_
            refine EX.seq ?_
            refine EC.seq ?_
            refine EC.region ?_
            refine EL.val (x_move rfl) rfl ?_
            refine EL.val (x_assign rfl) rfl ?_
            refine EL.nil ?_
            refine EX.seq ?_
            refine EC.block ?_
            refine EC.loopD [2, 19, 257, 258, 259, 260, 261, 262, 263, 264, 265, 266, 267, 268, 269, 270, 271, 272, 273, 274, 275, 276, 277, 278, 279, 280, 281, 282, 283, 284, 285, 286, 287, 288, 289, 290, 291, 292, 293, 294, 295, 296, 297, 298, 299, 300, 301, 302, 303, 304, 305, 306, 307] (fun x : Nat => [(19, .int .i64 (x : Nat))]) (fun x W => dn ≤ x ∧ Blk W g1 54 #[.slice (some ⟨bR, oR, none⟩) rv.reaches.length c, .slice A' rv.shoals.length c', .slice (some ⟨bS, oS, none⟩) sides.length d] ∧ Below w.heap.size w W ∧ Below wR3.heap.size wR3 W) (fun x => (sides.getD 0 []).length - x) dn ⟨Nat.le_refl _, q1, hbw, bF⟩ ⟨rfl, trivial⟩ ?_
            clear q1 hbw bF
            rintro h wj ⟨hj, q1, hbw, bF⟩
            by_cases hjl : h < (sides.getD 0 []).length
            ·
              obtain ⟨bF1, oF1, rfl, _, yF, zF⟩ := bds_cells _ h (by rw [flowsOf_len]; omega) _ _ _ _ _ rF
              rw [flowsOf_at _ _ (by omega)] at yF zF
              obtain ⟨bE1, oE1, rfl, _, yE, zE⟩ := bds_cells _ (h - dn) (by rw [flowsOf_len]; omega) _ _ _ _ _ rE
              rw [flowsOf_at _ _ (by omega)] at yE zE
              have hst1 := flowIn_step rv.reaches sides i h
              rw [hdn, show (h : Int) - (dn : Int) = ((h - dn : Nat) : Int) by omega] at hst1
              have hsd := hS.side (i + 1) h (by omega) hjl
              have g1 : (flowIn rv.reaches sides (i + 1) (h : Int)).lo = ((sides.getD (i + 1) []).getD h bd0).lo + (flowIn rv.reaches sides i ((h - dn : Nat) : Int)).lo := by rw [hst1]; rfl
              have g2 : (flowIn rv.reaches sides (i + 1) (h : Int)).hi = ((sides.getD (i + 1) []).getD h bd0).hi + (flowIn rv.reaches sides i ((h - dn : Nat) : Int)).hi := by rw [hst1]; rfl
              refine EC.seq ?_
              refine EC.seq ?_
              refine EC.region ?_
              refine EL.val (x_move rfl) rfl ?_
              refine EL.val (x_move rfl) rfl ?_
              refine EL.val (x_move rfl) rfl ?_
              refine EL.val (ix_52 rfl rfl (by omega)) rfl ?_
              refine EL.val (ld_28 rfl (below_load bF xF1)) rfl ?_
              refine EL.val (ln_28 rfl) rfl ?_
              refine EL.val (x_lss rfl rfl (by first | assumption | exact decide_eq_true (by omega))) rfl ?_
              refine EL.nil ?_
              refine EX.seq ?_
              refine EC.yes rfl ?_
              refine EC.skip ?_
              refine EX.seq ?_
              refine EC.seq ?_
              refine EC.block ?_
              refine EC.seq ?_
              refine EC.regionQ (by kernel_rfl) (by kernel_rfl) ?_
              refine EQ.val (fun _ hw => (x_move rfl)) rfl ?_
              refine EQ.val (fun _ hw => (x_move rfl)) rfl ?_
              refine EQ.val (fun _ hw => (ix_52 rfl rfl (by omega))) rfl ?_
              refine EQ.val (fun _ hw => (ld_28 rfl (below_load hw (below_load bF xF1)))) rfl ?_
              refine EQ.val (fun _ hw => (x_move rfl)) rfl ?_
              refine EQ.val (fun _ hw => (ix_28 rfl rfl hjl)) rfl ?_
              refine EQ.val (fun _ hw => (fa_23_0 rfl)) rfl ?_
              refine EQ.val (fun _ hw => (ld_3 rfl (below_load hw (below_load bF yF)))) rfl ?_
              refine EQ.val (fun _ hw => (x_move rfl)) rfl ?_
              refine EQ.val (fun _ hw => (x_move rfl)) rfl ?_
              refine EQ.val (fun _ hw => (x_sub rfl rfl (c := (i : Int)) ((IntWalk.i64_in _ ⟨by omega, by omega⟩).trans (by omega)))) rfl ?_
              refine EQ.val (fun _ hw => (ix_52 rfl rfl (by omega))) rfl ?_
              refine EQ.val (fun _ hw => (ld_28 rfl (below_load hw (below_load bF xE1)))) rfl ?_
              refine EQ.val (fun _ hw => (x_move rfl)) rfl ?_
              refine EQ.val (fun _ hw => (x_move rfl)) rfl ?_
              refine EQ.val (fun _ hw => (x_sub rfl rfl (c := ((h - dn : Nat) : Int)) ((IntWalk.i64_in _ ⟨by omega, by omega⟩).trans (by omega)))) rfl ?_
              refine EQ.val (fun _ hw => (ix_28 rfl rfl (by omega))) rfl ?_
              refine EQ.val (fun _ hw => (fa_23_0 rfl)) rfl ?_
              refine EQ.val (fun _ hw => (ld_3 rfl (below_load hw (below_load bF yE)))) rfl ?_
              refine EQ.val (fun _ hw => (x_lss rfl rfl (by first | assumption | exact decide_eq_false (by omega)))) rfl ?_
              refine EQ.val (fun _ hw => (x_move rfl)) rfl ?_
              refine EQ.valg rfl rfl (fun _ hw => (x_move rfl)) rfl ?_
              refine EQ.valg rfl rfl (fun _ hw => (x_move rfl)) rfl ?_
              refine EQ.valg rfl rfl (fun _ hw => (ix_52 rfl rfl (by omega))) rfl ?_
              refine EQ.valg rfl rfl (fun _ hw => (ld_28 rfl (below_load hw (below_load bF xF1)))) rfl ?_
              refine EQ.valg rfl rfl (fun _ hw => (x_move rfl)) rfl ?_
              refine EQ.valg rfl rfl (fun _ hw => (ix_28 rfl rfl hjl)) rfl ?_
              refine EQ.valg rfl rfl (fun _ hw => (fa_23_1 rfl)) rfl ?_
              refine EQ.valg rfl rfl (fun _ hw => (ld_3 rfl (below_load hw (below_load bF zF)))) rfl ?_
              refine EQ.valg rfl rfl (fun _ hw => (x_move rfl)) rfl ?_
              refine EQ.valg rfl rfl (fun _ hw => (x_move rfl)) rfl ?_
              refine EQ.valg rfl rfl (fun _ hw => (x_sub rfl rfl (c := (i : Int)) ((IntWalk.i64_in _ ⟨by omega, by omega⟩).trans (by omega)))) rfl ?_
              refine EQ.valg rfl rfl (fun _ hw => (ix_52 rfl rfl (by omega))) rfl ?_
              refine EQ.valg rfl rfl (fun _ hw => (ld_28 rfl (below_load hw (below_load bF xE1)))) rfl ?_
              refine EQ.valg rfl rfl (fun _ hw => (x_move rfl)) rfl ?_
              refine EQ.valg rfl rfl (fun _ hw => (x_move rfl)) rfl ?_
              refine EQ.valg rfl rfl (fun _ hw => (x_sub rfl rfl (c := ((h - dn : Nat) : Int)) ((IntWalk.i64_in _ ⟨by omega, by omega⟩).trans (by omega)))) rfl ?_
              refine EQ.valg rfl rfl (fun _ hw => (ix_28 rfl rfl (by omega))) rfl ?_
              refine EQ.valg rfl rfl (fun _ hw => (fa_23_1 rfl)) rfl ?_
              refine EQ.valg rfl rfl (fun _ hw => (ld_3 rfl (below_load hw (below_load bF zE)))) rfl ?_
              refine EQ.valg rfl rfl (fun _ hw => (x_lss rfl rfl (by first | assumption | exact decide_eq_false (by omega)))) rfl ?_
              refine EQ.val (fun _ hw => (x_pick_f rfl rfl)) rfl ?_
              refine EQ.fin (fun w18 hw_ => ?_)
              replace q1 := q1.below hw_ q1.lt
              replace hbw := Below.on hbw hw_ hbw.size
              replace bF := Below.on bF hw_ bF.size
              clear hw_
              refine EX.seq ?_
              refine EC.no rfl ?_
              refine EC.skip ?_
              refine EX.blk ?_
              refine EX.seq ?_
              refine EC.region ?_
              refine EL.val (x_move rfl) rfl ?_
              refine EL.val (x_add rfl rfl (by first | assumption | exact IntWalk.i64_in _ ⟨by omega, by omega⟩)) rfl ?_
              refine EL.val (x_assign rfl) rfl ?_
              refine EL.nil ?_
              refine EX.roundD (h + 1) ⟨rfl, trivial⟩ (by repeat first | exact Sub.refl _ | refine sub_past rfl ?_ | refine sub_del rfl ?_ | refine sub_insL_nil ?_) ⟨by omega, q1, hbw, bF⟩ (by omega)
            ·
              refine EC.seq ?_
              refine EC.seq ?_
              refine EC.region ?_
              refine EL.val (x_move rfl) rfl ?_
              refine EL.val (x_move rfl) rfl ?_
              refine EL.val (x_move rfl) rfl ?_
              refine EL.val (ix_52 rfl rfl (by omega)) rfl ?_
              refine EL.val (ld_28 rfl (below_load bF xF1)) rfl ?_
              refine EL.val (ln_28 rfl) rfl ?_
              refine EL.val (x_lss rfl rfl (by first | assumption | exact decide_eq_false (by omega))) rfl ?_
              refine EL.nil ?_
              refine EX.seq ?_
              refine EC.no rfl ?_
              refine EC.exit ?_
              refine EX.seq_exit ?_
              refine EX.seq_exit ?_
              refine EX.blk_here ?_
              refine EX.blk ?_
              refine EX.seq ?_
              refine EC.region ?_
              refine EL.val (x_move rfl) rfl ?_
              refine EL.val (x_add rfl rfl (by first | assumption | exact IntWalk.i64_in _ ⟨by omega, by omega⟩)) rfl ?_
              refine EL.val (x_assign rfl) rfl ?_
              refine EL.nil ?_
              refine EX.roundD (i + 1 + 1) ⟨rfl, trivial⟩ (by repeat first | exact Sub.refl _ | refine sub_past rfl ?_ | refine sub_del rfl ?_ | refine sub_insL_nil ?_) ⟨by omega, hlt, q1, hbw, bF⟩ (by omega)
          ·
            refine EC.seq ?_
            refine EC.seq ?_
            refine EC.region ?_
            refine EL.val (x_move rfl) rfl ?_
            refine EL.val (x_move rfl) rfl ?_
            refine EL.val (ln_52 rfl) rfl ?_
            refine EL.val (x_lss rfl rfl (by first | assumption | exact decide_eq_false (by omega))) rfl ?_
            refine EL.nil ?_
            refine EX.seq ?_
            refine EC.no rfl ?_
            refine EC.exit ?_
            refine EX.seq_exit ?_
            refine EX.seq_exit ?_
            refine EX.blk_here ?_
            refine EX.seq ?_
            refine EC.seq ?_
            refine EC.region ?_
            refine EL.call cl_16 rfl (known_any _) ?_
            rintro e w19 ⟨rfl, hc19⟩
            refine ⟨_, rfl, ?_⟩
            replace q1 := q1.below hc19 q1.lt
            replace hbw := Below.on hbw hc19 hbw.size
            replace bF := Below.on bF hc19 bF.size
            clear hc19
            refine EL.val (x_assign rfl) rfl ?_
            refine EL.nil ?_
            refine EX.seq ?_
            refine EC.ret ?_
            exact EX.done (res1 rfl rfl) ⟨rfl, hbw⟩
end Go.Proofs.Ytncnlhkmdljgpaa
