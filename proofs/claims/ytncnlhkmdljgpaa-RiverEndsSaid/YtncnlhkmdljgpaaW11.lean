/- River: the reference's Flow (printed by gen_w11.py). -/
import Derived.Test.YtncnlhkmdljgpaaX0
import Derived.Test.YtncnlhkmdljgpaaV16
set_option linter.unusedVariables false
namespace Go.Proofs.Ytncnlhkmdljgpaa
open Go Go.RowKit

theorem rflow_neg (r : River) (sides : List (List Bd)) (v u s : Value) (vs ss : List Value) (B : Nat) (h : StartOk r sides) (w : World) (hr : RdRiver w B v u r vs) (hs : RdSides w B s sides ss) (hB : B ≤ w.heap.size) (i : Nat) (t : Int) (hi : i < r.reaches.length) (ht : t < 0) :
    Calls Try.prog 47 #[.agg #[v, u], s, .int .i64 (i : Nat), .int .i64 t] w fun e w' => e = .returned (.agg #[.int .i64 (flowIn r.reaches sides i t).lo, .int .i64 (flowIn r.reaches sides i t).hi]) ∧ Below w.heap.size w w' := by
  obtain ⟨A, c, rfl, _⟩ := hr.reaches.shape
  obtain ⟨A', c', rfl, _⟩ := hr.shoals.shape
  obtain ⟨D, d, rfl, _⟩ := hs.rd.shape
  have hbw := Below.refl w.heap.size w
  refine EC.enter 54 Try.func47 rfl rfl rfl ?_
  obtain ⟨b, o, rfl, _, cc⟩ := reaches_cells hr.reaches i hi
  refine EC.seq ?_
  refine EC.region ?_
  refine EL.newP (bx_47 rfl) rfl ?_
  intro g1 w1 q1 hb1 hg1 hl1
  have bhbw_1 := Nat.le_trans hbw.size hg1
  replace hbw := Below.on hbw hb1 hbw.size
  clear hb1 hg1 hl1
  refine EL.newP al_23 rfl ?_
  intro g2 w2 q2 hb2 hg2 hl2
  have n1_2 : g1 ≠ g2 := Nat.ne_of_lt (Nat.lt_of_lt_of_le q1.lt hg2)
  have bhbw_2 := Nat.le_trans hbw.size hg2
  replace q1 := q1.below hb2 q1.lt
  replace hbw := Below.on hbw hb2 hbw.size
  clear hb2 hg2 hl2
  refine EL.nil ?_
  refine EX.seq ?_
  refine EC.seq ?_
  refine EC.seq ?_
  refine EC.region ?_
  refine EL.val (x_move rfl) rfl ?_
  refine EL.val (x_lss rfl rfl (by first | assumption | exact decide_eq_true (by omega))) rfl ?_
  refine EL.nil ?_
  refine EX.seq ?_
  refine EC.yes rfl ?_
  refine EC.seq ?_
  refine EC.region ?_
  refine EL.val (fa_47_0 rfl) rfl ?_
  refine EL.val (ld_44 rfl (q1.at (j := 0) rfl)) rfl ?_
  refine EL.val (x_move rfl) rfl ?_
  refine EL.val (ix_44 (k := i) rfl rfl hi) rfl ?_
  refine EL.val (fa_50_2 rfl) rfl ?_
  refine EL.val (ld_23 rfl (below_load hbw cc.c2) (below_load hbw cc.c3)) rfl ?_
  refine EL.store rfl rfl q2 sz_23 rfl rfl rfl rfl ?_
  intro w3 hq3 hg3
  replace q1 := q1.grown hg3 (fun h => n1_2 (Option.some.inj h))
  replace hbw := below_store hbw hg3 bhbw_2
  replace q2 := hq3
  clear hg3 hq3
  refine EL.nil ?_
  refine EX.seq ?_
  refine EC.ret ?_
  refine EX.seq_ret ?_
  exact EX.done (resc1 rfl rfl (lv_23 (q2.at rfl) (q2.at rfl))) ⟨by rw [flowIn_neg _ _ _ ht], hbw⟩

theorem rflow_zero (r : River) (sides : List (List Bd)) (v u s : Value) (vs ss : List Value) (B : Nat) (h : StartOk r sides) (w : World) (hr : RdRiver w B v u r vs) (hs : RdSides w B s sides ss) (hB : B ≤ w.heap.size) (i k : Nat) (hi0 : i = 0) (hi2 : i < sides.length) (hk : k < (sides.getD 0 []).length) :
    Calls Try.prog 47 #[.agg #[v, u], s, .int .i64 (i : Nat), .int .i64 (k : Nat)] w fun e w' => e = .returned (.agg #[.int .i64 (flowIn r.reaches sides i (k : Int)).lo, .int .i64 (flowIn r.reaches sides i (k : Int)).hi]) ∧ Below w.heap.size w w' := by
  obtain ⟨A, c, rfl, _⟩ := hr.reaches.shape
  obtain ⟨A', c', rfl, _⟩ := hr.shoals.shape
  obtain ⟨D, d, rfl, _⟩ := hs.rd.shape
  have hbw := Below.refl w.heap.size w
  refine EC.enter 54 Try.func47 rfl rfl rfl ?_
  obtain ⟨b2, o2, rfl, _, ds⟩ := sides_cell hs i hi2
  have hsd := hs.side i hi2
  obtain ⟨Ds, dc, es, _⟩ := hsd.shape
  rw [es] at hsd ds
  obtain ⟨b3, o3, rfl, _, e0, e1⟩ := bds_cells _ k (by rw [h.same i hi2]; exact hk) _ _ _ _ _ hsd
  refine EC.seq ?_
  refine EC.region ?_
  refine EL.newP (bx_47 rfl) rfl ?_
  intro g1 w1 q1 hb1 hg1 hl1
  have bhbw_1 := Nat.le_trans hbw.size hg1
  replace hbw := Below.on hbw hb1 hbw.size
  clear hb1 hg1 hl1
  refine EL.newP al_23 rfl ?_
  intro g2 w2 q2 hb2 hg2 hl2
  have n1_2 : g1 ≠ g2 := Nat.ne_of_lt (Nat.lt_of_lt_of_le q1.lt hg2)
  have bhbw_2 := Nat.le_trans hbw.size hg2
  replace q1 := q1.below hb2 q1.lt
  replace hbw := Below.on hbw hb2 hbw.size
  clear hb2 hg2 hl2
  refine EL.nil ?_
  refine EX.seq ?_
  refine EC.seq ?_
  refine EC.seq ?_
  refine EC.region ?_
  refine EL.val (x_move rfl) rfl ?_
  refine EL.val (x_lss rfl rfl (by first | assumption | exact decide_eq_false (by omega))) rfl ?_
  refine EL.nil ?_
  refine EX.seq ?_
  refine EC.no rfl ?_
  refine EC.skip ?_
  refine EX.seq ?_
  refine EC.seq ?_
  refine EC.region ?_
  refine EL.val (x_move rfl) rfl ?_
  refine EL.val (x_move rfl) rfl ?_
  refine EL.val (ix_52 (k := i) rfl rfl hi2) rfl ?_
  refine EL.val (ld_28 rfl (below_load hbw ds)) rfl ?_
  refine EL.val (x_move rfl) rfl ?_
  refine EL.val (ix_28 (k := k) rfl rfl (by rw [h.same i hi2]; exact hk)) rfl ?_
  refine EL.val (ld_23 rfl (below_load hbw e0) (below_load hbw e1)) rfl ?_
  refine EL.newP al_23 rfl ?_
  intro g3 w3 q3 hb3 hg3 hl3
  have n1_3 : g1 ≠ g3 := Nat.ne_of_lt (Nat.lt_of_lt_of_le q1.lt hg3)
  have n2_3 : g2 ≠ g3 := Nat.ne_of_lt (Nat.lt_of_lt_of_le q2.lt hg3)
  have bhbw_3 := Nat.le_trans hbw.size hg3
  replace q1 := q1.below hb3 q1.lt
  replace q2 := q2.below hb3 q2.lt
  replace hbw := Below.on hbw hb3 hbw.size
  clear hb3 hg3 hl3
  refine EL.store rfl rfl q3 sz_23 rfl rfl rfl rfl ?_
  intro w4 hq4 hg4
  replace q1 := q1.grown hg4 (fun h => n1_3 (Option.some.inj h))
  replace q2 := q2.grown hg4 (fun h => n2_3 (Option.some.inj h))
  replace hbw := below_store hbw hg4 bhbw_3
  replace q3 := hq4
  clear hg4 hq4
  refine EL.nil ?_
  refine EX.seq ?_
  refine EC.seq ?_
  refine EC.seq ?_
  refine EC.region ?_
  refine EL.val (x_move rfl) rfl ?_
  refine EL.val (x_gtr rfl rfl (by first | assumption | exact decide_eq_false (by omega))) rfl ?_
  refine EL.nil ?_
  refine EX.seq ?_
  refine EC.no rfl ?_
  refine EC.skip ?_
  refine EX.seq ?_
  refine EC.seq ?_
  refine EC.region ?_
  refine EL.val (ld_23 rfl (q3.at (j := 0) rfl) (q3.at (j := 1) rfl)) rfl ?_
  refine EL.store rfl rfl q2 sz_23 rfl rfl rfl rfl ?_
  intro w5 hq5 hg5
  replace q1 := q1.grown hg5 (fun h => n1_2 (Option.some.inj h))
  replace q3 := q3.grown hg5 (fun h => n2_3.symm (Option.some.inj h))
  replace hbw := below_store hbw hg5 bhbw_2
  replace q2 := hq5
  clear hg5 hq5
  refine EL.nil ?_
  refine EX.seq ?_
  refine EC.ret ?_
  exact EX.done (resc1 rfl rfl (lv_23 (q2.at rfl) (q2.at rfl))) ⟨by subst hi0; rw [flowIn_zero], hbw⟩

set_option maxRecDepth 100000 in
theorem rflow_step (rv : River) (sides : List (List Bd)) (v u s : Value) (vs ss : List Value) (B : Nat) (h : StartOk rv sides) (w : World) (hr : RdRiver w B v u rv vs) (hs : RdSides w B s sides ss) (hB : B ≤ w.heap.size) (i j k : Nat) (hij : i = j + 1) (hi : i < rv.reaches.length) (hk : k < (sides.getD 0 []).length)
    (IH0 : ∀ W, Below w.heap.size w W → Calls Try.prog 47 #[.agg #[v, u], s, .int .i64 (j : Nat), .int .i64 ((k : Int) - (rv.reaches.getD j reach0).delay)] W fun e w' => e = .returned (.agg #[.int .i64 (flowIn rv.reaches sides j ((k : Int) - (rv.reaches.getD j reach0).delay)).lo, .int .i64 (flowIn rv.reaches sides j ((k : Int) - (rv.reaches.getD j reach0).delay)).hi]) ∧ Below W.heap.size W w') :
    Calls Try.prog 47 #[.agg #[v, u], s, .int .i64 (i : Nat), .int .i64 (k : Nat)] w fun e w' => e = .returned (.agg #[.int .i64 (flowIn rv.reaches sides i (k : Int)).lo, .int .i64 (flowIn rv.reaches sides i (k : Int)).hi]) ∧ Below w.heap.size w w' := by
  have hj : j < rv.reaches.length := by omega
  have hm := h.many
  have hi2 : i < sides.length := by omega
  have hn := h.river.some
  have hh := h.hours
  have hdl0 := (h.river.reach j hj).delay
  have hj1 : IntKind.i64.wrap (((i : Nat) : Int) - 1) = ((j : Nat) : Int) := (IntWalk.i64_in _ ⟨by omega, by omega⟩).trans (by omega)
  have hval : flowIn rv.reaches sides i (k : Int) = ((sides.getD i []).getD k bd0).add (flowIn rv.reaches sides j ((k : Int) - (rv.reaches.getD j reach0).delay)) := by subst hij; exact flowIn_step _ _ _ _
  have hfs := flowIn_small h j ((k : Int) - (rv.reaches.getD j reach0).delay) hj (by omega)
  have hsb := h.side i k hi2 hk
  obtain ⟨A, c, rfl, _⟩ := hr.reaches.shape
  obtain ⟨A', c', rfl, _⟩ := hr.shoals.shape
  obtain ⟨D, d, rfl, _⟩ := hs.rd.shape
  obtain ⟨x, ex⟩ : ∃ x, x = rv.reaches.getD j reach0 := ⟨_, rfl⟩
  obtain ⟨fb, ef⟩ : ∃ y, y = flowIn rv.reaches sides j ((k : Int) - x.delay) := ⟨_, rfl⟩
  rw [← ex] at IH0 hval hdl0 hfs
  rw [← ef] at IH0 hval hfs
  have IH := IH0
  clear IH0
  have hdl : IntKind.i64.wrap ((k : Int) - x.delay) = (k : Int) - x.delay := IntWalk.i64_in _ ⟨by omega, by omega⟩
  have s1 : IntKind.i64.wrap (((sides.getD i []).getD k bd0).lo + fb.lo) = ((sides.getD i []).getD k bd0).lo + fb.lo := IntWalk.i64_in _ ⟨by omega, by omega⟩
  have s2 : IntKind.i64.wrap (((sides.getD i []).getD k bd0).hi + fb.hi) = ((sides.getD i []).getD k bd0).hi + fb.hi := IntWalk.i64_in _ ⟨by omega, by omega⟩
  have hbw := Below.refl w.heap.size w
  refine EC.enter 54 Try.func47 rfl rfl rfl ?_
  obtain ⟨b2, o2, rfl, _, ds⟩ := sides_cell hs i hi2
  have hsd := hs.side i hi2
  obtain ⟨Ds, dc, es, _⟩ := hsd.shape
  rw [es] at hsd ds
  obtain ⟨b3, o3, rfl, _, e0, e1⟩ := bds_cells _ k (by rw [h.same i hi2]; exact hk) _ _ _ _ _ hsd
  obtain ⟨b, o, rfl, _, cc⟩ := reaches_cells hr.reaches j hj
  rw [← ex] at cc
  refine EC.seq ?_
  refine EC.region ?_
  refine EL.newP (bx_47 rfl) rfl ?_
  intro g1 w1 q1 hb1 hg1 hl1
  have bhbw_1 := Nat.le_trans hbw.size hg1
  replace hbw := Below.on hbw hb1 hbw.size
  clear hb1 hg1 hl1
  refine EL.newP al_23 rfl ?_
  intro g2 w2 q2 hb2 hg2 hl2
  have n1_2 : g1 ≠ g2 := Nat.ne_of_lt (Nat.lt_of_lt_of_le q1.lt hg2)
  have bhbw_2 := Nat.le_trans hbw.size hg2
  replace q1 := q1.below hb2 q1.lt
  replace hbw := Below.on hbw hb2 hbw.size
  clear hb2 hg2 hl2
  refine EL.nil ?_
  refine EX.seq ?_
  refine EC.seq ?_
  refine EC.seq ?_
  refine EC.region ?_
  refine EL.val (x_move rfl) rfl ?_
  refine EL.val (x_lss rfl rfl (by first | assumption | exact decide_eq_false (by omega))) rfl ?_
  refine EL.nil ?_
  refine EX.seq ?_
  refine EC.no rfl ?_
  refine EC.skip ?_
  refine EX.seq ?_
  refine EC.seq ?_
  refine EC.region ?_
  refine EL.val (x_move rfl) rfl ?_
  refine EL.val (x_move rfl) rfl ?_
  refine EL.val (ix_52 (k := i) rfl rfl hi2) rfl ?_
  refine EL.val (ld_28 rfl (below_load hbw ds)) rfl ?_
  refine EL.val (x_move rfl) rfl ?_
  refine EL.val (ix_28 (k := k) rfl rfl (by rw [h.same i hi2]; exact hk)) rfl ?_
  refine EL.val (ld_23 rfl (below_load hbw e0) (below_load hbw e1)) rfl ?_
  refine EL.newP al_23 rfl ?_
  intro g3 w3 q3 hb3 hg3 hl3
  have n1_3 : g1 ≠ g3 := Nat.ne_of_lt (Nat.lt_of_lt_of_le q1.lt hg3)
  have n2_3 : g2 ≠ g3 := Nat.ne_of_lt (Nat.lt_of_lt_of_le q2.lt hg3)
  have bhbw_3 := Nat.le_trans hbw.size hg3
  replace q1 := q1.below hb3 q1.lt
  replace q2 := q2.below hb3 q2.lt
  replace hbw := Below.on hbw hb3 hbw.size
  clear hb3 hg3 hl3
  refine EL.store rfl rfl q3 sz_23 rfl rfl rfl rfl ?_
  intro w4 hq4 hg4
  replace q1 := q1.grown hg4 (fun h => n1_3 (Option.some.inj h))
  replace q2 := q2.grown hg4 (fun h => n2_3 (Option.some.inj h))
  replace hbw := below_store hbw hg4 bhbw_3
  replace q3 := hq4
  clear hg4 hq4
  refine EL.nil ?_
  refine EX.seq ?_
  refine EC.seq ?_
  refine EC.seq ?_
  refine EC.region ?_
  refine EL.val (x_move rfl) rfl ?_
  refine EL.val (x_gtr rfl rfl (by first | assumption | exact decide_eq_true (by omega))) rfl ?_
  refine EL.nil ?_
  refine EX.seq ?_
  refine EC.yes rfl ?_
  refine EC.seq ?_
  have lt_1 := q1.lt
  have lt_2 := q2.lt
  have lt_3 := q3.lt
  refine EC.regionP [[], [], [], [2], [], [], [5], [], [7], [5, 6, 7, 8], [5, 6, 7, 8, 9], [5, 6, 7, 8, 9, 10], [4, 5, 6, 7, 8, 9, 10, 11], [0, 1, 2, 3, 4, 5, 6, 7, 8, 9, 10, 11, 12], [], [0, 1, 2, 3, 4, 5, 6, 7, 8, 9, 10, 11, 12, 13, 14]] 15 [14] (phi (fun i_ r => match i_ with | 0 => r 0 = .agg #[.slice (some ⟨b, o, none⟩) rv.reaches.length c, .slice A' rv.shoals.length c'] | 1 => r 1 = .slice (some ⟨b2, o2, none⟩) sides.length d | 2 => r 2 = .int .i64 (i : Nat) | 3 => r 3 = .int .i64 (j : Nat) | 4 => r 4 = .int .i64 (k : Nat) | 5 => r 5 = .pointer (some ⟨g1, 0, none⟩) | 6 => r 6 = .slice (some ⟨b, o, none⟩) rv.reaches.length c | 7 => r 7 = .int .i64 (i : Nat) | 8 => r 8 = .int .i64 (j : Nat) | 9 => r 9 = .pointer (some ⟨b, o + j * 9, none⟩) | 10 => r 10 = .pointer (some ⟨b, o + j * 9 + 1, none⟩) | 11 => r 11 = .int .i64 x.delay | 12 => r 12 = .int .i64 ((k : Int) - x.delay) | 13 => r 13 = .agg #[.int .i64 fb.lo, .int .i64 fb.hi] | _ => True) [(14, fun r w_ => ∃ g_, r 14 = .pointer (some ⟨g_, 0, none⟩) ∧ Blk w_ g_ 23 #[.int .i64 0, .int .i64 0])]) (by kernel_rfl) rfl rfl (phi_cons mono_alloc (phi_nil)) (fun i_ hi_ => ?_) ?_
  · match i_, hi_ with
    | 0, _ =>
      intro val w1 a hb ha hd
      have ha := ha.sub (Sub.ins (d := 4) (Sub.nil _) rfl)
      exact hs_val ha rfl rfl (ld_47 rfl ((q1.below hb q1.lt).at (j := 0) rfl) ((q1.below hb q1.lt).at (j := 1) rfl)) rfl rfl
    | 1, _ =>
      intro val w1 a hb ha hd
      have ha := ha.sub (Sub.ins (d := 1) (Sub.nil _) rfl)
      exact hs_val ha rfl rfl (x_move rfl) rfl rfl
    | 2, _ =>
      intro val w1 a hb ha hd
      have ha := ha.sub (Sub.ins (d := 2) (Sub.nil _) rfl)
      exact hs_val ha rfl rfl (x_move rfl) rfl rfl
    | 3, _ =>
      intro val w1 a hb ha hd
      have e2 : val 2 = .int .i64 (i : Nat) := hd 2 (memB_mem.1 rfl)
      have ha := ha.sub (Sub.ins (d := 30) (Sub.nil _) (dep_get rfl e2))
      exact hs_val ha rfl rfl (x_sub rfl rfl hj1) rfl rfl
    | 4, _ =>
      intro val w1 a hb ha hd
      have ha := ha.sub (Sub.ins (d := 3) (Sub.nil _) rfl)
      exact hs_val ha rfl rfl (x_move rfl) rfl rfl
    | 5, _ =>
      intro val w1 a hb ha hd
      have ha := ha.sub (Sub.ins (d := 4) (Sub.nil _) rfl)
      exact hs_val ha rfl rfl (fa_47_0 rfl) rfl rfl
    | 6, _ =>
      intro val w1 a hb ha hd
      have e5 : val 5 = .pointer (some ⟨g1, 0, none⟩) := hd 5 (memB_mem.1 rfl)
      have ha := ha.sub (Sub.ins (d := 33) (Sub.nil _) (dep_get rfl e5))
      exact hs_val ha rfl rfl (ld_44 rfl ((q1.below hb q1.lt).at (j := 0) rfl)) rfl rfl
    | 7, _ =>
      intro val w1 a hb ha hd
      have ha := ha.sub (Sub.ins (d := 2) (Sub.nil _) rfl)
      exact hs_val ha rfl rfl (x_move rfl) rfl rfl
    | 8, _ =>
      intro val w1 a hb ha hd
      have e7 : val 7 = .int .i64 (i : Nat) := hd 7 (memB_mem.1 rfl)
      have ha := ha.sub (Sub.ins (d := 35) (Sub.nil _) (dep_get rfl e7))
      exact hs_val ha rfl rfl (x_sub rfl rfl hj1) rfl rfl
    | 9, _ =>
      intro val w1 a hb ha hd
      have e6 : val 6 = .slice (some ⟨b, o, none⟩) rv.reaches.length c := hd 6 (memB_mem.1 rfl)
      have e8 : val 8 = .int .i64 (j : Nat) := hd 8 (memB_mem.1 rfl)
      have ha := ha.sub (Sub.ins (d := 36) (Sub.ins (d := 34) (Sub.nil _) (dep_get rfl e6)) (dep_get rfl e8))
      exact hs_val ha rfl rfl (ix_44 (k := j) rfl rfl hj) rfl rfl
    | 10, _ =>
      intro val w1 a hb ha hd
      have e9 : val 9 = .pointer (some ⟨b, o + j * 9, none⟩) := hd 9 (memB_mem.1 rfl)
      have ha := ha.sub (Sub.ins (d := 37) (Sub.nil _) (dep_get rfl e9))
      exact hs_val ha rfl rfl (fa_50_1 rfl) rfl rfl
    | 11, _ =>
      intro val w1 a hb ha hd
      have e10 : val 10 = .pointer (some ⟨b, o + j * 9 + 1, none⟩) := hd 10 (memB_mem.1 rfl)
      have ha := ha.sub (Sub.ins (d := 38) (Sub.nil _) (dep_get rfl e10))
      exact hs_val ha rfl rfl (ld_3 rfl (below_load (Below.on hbw hb hbw.size) cc.c1)) rfl rfl
    | 12, _ =>
      intro val w1 a hb ha hd
      have e4 : val 4 = .int .i64 (k : Nat) := hd 4 (memB_mem.1 rfl)
      have e11 : val 11 = .int .i64 x.delay := hd 11 (memB_mem.1 rfl)
      have ha := ha.sub (Sub.ins (d := 39) (Sub.ins (d := 32) (Sub.nil _) (dep_get rfl e4)) (dep_get rfl e11))
      exact hs_val ha rfl rfl (x_sub rfl rfl hdl) rfl rfl
    | 13, _ =>
      intro val w1 a hb ha hd
      have e0 : val 0 = .agg #[.slice (some ⟨b, o, none⟩) rv.reaches.length c, .slice A' rv.shoals.length c'] := hd 0 (memB_mem.1 rfl)
      have e1 : val 1 = .slice (some ⟨b2, o2, none⟩) sides.length d := hd 1 (memB_mem.1 rfl)
      have e3 : val 3 = .int .i64 (j : Nat) := hd 3 (memB_mem.1 rfl)
      have e12 : val 12 = .int .i64 ((k : Int) - x.delay) := hd 12 (memB_mem.1 rfl)
      have ha := ha.sub (Sub.ins (d := 40) (Sub.ins (d := 31) (Sub.ins (d := 29) (Sub.ins (d := 28) (Sub.nil _) (dep_get rfl e0)) (dep_get rfl e1)) (dep_get rfl e3)) (dep_get rfl e12))
      refine hs_call ha rfl rfl (cl_47 rfl rfl rfl rfl) (IH _ (Below.on hbw hb hbw.size)) rfl ?_
      rintro e w' ⟨rfl, hb'⟩
      exact ⟨_, rfl, hb', rfl⟩
    | 14, _ =>
      intro val w1 a hb ha hd
      have ha := ha.sub (Sub.nil _)
      exact hs_newP ha rfl rfl al_23 (fun g w' hq _ _ => ⟨g, rfl, hq⟩)
    | k + 15, h => exact absurd h (by omega)
  · intro val w' hb halc hd
    have e0 : val 0 = .agg #[.slice (some ⟨b, o, none⟩) rv.reaches.length c, .slice A' rv.shoals.length c'] := hd 0 (by omega)
    have e1 : val 1 = .slice (some ⟨b2, o2, none⟩) sides.length d := hd 1 (by omega)
    have e2 : val 2 = .int .i64 (i : Nat) := hd 2 (by omega)
    have e3 : val 3 = .int .i64 (j : Nat) := hd 3 (by omega)
    have e4 : val 4 = .int .i64 (k : Nat) := hd 4 (by omega)
    have e5 : val 5 = .pointer (some ⟨g1, 0, none⟩) := hd 5 (by omega)
    have e6 : val 6 = .slice (some ⟨b, o, none⟩) rv.reaches.length c := hd 6 (by omega)
    have e7 : val 7 = .int .i64 (i : Nat) := hd 7 (by omega)
    have e8 : val 8 = .int .i64 (j : Nat) := hd 8 (by omega)
    have e9 : val 9 = .pointer (some ⟨b, o + j * 9, none⟩) := hd 9 (by omega)
    have e10 : val 10 = .pointer (some ⟨b, o + j * 9 + 1, none⟩) := hd 10 (by omega)
    have e11 : val 11 = .int .i64 x.delay := hd 11 (by omega)
    have e12 : val 12 = .int .i64 ((k : Int) - x.delay) := hd 12 (by omega)
    have e13 : val 13 = .agg #[.int .i64 fb.lo, .int .i64 fb.hi] := hd 13 (by omega)
    obtain ⟨ga14, e14, qa14⟩ := hd 14 (by omega)
    refine EL.ends (cs := [.agg #[.slice (some ⟨b, o, none⟩) rv.reaches.length c, .slice A' rv.shoals.length c'], .slice (some ⟨b2, o2, none⟩) sides.length d, .int .i64 (i : Nat), .int .i64 (j : Nat), .int .i64 (k : Nat), .pointer (some ⟨g1, 0, none⟩), .slice (some ⟨b, o, none⟩) rv.reaches.length c, .int .i64 (i : Nat), .int .i64 (j : Nat), .pointer (some ⟨b, o + j * 9, none⟩), .pointer (some ⟨b, o + j * 9 + 1, none⟩), .int .i64 x.delay, .int .i64 ((k : Int) - x.delay), .agg #[.int .i64 fb.lo, .int .i64 fb.hi], .pointer (some ⟨ga14, 0, none⟩)]) ⟨e0, e1, e2, e3, e4, e5, e6, e7, e8, e9, e10, e11, e12, e13, e14, trivial⟩ rfl ?_
    replace q1 := q1.below hb q1.lt
    replace q2 := q2.below hb q2.lt
    replace q3 := q3.below hb q3.lt
    have bge5 := alc_ge halc (i := 14) rfl rfl e14
    have n1_5 : g1 ≠ ga14 := Nat.ne_of_lt (Nat.lt_of_lt_of_le lt_1 bge5)
    have n2_5 : g2 ≠ ga14 := Nat.ne_of_lt (Nat.lt_of_lt_of_le lt_2 bge5)
    have n3_5 : g3 ≠ ga14 := Nat.ne_of_lt (Nat.lt_of_lt_of_le lt_3 bge5)
    have bhbw_5 := Nat.le_trans hbw.size bge5
    replace hbw := Below.on hbw hb hbw.size
    clear hb
    refine EL.store rfl rfl qa14 sz_23 rfl rfl rfl rfl ?_
    intro w6 hq6 hg6
    replace q1 := q1.grown hg6 (fun h => n1_5 (Option.some.inj h))
    replace q2 := q2.grown hg6 (fun h => n2_5 (Option.some.inj h))
    replace q3 := q3.grown hg6 (fun h => n3_5 (Option.some.inj h))
    replace hbw := below_store hbw hg6 bhbw_5
    replace qa14 := hq6
    clear hg6 hq6
    refine EL.nil ?_
    refine EX.seq ?_
    refine EC.region ?_
    refine EL.val (fa_23_0 rfl) rfl ?_
    refine EL.val (ld_3 rfl (q3.at (j := 0) rfl)) rfl ?_
    refine EL.val (fa_23_0 rfl) rfl ?_
    refine EL.val (ld_3 rfl (qa14.at (j := 0) rfl)) rfl ?_
    refine EL.val (x_add rfl rfl s1) rfl ?_
    refine EL.val (fa_23_1 rfl) rfl ?_
    refine EL.val (ld_3 rfl (q3.at (j := 1) rfl)) rfl ?_
    refine EL.val (fa_23_1 rfl) rfl ?_
    refine EL.val (ld_3 rfl (qa14.at (j := 1) rfl)) rfl ?_
    refine EL.val (x_add rfl rfl s2) rfl ?_
    refine EL.val (bd_23_0_1 rfl rfl) rfl ?_
    refine EL.store rfl rfl q3 sz_23 rfl rfl rfl rfl ?_
    intro w7 hq7 hg7
    replace q1 := q1.grown hg7 (fun h => n1_3 (Option.some.inj h))
    replace q2 := q2.grown hg7 (fun h => n2_3 (Option.some.inj h))
    replace qa14 := qa14.grown hg7 (fun h => n3_5.symm (Option.some.inj h))
    replace hbw := below_store hbw hg7 bhbw_3
    replace q3 := hq7
    clear hg7 hq7
    refine EL.nil ?_
    refine EX.seq ?_
    refine EC.seq ?_
    refine EC.region ?_
    refine EL.val (ld_23 rfl (q3.at (j := 0) rfl) (q3.at (j := 1) rfl)) rfl ?_
    refine EL.store rfl rfl q2 sz_23 rfl rfl rfl rfl ?_
    intro w8 hq8 hg8
    replace q1 := q1.grown hg8 (fun h => n1_2 (Option.some.inj h))
    replace q3 := q3.grown hg8 (fun h => n2_3.symm (Option.some.inj h))
    replace qa14 := qa14.grown hg8 (fun h => n2_5.symm (Option.some.inj h))
    replace hbw := below_store hbw hg8 bhbw_2
    replace q2 := hq8
    clear hg8 hq8
    refine EL.nil ?_
    refine EX.seq ?_
    refine EC.ret ?_
    exact EX.done (resc1 rfl rfl (lv_23 (q2.at rfl) (q2.at rfl))) ⟨by rw [hval]; rfl, hbw⟩

/-- the reference's Flow -/
theorem rflow_any (r : River) (sides : List (List Bd)) (v u s : Value) (vs ss : List Value) (B : Nat) (h : StartOk r sides) : ∀ (i : Nat) (t : Int) (w : World) (hr : RdRiver w B v u r vs) (hs : RdSides w B s sides ss) (hB : B ≤ w.heap.size) (hi : i < r.reaches.length) (ht : t < (sides.getD 0 []).length),
    Calls Try.prog 47 #[.agg #[v, u], s, .int .i64 (i : Nat), .int .i64 t] w fun e w' => e = .returned (.agg #[.int .i64 (flowIn r.reaches sides i t).lo, .int .i64 (flowIn r.reaches sides i t).hi]) ∧ Below w.heap.size w w' := by
  intro i
  induction i with
  | zero =>
    intro t w hr hs hB hi ht
    by_cases hn : t < 0
    · exact rflow_neg r sides v u s vs ss B h w hr hs hB 0 t hi hn
    · obtain ⟨k, rfl⟩ : ∃ k : Nat, t = k := ⟨t.toNat, by omega⟩
      exact rflow_zero r sides v u s vs ss B h w hr hs hB 0 k rfl (by have := h.many; omega) (by omega)
  | succ j ih =>
    intro t w hr hs hB hi ht
    by_cases hn : t < 0
    · exact rflow_neg r sides v u s vs ss B h w hr hs hB (j + 1) t hi hn
    · obtain ⟨k, rfl⟩ : ∃ k : Nat, t = k := ⟨t.toNat, by omega⟩
      have hd := (h.river.reach j (by omega)).delay
      exact rflow_step r sides v u s vs ss B h w hr hs hB (j + 1) j k rfl hi (by omega) fun W hW => ih _ W (hr.below (hW.mono hB)) (hs.below (hW.mono hB)) (Nat.le_trans hB hW.size) (by omega) (by omega)
end Go.Proofs.Ytncnlhkmdljgpaa
