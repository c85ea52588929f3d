/- River: the laws' helpers pick and part; the law RiverMelts (printed by gen_w28.py). -/
import Derived.Test.YtncnlhkmdljgpaaLaw2
import Derived.Test.YtncnlhkmdljgpaaMeltMath
import Derived.Test.YtncnlhkmdljgpaaW19
import Derived.Test.YtncnlhkmdljgpaaExR28
set_option linter.unusedVariables false
set_option linter.unusedSimpArgs false
namespace Go.Proofs.Ytncnlhkmdljgpaa
open Go Go.RowKit

def u8s (l : List Int) : List Value := l.map fun x => .int .u8 x
theorem u8s_len (l : List Int) : (u8s l).length = l.length := by simp [u8s]
theorem sky_info2 : (Try.prog.info? 33).map (fun i => (i.zero, i.size, i.bytes)) = some (some (.agg #[.int .i64 0, .int .i64 0, .int .i64 0, .int .i64 0]), 4, 32) := by kernel_rfl
theorem sky_elem2 : Elem Try.prog 26 33 4 32 := Elem.mk' Try.underlying26 sky_info2 rfl (by omega)
theorem run_bad (c : Land) (sky : List Sky) (v : Value) (w : World) (B : Nat) (hr : Rd w B 4 v sky.length (skysC sky)) (hB : B ≤ w.heap.size) (hl : sky.length ≤ 1048576) (he : catchErr c sky ≠ 0) :
    Calls Try.prog 17 #[.agg (landV c), v] w fun e w' => e = .returned (.tuple #[.slice none 0 0, .int .i64 (catchErr c sky)]) ∧ Below w.heap.size w w' :=
  (runoff_any c sky v w B hr hB hl).mono fun _ _ ⟨⟨v', h1, h2, _⟩, h3⟩ => ⟨by rw [h1, h2 he], h3⟩
theorem run_ok (c : Land) (sky : List Sky) (v : Value) (w : World) (B : Nat) (hr : Rd w B 4 v sky.length (skysC sky)) (hB : B ≤ w.heap.size) (hl : sky.length ≤ 1048576) (he : catchErr c sky = 0) :
    Calls Try.prog 17 #[.agg (landV c), v] w fun e w' => (∃ A cc, e = .returned (.tuple #[.slice A sky.length cc, .int .i64 0]) ∧ w'.ownsRow w.heap.size 23 2 (.slice A sky.length cc) sky.length (bdsC (flowsTo c sky sky.length))) ∧ Below w.heap.size w w' :=
  (runoff_any c sky v w B hr hB hl).mono fun _ w' ⟨⟨v', h1, _, h2⟩, h3⟩ => by
    have h4 := h2 he
    obtain ⟨A, cc, rfl, _⟩ := (Rd.of_own h4).shape
    exact ⟨⟨A, cc, by rw [h1, he], h4⟩, h3⟩
theorem mono_tup {k base n : Nat} {xs : List Value} {y : Value} : Mono fun r w => ∃ A c, r k = .tuple #[.slice A n c, y] ∧ w.ownsRow base 23 2 (.slice A n c) n xs := fun _ _ _ hb ⟨A, c, h1, h2⟩ => ⟨A, c, h1, own_below h2 hb (Nat.le_refl _)⟩
theorem mono_slc {k base n : Nat} {xs : List Value} : Mono fun r w => ∃ A c, r k = .slice A n c ∧ w.ownsRow base 23 2 (.slice A n c) n xs := fun _ _ _ hb ⟨A, c, h1, h2⟩ => ⟨A, c, h1, own_below h2 hb (Nat.le_refl _)⟩

theorem pick_any (b : Bd) (y : Int) (w : World) (h0 : -1000000000000 ≤ b.lo) (h1 : b.lo ≤ b.hi) (h2 : b.hi ≤ 1000000000000) (hy : 0 ≤ y ∧ y ≤ 255) :
    Calls Try.prog 21 #[.agg #[.int .i64 b.lo, .int .i64 b.hi], .int .u8 y] w fun e w' => e = .returned (.int .i64 (pickI b y)) ∧ Below w.heap.size w w' := by
  have hbw := Below.refl w.heap.size w
  have m1 : 0 ≤ (b.hi - b.lo) * y := Int.mul_nonneg (by omega) hy.1
  have m2 : (b.hi - b.lo) * y ≤ (b.hi - b.lo) * 255 := Int.mul_le_mul_of_nonneg_left hy.2 (by omega)
  have hp := pick_bd h1 hy.1 hy.2
  unfold pickI at hp ⊢
  refine EC.enter 17 Try.func21 rfl rfl rfl ?_
  refine EC.seq ?_
  refine EC.region ?_
  refine EL.newP (bx_23 rfl) rfl ?_
  intro g1 w1 q1 hb1 hg1 hl1
  have bhbw_1 := Nat.le_trans hbw.size hg1
  replace hbw := Below.on hbw hb1 hbw.size
  clear hb1 hg1 hl1
  refine EL.val (x_assign rfl) rfl ?_
  refine EL.nil ?_
  refine EX.seq ?_
  refine EC.seq ?_
  refine EC.region ?_
  refine EL.val (fa_23_0 rfl) rfl ?_
  refine EL.val (ld_3 rfl (q1.at (j := 0) rfl)) rfl ?_
  refine EL.val (fa_23_1 rfl) rfl ?_
  refine EL.val (ld_3 rfl (q1.at (j := 1) rfl)) rfl ?_
  refine EL.val (fa_23_0 rfl) rfl ?_
  refine EL.val (ld_3 rfl (q1.at (j := 0) rfl)) rfl ?_
  refine EL.val (x_sub rfl rfl (by first | assumption | exact IntWalk.i64_in _ ⟨by omega, by omega⟩)) rfl ?_
  refine EL.val (x_move rfl) rfl ?_
  refine EL.val (cv_5_3 rfl (IntWalk.i64_in _ ⟨by omega, by omega⟩)) rfl ?_
  refine EL.val (x_mul rfl rfl (IntWalk.i64_in _ ⟨by omega, by omega⟩)) rfl ?_
  refine EL.val (x_quo rfl rfl (by decide) (IntWalk.i64_in _ ⟨by omega, by omega⟩)) rfl ?_
  refine EL.val (x_add rfl rfl (IntWalk.i64_in _ ⟨by omega, by omega⟩)) rfl ?_
  refine EL.val (x_assign rfl) rfl ?_
  refine EL.nil ?_
  refine EX.seq ?_
  refine EC.ret ?_
  exact EX.done (res1 rfl rfl) ⟨rfl, hbw⟩

theorem part_any (l : List Int) (v : Value) (i : Nat) (w : World) (B : Nat) (hr : Rd w B 1 v l.length (u8s l)) (hn : l.length ≤ 9223372036854775807) :
    Calls Try.prog 22 #[v, .int .i64 (i : Nat)] w fun e w' => e = .returned (.int .u8 (partI l i)) ∧ Below w.heap.size w w' := by
  obtain ⟨A, c, rfl, _⟩ := hr.shape
  have hbw := Below.refl w.heap.size w
  refine EC.enter 15 Try.func22 rfl rfl rfl ?_
  refine EC.seq ?_
  refine EC.region ?_
  refine EL.val (x_assign rfl) rfl ?_
  refine EL.nil ?_
  refine EX.seq ?_
  refine EC.seq ?_
  refine EC.seq ?_
  refine EC.region ?_
  refine EL.val (x_move rfl) rfl ?_
  refine EL.val (ln_38 rfl) rfl ?_
  by_cases h0 : l.length = 0
  ·
    have hp : partI l i = 0 := by rw [partI, if_pos h0]
    refine EL.val (x_eql rfl rfl (by first | assumption | exact decide_eq_true (by omega))) rfl ?_
    refine EL.nil ?_
    refine EX.seq ?_
    refine EC.yes rfl ?_
    refine EC.seq ?_
    refine EC.region ?_
    refine EL.val (x_assign rfl) rfl ?_
    refine EL.nil ?_
    refine EX.seq ?_
    refine EC.ret ?_
    refine EX.seq_ret ?_
    exact EX.done (res1 rfl rfl) ⟨by rw [hp], hbw⟩
  ·
    have hk : i % l.length < l.length := Nat.mod_lt _ (by omega)
    have hp : partI l i = l.getD (i % l.length) 0 := by rw [partI, if_neg h0]
    obtain ⟨b, o, rfl, _, hc⟩ := hr.at_ (by omega)
    have c0 := hc (i % l.length) (.int .u8 (partI l i)) (by rw [hp]; simp [u8s, hk])
    have t1 : ((i : Nat) : Int).tmod ((l.length : Nat) : Int) = ((i % l.length : Nat) : Int) := by rw [Int.ofNat_tmod]
    refine EL.val (x_eql rfl rfl (by first | assumption | exact decide_eq_false (by omega))) rfl ?_
    refine EL.nil ?_
    refine EX.seq ?_
    refine EC.no rfl ?_
    refine EC.skip ?_
    refine EX.seq ?_
    refine EC.seq ?_
    refine EC.region ?_
    refine EL.val (x_move rfl) rfl ?_
    refine EL.val (x_move rfl) rfl ?_
    refine EL.val (x_move rfl) rfl ?_
    refine EL.val (ln_38 rfl) rfl ?_
    refine EL.val (x_rem rfl rfl (by omega) t1) rfl ?_
    refine EL.val (ix_38 rfl rfl hk) rfl ?_
    refine EL.val (ld_5 rfl c0) rfl ?_
    refine EL.val (x_assign rfl) rfl ?_
    refine EL.nil ?_
    refine EX.seq ?_
    refine EC.ret ?_
    exact EX.done (res1 rfl rfl) ⟨rfl, hbw⟩

set_option maxHeartbeats 8000000 in
set_option maxRecDepth 100000 in
theorem melts_law (c : Land) (sky : List Sky) (v vb vs_ ve vg : Value) (bs ws : List Int) (x : Int) (w : World) (B : Nat) (hsk : Rd w B 4 v sky.length (skysC sky)) (hB : B ≤ w.heap.size) (hw1 : Rd w B 1 vb bs.length (u8s bs)) (hw2 : Rd w B 1 vs_ ws.length (u8s ws)) (hv1 : ∀ y ∈ bs, 0 ≤ y ∧ y ≤ 255) (hv2 : ∀ y ∈ ws, 0 ≤ y ∧ y ≤ 255) (hx : 0 ≤ x ∧ x ≤ 255) (hn1 : bs.length ≤ 9223372036854775807) (hn2 : ws.length ≤ 9223372036854775807) (hn : sky.length ≤ 9223372036854775807) (o3 : ve.oneCell' = true) (o4 : vg.oneCell' = true) :
    Calls Try.prog 4 #[.agg (landV c), v, .agg #[vb, vs_, ve, vg, .int .u8 x]] w fun e w' => e = .returned (.bool true) ∧ Below w.heap.size w w' := by
  obtain ⟨Av, cv, rfl, _⟩ := hsk.shape
  obtain ⟨Ab, cb, rfl, _⟩ := hw1.shape
  obtain ⟨As, cs, rfl, _⟩ := hw2.shape
  unfold landV
  have hbw := Below.refl w.heap.size w
  refine EC.enter 272 Try.func4 rfl rfl rfl ?_
  refine EC.seq ?_
  refine EC.region ?_
  refine EL.newP (bx_25 rfl) rfl ?_
  intro g1 w1 q1 hb1 hg1 hl1
  have bhbw_1 := Nat.le_trans hbw.size hg1
  replace hbw := Below.on hbw hb1 hbw.size
  clear hb1 hg1 hl1
  refine EL.newP (bx_40 rfl) rfl ?_
  intro g2 w2 q2 hb2 hg2 hl2
  have n1_2 : g1 ≠ g2 := Nat.ne_of_lt (Nat.lt_of_lt_of_le q1.lt hg2)
  have bhbw_2 := Nat.le_trans hbw.size hg2
  replace q1 := q1.below hb2 q1.lt
  replace hbw := Below.on hbw hb2 hbw.size
  clear hb2 hg2 hl2
  refine EL.val (x_assign rfl) rfl ?_
  refine EL.nil ?_
  refine EX.seq ?_
  refine EC.seq ?_
  refine EC.seq ?_
  refine EC.region ?_
  refine EL.val (x_move rfl) rfl ?_
  refine EL.val (ln_26 rfl) rfl ?_
  by_cases h100 : 100 < sky.length
  ·
    refine EL.val (x_gtr rfl rfl (by first | assumption | exact decide_eq_true (by omega))) rfl ?_
    refine EL.nil ?_
    refine EX.seq ?_
    refine EC.yes rfl ?_
    refine EC.seq ?_
    refine EC.region ?_
    refine EL.call cl_16 rfl (known_any _) ?_
    rintro e w3 ⟨rfl, hc3⟩
    refine ⟨_, rfl, ?_⟩
    replace q1 := q1.below hc3 q1.lt
    replace q2 := q2.below hc3 q2.lt
    replace hbw := Below.on hbw hc3 hbw.size
    clear hc3
    refine EL.val (x_assign rfl) rfl ?_
    refine EL.nil ?_
    refine EX.seq ?_
    refine EC.ret ?_
    refine EX.seq_ret ?_
    exact EX.done (res1 rfl rfl) ⟨rfl, hbw⟩
  ·
    refine EL.val (x_gtr rfl rfl (by first | assumption | exact decide_eq_false (by omega))) rfl ?_
    refine EL.nil ?_
    refine EX.seq ?_
    refine EC.no rfl ?_
    refine EC.skip ?_
    refine EX.seq ?_
    refine EC.seq ?_
    by_cases herr : catchErr c sky = 0
    ·
      have hm := catch_ok herr
      have ha_ := hm.area
      have hp_ := hm.percent
      have hme := hm.melt
      have hsn := hm.snow
      have lt_1 := q1.lt
      have lt_2 := q2.lt
      refine EC.regionP [[], [], [], [1, 2], [0, 1, 2, 3], [0, 1, 2, 3, 4], [0, 1, 2, 3, 4, 5], [0, 1, 2, 3, 4, 5], [0, 1, 2, 3, 4, 5, 6], [0, 1, 2, 3, 4, 5, 6, 7, 8]] 9 [] (phi (fun i_ r => match i_ with | 0 => r 0 = .agg #[.int .i64 c.area, .int .i64 c.percent, .int .i64 c.melt, .int .i64 c.snow.lo, .int .i64 c.snow.hi] | 2 => r 2 = .slice Av sky.length cv | 7 => r 7 = .int .i64 0 | _ => True) [(1, fun r w_ => ∃ g_, r 1 = .slice (some ⟨g_, 0, none⟩) 0 0 ∧ Blk w_ g_ 33 #[] ∧ w2.heap.size ≤ g_), (3, fun r w_ => ∃ v, r 3 = v ∧ w_.ownsRow w2.heap.size 33 4 v sky.length (skysC sky)), (4, fun r w_ => ∃ A_ c_, r 4 = .tuple #[.slice A_ sky.length c_, .int .i64 0] ∧ w_.ownsRow w2.heap.size 23 2 (.slice A_ sky.length c_) sky.length (bdsC (flowsTo c sky sky.length))), (5, fun r w_ => ∃ A_ c_, r 5 = .tuple #[.slice A_ sky.length c_, .int .i64 0] ∧ w_.ownsRow w2.heap.size 23 2 (.slice A_ sky.length c_) sky.length (bdsC (flowsTo c sky sky.length))), (6, fun r w_ => ∃ A_ c_, r 6 = .slice A_ sky.length c_ ∧ w_.ownsRow w2.heap.size 23 2 (.slice A_ sky.length c_) sky.length (bdsC (flowsTo c sky sky.length))), (8, fun r w_ => ∃ A_ c_, r 8 = .slice A_ sky.length c_ ∧ w_.ownsRow w2.heap.size 23 2 (.slice A_ sky.length c_) sky.length (bdsC (flowsTo c sky sky.length)))]) (by kernel_rfl) rfl rfl (phi_cons mono_bs (phi_cons mono_row (phi_cons mono_tup (phi_cons mono_tup (phi_cons mono_slc (phi_cons mono_slc (phi_nil))))))) (fun i_ hi_ => ?_) ?_
      · match i_, hi_ with
        | 0, _ =>
          intro val w1 a hb ha hd
          have ha := ha.sub (Sub.ins (d := 3) (Sub.nil _) rfl)
          exact hs_val ha rfl rfl (ld_25 rfl ((q1.below hb q1.lt).at (j := 0) rfl) ((q1.below hb q1.lt).at (j := 1) rfl) ((q1.below hb q1.lt).at (j := 2) rfl) ((q1.below hb q1.lt).at (j := 3) rfl) ((q1.below hb q1.lt).at (j := 4) rfl)) rfl rfl
        | 1, _ =>
          intro val w1 a hb ha hd
          have ha := ha.sub (Sub.nil _)
          exact hs_newS ha rfl rfl (bs_26_0) rfl (fun g w' hq _ hge => ⟨g, rfl, hq, Nat.le_trans hb.size hge⟩)
        | 2, _ =>
          intro val w1 a hb ha hd
          have ha := ha.sub (Sub.ins (d := 1) (Sub.nil _) rfl)
          exact hs_val ha rfl rfl (x_move rfl) rfl rfl
        | 3, _ =>
          intro val w1 a hb ha hd
          obtain ⟨g1_, e1, q1_, h1_⟩ := hd 1 (memB_mem.1 rfl)
          change val 1 = _ at e1
          have e2 : val 2 = .slice Av sky.length cv := hd 2 (memB_mem.1 rfl)
          have ha := ha.sub (Sub.ins (d := 29) (Sub.ins (d := 28) (Sub.nil _) (dep_get rfl e1)) (dep_get rfl e2))
          exact hs_copy sky_elem2 ha rfl rfl rfl q1_ h1_ (hsk.below ((Below.on hbw hb hbw.size).mono hB)) (skysC_one _) (by omega) rfl hb.size rfl (fun v' w' ho => ⟨_, rfl, ho⟩)
        | 4, _ =>
          intro val w1 a hb ha hd
          have e0 : val 0 = .agg #[.int .i64 c.area, .int .i64 c.percent, .int .i64 c.melt, .int .i64 c.snow.lo, .int .i64 c.snow.hi] := hd 0 (memB_mem.1 rfl)
          obtain ⟨v3_, e3, q3_⟩ := hd 3 (memB_mem.1 rfl)
          have ha := ha.sub (Sub.ins (d := 30) (Sub.ins (d := 27) (Sub.nil _) (dep_get rfl e0)) (dep_get rfl e3))
          refine hs_call ha rfl rfl (cl_17 rfl rfl) (run_ok c sky _ _ w1.heap.size (Rd.of_own q3_) (Nat.le_refl _) (by omega) herr) rfl ?_
          rintro e w' ⟨⟨A_, c_, rfl, ho⟩, hb'⟩
          exact ⟨_, rfl, hb', ⟨_, _, rfl, own_less ho hb.size⟩⟩
        | 5, _ =>
          intro val w1 a hb ha hd
          obtain ⟨A4a, c4a, e4, q4a⟩ := hd 4 (memB_mem.1 rfl)
          have ha := ha.sub (Sub.ins (d := 31) (Sub.nil _) (dep_get rfl e4))
          exact hs_val ha rfl rfl (x_move rfl) ⟨_, _, rfl, q4a⟩ rfl
        | 6, _ =>
          intro val w1 a hb ha hd
          obtain ⟨A5a, c5a, e5, q5a⟩ := hd 5 (memB_mem.1 rfl)
          have ha := ha.sub (Sub.ins (d := 26) (Sub.nil _) (dep_get rfl e5))
          exact hs_val ha rfl rfl (x_extract rfl rfl) ⟨_, _, rfl, q5a⟩ rfl
        | 7, _ =>
          intro val w1 a hb ha hd
          obtain ⟨A5a, c5a, e5, q5a⟩ := hd 5 (memB_mem.1 rfl)
          have ha := ha.sub (Sub.ins (d := 26) (Sub.nil _) (dep_get rfl e5))
          exact hs_val ha rfl rfl (x_extract rfl rfl) rfl rfl
        | 8, _ =>
          intro val w1 a hb ha hd
          obtain ⟨A6a, c6a, e6, q6a⟩ := hd 6 (memB_mem.1 rfl)
          have ha := ha.sub (Sub.ins (d := 32) (Sub.nil _) (dep_get rfl e6))
          exact hs_val ha rfl rfl (x_assign rfl) ⟨_, _, rfl, q6a⟩ rfl
        | k + 9, h => exact absurd h (by omega)
      · intro val wR3 hb halc hd
        have e0 : val 0 = .agg #[.int .i64 c.area, .int .i64 c.percent, .int .i64 c.melt, .int .i64 c.snow.lo, .int .i64 c.snow.hi] := hd 0 (by omega)
        obtain ⟨ga1_3, e1, qa1_3, hga1_3⟩ := hd 1 (by omega)
        change val 1 = _ at e1
        change Blk wR3 ga1_3 33 #[] at qa1_3
        have e2 : val 2 = .slice Av sky.length cv := hd 2 (by omega)
        obtain ⟨v3_, e3, q3_⟩ := hd 3 (by omega)
        obtain ⟨A4a, c4a, e4, q4a⟩ := hd 4 (by omega)
        obtain ⟨A5a, c5a, e5, q5a⟩ := hd 5 (by omega)
        obtain ⟨A6a, c6a, e6, q6a⟩ := hd 6 (by omega)
        have e7 : val 7 = .int .i64 0 := hd 7 (by omega)
        obtain ⟨A8a, c8a, e8, q8a⟩ := hd 8 (by omega)
        refine EL.ends (cs := [.agg #[.int .i64 c.area, .int .i64 c.percent, .int .i64 c.melt, .int .i64 c.snow.lo, .int .i64 c.snow.hi], .slice (some ⟨ga1_3, 0, none⟩) 0 0, .slice Av sky.length cv, v3_, .tuple #[.slice A4a sky.length c4a, .int .i64 0], .tuple #[.slice A5a sky.length c5a, .int .i64 0], .slice A6a sky.length c6a, .int .i64 0, .slice A8a sky.length c8a]) ⟨e0, e1, e2, e3, e4, e5, e6, e7, e8, trivial⟩ rfl ?_
        replace q1 := q1.below hb q1.lt
        replace q2 := q2.below hb q2.lt
        have n1_4 : g1 ≠ ga1_3 := Nat.ne_of_lt (Nat.lt_of_lt_of_le lt_1 hga1_3)
        have n2_4 : g2 ≠ ga1_3 := Nat.ne_of_lt (Nat.lt_of_lt_of_le lt_2 hga1_3)
        have bhbw_4 := Nat.le_trans hbw.size hga1_3
        replace hbw := Below.on hbw hb hbw.size
        clear hb
        have da := Rd.of_own q8a
        have ba := Below.refl wR3.heap.size wR3
        refine EL.val (x_assign rfl) rfl ?_
        refine EL.nil ?_
        refine EX.seq ?_
        refine EC.seq ?_
        refine EC.seq ?_
        refine EC.region ?_
        refine EL.val (x_move rfl) rfl ?_
        refine EL.val (x_neq rfl rfl (by first | assumption | exact decide_eq_false (by omega))) rfl ?_
        refine EL.nil ?_
        refine EX.seq ?_
        refine EC.no rfl ?_
        refine EC.skip ?_
        refine EX.seq ?_
        refine EC.seq ?_
        refine EC.seq ?_
        refine EC.region ?_
        refine EL.val (x_move rfl) rfl ?_
        refine EL.val (ln_28 rfl) rfl ?_
        refine EL.val (x_move rfl) rfl ?_
        refine EL.val (ln_26 rfl) rfl ?_
        refine EL.val (x_neq rfl rfl (by first | assumption | exact decide_eq_false (by omega))) rfl ?_
        refine EL.val (x_move rfl) rfl ?_
        refine EL.valg rfl rfl (fa_25_3 rfl) rfl ?_
        refine EL.valg rfl rfl (fa_23_0 rfl) rfl ?_
        refine EL.valg rfl rfl (ld_3 rfl (q1.at (j := 3) rfl)) rfl ?_
        refine EL.valg rfl rfl (x_lss rfl rfl (by first | assumption | exact decide_eq_false (by omega))) rfl ?_
        refine EL.val (x_pick_f rfl rfl) rfl ?_
        refine EL.val (x_move rfl) rfl ?_
        refine EL.valg rfl rfl (fa_25_3 rfl) rfl ?_
        refine EL.valg rfl rfl (fa_23_0 rfl) rfl ?_
        refine EL.valg rfl rfl (ld_3 rfl (q1.at (j := 3) rfl)) rfl ?_
        refine EL.valg rfl rfl (fa_25_3 rfl) rfl ?_
        refine EL.valg rfl rfl (fa_23_1 rfl) rfl ?_
        refine EL.valg rfl rfl (ld_3 rfl (q1.at (j := 4) rfl)) rfl ?_
        refine EL.valg rfl rfl (x_gtr rfl rfl (by first | assumption | exact decide_eq_false (by omega))) rfl ?_
        refine EL.val (x_pick_f rfl rfl) rfl ?_
        refine EL.nil ?_
        refine EX.seq ?_
        refine EC.no rfl ?_
        refine EC.skip ?_
        refine EX.seq ?_
        refine EC.seq ?_
        refine EC.region ?_
        refine EL.val (fa_25_3 rfl) rfl ?_
        refine EL.val (ld_23 rfl (q1.at (j := 3) rfl) (q1.at (j := 4) rfl)) rfl ?_
        refine EL.val (fa_40_4 rfl) rfl ?_
        refine EL.val (ld_5 rfl (q2.at (j := 4) rfl)) rfl ?_
        refine EL.call (cl_21 rfl rfl) rfl (pick_any c.snow x _ (by omega) (by omega) (by omega) hx) ?_
        rintro e w5 ⟨rfl, hc5⟩
        refine ⟨_, rfl, ?_⟩
        replace q1 := q1.below hc5 q1.lt
        replace q2 := q2.below hc5 q2.lt
        replace hbw := Below.on hbw hc5 hbw.size
        replace ba := Below.on ba hc5 ba.size
        clear hc5
        refine EL.val (x_assign rfl) rfl ?_
        refine EL.val (x_assign rfl) rfl ?_
        refine EL.nil ?_
        refine EX.seq ?_
        refine EC.seq ?_
        have lt_1 := q1.lt
        have lt_2 := q2.lt
        refine EC.regionS [[], [], [], [], [0, 2, 3], [0, 1, 2, 3, 4]] 5 [2, 3] [4] (fun _ w_ => Below w5.heap.size w5 w_) (phiS (fun i_ r => match i_ with | 0 => r 0 = .agg #[.int .i64 c.area, .int .i64 c.percent, .int .i64 c.melt, .int .i64 c.snow.lo, .int .i64 c.snow.hi] | 1 => r 1 = .agg #[.int .i64 c.area, .int .i64 c.percent, .int .i64 c.melt, .int .i64 c.snow.lo, .int .i64 c.snow.hi] | _ => True) [(2, fun fl r w_ => ∃ g_, r 2 = .pointer (some ⟨g_, 0, none⟩) ∧ w5.heap.size ≤ g_ ∧ (fl 4 = false → Blk w_ g_ 25 #[.int .i64 0, .int .i64 0, .int .i64 0, .int .i64 0, .int .i64 0])), (3, fun _ r w_ => ∃ g_, r 3 = .pointer (some ⟨g_, 0, none⟩) ∧ w5.heap.size ≤ g_ ∧ Blk w_ g_ 25 #[.int .i64 0, .int .i64 0, .int .i64 0, .int .i64 0, .int .i64 0]), (4, fun _ r w_ => ∃ g_, r 2 = .pointer (some ⟨g_, 0, none⟩) ∧ Blk w_ g_ 25 #[.int .i64 c.area, .int .i64 c.percent, .int .i64 c.melt, .int .i64 c.snow.lo, .int .i64 c.snow.hi])]) (by kernel_rfl) rfl rfl (by intro i hi; simp at hi; first | (subst hi; exact ⟨by simp, by omega⟩) | (rcases hi with rfl | rfl | rfl <;> exact ⟨by simp, by omega⟩) | (rcases hi with rfl | rfl <;> exact ⟨by simp, by omega⟩)) (base_below w5) (phiS_cons monoS_alloc (phiS_cons monoS_alloc0 (phiS_cons monoS_store (phiS_nil)))) (fun i_ hi_ hs_ => ?_) (fun i_ hi_ => ?_) ?_
        · match i_, hi_ with
          | 0, _ =>
            intro val fl w1 a hb ha hd hfl
            have ha := ha.sub (Sub.ins (d := 3) (Sub.nil _) rfl)
            exact ss_val ha rfl rfl (ld_25 rfl ((q1.below hb q1.lt).at (j := 0) rfl) ((q1.below hb q1.lt).at (j := 1) rfl) ((q1.below hb q1.lt).at (j := 2) rfl) ((q1.below hb q1.lt).at (j := 3) rfl) ((q1.below hb q1.lt).at (j := 4) rfl)) rfl rfl
          | 1, _ =>
            intro val fl w1 a hb ha hd hfl
            have ha := ha.sub (Sub.ins (d := 3) (Sub.nil _) rfl)
            exact ss_val ha rfl rfl (ld_25 rfl ((q1.below hb q1.lt).at (j := 0) rfl) ((q1.below hb q1.lt).at (j := 1) rfl) ((q1.below hb q1.lt).at (j := 2) rfl) ((q1.below hb q1.lt).at (j := 3) rfl) ((q1.below hb q1.lt).at (j := 4) rfl)) rfl rfl
          | 2, _ =>
            intro val fl w1 a hb ha hd hfl
            have ha := ha.sub (Sub.nil _)
            exact ss_newP ha rfl rfl al_25 (fun g w' hq _ hge => ⟨g, rfl, Nat.le_trans hb.size hge, fun _ => hq⟩)
          | 3, _ =>
            intro val fl w1 a hb ha hd hfl
            have ha := ha.sub (Sub.nil _)
            exact ss_newP ha rfl rfl al_25 (fun g w' hq _ hge => ⟨g, rfl, Nat.le_trans hb.size hge, hq⟩)
          | 4, _ =>
            exact absurd (by simp) hs_
          | k + 5, h => exact absurd h (by omega)
        · simp only [List.mem_singleton] at hi_; subst hi_
          intro val fl w1 a hb hfi ha hd hfl
          obtain ⟨g2_, e2, hg2_, q2_⟩ := hd 2 (memB_mem.1 rfl)
          change val 2 = _ at e2
          have e0 : val 0 = .agg #[.int .i64 c.area, .int .i64 c.percent, .int .i64 c.melt, .int .i64 c.snow.lo, .int .i64 c.snow.hi] := hd 0 (memB_mem.1 rfl)
          have ha := ha.sub (Sub.ins (d := 71) (Sub.ins (d := 11) (Sub.nil _) (dep_get rfl e2)) (dep_get rfl e0))
          refine ts_store ha rfl rfl rfl (q2_ hfi) sz_25 rfl rfl rfl rfl ?_
          intro w' hq hgr
          refine ⟨undef, rfl, hgr.size, below_store hb hgr hg2_, ⟨g2_, e2, hq⟩, fun j _ hj hn hA => ?_⟩
          exact phiS_cons_st (C := fun j => j ≠ 4 ∧ 4 ∉ clsAt [[], [], [], [], [0, 2, 3], [0, 1, 2, 3, 4]] j ∧ ∀ p ∈ [2, 3], (p = j ∨ p ∈ clsAt [[], [], [], [], [0, 2, 3], [0, 1, 2, 3, 4]] j) → ∀ q ∈ [2, 3], (q = 4 ∨ q ∈ clsAt [[], [], [], [], [0, 2, 3], [0, 1, 2, 3, 4]] 4) → p ≠ q → val p ≠ val q) (fun _ ⟨g, h1, h2, _⟩ => ⟨g, h1, h2, fun h => by rw [fset_eq] at h; cases h⟩) (phiS_cons_st (C := fun j => j ≠ 4 ∧ 4 ∉ clsAt [[], [], [], [], [0, 2, 3], [0, 1, 2, 3, 4]] j ∧ ∀ p ∈ [2, 3], (p = j ∨ p ∈ clsAt [[], [], [], [], [0, 2, 3], [0, 1, 2, 3, 4]] j) → ∀ q ∈ [2, 3], (q = 4 ∨ q ∈ clsAt [[], [], [], [], [0, 2, 3], [0, 1, 2, 3, 4]] 4) → p ≠ q → val p ≠ val q) (fun hc ⟨g, h1, h2, h3⟩ => ⟨g, h1, h2, h3.grown hgr (fun h => hc.2.2 3 (by simp) (.inl rfl) 2 (by simp) (.inr (memB_mem.1 rfl)) (by simp) (by have h1' : val 3 = _ := h1; rw [h1', e2]; injection h with h; rw [h]))⟩) (phiS_cons_st (C := fun j => j ≠ 4 ∧ 4 ∉ clsAt [[], [], [], [], [0, 2, 3], [0, 1, 2, 3, 4]] j ∧ ∀ p ∈ [2, 3], (p = j ∨ p ∈ clsAt [[], [], [], [], [0, 2, 3], [0, 1, 2, 3, 4]] j) → ∀ q ∈ [2, 3], (q = 4 ∨ q ∈ clsAt [[], [], [], [], [0, 2, 3], [0, 1, 2, 3, 4]] 4) → p ≠ q → val p ≠ val q) (fun hc => absurd rfl hc.1) (fun _ _ h => h))) j ⟨hj, hn, hA⟩
        · intro val fl wR9 hfl hb halc hd
          have e0 : val 0 = .agg #[.int .i64 c.area, .int .i64 c.percent, .int .i64 c.melt, .int .i64 c.snow.lo, .int .i64 c.snow.hi] := hd 0 (by omega)
          have e1 : val 1 = .agg #[.int .i64 c.area, .int .i64 c.percent, .int .i64 c.melt, .int .i64 c.snow.lo, .int .i64 c.snow.hi] := hd 1 (by omega)
          obtain ⟨ga2_9, e2, qa2_9⟩ := hd 4 (by omega)
          change val 2 = _ at e2
          obtain ⟨ga3_9, e3, _, qa3_9⟩ := hd 3 (by omega)
          change val 3 = _ at e3
          refine EL.ends (cs := [.agg #[.int .i64 c.area, .int .i64 c.percent, .int .i64 c.melt, .int .i64 c.snow.lo, .int .i64 c.snow.hi], .agg #[.int .i64 c.area, .int .i64 c.percent, .int .i64 c.melt, .int .i64 c.snow.lo, .int .i64 c.snow.hi], .pointer (some ⟨ga2_9, 0, none⟩), .pointer (some ⟨ga3_9, 0, none⟩), val 4]) ⟨e0, e1, e2, e3, rfl, trivial⟩ rfl ?_
          replace q1 := q1.below hb q1.lt
          replace q2 := q2.below hb q2.lt
          have bge6 := alc_ge halc (i := 2) rfl rfl e2
          have n1_6 : g1 ≠ ga2_9 := Nat.ne_of_lt (Nat.lt_of_lt_of_le lt_1 bge6)
          have n2_6 : g2 ≠ ga2_9 := Nat.ne_of_lt (Nat.lt_of_lt_of_le lt_2 bge6)
          have bhbw_6 := Nat.le_trans hbw.size bge6
          have bba_6 := Nat.le_trans ba.size bge6
          have bge7 := alc_ge halc (i := 3) rfl rfl e3
          have n1_7 : g1 ≠ ga3_9 := Nat.ne_of_lt (Nat.lt_of_lt_of_le lt_1 bge7)
          have n2_7 : g2 ≠ ga3_9 := Nat.ne_of_lt (Nat.lt_of_lt_of_le lt_2 bge7)
          have n6_7 : ga2_9 ≠ ga3_9 := alc_ne halc (i := 2) (j := 3) rfl rfl rfl rfl rfl e2 e3
          have bhbw_7 := Nat.le_trans hbw.size bge7
          have bba_7 := Nat.le_trans ba.size bge7
          replace hbw := Below.on hbw hb hbw.size
          replace ba := Below.on ba hb ba.size
          refine EL.store rfl rfl qa3_9 sz_25 rfl rfl rfl rfl ?_
          intro w8 hq8 hg8
          replace q1 := q1.grown hg8 (fun h => n1_7 (Option.some.inj h))
          replace q2 := q2.grown hg8 (fun h => n2_7 (Option.some.inj h))
          replace qa2_9 := qa2_9.grown hg8 (fun h => n6_7 (Option.some.inj h))
          replace hbw := below_store hbw hg8 bhbw_7
          replace ba := below_store ba hg8 bba_7
          replace qa3_9 := hq8
          clear hg8 hq8
          refine EL.nil ?_
          refine EX.seq ?_
          refine EC.seq ?_
          have hwa : (wideOf c x).area = min 10000 (c.area + x) := rfl
          have hws : (wideOf c x).snow.hi = min 1000000 (c.snow.hi + x) := rfl
          have lt_1 := q1.lt
          have lt_2 := q2.lt
          have lt_6 := qa2_9.lt
          have lt_7 := qa3_9.lt
          refine EC.regionS [[], [], [1], [], [3], [3, 4], [1, 2, 3, 4, 5], [1, 2, 3, 4, 5, 6], [], [8], [8, 9], [], [11], [11, 12], [8, 9, 10, 11, 12, 13], [8, 9, 10, 11, 12, 13, 14], [0], [0, 16], [0, 1, 2, 3, 4, 5, 6, 7, 16, 17], [0, 1, 2, 3, 4, 5, 6, 7, 16, 17, 18], [0, 1, 2, 3, 4, 5, 6, 7, 8, 9, 10, 11, 12, 13, 14, 15, 16, 17, 18, 19], [0, 1, 2, 3, 4, 5, 6, 7, 8, 9, 10, 11, 12, 13, 14, 15, 16, 17, 18, 19, 20], [0, 1, 2, 3, 4, 5, 6, 7, 8, 9, 10, 11, 12, 13, 14, 15, 16, 17, 18, 19, 20, 21]] 20 [] [17, 19] (fun fl w_ => Touch w8 w_ [ga2_9, ga3_9] ∧ (fl 17 = false → Blk w_ ga2_9 25 #[.int .i64 c.area, .int .i64 c.percent, .int .i64 c.melt, .int .i64 c.snow.lo, .int .i64 c.snow.hi]) ∧ (fl 19 = false → Blk w_ ga3_9 25 #[.int .i64 c.area, .int .i64 c.percent, .int .i64 c.melt, .int .i64 c.snow.lo, .int .i64 c.snow.hi])) (phiS (fun i_ r => match i_ with | 0 => r 0 = .agg #[.int .i64 0, .int .i64 0] | 1 => r 1 = .pointer (some ⟨g1, 0, none⟩) | 2 => r 2 = .int .i64 c.area | 3 => r 3 = .pointer (some ⟨g2, 4, none⟩) | 4 => r 4 = .int .u8 x | 5 => r 5 = .int .i64 x | 6 => r 6 = .int .i64 (c.area + x) | 7 => r 7 = .int .i64 (min 10000 (c.area + x)) | 8 => r 8 = .pointer (some ⟨g1, 3, none⟩) | 9 => r 9 = .pointer (some ⟨g1, 4, none⟩) | 10 => r 10 = .int .i64 c.snow.hi | 11 => r 11 = .pointer (some ⟨g2, 4, none⟩) | 12 => r 12 = .int .u8 x | 13 => r 13 = .int .i64 x | 14 => r 14 = .int .i64 (c.snow.hi + x) | 15 => r 15 = .int .i64 (min 1000000 (c.snow.hi + x)) | 16 => r 16 = .pointer (some ⟨ga2_9, 3, none⟩) | 18 => r 18 = .pointer (some ⟨ga3_9, 0, none⟩) | _ => True) [(17, fun _ r w_ => Blk w_ ga2_9 25 #[.int .i64 c.area, .int .i64 c.percent, .int .i64 c.melt, .int .i64 0, .int .i64 0]), (19, fun _ r w_ => Blk w_ ga3_9 25 #[.int .i64 (min 10000 (c.area + x)), .int .i64 c.percent, .int .i64 c.melt, .int .i64 c.snow.lo, .int .i64 c.snow.hi])]) (by kernel_rfl) rfl rfl (by intro i hi; simp at hi; rcases hi with rfl | rfl <;> exact ⟨by simp, by omega⟩) ⟨fun _ _ => ⟨Touch.start _ _, fun _ => qa2_9, fun _ => qa3_9⟩, fun _ _ _ ⟨hT, hs17, hs19⟩ hb => ⟨hT.below hb, fun h => (hs17 h).below hb (hs17 h).lt, fun h => (hs19 h).below hb (hs19 h).lt⟩, fun _ _ h => h.1.size⟩ (phiS_cons monoS_own (phiS_cons monoS_own (phiS_nil))) (fun i_ hi_ hs_ => ?_) (fun i_ hi_ => ?_) ?_
          · match i_, hi_ with
            | 0, _ =>
              intro val fl w1 a hb ha hd hfl
              obtain ⟨hT, hs17, hs19⟩ := hb
              have ha := ha.sub (Sub.nil _)
              exact ss_val ha rfl rfl (bd_23_) rfl rfl
            | 1, _ =>
              intro val fl w1 a hb ha hd hfl
              obtain ⟨hT, hs17, hs19⟩ := hb
              have ha := ha.sub (Sub.ins (d := 3) (Sub.nil _) rfl)
              exact ss_val ha rfl rfl (fa_25_0 rfl) rfl rfl
            | 2, _ =>
              intro val fl w1 a hb ha hd hfl
              obtain ⟨hT, hs17, hs19⟩ := hb
              have e1 : val 1 = .pointer (some ⟨g1, 0, none⟩) := hd 1 (memB_mem.1 rfl)
              have ha := ha.sub (Sub.ins (d := 74) (Sub.nil _) (dep_get rfl e1))
              exact ss_val ha rfl rfl (ld_3 rfl ((q1.touch hT (by simp only [List.mem_cons, List.not_mem_nil, or_false, not_or]; exact ⟨n1_6, n1_7⟩)).at (j := 0) rfl)) rfl rfl
            | 3, _ =>
              intro val fl w1 a hb ha hd hfl
              obtain ⟨hT, hs17, hs19⟩ := hb
              have ha := ha.sub (Sub.ins (d := 5) (Sub.nil _) rfl)
              exact ss_val ha rfl rfl (fa_40_4 rfl) rfl rfl
            | 4, _ =>
              intro val fl w1 a hb ha hd hfl
              obtain ⟨hT, hs17, hs19⟩ := hb
              have e3 : val 3 = .pointer (some ⟨g2, 4, none⟩) := hd 3 (memB_mem.1 rfl)
              have ha := ha.sub (Sub.ins (d := 76) (Sub.nil _) (dep_get rfl e3))
              exact ss_val ha rfl rfl (ld_5 rfl ((q2.touch hT (by simp only [List.mem_cons, List.not_mem_nil, or_false, not_or]; exact ⟨n2_6, n2_7⟩)).at (j := 4) rfl)) rfl rfl
            | 5, _ =>
              intro val fl w1 a hb ha hd hfl
              obtain ⟨hT, hs17, hs19⟩ := hb
              have e4 : val 4 = .int .u8 x := hd 4 (memB_mem.1 rfl)
              have ha := ha.sub (Sub.ins (d := 77) (Sub.nil _) (dep_get rfl e4))
              exact ss_val ha rfl rfl (cv_5_3 rfl (IntWalk.i64_in _ ⟨by omega, by omega⟩)) rfl rfl
            | 6, _ =>
              intro val fl w1 a hb ha hd hfl
              obtain ⟨hT, hs17, hs19⟩ := hb
              have e2 : val 2 = .int .i64 c.area := hd 2 (memB_mem.1 rfl)
              have e5 : val 5 = .int .i64 x := hd 5 (memB_mem.1 rfl)
              have ha := ha.sub (Sub.ins (d := 78) (Sub.ins (d := 75) (Sub.nil _) (dep_get rfl e2)) (dep_get rfl e5))
              exact ss_val ha rfl rfl (x_add rfl rfl (by first | assumption | exact IntWalk.i64_in _ ⟨by omega, by omega⟩)) rfl rfl
            | 7, _ =>
              intro val fl w1 a hb ha hd hfl
              obtain ⟨hT, hs17, hs19⟩ := hb
              have e6 : val 6 = .int .i64 (c.area + x) := hd 6 (memB_mem.1 rfl)
              have ha := ha.sub (Sub.ins (d := 79) (Sub.nil _) (dep_get rfl e6))
              exact ss_val ha rfl rfl (mm_min rfl rfl rfl) rfl rfl
            | 8, _ =>
              intro val fl w1 a hb ha hd hfl
              obtain ⟨hT, hs17, hs19⟩ := hb
              have ha := ha.sub (Sub.ins (d := 3) (Sub.nil _) rfl)
              exact ss_val ha rfl rfl (fa_25_3 rfl) rfl rfl
            | 9, _ =>
              intro val fl w1 a hb ha hd hfl
              obtain ⟨hT, hs17, hs19⟩ := hb
              have e8 : val 8 = .pointer (some ⟨g1, 3, none⟩) := hd 8 (memB_mem.1 rfl)
              have ha := ha.sub (Sub.ins (d := 81) (Sub.nil _) (dep_get rfl e8))
              exact ss_val ha rfl rfl (fa_23_1 rfl) rfl rfl
            | 10, _ =>
              intro val fl w1 a hb ha hd hfl
              obtain ⟨hT, hs17, hs19⟩ := hb
              have e9 : val 9 = .pointer (some ⟨g1, 4, none⟩) := hd 9 (memB_mem.1 rfl)
              have ha := ha.sub (Sub.ins (d := 82) (Sub.nil _) (dep_get rfl e9))
              exact ss_val ha rfl rfl (ld_3 rfl ((q1.touch hT (by simp only [List.mem_cons, List.not_mem_nil, or_false, not_or]; exact ⟨n1_6, n1_7⟩)).at (j := 4) rfl)) rfl rfl
            | 11, _ =>
              intro val fl w1 a hb ha hd hfl
              obtain ⟨hT, hs17, hs19⟩ := hb
              have ha := ha.sub (Sub.ins (d := 5) (Sub.nil _) rfl)
              exact ss_val ha rfl rfl (fa_40_4 rfl) rfl rfl
            | 12, _ =>
              intro val fl w1 a hb ha hd hfl
              obtain ⟨hT, hs17, hs19⟩ := hb
              have e11 : val 11 = .pointer (some ⟨g2, 4, none⟩) := hd 11 (memB_mem.1 rfl)
              have ha := ha.sub (Sub.ins (d := 84) (Sub.nil _) (dep_get rfl e11))
              exact ss_val ha rfl rfl (ld_5 rfl ((q2.touch hT (by simp only [List.mem_cons, List.not_mem_nil, or_false, not_or]; exact ⟨n2_6, n2_7⟩)).at (j := 4) rfl)) rfl rfl
            | 13, _ =>
              intro val fl w1 a hb ha hd hfl
              obtain ⟨hT, hs17, hs19⟩ := hb
              have e12 : val 12 = .int .u8 x := hd 12 (memB_mem.1 rfl)
              have ha := ha.sub (Sub.ins (d := 85) (Sub.nil _) (dep_get rfl e12))
              exact ss_val ha rfl rfl (cv_5_3 rfl (IntWalk.i64_in _ ⟨by omega, by omega⟩)) rfl rfl
            | 14, _ =>
              intro val fl w1 a hb ha hd hfl
              obtain ⟨hT, hs17, hs19⟩ := hb
              have e10 : val 10 = .int .i64 c.snow.hi := hd 10 (memB_mem.1 rfl)
              have e13 : val 13 = .int .i64 x := hd 13 (memB_mem.1 rfl)
              have ha := ha.sub (Sub.ins (d := 86) (Sub.ins (d := 83) (Sub.nil _) (dep_get rfl e10)) (dep_get rfl e13))
              exact ss_val ha rfl rfl (x_add rfl rfl (by first | assumption | exact IntWalk.i64_in _ ⟨by omega, by omega⟩)) rfl rfl
            | 15, _ =>
              intro val fl w1 a hb ha hd hfl
              obtain ⟨hT, hs17, hs19⟩ := hb
              have e14 : val 14 = .int .i64 (c.snow.hi + x) := hd 14 (memB_mem.1 rfl)
              have ha := ha.sub (Sub.ins (d := 87) (Sub.nil _) (dep_get rfl e14))
              exact ss_val ha rfl rfl (mm_min rfl rfl rfl) rfl rfl
            | 16, _ =>
              intro val fl w1 a hb ha hd hfl
              obtain ⟨hT, hs17, hs19⟩ := hb
              have ha := ha.sub (Sub.ins (d := 11) (Sub.nil _) rfl)
              exact ss_val ha rfl rfl (fa_25_3 rfl) rfl rfl
            | 17, _ =>
              exact absurd (by simp) hs_
            | 18, _ =>
              intro val fl w1 a hb ha hd hfl
              obtain ⟨hT, hs17, hs19⟩ := hb
              have ha := ha.sub (Sub.ins (d := 12) (Sub.nil _) rfl)
              exact ss_val ha rfl rfl (fa_25_0 rfl) rfl rfl
            | 19, _ =>
              exact absurd (by simp) hs_
            | k + 20, h => exact absurd h (by omega)
          · simp only [List.mem_cons, List.not_mem_nil, or_false] at hi_; rcases hi_ with rfl | rfl
            ·
              intro val fl w1 a hb hfi ha hd hfl
              obtain ⟨hT, hs17, hs19⟩ := hb
              have e16 : val 16 = .pointer (some ⟨ga2_9, 3, none⟩) := hd 16 (memB_mem.1 rfl)
              have e0 : val 0 = .agg #[.int .i64 0, .int .i64 0] := hd 0 (memB_mem.1 rfl)
              have ha := ha.sub (Sub.ins (d := 73) (Sub.ins (d := 89) (Sub.nil _) (dep_get rfl e16)) (dep_get rfl e0))
              refine ts_store ha rfl rfl rfl (hs17 hfi) sz_23 rfl rfl rfl rfl ?_
              intro w' hq hgr
              refine ⟨undef, rfl, hgr.size, ⟨hT.grown hgr (by simp), (fun h => by rw [fset_eq] at h; cases h), (fun h => (hs19 (by rwa [fset_ne rfl] at h)).grown hgr (fun h => n6_7.symm (Option.some.inj h)))⟩, hq, fun j _ hj hn hA => ?_⟩
              exact phiS_cons_st (C := fun j => j ≠ 17 ∧ 17 ∉ clsAt [[], [], [1], [], [3], [3, 4], [1, 2, 3, 4, 5], [1, 2, 3, 4, 5, 6], [], [8], [8, 9], [], [11], [11, 12], [8, 9, 10, 11, 12, 13], [8, 9, 10, 11, 12, 13, 14], [0], [0, 16], [0, 1, 2, 3, 4, 5, 6, 7, 16, 17], [0, 1, 2, 3, 4, 5, 6, 7, 16, 17, 18], [0, 1, 2, 3, 4, 5, 6, 7, 8, 9, 10, 11, 12, 13, 14, 15, 16, 17, 18, 19], [0, 1, 2, 3, 4, 5, 6, 7, 8, 9, 10, 11, 12, 13, 14, 15, 16, 17, 18, 19, 20], [0, 1, 2, 3, 4, 5, 6, 7, 8, 9, 10, 11, 12, 13, 14, 15, 16, 17, 18, 19, 20, 21]] j) (fun hc => absurd rfl hc.1) (phiS_cons_st (C := fun j => j ≠ 17 ∧ 17 ∉ clsAt [[], [], [1], [], [3], [3, 4], [1, 2, 3, 4, 5], [1, 2, 3, 4, 5, 6], [], [8], [8, 9], [], [11], [11, 12], [8, 9, 10, 11, 12, 13], [8, 9, 10, 11, 12, 13, 14], [0], [0, 16], [0, 1, 2, 3, 4, 5, 6, 7, 16, 17], [0, 1, 2, 3, 4, 5, 6, 7, 16, 17, 18], [0, 1, 2, 3, 4, 5, 6, 7, 8, 9, 10, 11, 12, 13, 14, 15, 16, 17, 18, 19], [0, 1, 2, 3, 4, 5, 6, 7, 8, 9, 10, 11, 12, 13, 14, 15, 16, 17, 18, 19, 20], [0, 1, 2, 3, 4, 5, 6, 7, 8, 9, 10, 11, 12, 13, 14, 15, 16, 17, 18, 19, 20, 21]] j) (fun _ h => h.grown hgr (fun h => n6_7.symm (Option.some.inj h))) (fun _ _ h => h)) j ⟨hj, hn⟩
            ·
              intro val fl w1 a hb hfi ha hd hfl
              obtain ⟨hT, hs17, hs19⟩ := hb
              have e18 : val 18 = .pointer (some ⟨ga3_9, 0, none⟩) := hd 18 (memB_mem.1 rfl)
              have e7 : val 7 = .int .i64 (min 10000 (c.area + x)) := hd 7 (memB_mem.1 rfl)
              have ha := ha.sub (Sub.ins (d := 80) (Sub.ins (d := 90) (Sub.nil _) (dep_get rfl e18)) (dep_get rfl e7))
              refine ts_store ha rfl rfl rfl (hs19 hfi) sz_3 rfl rfl rfl rfl ?_
              intro w' hq hgr
              refine ⟨undef, rfl, hgr.size, ⟨hT.grown hgr (by simp), (fun h => (hs17 (by rwa [fset_ne rfl] at h)).grown hgr (fun h => n6_7 (Option.some.inj h))), (fun h => by rw [fset_eq] at h; cases h)⟩, hq, fun j _ hj hn hA => ?_⟩
              exact phiS_cons_st (C := fun j => j ≠ 19 ∧ 19 ∉ clsAt [[], [], [1], [], [3], [3, 4], [1, 2, 3, 4, 5], [1, 2, 3, 4, 5, 6], [], [8], [8, 9], [], [11], [11, 12], [8, 9, 10, 11, 12, 13], [8, 9, 10, 11, 12, 13, 14], [0], [0, 16], [0, 1, 2, 3, 4, 5, 6, 7, 16, 17], [0, 1, 2, 3, 4, 5, 6, 7, 16, 17, 18], [0, 1, 2, 3, 4, 5, 6, 7, 8, 9, 10, 11, 12, 13, 14, 15, 16, 17, 18, 19], [0, 1, 2, 3, 4, 5, 6, 7, 8, 9, 10, 11, 12, 13, 14, 15, 16, 17, 18, 19, 20], [0, 1, 2, 3, 4, 5, 6, 7, 8, 9, 10, 11, 12, 13, 14, 15, 16, 17, 18, 19, 20, 21]] j) (fun _ h => h.grown hgr (fun h => n6_7 (Option.some.inj h))) (phiS_cons_st (C := fun j => j ≠ 19 ∧ 19 ∉ clsAt [[], [], [1], [], [3], [3, 4], [1, 2, 3, 4, 5], [1, 2, 3, 4, 5, 6], [], [8], [8, 9], [], [11], [11, 12], [8, 9, 10, 11, 12, 13], [8, 9, 10, 11, 12, 13, 14], [0], [0, 16], [0, 1, 2, 3, 4, 5, 6, 7, 16, 17], [0, 1, 2, 3, 4, 5, 6, 7, 16, 17, 18], [0, 1, 2, 3, 4, 5, 6, 7, 8, 9, 10, 11, 12, 13, 14, 15, 16, 17, 18, 19], [0, 1, 2, 3, 4, 5, 6, 7, 8, 9, 10, 11, 12, 13, 14, 15, 16, 17, 18, 19, 20], [0, 1, 2, 3, 4, 5, 6, 7, 8, 9, 10, 11, 12, 13, 14, 15, 16, 17, 18, 19, 20, 21]] j) (fun hc => absurd rfl hc.1) (fun _ _ h => h)) j ⟨hj, hn⟩
          · intro val fl wR10 hfl hb halc hd
            have hT := hb.1
            clear hb
            have e0 : val 0 = .agg #[.int .i64 0, .int .i64 0] := hd 0 (by omega)
            have e1 : val 1 = .pointer (some ⟨g1, 0, none⟩) := hd 1 (by omega)
            have e2 : val 2 = .int .i64 c.area := hd 2 (by omega)
            have e3 : val 3 = .pointer (some ⟨g2, 4, none⟩) := hd 3 (by omega)
            have e4 : val 4 = .int .u8 x := hd 4 (by omega)
            have e5 : val 5 = .int .i64 x := hd 5 (by omega)
            have e6 : val 6 = .int .i64 (c.area + x) := hd 6 (by omega)
            have e7 : val 7 = .int .i64 (min 10000 (c.area + x)) := hd 7 (by omega)
            have e8 : val 8 = .pointer (some ⟨g1, 3, none⟩) := hd 8 (by omega)
            have e9 : val 9 = .pointer (some ⟨g1, 4, none⟩) := hd 9 (by omega)
            have e10 : val 10 = .int .i64 c.snow.hi := hd 10 (by omega)
            have e11 : val 11 = .pointer (some ⟨g2, 4, none⟩) := hd 11 (by omega)
            have e12 : val 12 = .int .u8 x := hd 12 (by omega)
            have e13 : val 13 = .int .i64 x := hd 13 (by omega)
            have e14 : val 14 = .int .i64 (c.snow.hi + x) := hd 14 (by omega)
            have e15 : val 15 = .int .i64 (min 1000000 (c.snow.hi + x)) := hd 15 (by omega)
            have e16 : val 16 = .pointer (some ⟨ga2_9, 3, none⟩) := hd 16 (by omega)
            have e18 : val 18 = .pointer (some ⟨ga3_9, 0, none⟩) := hd 18 (by omega)
            refine EL.ends (cs := [.agg #[.int .i64 0, .int .i64 0], .pointer (some ⟨g1, 0, none⟩), .int .i64 c.area, .pointer (some ⟨g2, 4, none⟩), .int .u8 x, .int .i64 x, .int .i64 (c.area + x), .int .i64 (min 10000 (c.area + x)), .pointer (some ⟨g1, 3, none⟩), .pointer (some ⟨g1, 4, none⟩), .int .i64 c.snow.hi, .pointer (some ⟨g2, 4, none⟩), .int .u8 x, .int .i64 x, .int .i64 (c.snow.hi + x), .int .i64 (min 1000000 (c.snow.hi + x)), .pointer (some ⟨ga2_9, 3, none⟩), val 17, .pointer (some ⟨ga3_9, 0, none⟩), val 19]) ⟨e0, e1, e2, e3, e4, e5, e6, e7, e8, e9, e10, e11, e12, e13, e14, e15, e16, rfl, e18, rfl, trivial⟩ rfl ?_
            replace q1 := q1.touch hT (by simp only [List.mem_cons, List.not_mem_nil, or_false, not_or]; exact ⟨n1_6, n1_7⟩)
            replace q2 := q2.touch hT (by simp only [List.mem_cons, List.not_mem_nil, or_false, not_or]; exact ⟨n2_6, n2_7⟩)
            have qa2_9 : Blk wR10 ga2_9 25 #[.int .i64 c.area, .int .i64 c.percent, .int .i64 c.melt, .int .i64 0, .int .i64 0] := hd 17 (by omega)
            have qa3_9 : Blk wR10 ga3_9 25 #[.int .i64 (min 10000 (c.area + x)), .int .i64 c.percent, .int .i64 c.melt, .int .i64 c.snow.lo, .int .i64 c.snow.hi] := hd 19 (by omega)
            replace hbw := hT.anchor hbw (by simp only [List.mem_cons, List.not_mem_nil, or_false, forall_eq_or_imp, forall_eq]; exact ⟨bhbw_6, bhbw_7⟩)
            replace ba := hT.anchor ba (by simp only [List.mem_cons, List.not_mem_nil, or_false, forall_eq_or_imp, forall_eq]; exact ⟨bba_6, bba_7⟩)
            refine EL.val (fa_25_3 rfl) rfl ?_
            refine EL.val (fa_23_1 rfl) rfl ?_
            refine EL.store rfl rfl qa3_9 sz_3 rfl rfl rfl rfl ?_
            intro w9 hq9 hg9
            replace q1 := q1.grown hg9 (fun h => n1_7 (Option.some.inj h))
            replace q2 := q2.grown hg9 (fun h => n2_7 (Option.some.inj h))
            replace qa2_9 := qa2_9.grown hg9 (fun h => n6_7 (Option.some.inj h))
            replace hbw := below_store hbw hg9 bhbw_7
            replace ba := below_store ba hg9 bba_7
            replace qa3_9 := hq9
            clear hg9 hq9
            refine EL.nil ?_
            refine EX.seq ?_
            refine EC.seq ?_
            have lt_1 := q1.lt
            have lt_2 := q2.lt
            have lt_6 := qa2_9.lt
            have lt_7 := qa3_9.lt
            refine EC.regionP [[], [], [], [1, 2], [0, 1, 2, 3], [0, 1, 2, 3, 4], [0, 1, 2, 3, 4, 5], [0, 1, 2, 3, 4, 5], [0, 1, 2, 3, 4, 5, 6], [0, 1, 2, 3, 4, 5, 6, 7, 8]] 9 [] (phi (fun i_ r => match i_ with | 0 => r 0 = .agg #[.int .i64 c.area, .int .i64 c.percent, .int .i64 c.melt, .int .i64 0, .int .i64 0] | 2 => r 2 = .slice Av sky.length cv | 7 => r 7 = .int .i64 0 | _ => True) [(1, fun r w_ => ∃ g_, r 1 = .slice (some ⟨g_, 0, none⟩) 0 0 ∧ Blk w_ g_ 33 #[] ∧ w9.heap.size ≤ g_), (3, fun r w_ => ∃ v, r 3 = v ∧ w_.ownsRow w9.heap.size 33 4 v sky.length (skysC sky)), (4, fun r w_ => ∃ A_ c_, r 4 = .tuple #[.slice A_ sky.length c_, .int .i64 0] ∧ w_.ownsRow w9.heap.size 23 2 (.slice A_ sky.length c_) sky.length (bdsC (flowsTo (bareOf c) sky sky.length))), (5, fun r w_ => ∃ A_ c_, r 5 = .tuple #[.slice A_ sky.length c_, .int .i64 0] ∧ w_.ownsRow w9.heap.size 23 2 (.slice A_ sky.length c_) sky.length (bdsC (flowsTo (bareOf c) sky sky.length))), (6, fun r w_ => ∃ A_ c_, r 6 = .slice A_ sky.length c_ ∧ w_.ownsRow w9.heap.size 23 2 (.slice A_ sky.length c_) sky.length (bdsC (flowsTo (bareOf c) sky sky.length))), (8, fun r w_ => ∃ A_ c_, r 8 = .slice A_ sky.length c_ ∧ w_.ownsRow w9.heap.size 23 2 (.slice A_ sky.length c_) sky.length (bdsC (flowsTo (bareOf c) sky sky.length)))]) (by kernel_rfl) rfl rfl (phi_cons mono_bs (phi_cons mono_row (phi_cons mono_tup (phi_cons mono_tup (phi_cons mono_slc (phi_cons mono_slc (phi_nil))))))) (fun i_ hi_ => ?_) ?_
            · match i_, hi_ with
              | 0, _ =>
                intro val w1 a hb ha hd
                have ha := ha.sub (Sub.ins (d := 11) (Sub.nil _) rfl)
                exact hs_val ha rfl rfl (ld_25 rfl ((qa2_9.below hb qa2_9.lt).at (j := 0) rfl) ((qa2_9.below hb qa2_9.lt).at (j := 1) rfl) ((qa2_9.below hb qa2_9.lt).at (j := 2) rfl) ((qa2_9.below hb qa2_9.lt).at (j := 3) rfl) ((qa2_9.below hb qa2_9.lt).at (j := 4) rfl)) rfl rfl
              | 1, _ =>
                intro val w1 a hb ha hd
                have ha := ha.sub (Sub.nil _)
                exact hs_newS ha rfl rfl (bs_26_0) rfl (fun g w' hq _ hge => ⟨g, rfl, hq, Nat.le_trans hb.size hge⟩)
              | 2, _ =>
                intro val w1 a hb ha hd
                have ha := ha.sub (Sub.ins (d := 1) (Sub.nil _) rfl)
                exact hs_val ha rfl rfl (x_move rfl) rfl rfl
              | 3, _ =>
                intro val w1 a hb ha hd
                obtain ⟨g1_, e1, q1_, h1_⟩ := hd 1 (memB_mem.1 rfl)
                change val 1 = _ at e1
                have e2 : val 2 = .slice Av sky.length cv := hd 2 (memB_mem.1 rfl)
                have ha := ha.sub (Sub.ins (d := 96) (Sub.ins (d := 95) (Sub.nil _) (dep_get rfl e1)) (dep_get rfl e2))
                exact hs_copy sky_elem2 ha rfl rfl rfl q1_ h1_ (hsk.below ((Below.on hbw hb hbw.size).mono hB)) (skysC_one _) (by omega) rfl hb.size rfl (fun v' w' ho => ⟨_, rfl, ho⟩)
              | 4, _ =>
                intro val w1 a hb ha hd
                have e0 : val 0 = .agg #[.int .i64 c.area, .int .i64 c.percent, .int .i64 c.melt, .int .i64 0, .int .i64 0] := hd 0 (memB_mem.1 rfl)
                obtain ⟨v3_, e3, q3_⟩ := hd 3 (memB_mem.1 rfl)
                have ha := ha.sub (Sub.ins (d := 97) (Sub.ins (d := 94) (Sub.nil _) (dep_get rfl e0)) (dep_get rfl e3))
                refine hs_call ha rfl rfl (cl_17 rfl rfl) (run_ok (bareOf c) sky _ _ w1.heap.size (Rd.of_own q3_) (Nat.le_refl _) (by omega) (catch_of herr (bare_ok hm))) rfl ?_
                rintro e w' ⟨⟨A_, c_, rfl, ho⟩, hb'⟩
                exact ⟨_, rfl, hb', ⟨_, _, rfl, own_less ho hb.size⟩⟩
              | 5, _ =>
                intro val w1 a hb ha hd
                obtain ⟨A4b, c4b, e4, q4b⟩ := hd 4 (memB_mem.1 rfl)
                have ha := ha.sub (Sub.ins (d := 98) (Sub.nil _) (dep_get rfl e4))
                exact hs_val ha rfl rfl (x_move rfl) ⟨_, _, rfl, q4b⟩ rfl
              | 6, _ =>
                intro val w1 a hb ha hd
                obtain ⟨A5b, c5b, e5, q5b⟩ := hd 5 (memB_mem.1 rfl)
                have ha := ha.sub (Sub.ins (d := 93) (Sub.nil _) (dep_get rfl e5))
                exact hs_val ha rfl rfl (x_extract rfl rfl) ⟨_, _, rfl, q5b⟩ rfl
              | 7, _ =>
                intro val w1 a hb ha hd
                obtain ⟨A5b, c5b, e5, q5b⟩ := hd 5 (memB_mem.1 rfl)
                have ha := ha.sub (Sub.ins (d := 93) (Sub.nil _) (dep_get rfl e5))
                exact hs_val ha rfl rfl (x_extract rfl rfl) rfl rfl
              | 8, _ =>
                intro val w1 a hb ha hd
                obtain ⟨A6b, c6b, e6, q6b⟩ := hd 6 (memB_mem.1 rfl)
                have ha := ha.sub (Sub.ins (d := 99) (Sub.nil _) (dep_get rfl e6))
                exact hs_val ha rfl rfl (x_assign rfl) ⟨_, _, rfl, q6b⟩ rfl
              | k + 9, h => exact absurd h (by omega)
            · intro val wR11 hb halc hd
              have e0 : val 0 = .agg #[.int .i64 c.area, .int .i64 c.percent, .int .i64 c.melt, .int .i64 0, .int .i64 0] := hd 0 (by omega)
              obtain ⟨ga1_11, e1, qa1_11, hga1_11⟩ := hd 1 (by omega)
              change val 1 = _ at e1
              change Blk wR11 ga1_11 33 #[] at qa1_11
              have e2 : val 2 = .slice Av sky.length cv := hd 2 (by omega)
              obtain ⟨v3_, e3, q3_⟩ := hd 3 (by omega)
              obtain ⟨A4b, c4b, e4, q4b⟩ := hd 4 (by omega)
              obtain ⟨A5b, c5b, e5, q5b⟩ := hd 5 (by omega)
              obtain ⟨A6b, c6b, e6, q6b⟩ := hd 6 (by omega)
              have e7 : val 7 = .int .i64 0 := hd 7 (by omega)
              obtain ⟨A8b, c8b, e8, q8b⟩ := hd 8 (by omega)
              refine EL.ends (cs := [.agg #[.int .i64 c.area, .int .i64 c.percent, .int .i64 c.melt, .int .i64 0, .int .i64 0], .slice (some ⟨ga1_11, 0, none⟩) 0 0, .slice Av sky.length cv, v3_, .tuple #[.slice A4b sky.length c4b, .int .i64 0], .tuple #[.slice A5b sky.length c5b, .int .i64 0], .slice A6b sky.length c6b, .int .i64 0, .slice A8b sky.length c8b]) ⟨e0, e1, e2, e3, e4, e5, e6, e7, e8, trivial⟩ rfl ?_
              replace q1 := q1.below hb q1.lt
              replace q2 := q2.below hb q2.lt
              replace qa2_9 := qa2_9.below hb qa2_9.lt
              replace qa3_9 := qa3_9.below hb qa3_9.lt
              have n1_10 : g1 ≠ ga1_11 := Nat.ne_of_lt (Nat.lt_of_lt_of_le lt_1 hga1_11)
              have n2_10 : g2 ≠ ga1_11 := Nat.ne_of_lt (Nat.lt_of_lt_of_le lt_2 hga1_11)
              have n6_10 : ga2_9 ≠ ga1_11 := Nat.ne_of_lt (Nat.lt_of_lt_of_le lt_6 hga1_11)
              have n7_10 : ga3_9 ≠ ga1_11 := Nat.ne_of_lt (Nat.lt_of_lt_of_le lt_7 hga1_11)
              have bhbw_10 := Nat.le_trans hbw.size hga1_11
              have bba_10 := Nat.le_trans ba.size hga1_11
              replace hbw := Below.on hbw hb hbw.size
              replace ba := Below.on ba hb ba.size
              clear hb
              have db := Rd.of_own q8b
              have bb := Below.refl wR11.heap.size wR11
              refine EL.val (x_assign rfl) rfl ?_
              refine EL.nil ?_
              refine EX.seq ?_
              refine EC.seq ?_
              have lt_1 := q1.lt
              have lt_2 := q2.lt
              have lt_6 := qa2_9.lt
              have lt_7 := qa3_9.lt
              refine EC.regionP [[], [], [], [1, 2], [0, 1, 2, 3], [0, 1, 2, 3, 4], [0, 1, 2, 3, 4, 5], [0, 1, 2, 3, 4, 5], [0, 1, 2, 3, 4, 5, 6], [0, 1, 2, 3, 4, 5, 6, 7, 8]] 9 [] (phi (fun i_ r => match i_ with | 0 => r 0 = .agg #[.int .i64 (wideOf c x).area, .int .i64 c.percent, .int .i64 c.melt, .int .i64 c.snow.lo, .int .i64 (wideOf c x).snow.hi] | 2 => r 2 = .slice Av sky.length cv | 7 => r 7 = .int .i64 0 | _ => True) [(1, fun r w_ => ∃ g_, r 1 = .slice (some ⟨g_, 0, none⟩) 0 0 ∧ Blk w_ g_ 33 #[] ∧ wR11.heap.size ≤ g_), (3, fun r w_ => ∃ v, r 3 = v ∧ w_.ownsRow wR11.heap.size 33 4 v sky.length (skysC sky)), (4, fun r w_ => ∃ A_ c_, r 4 = .tuple #[.slice A_ sky.length c_, .int .i64 0] ∧ w_.ownsRow wR11.heap.size 23 2 (.slice A_ sky.length c_) sky.length (bdsC (flowsTo (wideOf c x) sky sky.length))), (5, fun r w_ => ∃ A_ c_, r 5 = .tuple #[.slice A_ sky.length c_, .int .i64 0] ∧ w_.ownsRow wR11.heap.size 23 2 (.slice A_ sky.length c_) sky.length (bdsC (flowsTo (wideOf c x) sky sky.length))), (6, fun r w_ => ∃ A_ c_, r 6 = .slice A_ sky.length c_ ∧ w_.ownsRow wR11.heap.size 23 2 (.slice A_ sky.length c_) sky.length (bdsC (flowsTo (wideOf c x) sky sky.length))), (8, fun r w_ => ∃ A_ c_, r 8 = .slice A_ sky.length c_ ∧ w_.ownsRow wR11.heap.size 23 2 (.slice A_ sky.length c_) sky.length (bdsC (flowsTo (wideOf c x) sky sky.length)))]) (by kernel_rfl) rfl rfl (phi_cons mono_bs (phi_cons mono_row (phi_cons mono_tup (phi_cons mono_tup (phi_cons mono_slc (phi_cons mono_slc (phi_nil))))))) (fun i_ hi_ => ?_) ?_
              · match i_, hi_ with
                | 0, _ =>
                  intro val w1 a hb ha hd
                  have ha := ha.sub (Sub.ins (d := 12) (Sub.nil _) rfl)
                  exact hs_val ha rfl rfl (ld_25 rfl ((qa3_9.below hb qa3_9.lt).at (j := 0) rfl) ((qa3_9.below hb qa3_9.lt).at (j := 1) rfl) ((qa3_9.below hb qa3_9.lt).at (j := 2) rfl) ((qa3_9.below hb qa3_9.lt).at (j := 3) rfl) ((qa3_9.below hb qa3_9.lt).at (j := 4) rfl)) rfl rfl
                | 1, _ =>
                  intro val w1 a hb ha hd
                  have ha := ha.sub (Sub.nil _)
                  exact hs_newS ha rfl rfl (bs_26_0) rfl (fun g w' hq _ hge => ⟨g, rfl, hq, Nat.le_trans hb.size hge⟩)
                | 2, _ =>
                  intro val w1 a hb ha hd
                  have ha := ha.sub (Sub.ins (d := 1) (Sub.nil _) rfl)
                  exact hs_val ha rfl rfl (x_move rfl) rfl rfl
                | 3, _ =>
                  intro val w1 a hb ha hd
                  obtain ⟨g1_, e1, q1_, h1_⟩ := hd 1 (memB_mem.1 rfl)
                  change val 1 = _ at e1
                  have e2 : val 2 = .slice Av sky.length cv := hd 2 (memB_mem.1 rfl)
                  have ha := ha.sub (Sub.ins (d := 104) (Sub.ins (d := 103) (Sub.nil _) (dep_get rfl e1)) (dep_get rfl e2))
                  exact hs_copy sky_elem2 ha rfl rfl rfl q1_ h1_ (hsk.below ((Below.on hbw hb hbw.size).mono hB)) (skysC_one _) (by omega) rfl hb.size rfl (fun v' w' ho => ⟨_, rfl, ho⟩)
                | 4, _ =>
                  intro val w1 a hb ha hd
                  have e0 : val 0 = .agg #[.int .i64 (wideOf c x).area, .int .i64 c.percent, .int .i64 c.melt, .int .i64 c.snow.lo, .int .i64 (wideOf c x).snow.hi] := hd 0 (memB_mem.1 rfl)
                  obtain ⟨v3_, e3, q3_⟩ := hd 3 (memB_mem.1 rfl)
                  have ha := ha.sub (Sub.ins (d := 105) (Sub.ins (d := 102) (Sub.nil _) (dep_get rfl e0)) (dep_get rfl e3))
                  refine hs_call ha rfl rfl (cl_17 rfl rfl) (run_ok (wideOf c x) sky _ _ w1.heap.size (Rd.of_own q3_) (Nat.le_refl _) (by omega) (catch_of herr (wide_ok hm hx.1))) rfl ?_
                  rintro e w' ⟨⟨A_, c_, rfl, ho⟩, hb'⟩
                  exact ⟨_, rfl, hb', ⟨_, _, rfl, own_less ho hb.size⟩⟩
                | 5, _ =>
                  intro val w1 a hb ha hd
                  obtain ⟨A4w, c4w, e4, q4w⟩ := hd 4 (memB_mem.1 rfl)
                  have ha := ha.sub (Sub.ins (d := 106) (Sub.nil _) (dep_get rfl e4))
                  exact hs_val ha rfl rfl (x_move rfl) ⟨_, _, rfl, q4w⟩ rfl
                | 6, _ =>
                  intro val w1 a hb ha hd
                  obtain ⟨A5w, c5w, e5, q5w⟩ := hd 5 (memB_mem.1 rfl)
                  have ha := ha.sub (Sub.ins (d := 101) (Sub.nil _) (dep_get rfl e5))
                  exact hs_val ha rfl rfl (x_extract rfl rfl) ⟨_, _, rfl, q5w⟩ rfl
                | 7, _ =>
                  intro val w1 a hb ha hd
                  obtain ⟨A5w, c5w, e5, q5w⟩ := hd 5 (memB_mem.1 rfl)
                  have ha := ha.sub (Sub.ins (d := 101) (Sub.nil _) (dep_get rfl e5))
                  exact hs_val ha rfl rfl (x_extract rfl rfl) rfl rfl
                | 8, _ =>
                  intro val w1 a hb ha hd
                  obtain ⟨A6w, c6w, e6, q6w⟩ := hd 6 (memB_mem.1 rfl)
                  have ha := ha.sub (Sub.ins (d := 107) (Sub.nil _) (dep_get rfl e6))
                  exact hs_val ha rfl rfl (x_assign rfl) ⟨_, _, rfl, q6w⟩ rfl
                | k + 9, h => exact absurd h (by omega)
              · intro val wR12 hb halc hd
                have e0 : val 0 = .agg #[.int .i64 (wideOf c x).area, .int .i64 c.percent, .int .i64 c.melt, .int .i64 c.snow.lo, .int .i64 (wideOf c x).snow.hi] := hd 0 (by omega)
                obtain ⟨ga1_12, e1, qa1_12, hga1_12⟩ := hd 1 (by omega)
                change val 1 = _ at e1
                change Blk wR12 ga1_12 33 #[] at qa1_12
                have e2 : val 2 = .slice Av sky.length cv := hd 2 (by omega)
                obtain ⟨v3_, e3, q3_⟩ := hd 3 (by omega)
                obtain ⟨A4w, c4w, e4, q4w⟩ := hd 4 (by omega)
                obtain ⟨A5w, c5w, e5, q5w⟩ := hd 5 (by omega)
                obtain ⟨A6w, c6w, e6, q6w⟩ := hd 6 (by omega)
                have e7 : val 7 = .int .i64 0 := hd 7 (by omega)
                obtain ⟨A8w, c8w, e8, q8w⟩ := hd 8 (by omega)
                refine EL.ends (cs := [.agg #[.int .i64 (wideOf c x).area, .int .i64 c.percent, .int .i64 c.melt, .int .i64 c.snow.lo, .int .i64 (wideOf c x).snow.hi], .slice (some ⟨ga1_12, 0, none⟩) 0 0, .slice Av sky.length cv, v3_, .tuple #[.slice A4w sky.length c4w, .int .i64 0], .tuple #[.slice A5w sky.length c5w, .int .i64 0], .slice A6w sky.length c6w, .int .i64 0, .slice A8w sky.length c8w]) ⟨e0, e1, e2, e3, e4, e5, e6, e7, e8, trivial⟩ rfl ?_
                replace q1 := q1.below hb q1.lt
                replace q2 := q2.below hb q2.lt
                replace qa2_9 := qa2_9.below hb qa2_9.lt
                replace qa3_9 := qa3_9.below hb qa3_9.lt
                have n1_11 : g1 ≠ ga1_12 := Nat.ne_of_lt (Nat.lt_of_lt_of_le lt_1 hga1_12)
                have n2_11 : g2 ≠ ga1_12 := Nat.ne_of_lt (Nat.lt_of_lt_of_le lt_2 hga1_12)
                have n6_11 : ga2_9 ≠ ga1_12 := Nat.ne_of_lt (Nat.lt_of_lt_of_le lt_6 hga1_12)
                have n7_11 : ga3_9 ≠ ga1_12 := Nat.ne_of_lt (Nat.lt_of_lt_of_le lt_7 hga1_12)
                have bhbw_11 := Nat.le_trans hbw.size hga1_12
                have bba_11 := Nat.le_trans ba.size hga1_12
                have bbb_11 := Nat.le_trans bb.size hga1_12
                replace hbw := Below.on hbw hb hbw.size
                replace ba := Below.on ba hb ba.size
                replace bb := Below.on bb hb bb.size
                clear hb
                have dw := Rd.of_own q8w
                have bw := Below.refl wR12.heap.size wR12
                refine EL.val (x_assign rfl) rfl ?_
                refine EL.nil ?_
                refine EX.seq ?_
                refine EC.seq ?_
                refine EC.seq ?_
                refine EC.region ?_
                refine EL.val (x_move rfl) rfl ?_
                refine EL.val (x_neq rfl rfl (by first | assumption | exact decide_eq_false (by omega))) rfl ?_
                refine EL.val (x_move rfl) rfl ?_
                refine EL.valg rfl rfl (x_move rfl) rfl ?_
                refine EL.valg rfl rfl (x_neq rfl rfl (by first | assumption | exact decide_eq_false (by omega))) rfl ?_
                refine EL.val (x_pick_f rfl rfl) rfl ?_
                refine EL.val (x_move rfl) rfl ?_
                refine EL.valg rfl rfl (x_move rfl) rfl ?_
                refine EL.valg rfl rfl (ln_28 rfl) rfl ?_
                refine EL.valg rfl rfl (x_move rfl) rfl ?_
                refine EL.valg rfl rfl (ln_26 rfl) rfl ?_
                refine EL.valg rfl rfl (x_neq rfl rfl (by first | assumption | exact decide_eq_false (by omega))) rfl ?_
                refine EL.val (x_pick_f rfl rfl) rfl ?_
                refine EL.val (x_move rfl) rfl ?_
                refine EL.valg rfl rfl (x_move rfl) rfl ?_
                refine EL.valg rfl rfl (ln_28 rfl) rfl ?_
                refine EL.valg rfl rfl (x_move rfl) rfl ?_
                refine EL.valg rfl rfl (ln_26 rfl) rfl ?_
                refine EL.valg rfl rfl (x_neq rfl rfl (by first | assumption | exact decide_eq_false (by omega))) rfl ?_
                refine EL.val (x_pick_f rfl rfl) rfl ?_
                refine EL.nil ?_
                refine EX.seq ?_
                refine EC.no rfl ?_
                refine EC.skip ?_
                refine EX.seq ?_
                refine EC.seq ?_
                refine EC.seq ?_
                refine EC.region ?_
                refine EL.val (x_assign rfl) rfl ?_
                refine EL.nil ?_
                refine EX.seq ?_
                refine EC.block ?_
                obtain ⟨s0, es0⟩ : ∃ y, y = pickI c.snow x := ⟨_, rfl⟩
                rw [← es0]
                have hs0 := pick_bd (b := c.snow) hsn.2.1 hx.1 hx.2
                rw [← es0] at hs0
                refine EC.loopD [6, 9, 10, 17, 18, 19, 20, 21, 129, 130, 131, 132, 133, 134, 135, 136, 137, 138, 139, 140, 141, 142, 143, 144, 145, 146, 147, 148, 149, 150, 151, 152, 153, 154, 155, 156, 157, 158, 159, 160, 161, 162, 163, 164, 165, 166, 167, 168, 169, 170, 171, 172, 173, 174, 175, 176, 177, 178, 179, 180, 181, 182, 183, 184, 185, 186, 187, 188, 189, 190, 191, 192, 193, 194, 195, 196, 197, 198, 199, 200, 201, 202, 203, 204, 205, 206, 207, 208, 209, 210, 211, 212, 213, 214, 215, 216, 217, 218, 219, 220, 221, 222, 223, 224, 225, 226, 227, 228, 229, 230, 231, 232, 233, 234, 235, 236, 237, 238, 239, 240, 241, 242, 243, 244, 245, 246, 247, 248, 249, 250, 251, 252, 253, 254, 255, 256, 257, 258, 259] (fun y : Nat => [(17, .int .i64 (y : Nat)), (9, .int .i64 (trSnow c.melt s0 (fun j => pickI (sky.getD j sky0).heat (partI bs j)) y)), (10, .int .i64 (s0 - (trSnow c.melt s0 (fun j => pickI (sky.getD j sky0).heat (partI bs j)) y)))]) (fun y W => y ≤ sky.length ∧ Blk W g1 25 #[.int .i64 c.area, .int .i64 c.percent, .int .i64 c.melt, .int .i64 c.snow.lo, .int .i64 c.snow.hi] ∧ Blk W g2 40 #[.slice Ab bs.length cb, .slice As ws.length cs, ve, vg, .int .u8 x] ∧ Below w.heap.size w W ∧ Below wR3.heap.size wR3 W ∧ Below wR11.heap.size wR11 W ∧ Below wR12.heap.size wR12 W) (fun y => sky.length - y) 0 ⟨Nat.zero_le _, q1, q2, hbw, ba, bb, bw⟩ ⟨rfl, rfl, by rw [trSnow, Int.sub_self]; rfl, trivial⟩ ?_
                clear q1 q2 hbw ba bb bw
                rintro i wr ⟨hi, q1, q2, hbw, ba, bb, bw⟩
                have hsn0 := trSnow_nonneg (rate := c.melt) (s := s0) (heat := (fun j => pickI (sky.getD j sky0).heat (partI bs j))) hme.1 (by omega) i
                have hsn1 := trSnow_le (rate := c.melt) (s := s0) (heat := (fun j => pickI (sky.getD j sky0).heat (partI bs j))) hme.1 (by omega) i
                by_cases hlt : i < sky.length
                ·
                  obtain ⟨bk, ok_, rfl, _, cc⟩ := skys_cells sky i hlt _ _ _ _ _ hsk
                  have hrn := hm.rain i hlt
                  have hht := hm.heat i hlt
                  have pw := part_bd hv2 i
                  have ph := part_bd hv1 i
                  have wet := pick_bd (b := (sky.getD i sky0).rain) hrn.2.1 pw.1 pw.2
                  have hot := pick_bd (b := (sky.getD i sky0).heat) hht.2.1 ph.1 ph.2
                  have hbt := melt_between (c := c) (s := s0) (heat := (fun j => pickI (sky.getD j sky0).heat (partI bs j))) hme.1 hs0 hlt (fun j hj => by have h1 := hm.heat j (by omega); have h2 := part_bd hv1 j; exact pick_bd h1.2.1 h2.1 h2.2)
                  have hsc : (trSnow c.melt s0 (fun j => pickI (sky.getD j sky0).heat (partI bs j)) (i + 1)) = (trSnow c.melt s0 (fun j => pickI (sky.getD j sky0).heat (partI bs j)) i) - min (trSnow c.melt s0 (fun j => pickI (sky.getD j sky0).heat (partI bs j)) i) (warmth c.melt (pickI (sky.getD i sky0).heat (partI bs i))) := rfl
                  have hwn := warmth_nonneg (rate := c.melt) (t := pickI (sky.getD i sky0).heat (partI bs i)) hme.1
                  have hwm : warmth c.melt (pickI (sky.getD i sky0).heat (partI bs i)) ≤ 50000 := by
                    have h1 : max 0 (pickI (sky.getD i sky0).heat (partI bs i)) * c.melt ≤ 500 * c.melt := Int.mul_le_mul_of_nonneg_right (by omega) hme.1
                    unfold warmth; omega
                  obtain ⟨m, em⟩ : ∃ m, m = min (trSnow c.melt s0 (fun j => pickI (sky.getD j sky0).heat (partI bs j)) i) (warmth c.melt (pickI (sky.getD i sky0).heat (partI bs i))) := ⟨_, rfl⟩
                  rw [← em] at hbt hsc
                  have htf := truth_flow hm hlt wet hbt
                  have hfb := mflow_bd hm hlt
                  have hbf := bare_flow (i := i) hm
                  have hwf := wide_flow hm hlt hx.1
                  have hfr := frost hm hlt
                  have fab := mflow_bd (c := bareOf c) (sky := sky) (i := i) (catch_ok (catch_of herr (bare_ok hm))) hlt
                  have faw := mflow_bd (c := wideOf c x) (sky := sky) (i := i) (catch_ok (catch_of herr (wide_ok hm hx.1))) hlt
                  obtain ⟨ka, oa, rfl, _, xa, ya⟩ := bds_cells _ i (by rw [flowsTo_len]; exact hlt) _ _ _ _ _ da
                  rw [flowsTo_at c sky hlt] at xa ya
                  obtain ⟨kb, ob, rfl, _, xb, yb⟩ := bds_cells _ i (by rw [flowsTo_len]; exact hlt) _ _ _ _ _ db
                  rw [flowsTo_at (bareOf c) sky hlt] at xb yb
                  obtain ⟨kw, ow, rfl, _, xw, yw⟩ := bds_cells _ i (by rw [flowsTo_len]; exact hlt) _ _ _ _ _ dw
                  rw [flowsTo_at (wideOf c x) sky hlt] at xw yw
                  refine EC.seq ?_
                  refine EC.seq ?_
                  refine EC.region ?_
                  refine EL.val (x_move rfl) rfl ?_
                  refine EL.val (x_move rfl) rfl ?_
                  refine EL.val (ln_26 rfl) rfl ?_
                  refine EL.val (x_lss rfl rfl (by first | assumption | exact decide_eq_true (by omega))) rfl ?_
                  refine EL.nil ?_
                  refine EX.seq ?_
                  refine EC.yes rfl ?_
                  refine EC.skip ?_
                  refine EX.seq ?_
                  refine EC.seq ?_
                  refine EC.block ?_
                  refine EC.seq ?_
                  refine EC.regionQ (by kernel_rfl) (by kernel_rfl) ?_
                  refine EQ.val (fun _ hw => (x_move rfl)) rfl ?_
                  refine EQ.val (fun _ hw => (x_move rfl)) rfl ?_
                  refine EQ.val (fun _ hw => (ix_26 rfl rfl hlt)) rfl ?_
                  refine EQ.val (fun _ hw => (fa_33_0 rfl)) rfl ?_
                  refine EQ.val (fun _ hw => (ld_23 rfl (below_load hw (below_load hbw cc.c0)) (below_load hw (below_load hbw cc.c1)))) rfl ?_
                  refine EQ.val (fun _ hw => (fa_40_1 rfl)) rfl ?_
                  refine EQ.val (fun _ hw => (ld_38 rfl (below_load hw (q2.at (j := 1) rfl)))) rfl ?_
                  refine EQ.val (fun _ hw => (x_move rfl)) rfl ?_
                  refine EQ.call (fun _ _ _ ha => cl_22 rfl rfl _ ha) rfl (fun W hw => (part_any ws _ i W B (hw2.below ((hbw.trans (hw.mono hbw.size)).mono hB)) (by omega)).mono fun e w' h => ⟨h.1, hw.trans (h.2.mono hw.size)⟩) ?_
                  refine EQ.call (fun _ _ _ ha => cl_21 rfl rfl _ ha) rfl (fun W hw => (pick_any (sky.getD i sky0).rain _ W (by omega) (by omega) (by omega) pw).mono fun e w' h => ⟨h.1, hw.trans (h.2.mono hw.size)⟩) ?_
                  refine EQ.val (fun _ hw => (x_move rfl)) rfl ?_
                  refine EQ.val (fun _ hw => (x_move rfl)) rfl ?_
                  refine EQ.val (fun _ hw => (ix_26 rfl rfl hlt)) rfl ?_
                  refine EQ.val (fun _ hw => (fa_33_1 rfl)) rfl ?_
                  refine EQ.val (fun _ hw => (ld_23 rfl (below_load hw (below_load hbw cc.c2)) (below_load hw (below_load hbw cc.c3)))) rfl ?_
                  refine EQ.val (fun _ hw => (fa_40_0 rfl)) rfl ?_
                  refine EQ.val (fun _ hw => (ld_38 rfl (below_load hw (q2.at (j := 0) rfl)))) rfl ?_
                  refine EQ.val (fun _ hw => (x_move rfl)) rfl ?_
                  refine EQ.call (fun _ _ _ ha => cl_22 rfl rfl _ ha) rfl (fun W hw => (part_any bs _ i W B (hw1.below ((hbw.trans (hw.mono hbw.size)).mono hB)) (by omega)).mono fun e w' h => ⟨h.1, hw.trans (h.2.mono hw.size)⟩) ?_
                  refine EQ.call (fun _ _ _ ha => cl_21 rfl rfl _ ha) rfl (fun W hw => (pick_any (sky.getD i sky0).heat _ W (by omega) (by omega) (by omega) ph).mono fun e w' h => ⟨h.1, hw.trans (h.2.mono hw.size)⟩) ?_
                  refine EQ.val (fun _ hw => (x_assign rfl)) rfl ?_
                  refine EQ.val (fun _ hw => (x_assign rfl)) rfl ?_
                  refine EQ.fin (fun w12 hw_ => ?_)
                  replace q1 := q1.below hw_ q1.lt
                  replace q2 := q2.below hw_ q2.lt
                  replace hbw := Below.on hbw hw_ hbw.size
                  replace ba := Below.on ba hw_ ba.size
                  replace bb := Below.on bb hw_ bb.size
                  replace bw := Below.on bw hw_ bw.size
                  clear hw_
                  refine EX.seq ?_
                  refine EC.seq ?_
                  refine EC.region ?_
                  refine EL.val (x_move rfl) rfl ?_
                  refine EL.val (x_move rfl) rfl ?_
                  refine EL.val (mm_max rfl rfl rfl) rfl ?_
                  refine EL.val (fa_25_2 rfl) rfl ?_
                  refine EL.val (ld_3 rfl (q1.at (j := 2) rfl)) rfl ?_
                  refine EL.val (x_mul rfl rfl (c := warmth c.melt (pickI (sky.getD i sky0).heat (partI bs i))) (IntWalk.i64_in _ ⟨by show _ ≤ warmth c.melt _; omega, by show warmth c.melt _ ≤ _; omega⟩)) rfl ?_
                  refine EL.val (mm_min rfl rfl em.symm) rfl ?_
                  refine EL.val (x_assign rfl) rfl ?_
                  refine EL.nil ?_
                  refine EX.seq ?_
                  refine EC.seq ?_
                  refine EC.region ?_
                  refine EL.val (x_move rfl) rfl ?_
                  refine EL.val (x_move rfl) rfl ?_
                  refine EL.val (x_sub rfl rfl (by first | assumption | exact IntWalk.i64_in _ ⟨by omega, by omega⟩)) rfl ?_
                  refine EL.val (x_move rfl) rfl ?_
                  refine EL.val (x_move rfl) rfl ?_
                  refine EL.val (x_add rfl rfl (by first | assumption | exact IntWalk.i64_in _ ⟨by omega, by omega⟩)) rfl ?_
                  refine EL.val (x_assign rfl) rfl ?_
                  refine EL.val (x_assign rfl) rfl ?_
                  refine EL.nil ?_
                  refine EX.seq ?_
                  refine EC.seq ?_
                  refine EC.region ?_
                  refine EL.val (fa_25_0 rfl) rfl ?_
                  refine EL.val (ld_3 rfl (q1.at (j := 0) rfl)) rfl ?_
                  refine EL.val (x_move rfl) rfl ?_
                  refine EL.val (x_move rfl) rfl ?_
                  refine EL.val (x_add rfl rfl (by first | assumption | exact IntWalk.i64_in _ ⟨by omega, by omega⟩)) rfl ?_
                  refine EL.val (x_mul rfl rfl (IntWalk.i64_in _ ⟨by omega, by omega⟩)) rfl ?_
                  refine EL.val (fa_25_1 rfl) rfl ?_
                  refine EL.val (ld_3 rfl (q1.at (j := 1) rfl)) rfl ?_
                  refine EL.val (x_mul rfl rfl (IntWalk.i64_in _ ⟨by omega, by omega⟩)) rfl ?_
                  refine EL.val (x_assign rfl) rfl ?_
                  refine EL.nil ?_
                  refine EX.seq ?_
                  refine EC.seq ?_
                  refine EC.seq ?_
                  refine EC.regionQ (by kernel_rfl) (by kernel_rfl) ?_
                  refine EQ.val (fun _ hw => (x_move rfl)) rfl ?_
                  refine EQ.val (fun _ hw => (x_move rfl)) rfl ?_
                  refine EQ.val (fun _ hw => (ix_28 rfl rfl hlt)) rfl ?_
                  refine EQ.val (fun _ hw => (fa_23_0 rfl)) rfl ?_
                  refine EQ.val (fun _ hw => (ld_3 rfl (below_load hw (below_load ba xa)))) rfl ?_
                  refine EQ.val (fun _ hw => (x_mul rfl rfl (IntWalk.i64_in _ ⟨by omega, by omega⟩))) rfl ?_
                  refine EQ.val (fun _ hw => (x_move rfl)) rfl ?_
                  refine EQ.val (fun _ hw => (x_gtr rfl rfl (by first | assumption | exact decide_eq_false (by omega)))) rfl ?_
                  refine EQ.val (fun _ hw => (x_move rfl)) rfl ?_
                  refine EQ.valg rfl rfl (fun _ hw => (x_move rfl)) rfl ?_
                  refine EQ.valg rfl rfl (fun _ hw => (x_move rfl)) rfl ?_
                  refine EQ.valg rfl rfl (fun _ hw => (ix_28 rfl rfl hlt)) rfl ?_
                  refine EQ.valg rfl rfl (fun _ hw => (fa_23_1 rfl)) rfl ?_
                  refine EQ.valg rfl rfl (fun _ hw => (ld_3 rfl (below_load hw (below_load ba ya)))) rfl ?_
                  refine EQ.valg rfl rfl (fun _ hw => (x_mul rfl rfl (IntWalk.i64_in _ ⟨by omega, by omega⟩))) rfl ?_
                  refine EQ.valg rfl rfl (fun _ hw => (x_move rfl)) rfl ?_
                  refine EQ.valg rfl rfl (fun _ hw => (x_lss rfl rfl (by first | assumption | exact decide_eq_false (by omega)))) rfl ?_
                  refine EQ.val (fun _ hw => (x_pick_f rfl rfl)) rfl ?_
                  refine EQ.val (fun _ hw => (x_move rfl)) rfl ?_
                  refine EQ.valg rfl rfl (fun _ hw => (x_move rfl)) rfl ?_
                  refine EQ.valg rfl rfl (fun _ hw => (x_move rfl)) rfl ?_
                  refine EQ.valg rfl rfl (fun _ hw => (ix_28 rfl rfl hlt)) rfl ?_
                  refine EQ.valg rfl rfl (fun _ hw => (fa_23_0 rfl)) rfl ?_
                  refine EQ.valg rfl rfl (fun _ hw => (ld_3 rfl (below_load hw (below_load bb xb)))) rfl ?_
                  refine EQ.valg rfl rfl (fun _ hw => (x_move rfl)) rfl ?_
                  refine EQ.valg rfl rfl (fun _ hw => (x_move rfl)) rfl ?_
                  refine EQ.valg rfl rfl (fun _ hw => (ix_28 rfl rfl hlt)) rfl ?_
                  refine EQ.valg rfl rfl (fun _ hw => (fa_23_0 rfl)) rfl ?_
                  refine EQ.valg rfl rfl (fun _ hw => (ld_3 rfl (below_load hw (below_load ba xa)))) rfl ?_
                  refine EQ.valg rfl rfl (fun _ hw => (x_gtr rfl rfl (by first | assumption | exact decide_eq_false (by omega)))) rfl ?_
                  refine EQ.val (fun _ hw => (x_pick_f rfl rfl)) rfl ?_
                  refine EQ.val (fun _ hw => (x_move rfl)) rfl ?_
                  refine EQ.valg rfl rfl (fun _ hw => (x_move rfl)) rfl ?_
                  refine EQ.valg rfl rfl (fun _ hw => (x_move rfl)) rfl ?_
                  refine EQ.valg rfl rfl (fun _ hw => (ix_28 rfl rfl hlt)) rfl ?_
                  refine EQ.valg rfl rfl (fun _ hw => (fa_23_1 rfl)) rfl ?_
                  refine EQ.valg rfl rfl (fun _ hw => (ld_3 rfl (below_load hw (below_load bb yb)))) rfl ?_
                  refine EQ.valg rfl rfl (fun _ hw => (x_move rfl)) rfl ?_
                  refine EQ.valg rfl rfl (fun _ hw => (x_move rfl)) rfl ?_
                  refine EQ.valg rfl rfl (fun _ hw => (ix_28 rfl rfl hlt)) rfl ?_
                  refine EQ.valg rfl rfl (fun _ hw => (fa_23_1 rfl)) rfl ?_
                  refine EQ.valg rfl rfl (fun _ hw => (ld_3 rfl (below_load hw (below_load ba ya)))) rfl ?_
                  refine EQ.valg rfl rfl (fun _ hw => (x_gtr rfl rfl (by first | assumption | exact decide_eq_false (by omega)))) rfl ?_
                  refine EQ.val (fun _ hw => (x_pick_f rfl rfl)) rfl ?_
                  refine EQ.val (fun _ hw => (x_move rfl)) rfl ?_
                  refine EQ.valg rfl rfl (fun _ hw => (x_move rfl)) rfl ?_
                  refine EQ.valg rfl rfl (fun _ hw => (x_move rfl)) rfl ?_
                  refine EQ.valg rfl rfl (fun _ hw => (ix_28 rfl rfl hlt)) rfl ?_
                  refine EQ.valg rfl rfl (fun _ hw => (fa_23_1 rfl)) rfl ?_
                  refine EQ.valg rfl rfl (fun _ hw => (ld_3 rfl (below_load hw (below_load bw yw)))) rfl ?_
                  refine EQ.valg rfl rfl (fun _ hw => (x_move rfl)) rfl ?_
                  refine EQ.valg rfl rfl (fun _ hw => (x_move rfl)) rfl ?_
                  refine EQ.valg rfl rfl (fun _ hw => (ix_28 rfl rfl hlt)) rfl ?_
                  refine EQ.valg rfl rfl (fun _ hw => (fa_23_1 rfl)) rfl ?_
                  refine EQ.valg rfl rfl (fun _ hw => (ld_3 rfl (below_load hw (below_load ba ya)))) rfl ?_
                  refine EQ.valg rfl rfl (fun _ hw => (x_lss rfl rfl (by first | assumption | exact decide_eq_false (by omega)))) rfl ?_
                  refine EQ.val (fun _ hw => (x_pick_f rfl rfl)) rfl ?_
                  refine EQ.val (fun _ hw => (x_move rfl)) rfl ?_
                  refine EQ.valg rfl rfl (fun _ hw => (x_move rfl)) rfl ?_
                  refine EQ.valg rfl rfl (fun _ hw => (x_move rfl)) rfl ?_
                  refine EQ.valg rfl rfl (fun _ hw => (ix_28 rfl rfl hlt)) rfl ?_
                  refine EQ.valg rfl rfl (fun _ hw => (fa_23_0 rfl)) rfl ?_
                  refine EQ.valg rfl rfl (fun _ hw => (ld_3 rfl (below_load hw (below_load ba xa)))) rfl ?_
                  refine EQ.valg rfl rfl (fun _ hw => (x_lss rfl rfl (by first | assumption | exact decide_eq_false (by omega)))) rfl ?_
                  refine EQ.val (fun _ hw => (x_pick_f rfl rfl)) rfl ?_
                  refine EQ.fin (fun w13 hw_ => ?_)
                  replace q1 := q1.below hw_ q1.lt
                  replace q2 := q2.below hw_ q2.lt
                  replace hbw := Below.on hbw hw_ hbw.size
                  replace ba := Below.on ba hw_ ba.size
                  replace bb := Below.on bb hw_ bb.size
                  replace bw := Below.on bw hw_ bw.size
                  clear hw_
                  refine EX.seq ?_
                  refine EC.no rfl ?_
                  refine EC.skip ?_
                  refine EX.seq ?_
                  refine EC.seq ?_
                  by_cases hcold : (sky.getD i sky0).heat.hi ≤ 0
                  ·
                    refine EC.regionQ (by kernel_rfl) (by kernel_rfl) ?_
                    refine EQ.val (fun _ hw => (x_move rfl)) rfl ?_
                    refine EQ.val (fun _ hw => (x_move rfl)) rfl ?_
                    refine EQ.val (fun _ hw => (ix_26 rfl rfl hlt)) rfl ?_
                    refine EQ.val (fun _ hw => (fa_33_1 rfl)) rfl ?_
                    refine EQ.val (fun _ hw => (fa_23_1 rfl)) rfl ?_
                    refine EQ.val (fun _ hw => (ld_3 rfl (below_load hw (below_load hbw cc.c3)))) rfl ?_
                    refine EQ.val (fun _ hw => (x_leq rfl rfl (by first | assumption | exact decide_eq_true (by omega)))) rfl ?_
                    refine EQ.val (fun _ hw => (x_move rfl)) rfl ?_
                    refine EQ.valg rfl rfl (fun _ hw => (x_move rfl)) rfl ?_
                    refine EQ.valg rfl rfl (fun _ hw => (x_move rfl)) rfl ?_
                    refine EQ.valg rfl rfl (fun _ hw => (ix_28 rfl rfl hlt)) rfl ?_
                    refine EQ.valg rfl rfl (fun _ hw => (ld_23 rfl (below_load hw (below_load ba xa)) (below_load hw (below_load ba ya)))) rfl ?_
                    refine EQ.valg rfl rfl (fun _ hw => (x_move rfl)) rfl ?_
                    refine EQ.valg rfl rfl (fun _ hw => (x_move rfl)) rfl ?_
                    refine EQ.valg rfl rfl (fun _ hw => (ix_28 rfl rfl hlt)) rfl ?_
                    refine EQ.valg rfl rfl (fun _ hw => (ld_23 rfl (below_load hw (below_load bb xb)) (below_load hw (below_load bb yb)))) rfl ?_
                    refine EQ.valg rfl rfl (fun _ hw => (neq_23 (r := false) rfl rfl (by rw [hfr hcold]; simp))) rfl ?_
                    refine EQ.val (fun _ hw => (x_pick_t rfl rfl)) rfl ?_
                    refine EQ.fin (fun w14 hw_ => ?_)
                    replace q1 := q1.below hw_ q1.lt
                    replace q2 := q2.below hw_ q2.lt
                    replace hbw := Below.on hbw hw_ hbw.size
                    replace ba := Below.on ba hw_ ba.size
                    replace bb := Below.on bb hw_ bb.size
                    replace bw := Below.on bw hw_ bw.size
                    clear hw_
                    refine EX.seq ?_
                    refine EC.no rfl ?_
                    refine EC.skip ?_
                    refine EX.blk ?_
                    refine EX.seq ?_
                    refine EC.region ?_
                    refine EL.val (x_move rfl) rfl ?_
                    refine EL.val (x_add rfl rfl (by first | assumption | exact IntWalk.i64_in _ ⟨by omega, by omega⟩)) rfl ?_
                    refine EL.val (x_assign rfl) rfl ?_
                    refine EL.nil ?_
                    refine EX.roundD (i + 1) ⟨rfl, by rw [hsc]; rfl, by rw [hsc, show s0 - ((trSnow c.melt s0 (fun j => pickI (sky.getD j sky0).heat (partI bs j)) i) - m) = s0 - (trSnow c.melt s0 (fun j => pickI (sky.getD j sky0).heat (partI bs j)) i) + m by omega]; rfl, trivial⟩ (by repeat first | exact Sub.refl _ | refine sub_past rfl ?_ | refine sub_del rfl ?_ | refine sub_insL_nil ?_) ⟨hlt, q1, q2, hbw, ba, bb, bw⟩ (by omega)
                  ·
                    refine EC.regionQ (by kernel_rfl) (by kernel_rfl) ?_
                    refine EQ.val (fun _ hw => (x_move rfl)) rfl ?_
                    refine EQ.val (fun _ hw => (x_move rfl)) rfl ?_
                    refine EQ.val (fun _ hw => (ix_26 rfl rfl hlt)) rfl ?_
                    refine EQ.val (fun _ hw => (fa_33_1 rfl)) rfl ?_
                    refine EQ.val (fun _ hw => (fa_23_1 rfl)) rfl ?_
                    refine EQ.val (fun _ hw => (ld_3 rfl (below_load hw (below_load hbw cc.c3)))) rfl ?_
                    refine EQ.val (fun _ hw => (x_leq rfl rfl (by first | assumption | exact decide_eq_false (by omega)))) rfl ?_
                    refine EQ.val (fun _ hw => (x_move rfl)) rfl ?_
                    refine EQ.skip rfl rfl rfl rfl ?_
                    refine EQ.skip rfl rfl rfl rfl ?_
                    refine EQ.skip rfl rfl rfl rfl ?_
                    refine EQ.skip rfl rfl rfl rfl ?_
                    refine EQ.skip rfl rfl rfl rfl ?_
                    refine EQ.skip rfl rfl rfl rfl ?_
                    refine EQ.skip rfl rfl rfl rfl ?_
                    refine EQ.skip rfl rfl rfl rfl ?_
                    refine EQ.skip rfl rfl rfl rfl ?_
                    refine EQ.val (fun _ hw => (x_pick_f rfl rfl)) rfl ?_
                    refine EQ.fin (fun w15 hw_ => ?_)
                    replace q1 := q1.below hw_ q1.lt
                    replace q2 := q2.below hw_ q2.lt
                    replace hbw := Below.on hbw hw_ hbw.size
                    replace ba := Below.on ba hw_ ba.size
                    replace bb := Below.on bb hw_ bb.size
                    replace bw := Below.on bw hw_ bw.size
                    clear hw_
                    refine EX.seq ?_
                    refine EC.no rfl ?_
                    refine EC.skip ?_
                    refine EX.blk ?_
                    refine EX.seq ?_
                    refine EC.region ?_
                    refine EL.val (x_move rfl) rfl ?_
                    refine EL.val (x_add rfl rfl (by first | assumption | exact IntWalk.i64_in _ ⟨by omega, by omega⟩)) rfl ?_
                    refine EL.val (x_assign rfl) rfl ?_
                    refine EL.nil ?_
                    refine EX.roundD (i + 1) ⟨rfl, by rw [hsc]; rfl, by rw [hsc, show s0 - ((trSnow c.melt s0 (fun j => pickI (sky.getD j sky0).heat (partI bs j)) i) - m) = s0 - (trSnow c.melt s0 (fun j => pickI (sky.getD j sky0).heat (partI bs j)) i) + m by omega]; rfl, trivial⟩ (by repeat first | exact Sub.refl _ | refine sub_past rfl ?_ | refine sub_del rfl ?_ | refine sub_insL_nil ?_) ⟨hlt, q1, q2, hbw, ba, bb, bw⟩ (by omega)
                ·
                  refine EC.seq ?_
                  refine EC.seq ?_
                  refine EC.region ?_
                  refine EL.val (x_move rfl) rfl ?_
                  refine EL.val (x_move rfl) rfl ?_
                  refine EL.val (ln_26 rfl) rfl ?_
                  refine EL.val (x_lss rfl rfl (by first | assumption | exact decide_eq_false (by omega))) rfl ?_
                  refine EL.nil ?_
                  refine EX.seq ?_
                  refine EC.no rfl ?_
                  refine EC.exit ?_
                  refine EX.seq_exit ?_
                  refine EX.seq_exit ?_
                  refine EX.blk_here ?_
                  refine EX.seq ?_
                  refine EC.seq ?_
                  refine EC.region ?_
                  refine EL.val (x_move rfl) rfl ?_
                  refine EL.val (x_geq rfl rfl (by first | assumption | exact decide_eq_true (by omega))) rfl ?_
                  refine EL.val (x_move rfl) rfl ?_
                  refine EL.valg rfl rfl (x_move rfl) rfl ?_
                  refine EL.valg rfl rfl (fa_25_3 rfl) rfl ?_
                  refine EL.valg rfl rfl (fa_23_1 rfl) rfl ?_
                  refine EL.valg rfl rfl (ld_3 rfl (q1.at (j := 4) rfl)) rfl ?_
                  refine EL.valg rfl rfl (x_leq rfl rfl (by first | assumption | exact decide_eq_true (by omega))) rfl ?_
                  refine EL.val (x_pick_t rfl rfl) rfl ?_
                  refine EL.val (x_move rfl) rfl ?_
                  refine EL.callg rfl rfl cl_16 rfl (known_any _) ?_
                  rintro e w16 ⟨rfl, hc16⟩
                  refine ⟨_, rfl, ?_⟩
                  replace q1 := q1.below hc16 q1.lt
                  replace q2 := q2.below hc16 q2.lt
                  replace hbw := Below.on hbw hc16 hbw.size
                  replace ba := Below.on ba hc16 ba.size
                  replace bb := Below.on bb hc16 bb.size
                  replace bw := Below.on bw hc16 bw.size
                  clear hc16
                  refine EL.val (x_pick_t rfl rfl) rfl ?_
                  refine EL.val (x_assign rfl) rfl ?_
                  refine EL.nil ?_
                  refine EX.seq ?_
                  refine EC.ret ?_
                  exact EX.done (res1 rfl rfl) ⟨rfl, hbw⟩
    ·
      have he2 := catch_2 (by omega) herr
      have lt_1 := q1.lt
      have lt_2 := q2.lt
      refine EC.regionP [[], [], [], [1, 2], [0, 1, 2, 3], [0, 1, 2, 3, 4], [0, 1, 2, 3, 4, 5], [0, 1, 2, 3, 4, 5], [0, 1, 2, 3, 4, 5, 6], [0, 1, 2, 3, 4, 5, 6, 7, 8]] 9 [] (phi (fun i_ r => match i_ with | 0 => r 0 = .agg #[.int .i64 c.area, .int .i64 c.percent, .int .i64 c.melt, .int .i64 c.snow.lo, .int .i64 c.snow.hi] | 2 => r 2 = .slice Av sky.length cv | 4 => r 4 = .tuple #[.slice none 0 0, .int .i64 (catchErr c sky)] | 5 => r 5 = .tuple #[.slice none 0 0, .int .i64 (catchErr c sky)] | 6 => r 6 = .slice none 0 0 | 7 => r 7 = .int .i64 (catchErr c sky) | 8 => r 8 = .slice none 0 0 | _ => True) [(1, fun r w_ => ∃ g_, r 1 = .slice (some ⟨g_, 0, none⟩) 0 0 ∧ Blk w_ g_ 33 #[] ∧ w2.heap.size ≤ g_), (3, fun r w_ => ∃ v, r 3 = v ∧ w_.ownsRow w2.heap.size 33 4 v sky.length (skysC sky))]) (by kernel_rfl) rfl rfl (phi_cons mono_bs (phi_cons mono_row (phi_nil))) (fun i_ hi_ => ?_) ?_
      · match i_, hi_ with
        | 0, _ =>
          intro val w1 a hb ha hd
          have ha := ha.sub (Sub.ins (d := 3) (Sub.nil _) rfl)
          exact hs_val ha rfl rfl (ld_25 rfl ((q1.below hb q1.lt).at (j := 0) rfl) ((q1.below hb q1.lt).at (j := 1) rfl) ((q1.below hb q1.lt).at (j := 2) rfl) ((q1.below hb q1.lt).at (j := 3) rfl) ((q1.below hb q1.lt).at (j := 4) rfl)) rfl rfl
        | 1, _ =>
          intro val w1 a hb ha hd
          have ha := ha.sub (Sub.nil _)
          exact hs_newS ha rfl rfl (bs_26_0) rfl (fun g w' hq _ hge => ⟨g, rfl, hq, Nat.le_trans hb.size hge⟩)
        | 2, _ =>
          intro val w1 a hb ha hd
          have ha := ha.sub (Sub.ins (d := 1) (Sub.nil _) rfl)
          exact hs_val ha rfl rfl (x_move rfl) rfl rfl
        | 3, _ =>
          intro val w1 a hb ha hd
          obtain ⟨g1_, e1, q1_, h1_⟩ := hd 1 (memB_mem.1 rfl)
          change val 1 = _ at e1
          have e2 : val 2 = .slice Av sky.length cv := hd 2 (memB_mem.1 rfl)
          have ha := ha.sub (Sub.ins (d := 29) (Sub.ins (d := 28) (Sub.nil _) (dep_get rfl e1)) (dep_get rfl e2))
          exact hs_copy sky_elem2 ha rfl rfl rfl q1_ h1_ (hsk.below ((Below.on hbw hb hbw.size).mono hB)) (skysC_one _) (by omega) rfl hb.size rfl (fun v' w' ho => ⟨_, rfl, ho⟩)
        | 4, _ =>
          intro val w1 a hb ha hd
          have e0 : val 0 = .agg #[.int .i64 c.area, .int .i64 c.percent, .int .i64 c.melt, .int .i64 c.snow.lo, .int .i64 c.snow.hi] := hd 0 (memB_mem.1 rfl)
          obtain ⟨v3_, e3, q3_⟩ := hd 3 (memB_mem.1 rfl)
          have ha := ha.sub (Sub.ins (d := 30) (Sub.ins (d := 27) (Sub.nil _) (dep_get rfl e0)) (dep_get rfl e3))
          refine hs_call ha rfl rfl (cl_17 rfl rfl) (run_bad c sky _ _ w1.heap.size (Rd.of_own q3_) (Nat.le_refl _) (by omega) herr) rfl ?_
          rintro e w' ⟨rfl, hb'⟩
          exact ⟨_, rfl, hb', rfl⟩
        | 5, _ =>
          intro val w1 a hb ha hd
          have e4 : val 4 = .tuple #[.slice none 0 0, .int .i64 (catchErr c sky)] := hd 4 (memB_mem.1 rfl)
          have ha := ha.sub (Sub.ins (d := 31) (Sub.nil _) (dep_get rfl e4))
          exact hs_val ha rfl rfl (x_move rfl) rfl rfl
        | 6, _ =>
          intro val w1 a hb ha hd
          have e5 : val 5 = .tuple #[.slice none 0 0, .int .i64 (catchErr c sky)] := hd 5 (memB_mem.1 rfl)
          have ha := ha.sub (Sub.ins (d := 26) (Sub.nil _) (dep_get rfl e5))
          exact hs_val ha rfl rfl (x_extract rfl rfl) rfl rfl
        | 7, _ =>
          intro val w1 a hb ha hd
          have e5 : val 5 = .tuple #[.slice none 0 0, .int .i64 (catchErr c sky)] := hd 5 (memB_mem.1 rfl)
          have ha := ha.sub (Sub.ins (d := 26) (Sub.nil _) (dep_get rfl e5))
          exact hs_val ha rfl rfl (x_extract rfl rfl) rfl rfl
        | 8, _ =>
          intro val w1 a hb ha hd
          have e6 : val 6 = .slice none 0 0 := hd 6 (memB_mem.1 rfl)
          have ha := ha.sub (Sub.ins (d := 32) (Sub.nil _) (dep_get rfl e6))
          exact hs_val ha rfl rfl (x_assign rfl) rfl rfl
        | k + 9, h => exact absurd h (by omega)
      · intro val wR3 hb halc hd
        have e0 : val 0 = .agg #[.int .i64 c.area, .int .i64 c.percent, .int .i64 c.melt, .int .i64 c.snow.lo, .int .i64 c.snow.hi] := hd 0 (by omega)
        obtain ⟨ga1_3, e1, qa1_3, hga1_3⟩ := hd 1 (by omega)
        change val 1 = _ at e1
        change Blk wR3 ga1_3 33 #[] at qa1_3
        have e2 : val 2 = .slice Av sky.length cv := hd 2 (by omega)
        obtain ⟨v3_, e3, q3_⟩ := hd 3 (by omega)
        have e4 : val 4 = .tuple #[.slice none 0 0, .int .i64 (catchErr c sky)] := hd 4 (by omega)
        have e5 : val 5 = .tuple #[.slice none 0 0, .int .i64 (catchErr c sky)] := hd 5 (by omega)
        have e6 : val 6 = .slice none 0 0 := hd 6 (by omega)
        have e7 : val 7 = .int .i64 (catchErr c sky) := hd 7 (by omega)
        have e8 : val 8 = .slice none 0 0 := hd 8 (by omega)
        refine EL.ends (cs := [.agg #[.int .i64 c.area, .int .i64 c.percent, .int .i64 c.melt, .int .i64 c.snow.lo, .int .i64 c.snow.hi], .slice (some ⟨ga1_3, 0, none⟩) 0 0, .slice Av sky.length cv, v3_, .tuple #[.slice none 0 0, .int .i64 (catchErr c sky)], .tuple #[.slice none 0 0, .int .i64 (catchErr c sky)], .slice none 0 0, .int .i64 (catchErr c sky), .slice none 0 0]) ⟨e0, e1, e2, e3, e4, e5, e6, e7, e8, trivial⟩ rfl ?_
        replace q1 := q1.below hb q1.lt
        replace q2 := q2.below hb q2.lt
        have n1_17 : g1 ≠ ga1_3 := Nat.ne_of_lt (Nat.lt_of_lt_of_le lt_1 hga1_3)
        have n2_17 : g2 ≠ ga1_3 := Nat.ne_of_lt (Nat.lt_of_lt_of_le lt_2 hga1_3)
        have bhbw_17 := Nat.le_trans hbw.size hga1_3
        replace hbw := Below.on hbw hb hbw.size
        clear hb
        refine EL.val (x_assign rfl) rfl ?_
        refine EL.nil ?_
        refine EX.seq ?_
        refine EC.seq ?_
        refine EC.seq ?_
        refine EC.region ?_
        refine EL.val (x_move rfl) rfl ?_
        refine EL.val (x_neq rfl rfl (by first | assumption | exact decide_eq_true (by omega))) rfl ?_
        refine EL.nil ?_
        refine EX.seq ?_
        refine EC.yes rfl ?_
        refine EC.seq ?_
        refine EC.region ?_
        refine EL.val (x_move rfl) rfl ?_
        refine EL.val (x_eql rfl rfl (by first | assumption | exact decide_eq_true (by omega))) rfl ?_
        refine EL.val (x_move rfl) rfl ?_
        refine EL.valg rfl rfl (x_move rfl) rfl ?_
        refine EL.valg rfl rfl (ln_28 rfl) rfl ?_
        refine EL.valg rfl rfl (x_eql rfl rfl (by first | assumption | exact decide_eq_true (by omega))) rfl ?_
        refine EL.val (x_pick_t rfl rfl) rfl ?_
        refine EL.val (x_move rfl) rfl ?_
        refine EL.callg rfl rfl cl_16 rfl (known_any _) ?_
        rintro e w18 ⟨rfl, hc18⟩
        refine ⟨_, rfl, ?_⟩
        replace q1 := q1.below hc18 q1.lt
        replace q2 := q2.below hc18 q2.lt
        replace hbw := Below.on hbw hc18 hbw.size
        clear hc18
        refine EL.val (x_pick_t rfl rfl) rfl ?_
        refine EL.val (x_assign rfl) rfl ?_
        refine EL.nil ?_
        refine EX.seq ?_
        refine EC.ret ?_
        refine EX.seq_ret ?_
        exact EX.done (res1 rfl rfl) ⟨rfl, hbw⟩
end Go.Proofs.Ytncnlhkmdljgpaa
