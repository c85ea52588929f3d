/- X3, E13, E14, ExX4, X4, E8, E9, E15, E16, ExX5, X5, EmFlow, EmSsp, EmFill, E10, E11, E17, ExX6: what EmptiesOverWeeksProof needs of them (merged by trimpack.py). -/
import Derived.Test.YtabgmnmpdjnjoaaOverWeeksT1
set_option linter.unusedVariables false
set_option linter.unusedSimpArgs false
namespace Go.Proofs.Ytabgmnmpdjnjoaa
open Go Go.RowKit
theorem own_n {w : World} {base e size n m : Nat} {v : Value} {xs : List Value} (h : w.ownsRow base e size v n xs) (hn : n = m) : w.ownsRow base e size v m xs := hn ▸ h
theorem own_none {w : World} {base e size : Nat} : w.ownsRow base e size (.slice none 0 0) 0 [] := ⟨by simp, .inl ⟨rfl, rfl⟩⟩
set_option maxHeartbeats 2000000 in
set_option maxRecDepth 100000 in
theorem open_any (nt : Net) (vp vw : Value) (w : World) (B : Nat) (hr : RdNet w B vp vw nt) (hB : B ≤ w.heap.size) (hn1 : nt.ports.length ≤ 1073741824) (hn2 : nt.ways.length ≤ 1073741824) (hv : netB nt = true) :
    Calls Try.prog 38 #[.agg #[vp, vw]] w fun e w' => (∃ g v, e = .returned (.pointer (some ⟨g, 0, none⟩)) ∧ Blk w' g 114 #[.int .i64 (nt.ports.length : Nat), .int .i64 (nt.ways.length : Nat), v] ∧ w'.ownsRow w.heap.size 122 4 v (openL nt).length (arcsC (openL nt)) ∧ w.heap.size ≤ g) ∧ Below w.heap.size w w' := by
  obtain ⟨Ap, cp_, rfl, _⟩ := hr.ports.shape
  obtain ⟨Aw, cw_, rfl, _⟩ := hr.ways.shape
  obtain ⟨⟨hp1, hp60⟩, hw300, hvp, hvw⟩ := netB_ok hv
  have hbw := Below.refl w.heap.size w
  refine EC.enter 58 Try.func38 rfl rfl rfl ?_
  refine EC.seq ?_
  refine EC.region ?_
  refine EL.newP (bx_25 rfl) rfl ?_
  intro g1 w1 q1 hb1 hg1 hl1
  have bhbw_1 := Nat.le_trans hbw.size hg1
  replace hbw := Below.on hbw hb1 hbw.size
  clear hb1 hg1 hl1
  have hsz1 := hbw.size
  refine EL.val (x_assign rfl) rfl ?_
  refine EL.nil ?_
  refine EX.seq ?_
  refine EC.seq ?_
  refine EC.region ?_
  refine EL.val (fa_25_0 rfl) rfl ?_
  refine EL.val (ld_22 rfl (q1.at (j := 0) rfl)) rfl ?_
  refine EL.val (ln_22 rfl) rfl ?_
  refine EL.val (fa_25_1 rfl) rfl ?_
  refine EL.val (ld_23 rfl (q1.at (j := 1) rfl)) rfl ?_
  refine EL.val (ln_23 rfl) rfl ?_
  refine EL.val (bd_114_0_1 rfl rfl) rfl ?_
  refine EL.newP (bx_114 rfl) rfl ?_
  have hb1 := Below.refl w1.heap.size w1
  obtain ⟨w0_, ew0⟩ : ∃ z, z = w1 := ⟨_, rfl⟩
  have hg1 : g1 < w1.heap.size := q1.lt
  intro g2 w2 q2 hb2 hg2 hl2
  have n1_2 : g1 ≠ g2 := Nat.ne_of_lt (Nat.lt_of_lt_of_le q1.lt hg2)
  have bhbw_2 := Nat.le_trans hbw.size hg2
  have bhb1_2 := Nat.le_trans hb1.size hg2
  replace q1 := q1.below hb2 q1.lt
  replace hbw := Below.on hbw hb2 hbw.size
  replace hb1 := Below.on hb1 hb2 hb1.size
  clear hb2 hl2
  have hgw := hg2
  refine EL.val (x_assign rfl) rfl ?_
  refine EL.nil ?_
  refine EX.seq ?_
  refine EC.seq ?_
  refine EC.seq ?_
  refine EC.region ?_
  refine EL.val (fa_25_1 rfl) rfl ?_
  refine EL.val (ld_23 rfl (q1.at (j := 1) rfl)) rfl ?_
  refine EL.val (ln_23 rfl) rfl ?_
  refine EL.val (x_move rfl) rfl ?_
  refine EL.nil ?_
  refine EX.seq ?_
  refine EC.block ?_
  refine EC.loopD [5, 19, 20, 21, 22, 23, 24, 25, 26, 27, 28, 29, 30, 31, 32, 33] (fun x : Nat × Value => [(19, .int .i64 (x.1 : Nat))]) (fun x W => x.1 ≤ nt.ways.length ∧ Blk W g1 25 #[.slice Ap nt.ports.length cp_, .slice Aw nt.ways.length cw_] ∧ Blk W g2 114 #[.int .i64 (nt.ports.length : Nat), .int .i64 (nt.ways.length : Nat), x.2] ∧ W.ownsRow w1.heap.size 122 4 x.2 (x.1 * 2) (arcsC (wayL nt x.1)) ∧ Below w.heap.size w W ∧ Below w1.heap.size w1 W) (fun x => nt.ways.length - x.1) (0, .slice none 0 0) ⟨Nat.zero_le _, q1, q2, own_none, hbw, hb1⟩ ⟨rfl, trivial⟩ ?_
  clear q1 q2 hbw hb1
  rintro ⟨x, v⟩ wx ⟨hx, qn, qg, ho, hbw, hb1⟩
  dsimp only at hx qg ho
  obtain ⟨A1, c1, rfl, _⟩ := (Rd.of_own ho).shape
  by_cases hlt : x < nt.ways.length
  ·
    obtain ⟨bw, ow, e_, _, wc⟩ := ways_cells nt.ways x hlt _ _ _ _ _ hr.ways
    subst e_
    obtain ⟨⟨wf0, wf1⟩, ⟨wt0, wt1⟩, wne, ⟨wc0, wc1⟩, wr0, wr1⟩ := hvw x hlt
    obtain ⟨y, ey⟩ : ∃ z, z = nt.ways.getD x way0 := ⟨_, rfl⟩
    rw [← ey] at wc wf0 wf1 wt0 wt1 wne wc0 wc1 wr0 wr1
    have ef : y.fr = ((y.fr.toNat : Nat) : Int) := by omega
    have et : y.to = ((y.to.toNat : Nat) : Int) := by omega
    have hwl := wayL_len nt x
    have hwn : wayL nt (x + 1) = wayL nt x ++ [⟨y.fr.toNat, y.to.toNat, y.cost, y.room⟩, ⟨y.to.toNat, y.fr.toNat, -y.cost, 0⟩] := by rw [wayL, flat_succ, ← wayL, ← ey]; rfl
    refine EC.seq ?_
    refine EC.region ?_
    refine EL.val (x_lss rfl rfl (decide_eq_true (show (((x : Nat) : Int) < ((nt.ways.length : Nat) : Int)) by omega))) rfl ?_
    refine EL.nil ?_
    refine EX.seq ?_
    refine EC.seq ?_
    refine EC.yes rfl ?_
    refine EC.skip ?_
    refine EX.seq ?_
    refine EC.seq ?_
    refine EC.block ?_
    refine EC.seq ?_
    refine EC.region ?_
    refine EL.val (ix_23 rfl rfl hlt) rfl ?_
    refine EL.val (ld_56 rfl (below_load hbw wc.c0) (below_load hbw wc.c1) (below_load hbw wc.c2) (below_load hbw wc.c3)) rfl ?_
    refine EL.newP al_56 rfl ?_
    intro g3 w3 q3 hb3 hg3 hl3
    have n1_3 : g1 ≠ g3 := Nat.ne_of_lt (Nat.lt_of_lt_of_le qn.lt hg3)
    have n2_3 : g2 ≠ g3 := Nat.ne_of_lt (Nat.lt_of_lt_of_le qg.lt hg3)
    have bhbw_3 := Nat.le_trans hbw.size hg3
    have bhb1_3 := Nat.le_trans hb1.size hg3
    replace qn := qn.below hb3 qn.lt
    replace qg := qg.below hb3 qg.lt
    replace ho := own_below ho hb3 (Nat.le_refl _)
    replace hbw := Below.on hbw hb3 hbw.size
    replace hb1 := Below.on hb1 hb3 hb1.size
    clear hb3 hg3 hl3
    refine EL.store rfl rfl q3 sz_56 rfl rfl rfl rfl ?_
    intro w4 hq4 hg4
    replace qn := qn.grown hg4 (fun h => n1_3 (Option.some.inj h))
    replace qg := qg.grown hg4 (fun h => n2_3 (Option.some.inj h))
    replace ho := own_type ho q3 rfl hg4
    replace hbw := below_store hbw hg4 bhbw_3
    replace hb1 := below_store hb1 hg4 bhb1_3
    replace q3 := hq4
    clear hg4 hq4
    refine EL.nil ?_
    refine EX.seq ?_
    refine EC.region ?_
    refine EL.val (x_move rfl) rfl ?_
    refine EL.val (fa_56_0 rfl) rfl ?_
    refine EL.val (ld_3 rfl (q3.at (j := 0) rfl)) rfl ?_
    refine EL.val (fa_56_1 rfl) rfl ?_
    refine EL.val (ld_3 rfl (q3.at (j := 1) rfl)) rfl ?_
    refine EL.val (fa_56_2 rfl) rfl ?_
    refine EL.val (ld_3 rfl (q3.at (j := 2) rfl)) rfl ?_
    refine EL.val (fa_56_3 rfl) rfl ?_
    refine EL.val (ld_3 rfl (q3.at (j := 3) rfl)) rfl ?_
    rw [ef, et]
    have ho9 := own_n ho hwl.symm
    refine EL.call (cl_65 rfl rfl rfl rfl rfl) rfl (link_any w1.heap.size g2 y.fr.toNat y.to.toNat y.cost y.room (wayL nt x) w4 (by omega) qg ho9 hgw hb1.size (by omega)) ?_
    rintro e w5 ⟨rfl, v5, wm5, hqg', ho2, hup', hgr1, hgr2⟩
    refine ⟨_, rfl, ?_⟩
    replace qn := qn.below hup'.low hg1
    replace qg := hqg'
    replace q3 := (blk_grown q3 ho rfl hgr1).grown hgr2 (fun h => n2_3.symm (Option.some.inj h))
    replace hb1 := hb1.trans hup'.low
    replace hbw := hbw.trans (hup'.low.mono hsz1)
    clear hqg' hup' hgr1 hgr2 ho ho9
    obtain ⟨A5, c5, rfl, _⟩ := (Rd.of_own ho2).shape
    refine EL.nil ?_
    refine EX.blk ?_
    refine EX.seq ?_
    refine EC.region ?_
    refine EL.val (x_add rfl rfl (c := ((x + 1 : Nat) : Int)) ((IntWalk.i64_in _ ⟨by first | omega | (simp only; omega), by first | omega | (simp only; omega)⟩).trans (by first | omega | (simp only; omega)))) rfl ?_
    refine EL.val (x_move rfl) rfl ?_
    refine EL.nil ?_
    refine EX.roundD (x + 1, _) ⟨rfl, trivial⟩ (by repeat first | with_reducible exact Sub.refl _ | refine sub_past rfl ?_ | exact Sub.refl _ | refine sub_del rfl ?_ | refine sub_insL_nil ?_) ⟨hlt, qn, qg, by show World.ownsRow _ _ _ _ _ ((x + 1) * 2) (arcsC (wayL nt (x + 1))); rw [hwn, show (x + 1) * 2 = (wayL nt x).length + 2 by omega]; exact ho2, hbw, hb1⟩ (by simp only; omega)
  ·
    have hxe : x = nt.ways.length := by omega
    subst hxe
    refine EC.seq ?_
    refine EC.region ?_
    refine EL.val (x_lss rfl rfl (decide_eq_false (show ¬(((nt.ways.length : Nat) : Int) < ((nt.ways.length : Nat) : Int)) by omega))) rfl ?_
    refine EL.nil ?_
    refine EX.seq ?_
    refine EC.seq ?_
    refine EC.no rfl ?_
    refine EC.exit ?_
    refine EX.seq_exit ?_
    refine EX.seq_exit ?_
    refine EX.blk_here ?_
    refine EX.seq ?_
    refine EC.seq ?_
    refine EC.seq ?_
    refine EC.region ?_
    refine EL.val (fa_25_0 rfl) rfl ?_
    refine EL.val (ld_22 rfl (qn.at (j := 0) rfl)) rfl ?_
    refine EL.val (ln_22 rfl) rfl ?_
    refine EL.val (x_move rfl) rfl ?_
    refine EL.nil ?_
    refine EX.seq ?_
    refine EC.block ?_
    refine EC.loopD [6, 7, 37, 38, 39, 40, 41, 42, 43, 44, 45, 46, 47, 48, 49, 50, 51, 52, 53, 54, 55, 56] (fun x : Nat × Value => [(37, .int .i64 (x.1 : Nat))]) (fun x W => x.1 ≤ nt.ports.length ∧ Blk W g1 25 #[.slice Ap nt.ports.length cp_, .slice Aw nt.ways.length cw_] ∧ Blk W g2 114 #[.int .i64 (nt.ports.length : Nat), .int .i64 (nt.ways.length : Nat), x.2] ∧ W.ownsRow w1.heap.size 122 4 x.2 (nt.ways.length * 2 + x.1 * 4) (arcsC (wayL nt nt.ways.length ++ prtL nt x.1)) ∧ Below w.heap.size w W ∧ Below w1.heap.size w1 W) (fun x => nt.ports.length - x.1) (0, _) ⟨Nat.zero_le _, qn, qg, by rw [show prtL nt 0 = [] from rfl, List.append_nil, Nat.zero_mul, Nat.add_zero]; exact ho, hbw, hb1⟩ ⟨rfl, trivial⟩ ?_
    clear qn qg hbw hb1
    rintro ⟨x, v⟩ wx ⟨hx, qn, qg, ho, hbw, hb1⟩
    dsimp only at hx qg ho
    obtain ⟨A1, c1, rfl, _⟩ := (Rd.of_own ho).shape
    have hpl : (wayL nt nt.ways.length ++ prtL nt x).length = nt.ways.length * 2 + x * 4 := by rw [List.length_append, wayL_len, prtL_len]
    by_cases hlt : x < nt.ports.length
    ·
      obtain ⟨bp, op, e_, _, pc0, pc1⟩ := prts_cells nt.ports x hlt _ _ _ _ _ hr.ports
      subst e_
      obtain ⟨⟨ph0, ph1⟩, pw0, pw1⟩ := hvp x hlt
      obtain ⟨y, ey⟩ : ∃ z, z = nt.ports.getD x prt0 := ⟨_, rfl⟩
      rw [← ey] at pc0 pc1 ph0 ph1 pw0 pw1
      have hpn : wayL nt nt.ways.length ++ prtL nt (x + 1) = (wayL nt nt.ways.length ++ prtL nt x) ++ ([⟨nt.ports.length, x, 0, y.has⟩, ⟨x, nt.ports.length, -0, 0⟩] : List Arc) ++ ([⟨x, nt.ports.length + 1, 0, y.wants⟩, ⟨nt.ports.length + 1, x, -0, 0⟩] : List Arc) := by rw [prtL, flat_succ, ← prtL, prtA, ← ey]; simp
      refine EC.seq ?_
      refine EC.region ?_
      refine EL.val (x_lss rfl rfl (decide_eq_true (show (((x : Nat) : Int) < ((nt.ports.length : Nat) : Int)) by omega))) rfl ?_
      refine EL.nil ?_
      refine EX.seq ?_
      refine EC.seq ?_
      refine EC.yes rfl ?_
      refine EC.skip ?_
      refine EX.seq ?_
      refine EC.seq ?_
      refine EC.block ?_
      refine EC.seq ?_
      refine EC.region ?_
      refine EL.val (x_move rfl) rfl ?_
      refine EL.val (ix_22 rfl rfl hlt) rfl ?_
      refine EL.val (ld_47 rfl (below_load hbw pc0) (below_load hbw pc1)) rfl ?_
      refine EL.newP al_47 rfl ?_
      intro g6 w6 q6 hb6 hg6 hl6
      have n1_6 : g1 ≠ g6 := Nat.ne_of_lt (Nat.lt_of_lt_of_le qn.lt hg6)
      have n2_6 : g2 ≠ g6 := Nat.ne_of_lt (Nat.lt_of_lt_of_le qg.lt hg6)
      have bhbw_6 := Nat.le_trans hbw.size hg6
      have bhb1_6 := Nat.le_trans hb1.size hg6
      replace qn := qn.below hb6 qn.lt
      replace qg := qg.below hb6 qg.lt
      replace ho := own_below ho hb6 (Nat.le_refl _)
      replace hbw := Below.on hbw hb6 hbw.size
      replace hb1 := Below.on hb1 hb6 hb1.size
      clear hb6 hg6 hl6
      refine EL.val (x_assign rfl) rfl ?_
      refine EL.store rfl rfl q6 sz_47 rfl rfl rfl rfl ?_
      intro w7 hq7 hg7
      replace qn := qn.grown hg7 (fun h => n1_6 (Option.some.inj h))
      replace qg := qg.grown hg7 (fun h => n2_6 (Option.some.inj h))
      replace ho := own_type ho q6 rfl hg7
      replace hbw := below_store hbw hg7 bhbw_6
      replace hb1 := below_store hb1 hg7 bhb1_6
      replace q6 := hq7
      clear hg7 hq7
      refine EL.nil ?_
      refine EX.seq ?_
      refine EC.seq ?_
      have lt_1 := qn.lt
      have lt_2 := qg.lt
      have lt_6 := q6.lt
      refine EC.regionP [[], [], [1], [], [], [4], [0, 1, 2, 3, 4, 5]] 6 [] (phi (fun i_ r => match i_ with | 0 => r 0 = .pointer (some ⟨g2, 0, none⟩) | 1 => r 1 = .pointer (some ⟨g2, 0, none⟩) | 2 => r 2 = .int .i64 (nt.ports.length : Nat) | 3 => r 3 = .int .i64 (x : Nat) | 4 => r 4 = .pointer (some ⟨g6, 0, none⟩) | 5 => r 5 = .int .i64 y.has | _ => True) []) (by kernel_rfl) rfl rfl (phi_nil) (fun i_ hi_ => ?_) ?_
      · match i_, hi_ with
        | 0, _ =>
          intro val w1 a hb ha hd
          have ha := ha.sub (Sub.ins (d := 3) (Sub.nil _) rfl)
          exact hs_val ha rfl rfl (x_move rfl) rfl rfl
        | 1, _ =>
          intro val w1 a hb ha hd
          have ha := ha.sub (Sub.ins (d := 3) (Sub.nil _) rfl)
          exact hs_val ha rfl rfl (x_move rfl) rfl rfl
        | 2, _ =>
          intro val w1 a hb ha hd
          have e1 : val 1 = .pointer (some ⟨g2, 0, none⟩) := hd 1 (memB_mem.1 rfl)
          have ha := ha.sub (Sub.ins (d := 43) (Sub.nil _) (dep_get rfl e1))
          refine hs_call ha rfl rfl (cl_66 rfl) (source_any _ _ (qg.below hb qg.lt) (by omega)) rfl ?_
          rintro e w' ⟨rfl, hb'⟩
          exact ⟨_, rfl, hb', rfl⟩
        | 3, _ =>
          intro val w1 a hb ha hd
          have ha := ha.sub (Sub.ins (d := 6) (Sub.nil _) rfl)
          exact hs_val ha rfl rfl (x_move rfl) rfl rfl
        | 4, _ =>
          intro val w1 a hb ha hd
          have ha := ha.sub (Sub.ins (d := 7) (Sub.nil _) rfl)
          exact hs_val ha rfl rfl (fa_47_0 rfl) rfl rfl
        | 5, _ =>
          intro val w1 a hb ha hd
          have e4 : val 4 = .pointer (some ⟨g6, 0, none⟩) := hd 4 (memB_mem.1 rfl)
          have ha := ha.sub (Sub.ins (d := 46) (Sub.nil _) (dep_get rfl e4))
          exact hs_val ha rfl rfl (ld_3 rfl ((q6.below hb q6.lt).at (j := 0) rfl)) rfl rfl
        | k + 6, h => exact absurd h (by omega)
      · intro val wR10 hb halc hd
        have e0 : val 0 = .pointer (some ⟨g2, 0, none⟩) := hd 0 (by omega)
        have e1 : val 1 = .pointer (some ⟨g2, 0, none⟩) := hd 1 (by omega)
        have e2 : val 2 = .int .i64 (nt.ports.length : Nat) := hd 2 (by omega)
        have e3 : val 3 = .int .i64 (x : Nat) := hd 3 (by omega)
        have e4 : val 4 = .pointer (some ⟨g6, 0, none⟩) := hd 4 (by omega)
        have e5 : val 5 = .int .i64 y.has := hd 5 (by omega)
        refine EL.ends (cs := [.pointer (some ⟨g2, 0, none⟩), .pointer (some ⟨g2, 0, none⟩), .int .i64 (nt.ports.length : Nat), .int .i64 (x : Nat), .pointer (some ⟨g6, 0, none⟩), .int .i64 y.has]) ⟨e0, e1, e2, e3, e4, e5, trivial⟩ rfl ?_
        replace qn := qn.below hb qn.lt
        replace qg := qg.below hb qg.lt
        replace q6 := q6.below hb q6.lt
        replace ho := own_below ho hb (Nat.le_refl _)
        replace hbw := Below.on hbw hb hbw.size
        replace hb1 := Below.on hb1 hb hb1.size
        clear hb
        have ho9 := own_n ho hpl.symm
        refine EL.call (cl_65 rfl rfl rfl rfl rfl) rfl (link_any w1.heap.size g2 nt.ports.length x 0 y.has (wayL nt nt.ways.length ++ prtL nt x) wR10 (by omega) qg ho9 hgw hb1.size (by omega)) ?_
        rintro e w8 ⟨rfl, v8, wm8, hqg', ho2, hup', hgr1, hgr2⟩
        refine ⟨_, rfl, ?_⟩
        replace qn := qn.below hup'.low hg1
        replace qg := hqg'
        replace q6 := (blk_grown q6 ho rfl hgr1).grown hgr2 (fun h => n2_6.symm (Option.some.inj h))
        replace hb1 := hb1.trans hup'.low
        replace hbw := hbw.trans (hup'.low.mono hsz1)
        clear hqg' hup' hgr1 hgr2 ho ho9
        obtain ⟨A8, c8, rfl, _⟩ := (Rd.of_own ho2).shape
        refine EL.nil ?_
        refine EX.seq ?_
        have lt_1 := qn.lt
        have lt_2 := qg.lt
        have lt_6 := q6.lt
        refine EC.regionP [[], [], [], [2], [], [4], [0, 1, 2, 3, 4, 5]] 6 [] (phi (fun i_ r => match i_ with | 0 => r 0 = .pointer (some ⟨g2, 0, none⟩) | 1 => r 1 = .int .i64 (x : Nat) | 2 => r 2 = .pointer (some ⟨g2, 0, none⟩) | 3 => r 3 = .int .i64 ((nt.ports.length + 1) : Nat) | 4 => r 4 = .pointer (some ⟨g6, 1, none⟩) | 5 => r 5 = .int .i64 y.wants | _ => True) []) (by kernel_rfl) rfl rfl (phi_nil) (fun i_ hi_ => ?_) ?_
        · match i_, hi_ with
          | 0, _ =>
            intro val w1 a hb ha hd
            have ha := ha.sub (Sub.ins (d := 3) (Sub.nil _) rfl)
            exact hs_val ha rfl rfl (x_move rfl) rfl rfl
          | 1, _ =>
            intro val w1 a hb ha hd
            have ha := ha.sub (Sub.ins (d := 6) (Sub.nil _) rfl)
            exact hs_val ha rfl rfl (x_move rfl) rfl rfl
          | 2, _ =>
            intro val w1 a hb ha hd
            have ha := ha.sub (Sub.ins (d := 3) (Sub.nil _) rfl)
            exact hs_val ha rfl rfl (x_move rfl) rfl rfl
          | 3, _ =>
            intro val w1 a hb ha hd
            have e2 : val 2 = .pointer (some ⟨g2, 0, none⟩) := hd 2 (memB_mem.1 rfl)
            have ha := ha.sub (Sub.ins (d := 51) (Sub.nil _) (dep_get rfl e2))
            refine hs_call ha rfl rfl (cl_67 rfl) (sink_any _ _ (qg.below hb qg.lt) (by omega)) rfl ?_
            rintro e w' ⟨rfl, hb'⟩
            exact ⟨_, rfl, hb', rfl⟩
          | 4, _ =>
            intro val w1 a hb ha hd
            have ha := ha.sub (Sub.ins (d := 7) (Sub.nil _) rfl)
            exact hs_val ha rfl rfl (fa_47_1 rfl) rfl rfl
          | 5, _ =>
            intro val w1 a hb ha hd
            have e4 : val 4 = .pointer (some ⟨g6, 1, none⟩) := hd 4 (memB_mem.1 rfl)
            have ha := ha.sub (Sub.ins (d := 53) (Sub.nil _) (dep_get rfl e4))
            exact hs_val ha rfl rfl (ld_3 rfl ((q6.below hb q6.lt).at (j := 1) rfl)) rfl rfl
          | k + 6, h => exact absurd h (by omega)
        · intro val wR11 hb halc hd
          have e0 : val 0 = .pointer (some ⟨g2, 0, none⟩) := hd 0 (by omega)
          have e1 : val 1 = .int .i64 (x : Nat) := hd 1 (by omega)
          have e2 : val 2 = .pointer (some ⟨g2, 0, none⟩) := hd 2 (by omega)
          have e3 : val 3 = .int .i64 ((nt.ports.length + 1) : Nat) := hd 3 (by omega)
          have e4 : val 4 = .pointer (some ⟨g6, 1, none⟩) := hd 4 (by omega)
          have e5 : val 5 = .int .i64 y.wants := hd 5 (by omega)
          refine EL.ends (cs := [.pointer (some ⟨g2, 0, none⟩), .int .i64 (x : Nat), .pointer (some ⟨g2, 0, none⟩), .int .i64 ((nt.ports.length + 1) : Nat), .pointer (some ⟨g6, 1, none⟩), .int .i64 y.wants]) ⟨e0, e1, e2, e3, e4, e5, trivial⟩ rfl ?_
          replace qn := qn.below hb qn.lt
          replace qg := qg.below hb qg.lt
          replace q6 := q6.below hb q6.lt
          replace ho2 := own_below ho2 hb (Nat.le_refl _)
          replace hbw := Below.on hbw hb hbw.size
          replace hb1 := Below.on hb1 hb hb1.size
          clear hb
          have hpl2 : (wayL nt nt.ways.length ++ prtL nt x).length + 2 = ((wayL nt nt.ways.length ++ prtL nt x) ++ ([⟨nt.ports.length, x, 0, y.has⟩, ⟨x, nt.ports.length, -0, 0⟩] : List Arc)).length := by simp only [List.length_append]; rfl
          have ho9 := own_n ho2 hpl2
          refine EL.call (cl_65 rfl rfl rfl rfl rfl) rfl (link_any w1.heap.size g2 x (nt.ports.length + 1) 0 y.wants ((wayL nt nt.ways.length ++ prtL nt x) ++ ([⟨nt.ports.length, x, 0, y.has⟩, ⟨x, nt.ports.length, -0, 0⟩] : List Arc)) wR11 (by omega) qg ho9 hgw hb1.size (by omega)) ?_
          rintro e w9 ⟨rfl, v9, wm9, hqg', ho3, hup', hgr1, hgr2⟩
          refine ⟨_, rfl, ?_⟩
          replace qn := qn.below hup'.low hg1
          replace qg := hqg'
          replace q6 := (blk_grown q6 ho2 rfl hgr1).grown hgr2 (fun h => n2_6.symm (Option.some.inj h))
          replace hb1 := hb1.trans hup'.low
          replace hbw := hbw.trans (hup'.low.mono hsz1)
          clear hqg' hup' hgr1 hgr2 ho2 ho9
          obtain ⟨A9, c9, rfl, _⟩ := (Rd.of_own ho3).shape
          refine EL.nil ?_
          refine EX.blk ?_
          refine EX.seq ?_
          refine EC.region ?_
          refine EL.val (x_add rfl rfl (c := ((x + 1 : Nat) : Int)) ((IntWalk.i64_in _ ⟨by first | omega | (simp only; omega), by first | omega | (simp only; omega)⟩).trans (by first | omega | (simp only; omega)))) rfl ?_
          refine EL.val (x_move rfl) rfl ?_
          refine EL.nil ?_
          refine EX.roundD (x + 1, _) ⟨rfl, trivial⟩ (by repeat first | with_reducible exact Sub.refl _ | refine sub_past rfl ?_ | exact Sub.refl _ | refine sub_del rfl ?_ | refine sub_insL_nil ?_) ⟨hlt, qn, qg, by show World.ownsRow _ _ _ _ _ (nt.ways.length * 2 + (x + 1) * 4) (arcsC (wayL nt nt.ways.length ++ prtL nt (x + 1))); rw [hpn, show nt.ways.length * 2 + (x + 1) * 4 = (wayL nt nt.ways.length ++ prtL nt x).length + 2 + 2 by omega, hpl2]; exact ho3, hbw, hb1⟩ (by simp only; omega)
    ·
      have hxe : x = nt.ports.length := by omega
      subst hxe
      refine EC.seq ?_
      refine EC.region ?_
      refine EL.val (x_lss rfl rfl (decide_eq_false (show ¬(((nt.ports.length : Nat) : Int) < ((nt.ports.length : Nat) : Int)) by omega))) rfl ?_
      refine EL.nil ?_
      refine EX.seq ?_
      refine EC.seq ?_
      refine EC.no rfl ?_
      refine EC.exit ?_
      refine EX.seq_exit ?_
      refine EX.seq_exit ?_
      refine EX.blk_here ?_
      refine EX.seq ?_
      refine EC.seq ?_
      refine EC.region ?_
      refine EL.val (x_move rfl) rfl ?_
      refine EL.val (x_assign rfl) rfl ?_
      refine EL.nil ?_
      refine EX.seq ?_
      refine EC.ret ?_
      exact EX.done (res1 rfl rfl) ⟨⟨_, _, rfl, qg, by rw [openL_len]; exact own_less ho hsz1, Nat.le_trans hsz1 hgw⟩, hbw⟩
end Go.Proofs.Ytabgmnmpdjnjoaa
namespace Go.Proofs.Ytabgmnmpdjnjoaa
open Go Go.RowKit Go.Maps
/-- block b is a set of at most n numbers: those below 64 of which f tells -/
def SetAt (w : World) (b n : Nat) (f : Nat → Bool) : Prop :=
  ∃ D : DataW Unit, w.ownsMap Try.prog 3 (plainElem Try.prog 4) b n D ∧ IsMap D ∧ ∀ i : Nat, i < 64 → D.atKey (.int .i64 i) (.lit (.bool false)) = .lit (.bool (f i))
theorem plainElem_bool_inv {P : Program} {e : TypeId} (he : P.underlying e = some .bool) {v : Value} {x : Bool} {ps : List MemPlace} (h : plainElem (H := Unit) P e v = some (.lit (.bool x), ps)) : v = .bool x := by
  unfold plainElem at h
  rw [he] at h
  cases v <;> simp at h
  rw [h.1]
theorem key_wf {i : Nat} (h : i < 64) : (Lit.int .i64 (i : Int)).wf = true := WalkArith.wf_i64 (by omega)
section
variable {w w' : World} {b n : Nat} {f : Nat → Bool}
theorem SetAt.made (w : World) : SetAt (w.alloc (.map #[] 0)) w.heap.size 0 fun _ => false :=
  ⟨.map [], World.ownsMap_made _ _ _ _, isMap_empty, fun _ _ => rfl⟩
theorem SetAt.kept {row : Option Nat} (h : SetAt w b n f) (hg : w.grownBy w' row) (hne : some b ≠ row) : SetAt w' b n f := by
  obtain ⟨D, h1, h2, h3⟩ := h
  exact ⟨D, h1.kept hg hne, h2, h3⟩
theorem SetAt.lt (h : SetAt w b n f) : b < w.heap.size := by
  obtain ⟨D, h1, _⟩ := h
  exact h1.lt
theorem SetAt.map (h : SetAt w b n f) : ∃ es clock, w.heap[b]? = some (.map es clock) := by
  obtain ⟨D, ⟨es, clock, h, _⟩, _⟩ := h
  exact ⟨es, clock, h⟩
theorem SetAt.below (h : SetAt w b n f) (hb : Below w.heap.size w w') : SetAt w' b n f :=
  h.kept (row := none) ⟨hb.os, hb.tape, hb.output, hb.size, fun k hk _ => hb.block k hk⟩ (by simp)
/-- a box is another block -/
theorem SetAt.ne {g T : Nat} {cs : Array Value} (h : SetAt w b n f) (hq : Blk w g T cs) : b ≠ g := fun e => by
  obtain ⟨es, clock, h⟩ := h.map
  subst e
  unfold Blk at hq
  rw [hq] at h
  cases h
theorem SetAt.type {g T : Nat} {cs : Array Value} (h : SetAt w b n f) (hq : Blk w g T cs) (hg : w.grownBy w' (some g)) : SetAt w' b n f := h.kept hg fun e => h.ne hq (Option.some.inj e)
theorem SetAt.grown {base e size m : Nat} {u : Value} {xs : List Value} (h : SetAt w b n f) (hu : w.ownsRow base e size u m xs) (hg : w.grownBy w' u.ownBlock) : SetAt w' b n f := h.kept hg fun e => by
  obtain ⟨es, clock, hm⟩ := h.map
  obtain ⟨_, ⟨rfl, _⟩ | ⟨k, cap, cur, rfl, _, hk, _⟩⟩ := hu
  · cases e
  · have e1 : b = k := by simpa [Value.ownBlock] using e
    subst e1
    rw [hk] at hm
    cases hm
/-- what lies elsewhere while a set is written -/
theorem blk_set {g T : Nat} {cs : Array Value} (h : Blk w g T cs) (hs : SetAt w b n f) (hg : w.grownBy w' (some b)) : Blk w' g T cs := h.grown hg fun e => hs.ne h (Option.some.inj e).symm
theorem below_set {B : Nat} (hg : w.grownBy w' (some b)) (h1 : B ≤ b) (h2 : B ≤ w.heap.size) : Below B w w' := (Below.refl _ _).grown hg h2 fun g hk => by injection hk with hk; omega
theorem bool_zero (w : World) : (zeroValue 4).run Try.prog w = .ok (.bool false) w := by kernel_rfl
end
section
variable {n : Nat} {L : List Oper} {Q : Exit → Act → World → Prop} {rest : List Oper} {σ : Sg} {w : World}
theorem look_set {m i : Nat} {b : Nat} {f : Nat → Bool} {dst : Option Tmp} {ty : TypeId} {pos : String} {af : Array Edge} {g : Option (Nat × Bool)} {x y : Operand} {r : Bool} (hx : evS σ x = some (.map (some b))) (hy : evS σ y = some (.int .i64 (i : Nat))) (hs : SetAt w b m f) (hi : i < 64) (hr : f i = r) :
    Gives Try.prog n σ w ⟨dst, .lookup 129 x y false, ty, pos, af, g⟩ (.bool r) := fun a ha => by
  subst hr
  obtain ⟨D, h1, h2, h3⟩ := hs
  obtain ⟨v, ps, hrun, hv⟩ := h1.lookup (int_keyed Try.underlying3) Try.underlying129 (bool_zero w) (plainElem_bool Try.underlying4 false) (keyOf_int_mk Try.underlying3 (key_wf hi))
  rw [h3 i hi] at hv
  obtain rfl := plainElem_bool_inv Try.underlying4 hv
  simp only [execOp, ha.eval hx, ha.eval hy]
  simp [hrun, Result.andThen]
def putS (f : Nat → Bool) (i : Nat) : Nat → Bool := fun j => if j = i then true else f j
theorem run_putSet {b m : Nat} {f : Nat → Bool} (hs : SetAt w b m f) (hm : m ≤ 1048576) {i : Nat} (hi : i < 64) : ∃ w', (Instr.mapUpdate 129 (.map (some b)) (.int .i64 (i : Nat)) (.bool true)).run Try.prog w = .ok () w' ∧ SetAt w' b (m + 1) (putS f i) ∧ w.grownBy w' (some b) := by
  obtain ⟨D, h1, h2, h3⟩ := hs
  obtain ⟨w', hrun, h4, h5⟩ := h1.update (int_keyed Try.underlying3) Try.underlying129 (by simp only [maxLen]; omega) (keyOf_int_mk Try.underlying3 (key_wf hi)) (plainElem_bool Try.underlying4 true)
  refine ⟨w', hrun, ⟨_, h4, h2.put _ _, fun j hj => ?_⟩, h5⟩
  by_cases hji : j = i
  · subst hji
    rw [atKey_put_same h2 (by simp [WideAt.IsKeyLit]), putS, if_pos rfl]
  · rw [atKey_put_other (by simp; omega), putS, if_neg hji]
    exact h3 j hj
theorem EL.putSet {ty : Nat} {b m i : Nat} {f : Nat → Bool} {x y z : Operand} {pos : String} {af : Array Edge} (hx : evS σ x = some (.map (some b))) (hy : evS σ y = some (.int .i64 (i : Nat))) (hz : evS σ z = some (.bool true)) (hs : SetAt w b m f) (hm : m ≤ 1048576) (hi : i < 64)
    (next : ∀ w', SetAt w' b (m + 1) (putS f i) → w.grownBy w' (some b) → EL Try.prog n L Q rest σ w') : EL Try.prog n L Q (⟨none, .mapUpdate 129 x y z, ty, pos, af, none⟩ :: rest) σ w := fun a ha => by
  obtain ⟨w', hrun, h1, h2⟩ := run_putSet hs hm hi
  unfold wpList
  rw [if_pos (wanted_none rfl _)]
  left
  unfold Oper.wp
  have hr : (execOp a.eval ⟨none, .mapUpdate 129 x y z, ty, pos, af, none⟩).run Try.prog w = .ok .skip w' := by
    simp only [execOp, ha.eval hx, ha.eval hy, ha.eval hz]
    simp [hrun, Result.andThen]
  rw [hr, Oper.upon_skip]
  exact next w' h1 h2 a ha
theorem EL.newSet {d ty : Nat} {pos : String} {af : Array Edge} (hd : Nat.blt d n = true)
    (next : ∀ b w', SetAt w' b 0 (fun _ => false) → Below w.heap.size w w' → w.heap.size ≤ b → EL Try.prog n L Q rest (ins σ d (.map (some b))) w') : EL Try.prog n L Q (⟨some d, .makeMap 129 none, ty, pos, af, none⟩ :: rest) σ w := fun a ha =>
  wpL_run (wanted_none rfl _) (by simp only [execOp]; kernel_rfl) (next _ _ (SetAt.made w) ((Below.refl _ _).alloc (Nat.le_refl _) _) (Nat.le_refl _) _ (ha.put hd _))
end
end Go.Proofs.Ytabgmnmpdjnjoaa
set_option linter.unusedSimpArgs false
namespace Go.Proofs.Ytabgmnmpdjnjoaa
open Go Go.RowKit Go.Maps
/-- block b is a map of at most n entries; f tells those below 64 -/
def MapAt (w : World) (b n : Nat) (f : Nat → Option Int) : Prop :=
  ∃ D : DataW Unit, w.ownsMap Try.prog 3 (plainElem Try.prog 3) b n D ∧ IsMap D ∧ ∀ i : Nat, i < 64 → has D (.int .i64 i) = (f i).isSome ∧ D.atKey (.int .i64 i) (.lit (.int .i64 0)) = .lit (.int .i64 ((f i).getD 0))
section
variable {w w' : World} {b n : Nat} {f : Nat → Option Int}
theorem MapAt.made (w : World) : MapAt (w.alloc (.map #[] 0)) w.heap.size 0 fun _ => none :=
  ⟨.map [], World.ownsMap_made _ _ _ _, isMap_empty, fun _ _ => ⟨rfl, rfl⟩⟩
theorem MapAt.kept {row : Option Nat} (h : MapAt w b n f) (hg : w.grownBy w' row) (hne : some b ≠ row) : MapAt w' b n f := by
  obtain ⟨D, h1, h2, h3⟩ := h
  exact ⟨D, h1.kept hg hne, h2, h3⟩
theorem MapAt.mono {n' : Nat} (h : MapAt w b n f) (hn : n ≤ n') : MapAt w b n' f := by
  obtain ⟨D, h1, h2, h3⟩ := h
  exact ⟨D, h1.mono hn, h2, h3⟩
theorem MapAt.lt (h : MapAt w b n f) : b < w.heap.size := by
  obtain ⟨D, h1, _⟩ := h
  exact h1.lt
theorem MapAt.map (h : MapAt w b n f) : ∃ es clock, w.heap[b]? = some (.map es clock) := by
  obtain ⟨D, ⟨es, clock, h, _⟩, _⟩ := h
  exact ⟨es, clock, h⟩
theorem MapAt.below (h : MapAt w b n f) (hb : Below w.heap.size w w') : MapAt w' b n f :=
  h.kept (row := none) ⟨hb.os, hb.tape, hb.output, hb.size, fun k hk _ => hb.block k hk⟩ (by simp)
theorem MapAt.ne {g T : Nat} {cs : Array Value} (h : MapAt w b n f) (hq : Blk w g T cs) : b ≠ g := fun e => by
  obtain ⟨es, clock, h⟩ := h.map
  subst e
  unfold Blk at hq
  rw [hq] at h
  cases h
theorem MapAt.type {g T : Nat} {cs : Array Value} (h : MapAt w b n f) (hq : Blk w g T cs) (hg : w.grownBy w' (some g)) : MapAt w' b n f := h.kept hg fun e => h.ne hq (Option.some.inj e)
theorem MapAt.grown {base e size m : Nat} {u : Value} {xs : List Value} (h : MapAt w b n f) (hu : w.ownsRow base e size u m xs) (hg : w.grownBy w' u.ownBlock) : MapAt w' b n f := h.kept hg fun e => by
  obtain ⟨es, clock, hm⟩ := h.map
  obtain ⟨_, ⟨rfl, _⟩ | ⟨k, cap, cur, rfl, _, hk, _⟩⟩ := hu
  · cases e
  · have e1 : b = k := by simpa [Value.ownBlock] using e
    subst e1
    rw [hk] at hm
    cases hm
theorem own_map {base e size m : Nat} {u : Value} {xs : List Value} (h : w.ownsRow base e size u m xs) (hs : MapAt w b n f) (hg : w.grownBy w' (some b)) : w'.ownsRow base e size u m xs := h.kept hg (by
  obtain ⟨es, clock, hm⟩ := hs.map
  obtain ⟨_, ⟨rfl, _⟩ | ⟨k, cap, cur, rfl, _, hk, _⟩⟩ := h
  · exact .inl rfl
  · refine .inr fun e => ?_
    have e1 : k = b := by simpa [Value.ownBlock] using e
    subst e1
    rw [hk] at hm
    cases hm)
theorem int_zero (w : World) : (zeroValue 3).run Try.prog w = .ok (.int .i64 0) w := by kernel_rfl
end
section
variable {n : Nat} {L : List Oper} {Q : Exit → Act → World → Prop} {rest : List Oper} {σ : Sg} {w : World}
theorem look_ok {m i : Nat} {b : Nat} {f : Nat → Option Int} {dst : Option Tmp} {ty : TypeId} {pos : String} {af : Array Edge} {g : Option (Nat × Bool)} {x y : Operand} (hx : evS σ x = some (.map (some b))) (hy : evS σ y = some (.int .i64 (i : Nat))) (hs : MapAt w b m f) (hi : i < 64) :
    Gives Try.prog n σ w ⟨dst, .lookup 118 x y true, ty, pos, af, g⟩ (.tuple #[.int .i64 ((f i).getD 0), .bool (f i).isSome]) := fun a ha => by
  obtain ⟨D, h1, h2, h3⟩ := hs
  obtain ⟨v, ps, hrun, hv⟩ := h1.look_ok (int_keyed Try.underlying3) Try.underlying118 (int_zero w) (plainElem_int Try.underlying3 (by decide)) (keyOf_int_mk Try.underlying3 (key_wf hi))
  rw [(h3 i hi).2] at hv
  rw [(h3 i hi).1] at hrun
  obtain ⟨c, rfl, hc, _⟩ := plainElem_int_inv Try.underlying3 hv
  simp only [Prod.mk.injEq, DataW.lit.injEq, Lit.int.injEq, true_and] at hc
  rw [← hc.1] at hrun
  simp only [execOp, ha.eval hx, ha.eval hy]
  simp [hrun, Result.andThen]
def putM (f : Nat → Option Int) (i : Nat) (x : Int) : Nat → Option Int := fun j => if j = i then some x else f j
theorem run_putMap {b m : Nat} {f : Nat → Option Int} (hs : MapAt w b m f) (hm : m ≤ 1048576) {i : Nat} (hi : i < 64) {x : Int} (hx : (Lit.int .i64 x).wf = true) : ∃ w', (Instr.mapUpdate 118 (.map (some b)) (.int .i64 (i : Nat)) (.int .i64 x)).run Try.prog w = .ok () w' ∧ MapAt w' b (m + 1) (putM f i x) ∧ w.grownBy w' (some b) := by
  obtain ⟨D, h1, h2, h3⟩ := hs
  obtain ⟨w', hrun, h4, h5⟩ := h1.update (int_keyed Try.underlying3) Try.underlying118 (by simp only [maxLen]; omega) (keyOf_int_mk Try.underlying3 (key_wf hi)) (plainElem_int Try.underlying3 hx)
  refine ⟨w', hrun, ⟨_, h4, h2.put _ _, fun j hj => ?_⟩, h5⟩
  by_cases hji : j = i
  · subst hji
    rw [atKey_put_same h2 (by simp [WideAt.IsKeyLit]), has_put_same h2 (by simp [WideAt.IsKeyLit]), putM, if_pos rfl]
    exact ⟨rfl, rfl⟩
  · rw [atKey_put_other (by simp; omega), has_put_other (by simp; omega), putM, if_neg hji]
    exact h3 j hj
theorem EL.insMap {ty : Nat} {b m i : Nat} {v : Int} {f : Nat → Option Int} {x y z : Operand} {pos : String} {af : Array Edge} (hx : evS σ x = some (.map (some b))) (hy : evS σ y = some (.int .i64 (i : Nat))) (hz : evS σ z = some (.int .i64 v)) (hs : MapAt w b m f) (hm : m ≤ 1048576) (hi : i < 64) (hv : (Lit.int .i64 v).wf = true)
    (next : ∀ w', MapAt w' b (m + 1) (putM f i v) → w.grownBy w' (some b) → EL Try.prog n L Q rest σ w') : EL Try.prog n L Q (⟨none, .insert 118 x y z, ty, pos, af, none⟩ :: rest) σ w := fun a ha => by
  obtain ⟨w', hrun, h1, h2⟩ := run_putMap hs hm hi hv
  unfold wpList
  rw [if_pos (wanted_none rfl _)]
  left
  unfold Oper.wp
  have hr : (execOp a.eval ⟨none, .insert 118 x y z, ty, pos, af, none⟩).run Try.prog w = .ok .skip w' := by
    simp only [execOp, ha.eval hx, ha.eval hy, ha.eval hz]
    simp [hrun, Result.andThen]
  rw [hr, Oper.upon_skip]
  exact next w' h1 h2 a ha
theorem ts_insMap {ty : Nat} {b m k j : Nat} {v : Int} {f : Nat → Option Int} {x y z : Operand} {pos : String} {af : Array Edge} {a : Act} {K : Act → World → Prop} (ha : Env n σ a) (ho : nthO L j = some ⟨none, .insert 118 x y z, ty, pos, af, none⟩) (hx : evS σ x = some (.map (some b))) (hy : evS σ y = some (.int .i64 (k : Nat))) (hz : evS σ z = some (.int .i64 v)) (hs : MapAt w b m f) (hm : m ≤ 1048576) (hi : k < 64) (hv : (Lit.int .i64 v).wf = true)
    (next : ∀ w', MapAt w' b (m + 1) (putM f k v) → w.grownBy w' (some b) → K (a.put (dstOf L j) undef) w') : wpOp Try.prog L.toArray Q j K a w := by
  obtain ⟨w', hrun, h1, h2⟩ := run_putMap hs hm hi hv
  obtain ⟨h3, h4⟩ := opL ho
  unfold wpOp
  simp only [h3]
  rw [if_pos (wanted_none rfl _)]
  left
  unfold Oper.wp
  have hr : (execOp a.eval ⟨none, .insert 118 x y z, ty, pos, af, none⟩).run Try.prog w = .ok .skip w' := by
    simp only [execOp, ha.eval hx, ha.eval hy, ha.eval hz]
    simp [hrun, Result.andThen]
  rw [hr, Oper.upon_skip]
  have := next w' h1 h2
  rw [h4] at this
  exact this
theorem EL.newMap {d ty : Nat} {pos : String} {af : Array Edge} (hd : Nat.blt d n = true)
    (next : ∀ b w', MapAt w' b 0 (fun _ => none) → Below w.heap.size w w' → w.heap.size ≤ b → EL Try.prog n L Q rest (ins σ d (.map (some b))) w') : EL Try.prog n L Q (⟨some d, .makeMap 118 none, ty, pos, af, none⟩ :: rest) σ w := fun a ha =>
  wpL_run (wanted_none rfl _) (by simp only [execOp]; kernel_rfl) (next _ _ (MapAt.made w) ((Below.refl _ _).alloc (Nat.le_refl _) _) (Nat.le_refl _) _ (ha.put hd _))
end
end Go.Proofs.Ytabgmnmpdjnjoaa
set_option linter.unusedVariables false
set_option linter.unusedSimpArgs false
namespace Go.Proofs.Ytabgmnmpdjnjoaa
open Go Go.RowKit
section
variable {n : Nat} {σ : Sg} {w : World} {dst : Option Tmp} {ty : TypeId} {pos : String} {af : Array Edge} {g : Option (Nat × Bool)} {x y z : Operand} {at' : Array TypeId}
theorem ln_112 {A : Option Addr} {m c : Nat} (hx : evS σ x = some (.slice A m c)) : Gives Try.prog n σ w ⟨dst, .call { callee := .builtin .len, args := #[x], argTypes := #[112] }, ty, pos, af, g⟩ (.int .i64 (m : Int)) := fun a ha => by
  simp only [execOp, resolve, List.map_toArray, List.map_cons, List.map_nil, ha.eval hx]
  simp [go_sem]
theorem ix_112 {b o m c k : Nat} (hx : evS σ x = some (.slice (some ⟨b, o, none⟩) m c)) (hy : evS σ y = some (.int .i64 (k : Int))) (hk : k < m) : Gives Try.prog n σ w ⟨dst, .indexAddr 112 x y, ty, pos, af, g⟩ (.pointer (some ⟨b, o + k * 4, none⟩)) := fun a ha => by
  have k0 : (0 : Int) ≤ (k : Int) := Int.natCast_nonneg _
  have k1 : (k : Int) < (m : Int) := by omega
  simp only [execOp, ha.eval hx, ha.eval hy]
  simp [go_sem, k0, k1]
theorem ld_122 {b o : Nat} {v0 v1 v2 v3 : Value} (hx : evS σ x = some (.pointer (some ⟨b, o, none⟩))) (c0 : w.cell? ⟨b, o, none⟩ = some v0) (c1 : w.cell? ⟨b, o + 1, none⟩ = some v1) (c2 : w.cell? ⟨b, o + 2, none⟩ = some v2) (c3 : w.cell? ⟨b, o + 3, none⟩ = some v3) : Gives Try.prog n σ w ⟨dst, .load 122 x, ty, pos, af, g⟩ (.agg #[v0, v1, v2, v3]) := fun a ha => by
  simp only [execOp, ha.eval hx]
  simp [go_sem, c0, c1, c2, c3]
theorem al_122 (a : Act) (_ : Env n σ a) : (execOp a.eval ⟨dst, .alloc 122, ty, pos, af, g⟩).run Try.prog w = .ok (.value (.pointer (some ⟨w.heap.size, 0, none⟩))) (w.alloc (.cells #[.int .i64 0, .int .i64 0, .int .i64 0, .int .i64 0] 122)) := by
  simp only [execOp]
  simp [go_sem]
theorem sz_122 : (Try.prog.info? 122).map (·.size) = some 4 := by kernel_rfl
theorem fa_122_3 {b o : Nat} (hx : evS σ x = some (.pointer (some ⟨b, o, none⟩))) : Gives Try.prog n σ w ⟨dst, .fieldAddr 122 x 3, ty, pos, af, g⟩ (.pointer (some ⟨b, o + 3, none⟩)) := fun a ha => by
  simp only [execOp, ha.eval hx]
  simp [go_sem]
theorem fa_122_0 {b o : Nat} (hx : evS σ x = some (.pointer (some ⟨b, o, none⟩))) : Gives Try.prog n σ w ⟨dst, .fieldAddr 122 x 0, ty, pos, af, g⟩ (.pointer (some ⟨b, o, none⟩)) := fun a ha => by
  simp only [execOp, ha.eval hx]
  simp [go_sem]
theorem fa_122_2 {b o : Nat} (hx : evS σ x = some (.pointer (some ⟨b, o, none⟩))) : Gives Try.prog n σ w ⟨dst, .fieldAddr 122 x 2, ty, pos, af, g⟩ (.pointer (some ⟨b, o + 2, none⟩)) := fun a ha => by
  simp only [execOp, ha.eval hx]
  simp [go_sem]
theorem fa_122_1 {b o : Nat} (hx : evS σ x = some (.pointer (some ⟨b, o, none⟩))) : Gives Try.prog n σ w ⟨dst, .fieldAddr 122 x 1, ty, pos, af, g⟩ (.pointer (some ⟨b, o + 1, none⟩)) := fun a ha => by
  simp only [execOp, ha.eval hx]
  simp [go_sem]
theorem sz_3 : (Try.prog.info? 3).map (·.size) = some 1 := by kernel_rfl
end
end Go.Proofs.Ytabgmnmpdjnjoaa
set_option linter.unusedVariables false
set_option linter.unusedSimpArgs false
namespace Go.Proofs.Ytabgmnmpdjnjoaa
open Go Go.RowKit
theorem agree_ob {σ : Sg} {t : Nat} {a b : Bool} (h : a = b) (hs : σ t = some (.bool a)) : σ t = some (.bool b) := by rw [hs, h]
theorem MapAt.keep {w W : World} {b n : Nat} {f : Nat → Option Int} (h : MapAt w b n f) (hb : Below w.heap.size w W) : MapAt W b n f := h.below hb
theorem own_ptr {w : World} {base e n c : Nat} {A : Option Addr} {xs : List Value} (h : w.ownsRow base e 1 (.slice A n c) n xs) (hn : 0 < n) : ∃ g, A = some ⟨g, 0, none⟩ := by
  obtain ⟨_, ⟨h, h0⟩ | ⟨g, cap, cur, h, _⟩⟩ := h
  · omega
  · injection h with h _ _
    exact ⟨g, h⟩
theorem own_int_cell {w : World} {base g n c k : Nat} {l : List Int} (h : w.ownsRow base 3 1 (.slice (some ⟨g, 0, none⟩) n c) n (ints l)) (hk : k < l.length) : w.cell? ⟨g, 0 + k, none⟩ = some (.int .i64 (l.getD k 0)) := by
  obtain ⟨b, o, e, _, hc⟩ := ints_cells l k hk _ _ _ _ _ (Rd.of_own h)
  injection e with e
  injection e with e1 e2
  subst e1
  subst e2
  exact hc
theorem own_ne {w w' : World} {base e size n m c g k : Nat} {xs : List Value} (h : w.ownsRow base e size (.slice (some ⟨g, 0, none⟩) m c) n xs) (hg : w.grownBy w' (some k)) (hne : g ≠ k) : w'.ownsRow base e size (.slice (some ⟨g, 0, none⟩) m c) n xs := h.kept hg (.inr fun e => hne (Option.some.inj e))
theorem spl_ints {l : List Int} {v : Nat} {x : Int} (h : v < l.length) : spl (ints l) v [.int .i64 x] = ints (l.set v x) := by
  rw [spl_eq _ _ _ (by rw [ints_len]; exact h), List.set_eq_take_append_cons_drop, if_pos h]
  simp [ints]
theorem apart_push {w : World} {v v' u : Value} {base e size n : Nat} {xs : List Value} (h : Apart v u) (hu : w.ownsRow base e size u n xs) (hat : v'.ownBlock = v.ownBlock ∨ v'.ownBlock = some w.heap.size) : Apart v' u := fun g h1 h2 => by
  rcases hat with h3 | h3
  · exact h g (h3 ▸ h1) h2
  · rw [h3] at h1
    injection h1 with h1
    have := (hu.lt g h2).2
    omega
theorem relax_cases (a : Arc) (l : List Int) : (¬0 < a.room ∧ relaxes a l = false) ∨ (0 < a.room ∧ ¬l.getD a.fr 0 < farI ∧ relaxes a l = false) ∨ (0 < a.room ∧ l.getD a.fr 0 < farI ∧ ¬l.getD a.fr 0 + a.cost < l.getD a.to 0 ∧ relaxes a l = false) ∨ (0 < a.room ∧ l.getD a.fr 0 < farI ∧ l.getD a.fr 0 + a.cost < l.getD a.to 0 ∧ relaxes a l = true) := by
  unfold relaxes
  by_cases h1 : 0 < a.room
  · by_cases h2 : l.getD a.fr 0 < farI
    · by_cases h3 : l.getD a.fr 0 + a.cost < l.getD a.to 0
      · exact .inr (.inr (.inr ⟨h1, h2, h3, by simp only [h1, h2, h3, decide_true, Bool.and_self]⟩))
      · exact .inr (.inr (.inl ⟨h1, h2, h3, by simp only [h3, decide_false, Bool.and_false]⟩))
    · exact .inr (.inl ⟨h1, h2, by simp only [h2, decide_false, Bool.and_false, Bool.false_and]⟩)
  · exact .inl ⟨h1, by simp only [h1, decide_false, Bool.false_and]⟩
theorem InvB.bd {L : List Arc} {N : Nat} {R : Nat → Prop} {π init : Nat → Int} {s : BF} (h : InvB L N R π init s) {lo : Int} (hlo : ∀ v, v < N → R v → lo ≤ π v) (hlo15 : -1000000000000000 ≤ lo) (hif : ∀ v, init v ≤ farI) {v : Nat} (hv : v < N) : -1000000000000000 ≤ s.l.getD v 0 ∧ s.l.getD v 0 ≤ farI := by
  have h1 := h.le v hv
  have h2 := hif v
  refine ⟨?_, by omega⟩
  by_cases hR : R v
  · have := h.low v hv hR
    have := hlo v hv hR
    omega
  · rw [h.out v hv hR]
    decide
set_option maxHeartbeats 4000000 in
set_option maxRecDepth 100000 in
theorem costs_any {e1 va : Value} {p n b : Nat} {f : Nat → Option Int} {init π : Nat → Int} {R : Nat → Prop} {lo : Int} (L : List Arc) (g : Nat) (w : World) (B : Nat) (hq : Blk w g 114 #[.int .i64 (p : Nat), e1, va]) (hrL : Rd w B 4 va L.length (arcsC L)) (hp : p ≤ 60) (hL : L.length ≤ 1048576) (hA : ArcsOk L (p + 2)) (hF : Feas L R π) (hmp : MapAt w b n f) (hinit : ∀ v, init v = (f v).getD farI)
    (hif : ∀ v, init v ≤ farI) (hout : ∀ v, v < p + 2 → ¬R v → init v = farI) (hlow : ∀ v, v < p + 2 → R v → π v ≤ init v) (hlo : ∀ v, v < p + 2 → R v → lo ≤ π v) (hlo15 : -1000000000000000 ≤ lo) :
    Calls Try.prog 68 #[.pointer (some ⟨g, 0, none⟩), .map (some b)] w fun e w' => (∃ vl vb l bb, e = .returned (.tuple #[vl, vb]) ∧ EndsAt L (bf0 (p + 2) init) l bb ∧ InvB L (p + 2) R π init ⟨l, bb, false⟩ ∧ w'.ownsRow w.heap.size 3 1 vl (p + 2) (ints l) ∧ w'.ownsRow w.heap.size 3 1 vb (p + 2) (ints bb) ∧ Apart vl vb) ∧ Below w.heap.size w w' := by
  obtain ⟨AL, cL, rfl, _⟩ := hrL.shape
  have hbw := Below.refl w.heap.size w
  refine EC.enter 94 Try.func68 rfl rfl rfl ?_
  refine EC.seq ?_
  refine EC.region ?_
  refine EL.val (x_assign rfl) rfl ?_
  refine EL.val (x_assign rfl) rfl ?_
  refine EL.nil ?_
  refine EX.seq ?_
  refine EC.seq ?_
  refine EC.seq ?_
  refine EC.region ?_
  refine EL.val (x_move rfl) rfl ?_
  refine EL.val (x_nilCheck rfl) rfl ?_
  refine EL.val (fa_114_0 rfl) rfl ?_
  refine EL.val (ld_3 rfl (below_load hbw (hq.at (j := 0) rfl))) rfl ?_
  refine EL.val (x_add rfl rfl (c := ((p + 2 : Nat) : Int)) ((IntWalk.i64_in _ ⟨by omega, by omega⟩).trans (by omega))) rfl ?_
  refine EL.val (x_move rfl) rfl ?_
  refine EL.nil ?_
  refine EX.seq ?_
  refine EC.block ?_
  refine EC.loopD [4, 5, 6, 7, 8, 17, 18, 19, 20, 21, 22, 23, 24, 25, 26, 27, 28, 29, 30, 31, 32, 33, 34, 35] (fun x : Nat × Value × Value => [(4, x.2.1), (5, x.2.2), (17, .int .i64 (x.1 : Nat))]) (fun x W => x.1 ≤ (p + 2) ∧ W.ownsRow w.heap.size 3 1 x.2.1 x.1 (ints ((List.range x.1).map init)) ∧ W.ownsRow w.heap.size 3 1 x.2.2 x.1 (ints (List.replicate x.1 (-1))) ∧ Apart x.2.1 x.2.2 ∧ Below w.heap.size w W) (fun x => (p + 2) - x.1) (0, .slice none 0 0, .slice none 0 0) ⟨Nat.zero_le _, own_none, own_none, Apart.nil_left _, hbw⟩ ⟨rfl, rfl, rfl, trivial⟩ ?_
  clear hbw
  rintro ⟨x, vl, vb⟩ wx ⟨hx, hol, hob, hap, hbw⟩
  dsimp only at hx hol hob hap
  obtain ⟨Al, cl, rfl, _⟩ := (Rd.of_own hol).shape
  obtain ⟨Ab, cb, rfl, _⟩ := (Rd.of_own hob).shape
  by_cases hlt : x < (p + 2)
  ·
    have hsl : ((List.range (x + 1)).map init) = ((List.range x).map init) ++ [init x] := by simp [List.range_succ]
    have hsb : (List.replicate (x + 1) (-1)) = (List.replicate x (-1)) ++ [-1] := by rw [List.replicate_succ']
    have hix := hinit x
    cases hfx : f x
    ·
      have hiy : init x = farI := by rw [hinit, hfx]; rfl
      refine EC.seq ?_
      refine EC.region ?_
      refine EL.val (x_lss rfl rfl (decide_eq_true (show (((x : Nat) : Int) < (((p + 2) : Nat) : Int)) by omega))) rfl ?_
      refine EL.nil ?_
      refine EX.seq ?_
      refine EC.seq ?_
      refine EC.yes rfl ?_
      refine EC.skip ?_
      refine EX.seq ?_
      refine EC.seq ?_
      refine EC.block ?_
      refine EC.seq ?_
      refine EC.region ?_
      refine EL.val (x_move rfl) rfl ?_
      refine EL.val (x_assign rfl) rfl ?_
      refine EL.nil ?_
      refine EX.seq ?_
      refine EC.seq ?_
      refine EC.region ?_
      refine EL.val (x_move rfl) rfl ?_
      refine EL.val (x_move rfl) rfl ?_
      refine EL.val (look_ok rfl rfl (hmp.keep hbw) (by omega)) rfl ?_
      refine EL.val (x_move rfl) rfl ?_
      refine EL.val (x_extract rfl rfl) rfl ?_
      refine EL.val (x_extract rfl (by rw [hfx]; rfl)) rfl ?_
      refine EL.val (x_assign rfl) rfl ?_
      refine EL.val (x_assign rfl) rfl ?_
      refine EL.nil ?_
      refine EX.seq ?_
      refine EC.seq ?_
      refine EC.seq ?_
      refine EC.region ?_
      refine EL.val (x_move rfl) rfl ?_
      refine EL.val (x_not rfl) rfl ?_
      refine EL.nil ?_
      refine EX.seq ?_
      refine EC.yes rfl ?_
      refine EC.region ?_
      refine EL.val (x_assign rfl) rfl ?_
      refine EL.nil ?_
      refine EX.seq ?_
      refine EC.region ?_
      refine EL.val (x_move rfl) rfl ?_
      refine EL.val (x_move rfl) rfl ?_
      refine EL.newS (bs_29_1 rfl) rfl ?_
      intro g1 w1 q1 hb1 hg1 hl1
      have bhbw_1 := Nat.le_trans hbw.size hg1
      replace hol := own_below hol hb1 (Nat.le_refl _)
      replace hob := own_below hob hb1 (Nat.le_refl _)
      replace hbw := Below.on hbw hb1 hbw.size
      clear hb1 hg1 hl1
      have q1 : Blk w1 g1 3 #[.int .i64 (init x)] := by rw [hiy]; exact q1
      refine EL.push i64_elem rfl rfl hol (rd_one (l := [.int .i64 (init x)]) q1 rfl) (by intro u hu; rw [List.mem_singleton.1 hu]; rfl) (by omega) rfl hbw.size rfl ?_
      intro v2 w2 hol2 hgr hb_ hat
      have hap2 := apart_push hap hob hat
      replace hob := own_apart hob hgr hap
      replace hbw := hbw.trans hb_
      clear hol hgr hb_ hat
      refine EL.val (x_move rfl) rfl ?_
      refine EL.newS (bs_29_1 rfl) rfl ?_
      intro g3 w3 q3 hb3 hg3 hl3
      have bhbw_3 := Nat.le_trans hbw.size hg3
      replace hob := own_below hob hb3 (Nat.le_refl _)
      replace hol2 := own_below hol2 hb3 (Nat.le_refl _)
      replace hbw := Below.on hbw hb3 hbw.size
      clear hb3 hg3 hl3
      refine EL.push i64_elem rfl rfl hob (rd_one (l := [.int .i64 (-1)]) q3 rfl) (by intro u hu; rw [List.mem_singleton.1 hu]; rfl) (by omega) rfl hbw.size rfl ?_
      intro v4 w4 hob2 hgr hb_ hat
      have hap3 := (apart_push hap2.symm hol2 hat).symm
      replace hol2 := own_apart hol2 hgr hap2.symm
      replace hbw := hbw.trans hb_
      clear hob hgr hb_ hat
      refine EL.val (x_assign rfl) rfl ?_
      refine EL.val (x_assign rfl) rfl ?_
      refine EL.nil ?_
      refine EX.blk ?_
      refine EX.seq ?_
      refine EC.region ?_
      refine EL.val (x_add rfl rfl (c := ((x + 1 : Nat) : Int)) ((IntWalk.i64_in _ ⟨by first | omega | (simp only; omega), by first | omega | (simp only; omega)⟩).trans (by first | omega | (simp only; omega)))) rfl ?_
      refine EL.val (x_move rfl) rfl ?_
      refine EL.nil ?_
      refine EX.roundD (x + 1, _, _) ⟨rfl, rfl, rfl, trivial⟩ (by repeat first | with_reducible exact Sub.refl _ | refine sub_past rfl ?_ | exact Sub.refl _ | refine sub_del rfl ?_ | refine sub_insL_nil ?_) ⟨hlt, by rw [hsl, ints_app]; exact hol2, by rw [hsb, ints_app]; exact hob2, hap3, hbw⟩ (by simp only; omega)
    ·
      have hiy : init x = (f x).getD 0 := by rw [hinit, hfx]; rfl
      refine EC.seq ?_
      refine EC.region ?_
      refine EL.val (x_lss rfl rfl (decide_eq_true (show (((x : Nat) : Int) < (((p + 2) : Nat) : Int)) by omega))) rfl ?_
      refine EL.nil ?_
      refine EX.seq ?_
      refine EC.seq ?_
      refine EC.yes rfl ?_
      refine EC.skip ?_
      refine EX.seq ?_
      refine EC.seq ?_
      refine EC.block ?_
      refine EC.seq ?_
      refine EC.region ?_
      refine EL.val (x_move rfl) rfl ?_
      refine EL.val (x_assign rfl) rfl ?_
      refine EL.nil ?_
      refine EX.seq ?_
      refine EC.seq ?_
      refine EC.region ?_
      refine EL.val (x_move rfl) rfl ?_
      refine EL.val (x_move rfl) rfl ?_
      refine EL.val (look_ok rfl rfl (hmp.keep hbw) (by omega)) rfl ?_
      refine EL.val (x_move rfl) rfl ?_
      refine EL.val (x_extract rfl rfl) rfl ?_
      refine EL.val (x_extract rfl (by rw [hfx]; rfl)) rfl ?_
      refine EL.val (x_assign rfl) rfl ?_
      refine EL.val (x_assign rfl) rfl ?_
      refine EL.nil ?_
      refine EX.seq ?_
      refine EC.seq ?_
      refine EC.seq ?_
      refine EC.region ?_
      refine EL.val (x_move rfl) rfl ?_
      refine EL.val (x_not rfl) rfl ?_
      refine EL.nil ?_
      refine EX.seq ?_
      refine EC.no rfl ?_
      refine EC.skip ?_
      refine EX.seq ?_
      refine EC.region ?_
      refine EL.val (x_move rfl) rfl ?_
      refine EL.val (x_move rfl) rfl ?_
      refine EL.newS (bs_29_1 rfl) rfl ?_
      intro g5 w5 q5 hb5 hg5 hl5
      have bhbw_5 := Nat.le_trans hbw.size hg5
      replace hol := own_below hol hb5 (Nat.le_refl _)
      replace hob := own_below hob hb5 (Nat.le_refl _)
      replace hbw := Below.on hbw hb5 hbw.size
      clear hb5 hg5 hl5
      have q5 : Blk w5 g5 3 #[.int .i64 (init x)] := by rw [hiy]; exact q5
      refine EL.push i64_elem rfl rfl hol (rd_one (l := [.int .i64 (init x)]) q5 rfl) (by intro u hu; rw [List.mem_singleton.1 hu]; rfl) (by omega) rfl hbw.size rfl ?_
      intro v6 w6 hol2 hgr hb_ hat
      have hap2 := apart_push hap hob hat
      replace hob := own_apart hob hgr hap
      replace hbw := hbw.trans hb_
      clear hol hgr hb_ hat
      refine EL.val (x_move rfl) rfl ?_
      refine EL.newS (bs_29_1 rfl) rfl ?_
      intro g7 w7 q7 hb7 hg7 hl7
      have bhbw_7 := Nat.le_trans hbw.size hg7
      replace hob := own_below hob hb7 (Nat.le_refl _)
      replace hol2 := own_below hol2 hb7 (Nat.le_refl _)
      replace hbw := Below.on hbw hb7 hbw.size
      clear hb7 hg7 hl7
      refine EL.push i64_elem rfl rfl hob (rd_one (l := [.int .i64 (-1)]) q7 rfl) (by intro u hu; rw [List.mem_singleton.1 hu]; rfl) (by omega) rfl hbw.size rfl ?_
      intro v8 w8 hob2 hgr hb_ hat
      have hap3 := (apart_push hap2.symm hol2 hat).symm
      replace hol2 := own_apart hol2 hgr hap2.symm
      replace hbw := hbw.trans hb_
      clear hob hgr hb_ hat
      refine EL.val (x_assign rfl) rfl ?_
      refine EL.val (x_assign rfl) rfl ?_
      refine EL.nil ?_
      refine EX.blk ?_
      refine EX.seq ?_
      refine EC.region ?_
      refine EL.val (x_add rfl rfl (c := ((x + 1 : Nat) : Int)) ((IntWalk.i64_in _ ⟨by first | omega | (simp only; omega), by first | omega | (simp only; omega)⟩).trans (by first | omega | (simp only; omega)))) rfl ?_
      refine EL.val (x_move rfl) rfl ?_
      refine EL.nil ?_
      refine EX.roundD (x + 1, _, _) ⟨rfl, rfl, rfl, trivial⟩ (by repeat first | with_reducible exact Sub.refl _ | refine sub_past rfl ?_ | exact Sub.refl _ | refine sub_del rfl ?_ | refine sub_insL_nil ?_) ⟨hlt, by rw [hsl, ints_app]; exact hol2, by rw [hsb, ints_app]; exact hob2, hap3, hbw⟩ (by simp only; omega)
  ·
    have hxe : x = (p + 2) := by omega
    subst hxe
    obtain ⟨gl, rfl⟩ := own_ptr hol (by omega)
    obtain ⟨gb, rfl⟩ := own_ptr hob (by omega)
    have hne : gl ≠ gb := fun e => hap gl rfl (by rw [e]; rfl)
    refine EC.seq ?_
    refine EC.region ?_
    refine EL.val (x_lss rfl rfl (decide_eq_false (show ¬((((p + 2) : Nat) : Int) < (((p + 2) : Nat) : Int)) by omega))) rfl ?_
    refine EL.nil ?_
    refine EX.seq ?_
    refine EC.seq ?_
    refine EC.no rfl ?_
    refine EC.exit ?_
    refine EX.seq_exit ?_
    refine EX.seq_exit ?_
    refine EX.blk_here ?_
    refine EX.seq ?_
    refine EC.seq ?_
    refine EC.seq ?_
    refine EC.region ?_
    refine EL.val (x_assign rfl) rfl ?_
    refine EL.nil ?_
    refine EX.seq ?_
    refine EC.block ?_
    obtain ⟨S0, eS0⟩ : ∃ z, z = bf0 (p + 2) init := ⟨_, rfl⟩
    have hI0 : InvB L (p + 2) R π init S0 := by rw [eS0]; exact inv0 hout hlow
    have hlS : S0.l = ((List.range (p + 2)).map init) := by rw [eS0]; rfl
    have hbS : S0.by_ = (List.replicate (p + 2) (-1)) := by rw [eS0]; rfl
    have haS : S0.again = true := by rw [eS0]; rfl
    rw [← hlS] at hol
    rw [← hbS] at hob
    refine EC.loopD [9, 10, 11, 36, 37, 38, 39, 40, 41, 42, 43, 44, 45, 46, 47, 48, 49, 50, 51, 52, 53, 54, 55, 56, 57, 58, 59, 60, 61, 62, 63, 64, 65, 66, 67, 68, 69, 70, 71, 72, 73, 74, 75, 76, 77, 78, 79, 80, 81, 82, 83, 84, 85, 86, 87, 88, 89, 90, 91] (fun s : BF => [(9, .bool s.again)]) (fun s W => (∃ k, s.l = (bfN L S0 k).l ∧ s.by_ = (bfN L S0 k).by_) ∧ (s.again = false → Fixed L s) ∧ InvB L (p + 2) R π init s ∧ W.ownsRow w.heap.size 3 1 (.slice (some ⟨gl, 0, none⟩) (p + 2) cl) (p + 2) (ints s.l) ∧ W.ownsRow w.heap.size 3 1 (.slice (some ⟨gb, 0, none⟩) (p + 2) cb) (p + 2) (ints s.by_) ∧ Below w.heap.size w W) (fun s => if s.again = true then msr lo s.l + 1 else 0) S0 ⟨⟨0, rfl, rfl⟩, fun h => absurd (haS.symm.trans h) (by decide), hI0, hol, hob, hbw⟩ ⟨agree_ob haS.symm rfl, trivial⟩ ?_
    clear hol hob hbw
    rintro ⟨l, bb, ag⟩ wy ⟨⟨k, hkl, hkb⟩, hfx, hI, hol, hob, hbw⟩
    dsimp only at hkl hkb hfx hol hob
    cases ag
    ·
      replace hfx := hfx rfl
      refine EC.seq ?_
      refine EC.seq ?_
      refine EC.region ?_
      refine EL.val (x_move rfl) rfl ?_
      refine EL.nil ?_
      refine EX.seq ?_
      refine EC.no rfl ?_
      refine EC.exit ?_
      refine EX.seq_exit ?_
      refine EX.seq_exit ?_
      refine EX.blk_here ?_
      refine EX.seq ?_
      refine EC.seq ?_
      refine EC.region ?_
      refine EL.val (x_move rfl) rfl ?_
      refine EL.val (x_move rfl) rfl ?_
      refine EL.val (x_assign rfl) rfl ?_
      refine EL.val (x_assign rfl) rfl ?_
      refine EL.nil ?_
      refine EX.seq ?_
      refine EC.ret ?_
      exact EX.done (res2 rfl rfl rfl) ⟨⟨_, _, l, bb, rfl, by rw [← eS0]; exact ⟨k, fun i hi => by rw [← hkl]; exact hfx i hi, hkl, hkb⟩, hI, hol, hob, fun g h1 h2 => hne (Option.some.inj (h1.trans h2.symm))⟩, hbw⟩
    ·
      clear hfx
      obtain ⟨S1, eS1⟩ : ∃ z : BF, z = ⟨l, bb, false⟩ := ⟨_, rfl⟩
      have hI1 : InvB L (p + 2) R π init S1 := by rw [eS1]; exact hI.flag
      have hl1 : S1.l = l := by rw [eS1]
      have hb1 : S1.by_ = bb := by rw [eS1]
      have ha1 : S1.again = false := by rw [eS1]
      rw [← hl1] at hol hkl
      rw [← hb1] at hob hkb
      refine EC.seq ?_
      refine EC.seq ?_
      refine EC.region ?_
      refine EL.val (x_move rfl) rfl ?_
      refine EL.nil ?_
      refine EX.seq ?_
      refine EC.yes rfl ?_
      refine EC.skip ?_
      refine EX.seq ?_
      refine EC.block ?_
      refine EC.seq ?_
      refine EC.region ?_
      refine EL.val (x_assign rfl) rfl ?_
      refine EL.nil ?_
      refine EX.seq ?_
      refine EC.seq ?_
      refine EC.region ?_
      refine EL.val (x_move rfl) rfl ?_
      refine EL.val (x_nilCheck rfl) rfl ?_
      refine EL.val (fa_114_2 rfl) rfl ?_
      refine EL.val (ld_112 rfl (below_load hbw (hq.at (j := 2) rfl))) rfl ?_
      refine EL.val (ln_112 rfl) rfl ?_
      refine EL.val (x_move rfl) rfl ?_
      refine EL.nil ?_
      refine EX.seq ?_
      refine EC.block ?_
      refine EC.loopD [9, 10, 11, 42, 43, 44, 45, 46, 47, 48, 49, 50, 51, 52, 53, 54, 55, 56, 57, 58, 59, 60, 61, 62, 63, 64, 65, 66, 67, 68, 69, 70, 71, 72, 73, 74, 75, 76, 77, 78, 79, 80, 81, 82, 83, 84, 85, 86, 87, 88, 89, 90, 91] (fun x : Nat => [(9, .bool (bfTo L S1 x).again), (42, .int .i64 (x : Nat))]) (fun x W => x ≤ L.length ∧ W.ownsRow w.heap.size 3 1 (.slice (some ⟨gl, 0, none⟩) (p + 2) cl) (p + 2) (ints (bfTo L S1 x).l) ∧ W.ownsRow w.heap.size 3 1 (.slice (some ⟨gb, 0, none⟩) (p + 2) cb) (p + 2) (ints (bfTo L S1 x).by_) ∧ Below w.heap.size w W) (fun x => L.length - x) 0 ⟨Nat.zero_le _, hol, hob, hbw⟩ ⟨agree_ob ha1.symm rfl, rfl, trivial⟩ ?_
      clear hol hob hbw
      rintro i wz ⟨hi, hol, hob, hbw⟩
      by_cases hlt : i < L.length
      ·
        obtain ⟨ba, oa, e_, _, ac⟩ := arcs_cells L i hlt _ _ _ _ _ hrL
        subst e_
        have hafr := hA.fr i hlt
        have hato := hA.to i hlt
        have hacs := hA.cost i hlt
        have hIt := hI1.to hA hF hif i (by omega)
        have hnx : (bfTo L S1 (i + 1)) = bfStep L (bfTo L S1 i) i := rfl
        obtain ⟨t, et⟩ : ∃ z, z = bfTo L S1 i := ⟨_, rfl⟩
        rw [← et] at hol hob hIt hnx
        have hstep : bfStep L t i = if relaxes (arcAt L i) t.l = true then ⟨t.l.set (arcAt L i).to (t.l.getD (arcAt L i).fr 0 + (arcAt L i).cost), t.by_.set (arcAt L i).to (i : Int), true⟩ else t := rfl
        obtain ⟨rc, ea⟩ : ∃ z, z = arcAt L i := ⟨_, rfl⟩
        rw [← ea] at ac hafr hato hacs hstep
        have htl := hIt.ll
        have htb := hIt.lb
        have hbd := fun v hv => InvB.bd hIt hlo hlo15 hif (v := v) hv
        have bfr := hbd rc.fr hafr
        have bto := hbd rc.to hato
        unfold farI at bfr bto
        have cf := own_int_cell hol (k := rc.fr) (by omega)
        have ct := own_int_cell hol (k := rc.to) (by omega)
        rcases relax_cases rc t.l with ⟨h1, hrl⟩ | ⟨h1, h2, hrl⟩ | ⟨h1, h2, h3, hrl⟩ | ⟨h1, h2, h3, hrl⟩
        ·
          have hnx2 : bfTo L S1 (i + 1) = t := by rw [hnx, hstep, hrl]; rfl
          refine EC.seq ?_
          refine EC.region ?_
          refine EL.val (x_lss rfl rfl (decide_eq_true (show (((i : Nat) : Int) < ((L.length : Nat) : Int)) by omega))) rfl ?_
          refine EL.nil ?_
          refine EX.seq ?_
          refine EC.seq ?_
          refine EC.yes rfl ?_
          refine EC.skip ?_
          refine EX.seq ?_
          refine EC.seq ?_
          refine EC.block ?_
          refine EC.seq ?_
          refine EC.region ?_
          refine EL.val (x_move rfl) rfl ?_
          refine EL.val (ix_112 rfl rfl hlt) rfl ?_
          refine EL.val (ld_122 rfl (below_load hbw ac.c0) (below_load hbw ac.c1) (below_load hbw ac.c2) (below_load hbw ac.c3)) rfl ?_
          refine EL.newP al_122 rfl ?_
          intro g9 w9 q9 hb9 hg9 hl9
          have bhbw_9 := Nat.le_trans hbw.size hg9
          replace hol := own_below hol hb9 (Nat.le_refl _)
          replace hob := own_below hob hb9 (Nat.le_refl _)
          replace hbw := Below.on hbw hb9 hbw.size
          clear hb9 hg9 hl9
          refine EL.val (x_assign rfl) rfl ?_
          refine EL.store rfl rfl q9 sz_122 rfl rfl rfl rfl ?_
          intro w10 hq10 hg10
          replace hol := own_type hol q9 rfl hg10
          replace hob := own_type hob q9 rfl hg10
          replace hbw := below_store hbw hg10 bhbw_9
          replace q9 := hq10
          clear hg10 hq10
          refine EL.nil ?_
          refine EX.seq ?_
          refine EC.seq ?_
          have cf := own_int_cell hol (k := rc.fr) (by omega)
          have ct := own_int_cell hol (k := rc.to) (by omega)
          refine EC.regionQ (by kernel_rfl) (by kernel_rfl) ?_
          refine EQ.val (fun _ hw => (fa_122_3 rfl)) rfl ?_
          refine EQ.val (fun _ hw => (ld_3 rfl (below_load hw (q9.at (j := 3) rfl)))) rfl ?_
          refine EQ.val (fun _ hw => (x_gtr (r := false) rfl rfl (decide_eq_false (by omega)))) rfl ?_
          refine EQ.val (fun _ hw => (x_move rfl)) rfl ?_
          refine EQ.skip rfl rfl rfl rfl ?_
          refine EQ.skip rfl rfl rfl rfl ?_
          refine EQ.skip rfl rfl rfl rfl ?_
          refine EQ.skip rfl rfl rfl rfl ?_
          refine EQ.skip rfl rfl rfl rfl ?_
          refine EQ.skip rfl rfl rfl rfl ?_
          refine EQ.val (fun _ hw => (x_pick_f rfl rfl)) rfl ?_
          refine EQ.val (fun _ hw => (x_move rfl)) rfl ?_
          refine EQ.skip rfl rfl rfl rfl ?_
          refine EQ.skip rfl rfl rfl rfl ?_
          refine EQ.skip rfl rfl rfl rfl ?_
          refine EQ.skip rfl rfl rfl rfl ?_
          refine EQ.skip rfl rfl rfl rfl ?_
          refine EQ.skip rfl rfl rfl rfl ?_
          refine EQ.skip rfl rfl rfl rfl ?_
          refine EQ.skip rfl rfl rfl rfl ?_
          refine EQ.skip rfl rfl rfl rfl ?_
          refine EQ.skip rfl rfl rfl rfl ?_
          refine EQ.skip rfl rfl rfl rfl ?_
          refine EQ.skip rfl rfl rfl rfl ?_
          refine EQ.skip rfl rfl rfl rfl ?_
          refine EQ.skip rfl rfl rfl rfl ?_
          refine EQ.val (fun _ hw => (x_pick_f rfl rfl)) rfl ?_
          refine EQ.fin (fun w11 hw_ => ?_)
          replace q9 := q9.below hw_ q9.lt
          replace hol := own_below hol hw_ (Nat.le_refl _)
          replace hob := own_below hob hw_ (Nat.le_refl _)
          replace hbw := Below.on hbw hw_ hbw.size
          clear hw_
          refine EX.seq ?_
          refine EC.no rfl ?_
          refine EC.skip ?_
          refine EX.blk ?_
          refine EX.seq ?_
          refine EC.region ?_
          refine EL.val (x_add rfl rfl (c := ((i + 1 : Nat) : Int)) ((IntWalk.i64_in _ ⟨by first | omega | (simp only; omega), by first | omega | (simp only; omega)⟩).trans (by first | omega | (simp only; omega)))) rfl ?_
          refine EL.val (x_move rfl) rfl ?_
          refine EL.nil ?_
          refine EX.roundD (i + 1) ⟨agree_ob (by rw [hnx2, et]) rfl, rfl, trivial⟩ (by repeat first | with_reducible exact Sub.refl _ | refine sub_past rfl ?_ | exact Sub.refl _ | refine sub_del rfl ?_ | refine sub_insL_nil ?_) ⟨hlt, by rw [hnx2]; exact hol, by rw [hnx2]; exact hob, hbw⟩ (by omega)
        ·
          have hnx2 : bfTo L S1 (i + 1) = t := by rw [hnx, hstep, hrl]; rfl
          unfold farI at h2
          refine EC.seq ?_
          refine EC.region ?_
          refine EL.val (x_lss rfl rfl (decide_eq_true (show (((i : Nat) : Int) < ((L.length : Nat) : Int)) by omega))) rfl ?_
          refine EL.nil ?_
          refine EX.seq ?_
          refine EC.seq ?_
          refine EC.yes rfl ?_
          refine EC.skip ?_
          refine EX.seq ?_
          refine EC.seq ?_
          refine EC.block ?_
          refine EC.seq ?_
          refine EC.region ?_
          refine EL.val (x_move rfl) rfl ?_
          refine EL.val (ix_112 rfl rfl hlt) rfl ?_
          refine EL.val (ld_122 rfl (below_load hbw ac.c0) (below_load hbw ac.c1) (below_load hbw ac.c2) (below_load hbw ac.c3)) rfl ?_
          refine EL.newP al_122 rfl ?_
          intro g12 w12 q12 hb12 hg12 hl12
          have bhbw_12 := Nat.le_trans hbw.size hg12
          replace hol := own_below hol hb12 (Nat.le_refl _)
          replace hob := own_below hob hb12 (Nat.le_refl _)
          replace hbw := Below.on hbw hb12 hbw.size
          clear hb12 hg12 hl12
          refine EL.val (x_assign rfl) rfl ?_
          refine EL.store rfl rfl q12 sz_122 rfl rfl rfl rfl ?_
          intro w13 hq13 hg13
          replace hol := own_type hol q12 rfl hg13
          replace hob := own_type hob q12 rfl hg13
          replace hbw := below_store hbw hg13 bhbw_12
          replace q12 := hq13
          clear hg13 hq13
          refine EL.nil ?_
          refine EX.seq ?_
          refine EC.seq ?_
          have cf := own_int_cell hol (k := rc.fr) (by omega)
          have ct := own_int_cell hol (k := rc.to) (by omega)
          refine EC.regionQ (by kernel_rfl) (by kernel_rfl) ?_
          refine EQ.val (fun _ hw => (fa_122_3 rfl)) rfl ?_
          refine EQ.val (fun _ hw => (ld_3 rfl (below_load hw (q12.at (j := 3) rfl)))) rfl ?_
          refine EQ.val (fun _ hw => (x_gtr (r := true) rfl rfl (decide_eq_true (by omega)))) rfl ?_
          refine EQ.val (fun _ hw => (x_move rfl)) rfl ?_
          refine EQ.valg rfl rfl (fun _ hw => (x_move rfl)) rfl ?_
          refine EQ.valg rfl rfl (fun _ hw => (fa_122_0 rfl)) rfl ?_
          refine EQ.valg rfl rfl (fun _ hw => (ld_3 rfl (below_load hw (q12.at (j := 0) rfl)))) rfl ?_
          refine EQ.valg rfl rfl (fun _ hw => (ix_29 rfl rfl hafr)) rfl ?_
          refine EQ.valg rfl rfl (fun _ hw => (ld_3 rfl (below_load hw cf))) rfl ?_
          refine EQ.valg rfl rfl (fun _ hw => (x_lss (r := false) rfl rfl (decide_eq_false (by omega)))) rfl ?_
          refine EQ.val (fun _ hw => (x_pick_t rfl rfl)) rfl ?_
          refine EQ.val (fun _ hw => (x_move rfl)) rfl ?_
          refine EQ.skip rfl rfl rfl rfl ?_
          refine EQ.skip rfl rfl rfl rfl ?_
          refine EQ.skip rfl rfl rfl rfl ?_
          refine EQ.skip rfl rfl rfl rfl ?_
          refine EQ.skip rfl rfl rfl rfl ?_
          refine EQ.skip rfl rfl rfl rfl ?_
          refine EQ.skip rfl rfl rfl rfl ?_
          refine EQ.skip rfl rfl rfl rfl ?_
          refine EQ.skip rfl rfl rfl rfl ?_
          refine EQ.skip rfl rfl rfl rfl ?_
          refine EQ.skip rfl rfl rfl rfl ?_
          refine EQ.skip rfl rfl rfl rfl ?_
          refine EQ.skip rfl rfl rfl rfl ?_
          refine EQ.skip rfl rfl rfl rfl ?_
          refine EQ.val (fun _ hw => (x_pick_f rfl rfl)) rfl ?_
          refine EQ.fin (fun w14 hw_ => ?_)
          replace q12 := q12.below hw_ q12.lt
          replace hol := own_below hol hw_ (Nat.le_refl _)
          replace hob := own_below hob hw_ (Nat.le_refl _)
          replace hbw := Below.on hbw hw_ hbw.size
          clear hw_
          refine EX.seq ?_
          refine EC.no rfl ?_
          refine EC.skip ?_
          refine EX.blk ?_
          refine EX.seq ?_
          refine EC.region ?_
          refine EL.val (x_add rfl rfl (c := ((i + 1 : Nat) : Int)) ((IntWalk.i64_in _ ⟨by first | omega | (simp only; omega), by first | omega | (simp only; omega)⟩).trans (by first | omega | (simp only; omega)))) rfl ?_
          refine EL.val (x_move rfl) rfl ?_
          refine EL.nil ?_
          refine EX.roundD (i + 1) ⟨agree_ob (by rw [hnx2, et]) rfl, rfl, trivial⟩ (by repeat first | with_reducible exact Sub.refl _ | refine sub_past rfl ?_ | exact Sub.refl _ | refine sub_del rfl ?_ | refine sub_insL_nil ?_) ⟨hlt, by rw [hnx2]; exact hol, by rw [hnx2]; exact hob, hbw⟩ (by omega)
        ·
          have hnx2 : bfTo L S1 (i + 1) = t := by rw [hnx, hstep, hrl]; rfl
          unfold farI at h2
          refine EC.seq ?_
          refine EC.region ?_
          refine EL.val (x_lss rfl rfl (decide_eq_true (show (((i : Nat) : Int) < ((L.length : Nat) : Int)) by omega))) rfl ?_
          refine EL.nil ?_
          refine EX.seq ?_
          refine EC.seq ?_
          refine EC.yes rfl ?_
          refine EC.skip ?_
          refine EX.seq ?_
          refine EC.seq ?_
          refine EC.block ?_
          refine EC.seq ?_
          refine EC.region ?_
          refine EL.val (x_move rfl) rfl ?_
          refine EL.val (ix_112 rfl rfl hlt) rfl ?_
          refine EL.val (ld_122 rfl (below_load hbw ac.c0) (below_load hbw ac.c1) (below_load hbw ac.c2) (below_load hbw ac.c3)) rfl ?_
          refine EL.newP al_122 rfl ?_
          intro g15 w15 q15 hb15 hg15 hl15
          have bhbw_15 := Nat.le_trans hbw.size hg15
          replace hol := own_below hol hb15 (Nat.le_refl _)
          replace hob := own_below hob hb15 (Nat.le_refl _)
          replace hbw := Below.on hbw hb15 hbw.size
          clear hb15 hg15 hl15
          refine EL.val (x_assign rfl) rfl ?_
          refine EL.store rfl rfl q15 sz_122 rfl rfl rfl rfl ?_
          intro w16 hq16 hg16
          replace hol := own_type hol q15 rfl hg16
          replace hob := own_type hob q15 rfl hg16
          replace hbw := below_store hbw hg16 bhbw_15
          replace q15 := hq16
          clear hg16 hq16
          refine EL.nil ?_
          refine EX.seq ?_
          refine EC.seq ?_
          have cf := own_int_cell hol (k := rc.fr) (by omega)
          have ct := own_int_cell hol (k := rc.to) (by omega)
          refine EC.regionQ (by kernel_rfl) (by kernel_rfl) ?_
          refine EQ.val (fun _ hw => (fa_122_3 rfl)) rfl ?_
          refine EQ.val (fun _ hw => (ld_3 rfl (below_load hw (q15.at (j := 3) rfl)))) rfl ?_
          refine EQ.val (fun _ hw => (x_gtr (r := true) rfl rfl (decide_eq_true (by omega)))) rfl ?_
          refine EQ.val (fun _ hw => (x_move rfl)) rfl ?_
          refine EQ.valg rfl rfl (fun _ hw => (x_move rfl)) rfl ?_
          refine EQ.valg rfl rfl (fun _ hw => (fa_122_0 rfl)) rfl ?_
          refine EQ.valg rfl rfl (fun _ hw => (ld_3 rfl (below_load hw (q15.at (j := 0) rfl)))) rfl ?_
          refine EQ.valg rfl rfl (fun _ hw => (ix_29 rfl rfl hafr)) rfl ?_
          refine EQ.valg rfl rfl (fun _ hw => (ld_3 rfl (below_load hw cf))) rfl ?_
          refine EQ.valg rfl rfl (fun _ hw => (x_lss (r := true) rfl rfl (decide_eq_true (by omega)))) rfl ?_
          refine EQ.val (fun _ hw => (x_pick_t rfl rfl)) rfl ?_
          refine EQ.val (fun _ hw => (x_move rfl)) rfl ?_
          refine EQ.valg rfl rfl (fun _ hw => (x_move rfl)) rfl ?_
          refine EQ.valg rfl rfl (fun _ hw => (fa_122_0 rfl)) rfl ?_
          refine EQ.valg rfl rfl (fun _ hw => (ld_3 rfl (below_load hw (q15.at (j := 0) rfl)))) rfl ?_
          refine EQ.valg rfl rfl (fun _ hw => (ix_29 rfl rfl hafr)) rfl ?_
          refine EQ.valg rfl rfl (fun _ hw => (ld_3 rfl (below_load hw cf))) rfl ?_
          refine EQ.valg rfl rfl (fun _ hw => (fa_122_2 rfl)) rfl ?_
          refine EQ.valg rfl rfl (fun _ hw => (ld_3 rfl (below_load hw (q15.at (j := 2) rfl)))) rfl ?_
          refine EQ.valg rfl rfl (fun _ hw => (x_add rfl rfl (c := t.l.getD rc.fr 0 + rc.cost) (IntWalk.i64_in _ ⟨by omega, by omega⟩))) rfl ?_
          refine EQ.valg rfl rfl (fun _ hw => (x_move rfl)) rfl ?_
          refine EQ.valg rfl rfl (fun _ hw => (fa_122_1 rfl)) rfl ?_
          refine EQ.valg rfl rfl (fun _ hw => (ld_3 rfl (below_load hw (q15.at (j := 1) rfl)))) rfl ?_
          refine EQ.valg rfl rfl (fun _ hw => (ix_29 rfl rfl hato)) rfl ?_
          refine EQ.valg rfl rfl (fun _ hw => (ld_3 rfl (below_load hw ct))) rfl ?_
          refine EQ.valg rfl rfl (fun _ hw => (x_lss (r := false) rfl rfl (decide_eq_false (by omega)))) rfl ?_
          refine EQ.val (fun _ hw => (x_pick_t rfl rfl)) rfl ?_
          refine EQ.fin (fun w17 hw_ => ?_)
          replace q15 := q15.below hw_ q15.lt
          replace hol := own_below hol hw_ (Nat.le_refl _)
          replace hob := own_below hob hw_ (Nat.le_refl _)
          replace hbw := Below.on hbw hw_ hbw.size
          clear hw_
          refine EX.seq ?_
          refine EC.no rfl ?_
          refine EC.skip ?_
          refine EX.blk ?_
          refine EX.seq ?_
          refine EC.region ?_
          refine EL.val (x_add rfl rfl (c := ((i + 1 : Nat) : Int)) ((IntWalk.i64_in _ ⟨by first | omega | (simp only; omega), by first | omega | (simp only; omega)⟩).trans (by first | omega | (simp only; omega)))) rfl ?_
          refine EL.val (x_move rfl) rfl ?_
          refine EL.nil ?_
          refine EX.roundD (i + 1) ⟨agree_ob (by rw [hnx2, et]) rfl, rfl, trivial⟩ (by repeat first | with_reducible exact Sub.refl _ | refine sub_past rfl ?_ | exact Sub.refl _ | refine sub_del rfl ?_ | refine sub_insL_nil ?_) ⟨hlt, by rw [hnx2]; exact hol, by rw [hnx2]; exact hob, hbw⟩ (by omega)
        ·
          have hnx2 : bfTo L S1 (i + 1) = ⟨t.l.set rc.to (t.l.getD rc.fr 0 + rc.cost), t.by_.set rc.to (i : Int), true⟩ := by rw [hnx, hstep, hrl]; rfl
          unfold farI at h2
          refine EC.seq ?_
          refine EC.region ?_
          refine EL.val (x_lss rfl rfl (decide_eq_true (show (((i : Nat) : Int) < ((L.length : Nat) : Int)) by omega))) rfl ?_
          refine EL.nil ?_
          refine EX.seq ?_
          refine EC.seq ?_
          refine EC.yes rfl ?_
          refine EC.skip ?_
          refine EX.seq ?_
          refine EC.seq ?_
          refine EC.block ?_
          refine EC.seq ?_
          refine EC.region ?_
          refine EL.val (x_move rfl) rfl ?_
          refine EL.val (ix_112 rfl rfl hlt) rfl ?_
          refine EL.val (ld_122 rfl (below_load hbw ac.c0) (below_load hbw ac.c1) (below_load hbw ac.c2) (below_load hbw ac.c3)) rfl ?_
          refine EL.newP al_122 rfl ?_
          intro g18 w18 q18 hb18 hg18 hl18
          have bhbw_18 := Nat.le_trans hbw.size hg18
          replace hol := own_below hol hb18 (Nat.le_refl _)
          replace hob := own_below hob hb18 (Nat.le_refl _)
          replace hbw := Below.on hbw hb18 hbw.size
          clear hb18 hg18 hl18
          refine EL.val (x_assign rfl) rfl ?_
          refine EL.store rfl rfl q18 sz_122 rfl rfl rfl rfl ?_
          intro w19 hq19 hg19
          replace hol := own_type hol q18 rfl hg19
          replace hob := own_type hob q18 rfl hg19
          replace hbw := below_store hbw hg19 bhbw_18
          replace q18 := hq19
          clear hg19 hq19
          refine EL.nil ?_
          refine EX.seq ?_
          refine EC.seq ?_
          have cf := own_int_cell hol (k := rc.fr) (by omega)
          have ct := own_int_cell hol (k := rc.to) (by omega)
          refine EC.regionQ (by kernel_rfl) (by kernel_rfl) ?_
          refine EQ.val (fun _ hw => (fa_122_3 rfl)) rfl ?_
          refine EQ.val (fun _ hw => (ld_3 rfl (below_load hw (q18.at (j := 3) rfl)))) rfl ?_
          refine EQ.val (fun _ hw => (x_gtr (r := true) rfl rfl (decide_eq_true (by omega)))) rfl ?_
          refine EQ.val (fun _ hw => (x_move rfl)) rfl ?_
          refine EQ.valg rfl rfl (fun _ hw => (x_move rfl)) rfl ?_
          refine EQ.valg rfl rfl (fun _ hw => (fa_122_0 rfl)) rfl ?_
          refine EQ.valg rfl rfl (fun _ hw => (ld_3 rfl (below_load hw (q18.at (j := 0) rfl)))) rfl ?_
          refine EQ.valg rfl rfl (fun _ hw => (ix_29 rfl rfl hafr)) rfl ?_
          refine EQ.valg rfl rfl (fun _ hw => (ld_3 rfl (below_load hw cf))) rfl ?_
          refine EQ.valg rfl rfl (fun _ hw => (x_lss (r := true) rfl rfl (decide_eq_true (by omega)))) rfl ?_
          refine EQ.val (fun _ hw => (x_pick_t rfl rfl)) rfl ?_
          refine EQ.val (fun _ hw => (x_move rfl)) rfl ?_
          refine EQ.valg rfl rfl (fun _ hw => (x_move rfl)) rfl ?_
          refine EQ.valg rfl rfl (fun _ hw => (fa_122_0 rfl)) rfl ?_
          refine EQ.valg rfl rfl (fun _ hw => (ld_3 rfl (below_load hw (q18.at (j := 0) rfl)))) rfl ?_
          refine EQ.valg rfl rfl (fun _ hw => (ix_29 rfl rfl hafr)) rfl ?_
          refine EQ.valg rfl rfl (fun _ hw => (ld_3 rfl (below_load hw cf))) rfl ?_
          refine EQ.valg rfl rfl (fun _ hw => (fa_122_2 rfl)) rfl ?_
          refine EQ.valg rfl rfl (fun _ hw => (ld_3 rfl (below_load hw (q18.at (j := 2) rfl)))) rfl ?_
          refine EQ.valg rfl rfl (fun _ hw => (x_add rfl rfl (c := t.l.getD rc.fr 0 + rc.cost) (IntWalk.i64_in _ ⟨by omega, by omega⟩))) rfl ?_
          refine EQ.valg rfl rfl (fun _ hw => (x_move rfl)) rfl ?_
          refine EQ.valg rfl rfl (fun _ hw => (fa_122_1 rfl)) rfl ?_
          refine EQ.valg rfl rfl (fun _ hw => (ld_3 rfl (below_load hw (q18.at (j := 1) rfl)))) rfl ?_
          refine EQ.valg rfl rfl (fun _ hw => (ix_29 rfl rfl hato)) rfl ?_
          refine EQ.valg rfl rfl (fun _ hw => (ld_3 rfl (below_load hw ct))) rfl ?_
          refine EQ.valg rfl rfl (fun _ hw => (x_lss (r := true) rfl rfl (decide_eq_true (by omega)))) rfl ?_
          refine EQ.val (fun _ hw => (x_pick_t rfl rfl)) rfl ?_
          refine EQ.fin (fun w20 hw_ => ?_)
          replace q18 := q18.below hw_ q18.lt
          replace hol := own_below hol hw_ (Nat.le_refl _)
          replace hob := own_below hob hw_ (Nat.le_refl _)
          replace hbw := Below.on hbw hw_ hbw.size
          clear hw_
          refine EX.seq ?_
          refine EC.yes rfl ?_
          refine EC.regionS [[], [], [1], [], [], [4], [], [], [7], [6, 7, 8], [6, 7, 8, 9], [], [11], [6, 7, 8, 9, 10, 11, 12], [], [0, 1, 2, 6, 7, 8, 9, 10, 11, 12, 13], [0, 1, 2, 6, 7, 8, 9, 10, 11, 12, 13, 15], [0, 1, 2, 3, 4, 5, 6, 7, 8, 9, 10, 11, 12, 13, 14, 15, 16], [0, 1, 2, 3, 4, 5, 6, 7, 8, 9, 10, 11, 12, 13, 14, 15, 16, 17], [0, 1, 2, 3, 4, 5, 6, 7, 8, 9, 10, 11, 12, 13, 14, 15, 16, 17, 18]] 17 [] [16] (fun fl w_ => w20.grownBy w_ (some gl) ∧ (fl 16 = false → w_.ownsRow w.heap.size 3 1 (.slice (some ⟨gl, 0, none⟩) (p + 2) cl) (p + 2) (ints t.l))) (phiS (fun i_ r => match i_ with | 0 => r 0 = .slice (some ⟨gl, 0, none⟩) (p + 2) cl | 1 => r 1 = .pointer (some ⟨g18, 1, none⟩) | 2 => r 2 = .int .i64 (rc.to : Nat) | 3 => r 3 = .slice (some ⟨gb, 0, none⟩) (p + 2) cb | 4 => r 4 = .pointer (some ⟨g18, 1, none⟩) | 5 => r 5 = .int .i64 (rc.to : Nat) | 6 => r 6 = .slice (some ⟨gl, 0, none⟩) (p + 2) cl | 7 => r 7 = .pointer (some ⟨g18, 0, none⟩) | 8 => r 8 = .int .i64 (rc.fr : Nat) | 9 => r 9 = .pointer (some ⟨gl, 0 + rc.fr, none⟩) | 10 => r 10 = .int .i64 (t.l.getD rc.fr 0) | 11 => r 11 = .pointer (some ⟨g18, 2, none⟩) | 12 => r 12 = .int .i64 rc.cost | 13 => r 13 = .int .i64 (t.l.getD rc.fr 0 + rc.cost) | 14 => r 14 = .int .i64 (i : Nat) | 15 => r 15 = .pointer (some ⟨gl, 0 + rc.to, none⟩) | _ => True) [(16, fun _ r w_ => w_.ownsRow w.heap.size 3 1 (.slice (some ⟨gl, 0, none⟩) (p + 2) cl) (p + 2) (ints (t.l.set rc.to (t.l.getD rc.fr 0 + rc.cost))))]) (by kernel_rfl) rfl rfl (by intro i hi; simp at hi; subst hi; exact ⟨by simp, by omega⟩) (base_row hol) (phiS_cons (fun _ _ _ _ hb h => own_below h hb (Nat.le_refl _)) phiS_nil) (fun i_ hi_ hs_ => ?_) (fun i_ hi_ => ?_) ?_
          · match i_, hi_ with
            | 0, _ =>
              intro val fl w1 a hb ha hd hfl
              obtain ⟨hgb, hg0⟩ := hb
              have ha := ha.sub (Sub.ins (d := 4) (Sub.nil _) rfl)
              exact ss_val ha rfl rfl (x_move rfl) rfl rfl
            | 1, _ =>
              intro val fl w1 a hb ha hd hfl
              obtain ⟨hgb, hg0⟩ := hb
              have ha := ha.sub (Sub.ins (d := 11) (Sub.nil _) rfl)
              exact ss_val ha rfl rfl (fa_122_1 rfl) rfl rfl
            | 2, _ =>
              intro val fl w1 a hb ha hd hfl
              obtain ⟨hgb, hg0⟩ := hb
              have e1 : val 1 = .pointer (some ⟨g18, 1, none⟩) := hd 1 (memB_mem.1 rfl)
              have ha := ha.sub (Sub.ins (d := 75) (Sub.nil _) (dep_get rfl e1))
              exact ss_val ha rfl rfl (ld_3 rfl ((blk_grown q18 hol rfl hgb).at (j := 1) rfl)) rfl rfl
            | 3, _ =>
              intro val fl w1 a hb ha hd hfl
              obtain ⟨hgb, hg0⟩ := hb
              have ha := ha.sub (Sub.ins (d := 5) (Sub.nil _) rfl)
              exact ss_val ha rfl rfl (x_move rfl) rfl rfl
            | 4, _ =>
              intro val fl w1 a hb ha hd hfl
              obtain ⟨hgb, hg0⟩ := hb
              have ha := ha.sub (Sub.ins (d := 11) (Sub.nil _) rfl)
              exact ss_val ha rfl rfl (fa_122_1 rfl) rfl rfl
            | 5, _ =>
              intro val fl w1 a hb ha hd hfl
              obtain ⟨hgb, hg0⟩ := hb
              have e4 : val 4 = .pointer (some ⟨g18, 1, none⟩) := hd 4 (memB_mem.1 rfl)
              have ha := ha.sub (Sub.ins (d := 78) (Sub.nil _) (dep_get rfl e4))
              exact ss_val ha rfl rfl (ld_3 rfl ((blk_grown q18 hol rfl hgb).at (j := 1) rfl)) rfl rfl
            | 6, _ =>
              intro val fl w1 a hb ha hd hfl
              obtain ⟨hgb, hg0⟩ := hb
              have ha := ha.sub (Sub.ins (d := 4) (Sub.nil _) rfl)
              exact ss_val ha rfl rfl (x_move rfl) rfl rfl
            | 7, _ =>
              intro val fl w1 a hb ha hd hfl
              obtain ⟨hgb, hg0⟩ := hb
              have ha := ha.sub (Sub.ins (d := 11) (Sub.nil _) rfl)
              exact ss_val ha rfl rfl (fa_122_0 rfl) rfl rfl
            | 8, _ =>
              intro val fl w1 a hb ha hd hfl
              obtain ⟨hgb, hg0⟩ := hb
              have e7 : val 7 = .pointer (some ⟨g18, 0, none⟩) := hd 7 (memB_mem.1 rfl)
              have ha := ha.sub (Sub.ins (d := 81) (Sub.nil _) (dep_get rfl e7))
              exact ss_val ha rfl rfl (ld_3 rfl ((blk_grown q18 hol rfl hgb).at (j := 0) rfl)) rfl rfl
            | 9, _ =>
              intro val fl w1 a hb ha hd hfl
              obtain ⟨hgb, hg0⟩ := hb
              have e6 : val 6 = .slice (some ⟨gl, 0, none⟩) (p + 2) cl := hd 6 (memB_mem.1 rfl)
              have e8 : val 8 = .int .i64 (rc.fr : Nat) := hd 8 (memB_mem.1 rfl)
              have ha := ha.sub (Sub.ins (d := 82) (Sub.ins (d := 80) (Sub.nil _) (dep_get rfl e6)) (dep_get rfl e8))
              exact ss_val ha rfl rfl (ix_29 rfl rfl hafr) rfl rfl
            | 10, _ =>
              intro val fl w1 a hb ha hd hfl
              obtain ⟨hgb, hg0⟩ := hb
              have e9 : val 9 = .pointer (some ⟨gl, 0 + rc.fr, none⟩) := hd 9 (memB_mem.1 rfl)
              have ha := ha.sub (Sub.ins (d := 83) (Sub.nil _) (dep_get rfl e9))
              have hr0 := hg0 (hfl 16 (by simp) (memB_mem.1 rfl))
              exact ss_val ha rfl rfl (ld_3 rfl (own_int_cell hr0 (by omega))) rfl rfl
            | 11, _ =>
              intro val fl w1 a hb ha hd hfl
              obtain ⟨hgb, hg0⟩ := hb
              have ha := ha.sub (Sub.ins (d := 11) (Sub.nil _) rfl)
              exact ss_val ha rfl rfl (fa_122_2 rfl) rfl rfl
            | 12, _ =>
              intro val fl w1 a hb ha hd hfl
              obtain ⟨hgb, hg0⟩ := hb
              have e11 : val 11 = .pointer (some ⟨g18, 2, none⟩) := hd 11 (memB_mem.1 rfl)
              have ha := ha.sub (Sub.ins (d := 85) (Sub.nil _) (dep_get rfl e11))
              exact ss_val ha rfl rfl (ld_3 rfl ((blk_grown q18 hol rfl hgb).at (j := 2) rfl)) rfl rfl
            | 13, _ =>
              intro val fl w1 a hb ha hd hfl
              obtain ⟨hgb, hg0⟩ := hb
              have e10 : val 10 = .int .i64 (t.l.getD rc.fr 0) := hd 10 (memB_mem.1 rfl)
              have e12 : val 12 = .int .i64 rc.cost := hd 12 (memB_mem.1 rfl)
              have ha := ha.sub (Sub.ins (d := 86) (Sub.ins (d := 84) (Sub.nil _) (dep_get rfl e10)) (dep_get rfl e12))
              exact ss_val ha rfl rfl (x_add rfl rfl (c := (t.l.getD rc.fr 0 + rc.cost)) (IntWalk.i64_in _ ⟨by omega, by omega⟩)) rfl rfl
            | 14, _ =>
              intro val fl w1 a hb ha hd hfl
              obtain ⟨hgb, hg0⟩ := hb
              have ha := ha.sub (Sub.ins (d := 10) (Sub.nil _) rfl)
              exact ss_val ha rfl rfl (x_move rfl) rfl rfl
            | 15, _ =>
              intro val fl w1 a hb ha hd hfl
              obtain ⟨hgb, hg0⟩ := hb
              have e0 : val 0 = .slice (some ⟨gl, 0, none⟩) (p + 2) cl := hd 0 (memB_mem.1 rfl)
              have e2 : val 2 = .int .i64 (rc.to : Nat) := hd 2 (memB_mem.1 rfl)
              have ha := ha.sub (Sub.ins (d := 76) (Sub.ins (d := 74) (Sub.nil _) (dep_get rfl e0)) (dep_get rfl e2))
              exact ss_val ha rfl rfl (ix_29 rfl rfl hato) rfl rfl
            | 16, _ =>
              exact absurd (by simp) hs_
            | k + 17, h => exact absurd h (by omega)
          · simp only [List.mem_singleton] at hi_; subst hi_
            intro val fl w1 a hb hfi ha hd hfl
            obtain ⟨hgb, hg0⟩ := hb
            have e15 : val 15 = .pointer (some ⟨gl, 0 + rc.to, none⟩) := hd 15 (memB_mem.1 rfl)
            have e13 : val 13 = .int .i64 (t.l.getD rc.fr 0 + rc.cost) := hd 13 (memB_mem.1 rfl)
            have ha := ha.sub (Sub.ins (d := 87) (Sub.ins (d := 89) (Sub.nil _) (dep_get rfl e15)) (dep_get rfl e13))
            refine ts_storeRow (l' := [.int .i64 (t.l.getD rc.fr 0 + rc.cost)]) ha rfl rfl rfl (hg0 hfi) sz_3 rfl rfl (by rw [ints_len, Nat.zero_add]; omega) rfl ?_
            intro w' ho2 hgr
            rw [Nat.zero_add, spl_ints (by omega)] at ho2
            refine ⟨undef, rfl, hgr.size, ⟨grown_three hgb hgr, fun h => by rw [fset_eq] at h; cases h⟩, ho2, fun j _ hj hn hA => ?_⟩
            exact phiS_cons_st (C := fun j => j ≠ 16 ∧ 16 ∉ clsAt [[], [], [1], [], [], [4], [], [], [7], [6, 7, 8], [6, 7, 8, 9], [], [11], [6, 7, 8, 9, 10, 11, 12], [], [0, 1, 2, 6, 7, 8, 9, 10, 11, 12, 13], [0, 1, 2, 6, 7, 8, 9, 10, 11, 12, 13, 15], [0, 1, 2, 3, 4, 5, 6, 7, 8, 9, 10, 11, 12, 13, 14, 15, 16], [0, 1, 2, 3, 4, 5, 6, 7, 8, 9, 10, 11, 12, 13, 14, 15, 16, 17], [0, 1, 2, 3, 4, 5, 6, 7, 8, 9, 10, 11, 12, 13, 14, 15, 16, 17, 18]] j) (fun hc => absurd rfl hc.1) (fun _ _ h => h) j ⟨hj, hn⟩
          · intro val fl wR16 hfl hb halc hd
            obtain ⟨hgb, _⟩ := hb
            have ho2 : wR16.ownsRow w.heap.size 3 1 (.slice (some ⟨gl, 0, none⟩) (p + 2) cl) (p + 2) (ints (t.l.set rc.to (t.l.getD rc.fr 0 + rc.cost))) := hd 16 (by omega)
            have e0 : val 0 = .slice (some ⟨gl, 0, none⟩) (p + 2) cl := hd 0 (by omega)
            have e1 : val 1 = .pointer (some ⟨g18, 1, none⟩) := hd 1 (by omega)
            have e2 : val 2 = .int .i64 (rc.to : Nat) := hd 2 (by omega)
            have e3 : val 3 = .slice (some ⟨gb, 0, none⟩) (p + 2) cb := hd 3 (by omega)
            have e4 : val 4 = .pointer (some ⟨g18, 1, none⟩) := hd 4 (by omega)
            have e5 : val 5 = .int .i64 (rc.to : Nat) := hd 5 (by omega)
            have e6 : val 6 = .slice (some ⟨gl, 0, none⟩) (p + 2) cl := hd 6 (by omega)
            have e7 : val 7 = .pointer (some ⟨g18, 0, none⟩) := hd 7 (by omega)
            have e8 : val 8 = .int .i64 (rc.fr : Nat) := hd 8 (by omega)
            have e9 : val 9 = .pointer (some ⟨gl, 0 + rc.fr, none⟩) := hd 9 (by omega)
            have e10 : val 10 = .int .i64 (t.l.getD rc.fr 0) := hd 10 (by omega)
            have e11 : val 11 = .pointer (some ⟨g18, 2, none⟩) := hd 11 (by omega)
            have e12 : val 12 = .int .i64 rc.cost := hd 12 (by omega)
            have e13 : val 13 = .int .i64 (t.l.getD rc.fr 0 + rc.cost) := hd 13 (by omega)
            have e14 : val 14 = .int .i64 (i : Nat) := hd 14 (by omega)
            have e15 : val 15 = .pointer (some ⟨gl, 0 + rc.to, none⟩) := hd 15 (by omega)
            refine EL.ends (cs := [.slice (some ⟨gl, 0, none⟩) (p + 2) cl, .pointer (some ⟨g18, 1, none⟩), .int .i64 (rc.to : Nat), .slice (some ⟨gb, 0, none⟩) (p + 2) cb, .pointer (some ⟨g18, 1, none⟩), .int .i64 (rc.to : Nat), .slice (some ⟨gl, 0, none⟩) (p + 2) cl, .pointer (some ⟨g18, 0, none⟩), .int .i64 (rc.fr : Nat), .pointer (some ⟨gl, 0 + rc.fr, none⟩), .int .i64 (t.l.getD rc.fr 0), .pointer (some ⟨g18, 2, none⟩), .int .i64 rc.cost, .int .i64 (t.l.getD rc.fr 0 + rc.cost), .int .i64 (i : Nat), .pointer (some ⟨gl, 0 + rc.to, none⟩), val 16]) ⟨e0, e1, e2, e3, e4, e5, e6, e7, e8, e9, e10, e11, e12, e13, e14, e15, rfl, trivial⟩ rfl ?_
            replace q18 := blk_grown q18 hol rfl hgb
            replace hob := own_ne hob hgb (Ne.symm hne)
            replace hbw := hbw.trans ((below_row hol hgb hbw.size).mono (Nat.le_refl _))
            clear hol hgb
            have hol := ho2
            clear ho2
            refine EL.val (ix_29 rfl rfl hato) rfl ?_
            refine EL.storeRow (l' := [.int .i64 (i : Nat)]) rfl rfl hob sz_3 rfl rfl (by rw [ints_len, Nat.zero_add]; omega) rfl ?_
            intro w21 hob2 hgr
            rw [Nat.zero_add, spl_ints (by omega)] at hob2
            replace q18 := blk_grown q18 hob rfl hgr
            replace hol := own_ne hol hgr hne
            replace hbw := hbw.trans (below_row hob hgr hbw.size)
            clear hob hgr
            have hob := hob2
            clear hob2
            refine EL.val (x_assign rfl) rfl ?_
            refine EL.nil ?_
            refine EX.blk ?_
            refine EX.seq ?_
            refine EC.region ?_
            refine EL.val (x_add rfl rfl (c := ((i + 1 : Nat) : Int)) ((IntWalk.i64_in _ ⟨by first | omega | (simp only; omega), by first | omega | (simp only; omega)⟩).trans (by first | omega | (simp only; omega)))) rfl ?_
            refine EL.val (x_move rfl) rfl ?_
            refine EL.nil ?_
            refine EX.roundD (i + 1) ⟨agree_ob (by rw [hnx2]) rfl, rfl, trivial⟩ (by repeat first | with_reducible exact Sub.refl _ | refine sub_past rfl ?_ | exact Sub.refl _ | refine sub_del rfl ?_ | refine sub_insL_nil ?_) ⟨hlt, by rw [hnx2]; exact hol, by rw [hnx2]; exact hob, hbw⟩ (by omega)
      ·
        have hie : i = L.length := by omega
        subst hie
        refine EC.seq ?_
        refine EC.region ?_
        refine EL.val (x_lss rfl rfl (decide_eq_false (show ¬(((L.length : Nat) : Int) < ((L.length : Nat) : Int)) by omega))) rfl ?_
        refine EL.nil ?_
        refine EX.seq ?_
        refine EC.seq ?_
        refine EC.no rfl ?_
        refine EC.exit ?_
        refine EX.seq_exit ?_
        refine EX.seq_exit ?_
        refine EX.blk_here ?_
        refine EX.blk ?_
        have hrd : bfTo L S1 L.length = bfRound L S1 := by unfold bfRound; rw [eS1]
        rw [hrd] at hol hob
        have hnk : (bfRound L S1).l = (bfN L S0 (k + 1)).l ∧ (bfRound L S1).by_ = (bfN L S0 (k + 1)).by_ := by rw [bfN, bfRound, bfRound, hkl, hkb]; exact ⟨rfl, rfl⟩
        have hms := round_msr hA hF hif hlo hI1
        refine EX.roundD (bfRound L S1) ⟨agree_ob (by rw [hrd]) rfl, trivial⟩ (by repeat first | with_reducible exact Sub.refl _ | refine sub_past rfl ?_ | exact Sub.refl _ | refine sub_del rfl ?_ | refine sub_insL_nil ?_) ⟨⟨k + 1, hnk.1, hnk.2⟩, fun h => ?_, hI1.round hA hF hif, hol, hob, hbw⟩ ?_
        · rcases hms with ⟨e, hx⟩ | ⟨_, h2⟩
          · intro i hi; rw [e]; exact hx i hi
          · rw [h2] at h; cases h
        · rcases hms with ⟨e, hx⟩ | ⟨h1, h2⟩
          · rw [e]; show 0 < _; rw [if_pos rfl]; omega
          · rw [if_pos h2, if_pos rfl]; show msr lo (bfRound L S1).l + 1 < msr lo l + 1; rw [hl1] at h1; omega
end Go.Proofs.Ytabgmnmpdjnjoaa
set_option linter.unusedVariables false
namespace Go.Proofs.Ytabgmnmpdjnjoaa
open Go Go.RowKit
section
variable {P : Program} {w : World}
end
/-- a built slice is a row of one's own without room -/
theorem own_built {w : World} {g T base k size : Nat} {l : List Value} (h : Blk w g T l.toArray) (hl : lenV l = k * size) (hk : k ≤ 1048576) (hb : base ≤ g) : w.ownsRow base T size (.slice (some ⟨g, 0, none⟩) k k) k l := by
  have hl' : l.length = k * size := by rw [← lenV_eq]; exact hl
  exact ⟨hl', .inr ⟨g, k, l.toArray, rfl, hb, h, Nat.le_refl _, by simp only [maxLen]; omega, by simpa using hl', by rw [← hl']; simp⟩⟩
section
variable {P : Program} {n : Nat} {σ : Sg} {L : List Oper} {cls : List (List Nat)} {alc : List Nat} {val : Nat → Value} {a : Act} {w1 : World} {i : Nat} {Q : Exit → Act → World → Prop}
end
end Go.Proofs.Ytabgmnmpdjnjoaa
set_option linter.unusedVariables false
set_option linter.unusedSimpArgs false
namespace Go.Proofs.Ytabgmnmpdjnjoaa
open Go Go.RowKit
abbrev FR (ro : Option Nat) : Fence := { Fence.wide with round := ro }
theorem fr_depth (ro : Option Nat) (n : Nat) : (FR ro).depth.isSome = true → 1 ≤ n := fun h => by cases h
theorem callsIn_fr {ro : Option Nat} {n : Nat} {P : Program} {f : FuncId} {args : Array Value} {w : World} {R : Ending → World → Prop} (h : Calls P f args w R) : CallsIn (FR ro) n P f args w R :=
  (callsIn_wide (n := n)).2 h
theorem roundIn_fr {ro : Option Nat} {m n l : Nat} {P : Program} {f : FuncId} {tmps : Array Value} {assign body : Code} {w : World} {R : Ending → World → Prop} (h : RoundIn Fence.wide m P l f tmps assign body w R) : RoundIn (FR ro) n P l f tmps assign body w R :=
  ⟨h.1, fun c cs _ => h.2 c cs (room_wide _)⟩
/-- a frame with deferred calls ds -/
structure EnvG (n : Nat) (ds : List Deferred) (σ : Sg) (a : Act) : Prop where
  env : Env n σ ⟨a.tmps, []⟩
  ds : a.defers = ds
section
variable {n : Nat} {ds : List Deferred} {σ τ : Sg} {a : Act}
theorem Env.g (h : Env n σ a) : EnvG n [] σ a := ⟨⟨h.size, rfl, h.get⟩, h.defers⟩
theorem EnvG.e (h : EnvG n [] σ a) : Env n σ a := ⟨h.env.size, h.ds, h.env.get⟩
theorem eval_tmps (a : Act) : (⟨a.tmps, []⟩ : Act).eval = a.eval := by
  funext x
  cases x <;> rfl
theorem EnvG.eval (h : EnvG n ds σ a) {x : Operand} {v : Value} (hx : evS σ x = some v) : a.eval x = v := by
  rw [← eval_tmps]
  exact h.env.eval hx
theorem EnvG.put (h : EnvG n ds σ a) {d : Nat} (hd : Nat.blt d n = true) (v : Value) : EnvG n ds (ins σ d v) (a.put (some d) v) :=
  ⟨h.env.put hd v, h.ds⟩
theorem EnvG.sub (h : EnvG n ds σ a) (hs : Sub τ σ) : EnvG n ds τ a := ⟨h.env.sub hs, h.ds⟩
end
def ELI (ro : Option Nat) (k : Nat) (P : Program) (n : Nat) (ds : List Deferred) (L : List Oper) (Q : Exit → Act → World → Prop) (rest : List Oper) (σ : Sg) (w : World) : Prop := ∀ a, EnvG n ds σ a → wpListIn (FR ro) k P L.toArray Q rest a w
def ECI (ro : Option Nat) (k : Nat) (P : Program) (n : Nat) (ds : List Deferred) (c : Code) (Q : Exit → Act → World → Prop) (σ : Sg) (w : World) : Prop := ∀ a, EnvG n ds σ a → c.wpIn (FR ro) k P Q a w
def EXI (n : Nat) (ds : List Deferred) (Q : Exit → Act → World → Prop) (e : Exit) (σ : Sg) (w : World) : Prop := ∀ a, EnvG n ds σ a → Q e a w
section
variable {ro : Option Nat} {k : Nat} {P : Program} {n : Nat} {ds : List Deferred} {σ τ : Sg} {w : World} {Q : Exit → Act → World → Prop} {L : List Oper} {rest : List Oper}
theorem semAt_fr {o : Oper} (h : ∀ c, o.op ≠ .defer c) (ρ : Operand → Value) : o.semAt (FR ro).round ρ = execOp ρ o := Oper.semAt_eq _ _ _ h
/-- an operation that yields a value is no defer -/
theorem nodefer {o : Oper} {ρ : Operand → Value} {w' : World} {r : Next} (hr : (execOp ρ o).run P w = .ok r w') (hn : ∀ d, r ≠ .defer d) : ∀ c, o.op ≠ .defer c := fun c h => by
  unfold execOp at hr
  simp only [h, Sem.run_bind] at hr
  cases he : (resolve ρ c o.type).run P w with
  | ok d w2 =>
    rw [he] at hr
    simp only [Result.andThen_ok, Sem.run_pure] at hr
    injection hr with h1 _
    exact hn d h1.symm
  | halt x w2 => rw [he] at hr; cases hr
theorem wpLI_run {o : Oper} {a : Act} (hg : Region.wanted o (yielded L.toArray a.tmps) = true) {v : Value} {w' : World} (hr : (execOp a.eval o).run P w = .ok (.value v) w') (hk : wpListIn (FR ro) k P L.toArray Q rest (a.put o.dst v) w') : wpListIn (FR ro) k P L.toArray Q (o :: rest) a w := by
  unfold wpListIn
  rw [if_pos hg]
  refine ⟨fun _ _ => trivial, ?_⟩
  rw [semAt_fr (nodefer hr (fun d h => by cases h)), hr]
  exact hk
theorem wpLI_skip0 {o : Oper} {a : Act} (hg : Region.wanted o (yielded L.toArray a.tmps) = true) {w' : World} (hr : (execOp a.eval o).run P w = .ok .skip w') (hk : wpListIn (FR ro) k P L.toArray Q rest (a.put o.dst undef) w') : wpListIn (FR ro) k P L.toArray Q (o :: rest) a w := by
  unfold wpListIn
  rw [if_pos hg]
  refine ⟨fun _ _ => trivial, ?_⟩
  rw [semAt_fr (nodefer hr (fun d h => by cases h)), hr]
  exact hk
theorem yield_ofG {a : Act} (ha : EnvG n ds σ a) {j : Nat} {t : Tmp} {v : Value} (hj : dstOf L j = some t) (ht : σ t = some v) : yielded L.toArray a.tmps j = match v with | .bool b => some b | _ => none :=
  yield_of ha.env hj ht
theorem ELI.nil (h : EXI n ds Q .normal σ w) : ELI ro k P n ds L Q [] σ w := fun a ha => wpListIn_nil (h a ha)
theorem ELI.val {d ty : Nat} {op : Op} {pos : String} {af : Array Edge} {v : Value} (h : Gives P n σ w ⟨some d, op, ty, pos, af, none⟩ v) (hd : Nat.blt d n = true) (next : ELI ro k P n ds L Q rest (ins σ d v) w) : ELI ro k P n ds L Q (⟨some d, op, ty, pos, af, none⟩ :: rest) σ w :=
  fun a ha => wpLI_run (wanted_none rfl _) (by rw [← eval_tmps]; exact h _ ha.env) (next _ (ha.put hd v))
theorem ELI.valg {d ty j t : Nat} {b : Bool} {op : Op} {pos : String} {af : Array Edge} {v : Value} (hj : dstOf L j = some t) (ht : σ t = some (.bool b)) (h : Gives P n σ w ⟨some d, op, ty, pos, af, some (j, b)⟩ v) (hd : Nat.blt d n = true) (next : ELI ro k P n ds L Q rest (ins σ d v) w) : ELI ro k P n ds L Q (⟨some d, op, ty, pos, af, some (j, b)⟩ :: rest) σ w :=
  fun a ha => wpLI_run (by simp [Region.wanted, yield_ofG ha hj ht]) (by rw [← eval_tmps]; exact h _ ha.env) (next _ (ha.put hd v))
theorem ELI.turn {d ty : Nat} {op : Op} {pos : String} {af : Array Edge} (v : Value) (w' : World) (h : ∀ a, Env n σ a → (execOp a.eval ⟨some d, op, ty, pos, af, none⟩).run P w = .ok (.value v) w') (hd : Nat.blt d n = true) (next : ELI ro k P n ds L Q rest (ins σ d v) w') : ELI ro k P n ds L Q (⟨some d, op, ty, pos, af, none⟩ :: rest) σ w :=
  fun a ha => wpLI_run (wanted_none rfl _) (by rw [← eval_tmps]; exact h _ ha.env) (next _ (ha.put hd v))
theorem ELI.call {d ty : Nat} {op : Op} {pos : String} {af : Array Edge} {f : FuncId} {args : Array Value} {R : Ending → World → Prop} (hr : ∀ a, Env n σ a → (execOp a.eval ⟨some d, op, ty, pos, af, none⟩).run P w = .ok (.enter f args) w) (hd : Nat.blt d n = true) (hc : Calls P f args w R)
    (next : ∀ e w', R e w' → ∃ v, e = .returned v ∧ ELI ro k P n ds L Q rest (ins σ d v) w') : ELI ro k P n ds L Q (⟨some d, op, ty, pos, af, none⟩ :: rest) σ w := fun a ha => by
  have hr' := hr _ ha.env
  rw [eval_tmps] at hr'
  unfold wpListIn
  rw [if_pos (wanted_none rfl _)]
  refine ⟨fun _ _ => trivial, ?_⟩
  rw [semAt_fr (nodefer hr' (fun d h => by cases h)), hr']
  refine ⟨fr_depth _ _, CallsIn.mono (callsIn_fr hc) fun e w' he => ?_⟩
  obtain ⟨v, rfl, hv⟩ := next e w' he
  exact hv _ (ha.put hd v)
/-- a call of yield: a round -/
theorem ELI.yield {d ty l : Nat} {x y : Operand} {at' : Array TypeId} {pos : String} {af : Array Edge} {v : Value} {R : Ending → World → Prop} {fn : FuncId} {tmps : Array Value} {assign body : Code} (hx : evS σ x = some (.func (.yield l) #[] #[])) (hy : evS σ y = some v) (hd : Nat.blt d n = true) (hi : (Instr.yield l #[v]).run P w = .ok (.round l fn tmps assign body) w) (hR : RoundIn Fence.wide 0 P l fn tmps assign body w R)
    (next : ∀ e w', R e w' → ∃ v, e = .returned v ∧ ELI ro k P n ds L Q rest (ins σ d v) w') : ELI ro k P n ds L Q (⟨some d, .call { callee := .value x, args := #[y], argTypes := at' }, ty, pos, af, none⟩ :: rest) σ w := fun a ha => by
  have hr' : (execOp a.eval ⟨some d, .call { callee := .value x, args := #[y], argTypes := at' }, ty, pos, af, none⟩).run P w = .ok (.round l fn tmps assign body) w := by
    simp only [execOp, resolve, List.map_toArray, List.map_cons, List.map_nil, ha.eval hx, ha.eval hy]
    simp [go_sem, Deferred.ofValue, hi]
  unfold wpListIn
  rw [if_pos (wanted_none rfl _)]
  refine ⟨fun _ _ => trivial, ?_⟩
  rw [semAt_fr (nodefer hr' (fun d h => by cases h)), hr']
  refine ⟨fr_depth _ _, RoundIn.mono (roundIn_fr hR) fun e w' he => ?_⟩
  obtain ⟨v, rfl, hv⟩ := next e w' he
  exact hv _ (ha.put hd v)
theorem ELI.newP {d ty : Nat} {op : Op} {pos : String} {af : Array Edge} {cs : Array Value} {T : TypeId} (h : ∀ a, Env n σ a → (execOp a.eval ⟨some d, op, ty, pos, af, none⟩).run P w = .ok (.value (.pointer (some ⟨w.heap.size, 0, none⟩))) (w.alloc (.cells cs T))) (hd : Nat.blt d n = true)
    (next : ∀ g w', Blk w' g T cs → Below w.heap.size w w' → w.heap.size ≤ g → w.heap.size < w'.heap.size → ELI ro k P n ds L Q rest (ins σ d (.pointer (some ⟨g, 0, none⟩))) w') : ELI ro k P n ds L Q (⟨some d, op, ty, pos, af, none⟩ :: rest) σ w :=
  ELI.turn _ _ h hd (next _ _ (Blk.new w T cs) ((Below.refl _ _).alloc (Nat.le_refl _) _) (Nat.le_refl _) (by simp))
theorem ELI.newS {d ty m c : Nat} {op : Op} {pos : String} {af : Array Edge} {cs : Array Value} {T : TypeId} (h : ∀ a, Env n σ a → (execOp a.eval ⟨some d, op, ty, pos, af, none⟩).run P w = .ok (.value (.slice (some ⟨w.heap.size, 0, none⟩) m c)) (w.alloc (.cells cs T))) (hd : Nat.blt d n = true)
    (next : ∀ g w', Blk w' g T cs → Below w.heap.size w w' → w.heap.size ≤ g → w.heap.size < w'.heap.size → ELI ro k P n ds L Q rest (ins σ d (.slice (some ⟨g, 0, none⟩) m c)) w') : ELI ro k P n ds L Q (⟨some d, op, ty, pos, af, none⟩ :: rest) σ w :=
  ELI.turn _ _ h hd (next _ _ (Blk.new w T cs) ((Below.refl _ _).alloc (Nat.le_refl _) _) (Nat.le_refl _) (by simp))
theorem ELI.store {ty t T g o z : Nat} {x y : Operand} {pos : String} {af : Array Edge} {l l' : List Value} {v : Value} (hx : evS σ x = some (.pointer (some ⟨g, o, none⟩))) (hy : evS σ y = some v) (hb : Blk w g T l.toArray) (hs : (P.info? t).map (·.size) = some z) (hv : v.cells.toList = l') (hk : lenV l' = z) (ho : Nat.ble (o + z) (lenV l) = true) (h1 : allOne l' = true)
    (next : ∀ w', Blk w' g T (spl l o l').toArray → w.grownBy w' (some g) → KeepsOthers w w' → ELI ro k P n ds L Q rest σ w') : ELI ro k P n ds L Q (⟨none, .store t x y, ty, pos, af, none⟩ :: rest) σ w := fun a ha => by
  have hr : (execOp a.eval ⟨none, .store t x y, ty, pos, af, none⟩).run P w = .ok .skip (w.setRow g (spl l o l').toArray) := by
    simp only [execOp, ha.eval hx, ha.eval hy, Sem.run_bind, run_storeAt hs hb hv hk ho h1, Result.andThen_ok]
    rfl
  refine wpLI_skip0 (wanted_none rfl _) hr (next _ (setRow_blk hb) (setRow_grown _ _ _) ⟨(setRow_grown w g _).size, fun j ob hj hc => ?_⟩ a ha)
  by_cases e : j = g
  · subst e
    unfold Blk at hb
    rw [hb] at hj
    injection hj with hj
    subst hj
    cases hc
  · exact ((setRow_grown w g (spl l o l').toArray).block j (Array.getElem?_eq_some_iff.1 hj).1 (fun h => e (Option.some.inj h))).trans hj
theorem keeps_below {A B : World} (h : Below A.heap.size A B) : KeepsOthers A B := ⟨h.size, fun k _ hk _ => (h.block k (Array.getElem?_eq_some_iff.1 hk).1).trans hk⟩
theorem keeps_own {w w' : World} {base e size n : Nat} {v : Value} {xs : List Value} (h : w.ownsRow base e size v n xs) (hg : w.grownBy w' v.ownBlock) : KeepsOthers w w' := ⟨hg.size, fun j o hj hc => by
  refine (hg.block j (Array.getElem?_eq_some_iff.1 hj).1 fun e1 => ?_).trans hj
  obtain ⟨_, ⟨rfl, _⟩ | ⟨g, cap, cur, rfl, _, hk, _⟩⟩ := h
  · cases e1
  · have e2 : j = g := by simpa [Value.ownBlock] using e1
    subst e2
    rw [hk] at hj
    injection hj with hj
    subst hj
    cases hc⟩
theorem ELI.push {d ty t e size bytes base B m c : Nat} {s x : Operand} {pos : String} {af : Array Edge} (E : Elem P t e size bytes) {v src : Value} {xs news : List Value} (hs : evS σ s = some v) (hx : evS σ x = some src) (hown : w.ownsRow base e size v c xs) (hr : Rd w B size src m news) (h1 : ∀ u ∈ news, u.oneCell' = true) (hm : c + m ≤ 1048576) (hby : Nat.ble bytes 1048576 = true) (hbase : base ≤ w.heap.size) (hd : Nat.blt d n = true)
    (next : ∀ v' w', w'.ownsRow base e size v' (c + m) (xs ++ news) → w.grownBy w' v.ownBlock → Below base w w' → KeepsOthers w w' → ELI ro k P n ds L Q rest (ins σ d v') w') : ELI ro k P n ds L Q (⟨some d, .call { callee := .builtin .append, args := #[s, x], argTypes := #[t, t] }, ty, pos, af, none⟩ :: rest) σ w := fun a ha => by
  obtain ⟨v', w', h2, h3, h4, h5, h6⟩ := run_push (P := P) (ty := ty) E hown hr h1 hm (by simpa [Nat.ble_eq] using hby) hbase
  exact wpLI_run (wanted_none rfl _) (run_append_call rfl (ha.eval hs) (ha.eval hx) h2) (next v' w' h3 h4 h5 (keeps_own hown h4) _ (ha.put hd v'))
/-! ### Code -/
theorem ECI.sub {c : Code} (h : ECI ro k P n ds c Q τ w) (hs : Sub τ σ) : ECI ro k P n ds c Q σ w := fun a ha => h a (ha.sub hs)
theorem ECI.seq {x y : Code} (h : ECI ro k P n ds x (Exit.then (y.wpIn (FR ro) k P Q) Q) σ w) : ECI ro k P n ds (.seq x y) Q σ w := fun a ha => wpIn_seq (h a ha)
theorem ECI.region {id : Nat} {l : List Oper} (h : ELI ro k P n ds l Q l σ w) : ECI ro k P n ds (.region id l.toArray false) Q σ w := fun a ha => wpIn_region_lit (h a ha)
theorem ECI.block {id : Nat} {c : Code} (h : ECI ro k P n ds c (Exit.inBlock id Q) σ w) : ECI ro k P n ds (.block id c) Q σ w := fun a ha => wpIn_block (h a ha)
theorem ECI.skip (h : EXI n ds Q .normal σ w) : ECI ro k P n ds .skip Q σ w := fun a ha => wpIn_skip (h a ha)
theorem ECI.exit {id : Nat} (h : EXI n ds Q (.exit id) σ w) : ECI ro k P n ds (.exit id) Q σ w := fun a ha => wpIn_exit (h a ha)
theorem ECI.ret (h : EXI n ds Q .ret σ w) : ECI ro k P n ds .ret Q σ w := fun a ha => wpIn_ret (h a ha)
theorem ECI.yes {c : Operand} {x y : Code} (hc : evS σ c = some (.bool true)) (h : ECI ro k P n ds x Q σ w) : ECI ro k P n ds (.cond c x y) Q σ w := fun a ha => wpIn_cond_true (ha.eval hc) (h a ha)
theorem ECI.no {c : Operand} {x y : Code} (hc : evS σ c = some (.bool false)) (h : ECI ro k P n ds y Q σ w) : ECI ro k P n ds (.cond c x y) Q σ w := fun a ha => wpIn_cond_false (ha.eval hc) (h a ha)
/-- code of a function is code of a round of none -/
theorem EC.inn {c : Code} (h : ECI none k P n [] c Q σ w) : EC P n c Q σ w := fun a ha => wpIn_wide.1 (h a ha.g)
theorem ECI.out {c : Code} (h : EC P n c Q σ w) : ECI none k P n [] c Q σ w := fun a ha => wpIn_wide.2 (h a ha.e)
/-! ### Exits -/
theorem EXI.seq {y : Code} (h : ECI ro k P n ds y Q σ w) : EXI n ds (Exit.then (y.wpIn (FR ro) k P Q) Q) .normal σ w := h
theorem EXI.seq_exit {K : Act → World → Prop} {i : Nat} (h : EXI n ds Q (.exit i) σ w) : EXI n ds (Exit.then K Q) (.exit i) σ w := h
theorem EXI.seq_ret {K : Act → World → Prop} (h : EXI n ds Q .ret σ w) : EXI n ds (Exit.then K Q) .ret σ w := h
theorem EXI.blk {id : Nat} (h : EXI n ds Q .normal σ w) : EXI n ds (Exit.inBlock id Q) .normal σ w := h
theorem EXI.blk_ret {id : Nat} (h : EXI n ds Q .ret σ w) : EXI n ds (Exit.inBlock id Q) .ret σ w := h
theorem EXI.blk_here {id : Nat} (h : EXI n ds Q .normal σ w) : EXI n ds (Exit.inBlock id Q) (.exit id) σ w := fun a ha => by
  simp only [Exit.inBlock, if_true]
  exact h a ha
theorem EXI.blk_other {id i : Nat} (hi : Nat.beq i id = false) (h : EXI n ds Q (.exit i) σ w) : EXI n ds (Exit.inBlock id Q) (.exit i) σ w := fun a ha => by
  simp only [Exit.inBlock, if_neg (Nat.ne_of_beq_eq_false hi)]
  exact h a ha
end
/-! ### What a body leaves as it was -/
structure Kp (n0 : Nat) (S : List Nat) (W W' : World) : Prop where
  os : W'.os = W.os
  tape : W'.tape = W.tape
  output : W'.output = W.output
  size : W.heap.size ≤ W'.heap.size
  low : ∀ k, k < n0 → W'.heap[k]? = W.heap[k]?
  blk : ∀ g T cs, Blk W g T cs → memB S T = false → Blk W' g T cs
section
variable {n0 : Nat} {S : List Nat} {A B C : World}
theorem Kp.refl (n0 : Nat) (S : List Nat) (W : World) : Kp n0 S W W := ⟨rfl, rfl, rfl, Nat.le_refl _, fun _ _ => rfl, fun _ _ _ h _ => h⟩
theorem Kp.trans (h : Kp n0 S A B) (k : Kp n0 S B C) : Kp n0 S A C := ⟨k.os.trans h.os, k.tape.trans h.tape, k.output.trans h.output, Nat.le_trans h.size k.size, fun i hi => (k.low i hi).trans (h.low i hi), fun g T cs hg hT => k.blk g T cs (h.blk g T cs hg hT) hT⟩
theorem Kp.of_below (h : Below A.heap.size A B) (hn : n0 ≤ A.heap.size) : Kp n0 S A B := ⟨h.os, h.tape, h.output, h.size, fun k hk => h.block k (by omega), fun g T cs hg _ => hg.below h hg.lt⟩
theorem Kp.below (h : Kp n0 S A B) : Below n0 A B := ⟨h.os, h.tape, h.output, h.size, h.low⟩
theorem Kp.alloc (W : World) (hn : n0 ≤ W.heap.size) (o : Obj) : Kp n0 S W (W.alloc o) := Kp.of_below ((Below.refl _ _).alloc (Nat.le_refl _) _) hn
theorem Kp.putObj {W : World} {l : Nat} {o : Obj} (o' : Obj) (hl : n0 ≤ l) (ho : W.heap[l]? = some o) (hc : o.isCells = false) : Kp n0 S W (W.putObj l o') :=
  ⟨rfl, rfl, rfl, by simp, fun k hk => World.putObj_heap_other (by omega), fun g T cs hg _ => by
    unfold Blk at hg ⊢
    by_cases e : g = l
    · subst e
      rw [ho] at hg
      injection hg with hg
      subst hg
      cases hc
    · exact (World.putObj_heap_other e).trans hg⟩
/-- a store to a block of one of the kinds -/
theorem Kp.grown {w w' : World} {g T : Nat} {cs : Array Value} (hq : Blk w g T cs) (hT : memB S T = true) (hn : n0 ≤ g) (hg : w.grownBy w' (some g)) : Kp n0 S w w' :=
  ⟨hg.os, hg.tape, hg.output, hg.size, fun k hk => by
    by_cases e : k < w.heap.size
    · exact hg.block k e (fun h => by injection h; omega)
    · have := hq.lt; omega, fun k T' cs' hk hT' => by
    refine (hg.block k hk.lt fun h => ?_).trans hk
    injection h with h
    subst h
    unfold Blk at hk hq
    rw [hq] at hk
    injection hk with hk
    injection hk with _ h2
    subst h2
    rw [hT] at hT'
    cases hT'⟩
theorem Kp.own {w w' : World} {base e size n : Nat} {v : Value} {xs : List Value} (h : w.ownsRow base e size v n xs) (hT : memB S e = true) (hn : n0 ≤ base) (hn2 : n0 ≤ w.heap.size) (hg : w.grownBy w' v.ownBlock) : Kp n0 S w w' := by
  obtain ⟨_, ⟨rfl, _⟩ | ⟨g, cap, cur, rfl, hb, hk, _⟩⟩ := h
  · exact Kp.of_below ⟨hg.os, hg.tape, hg.output, hg.size, fun k hk => hg.block k hk (by simp [Value.ownBlock])⟩ hn2
  · exact Kp.grown (cs := cur) hk hT (by omega) hg
theorem Kp.row {w w' : World} {base e size n : Nat} {v : Value} {xs : List Value} (h : Kp n0 S w w') (ho : w.ownsRow base e size v n xs) (hT : memB S e = false) : w'.ownsRow base e size v n xs := by
  obtain ⟨hl, h0 | ⟨g, cap, cur, hv, hb, hk, h1⟩⟩ := ho
  · exact ⟨hl, .inl h0⟩
  · exact ⟨hl, .inr ⟨g, cap, cur, hv, hb, h.blk g e cur hk hT, h1⟩⟩
end
/-! ### An iterator that hands lists of integers -/
abbrev It := List Int × Value
def YieldW (P : Program) (l : Nat) (args : Array Value) (W : World) (R : Ending → World → Prop) : Prop :=
  ∃ fn tmps assign body, (Instr.yield l args).run P W = .ok (.round l fn tmps assign body) W ∧ RoundIn Fence.wide 0 P l fn tmps assign body W R
def RoundAns (n0 : Nat) (S : List Nat) (J Jx : List It → World → Prop) (pre : List It) (W : World) (e : Ending) (W' : World) : Prop :=
  Kp n0 S W W' ∧ ((e = .returned (.bool true) ∧ J pre W') ∨ (e = .returned (.bool false) ∧ Jx pre W'))
def Stays (J : List It → World → Prop) : Prop := ∀ s A B, J s A → Below A.heap.size A B → J s B
section
variable {P : Program} {n : Nat} {ds : List Deferred} {σ : Sg} {w : World} {Q : Exit → Act → World → Prop}
theorem env_arg {d : Nat} {a : Act} {v : Value} (h : EnvG n ds σ a) (hd : Nat.blt d n = true) : EnvG n [] (ins σ d v) ⟨(#[d].zip #[v]).foldl (fun t (p, v) => t.setIfInBounds p v) a.tmps, []⟩ := by
  have h1 := (Env.put (a := ⟨a.tmps, []⟩) h.env hd v).g
  simpa [Act.put] using h1
/-- the assign code of a loop variable that is no box -/
theorem assign1 {d e l id ty : Nat} {pos : String} {af : Array Edge} {x : It} {W : World} {K : Act → World → Prop} (he : Nat.blt e n = true) (hK : ∀ a', EnvG n [] (ins (ins σ d x.2) e x.2) a' → K a' W) :
    ECI (some l) 0 P n [] (.region id [⟨some e, .assign (.tmp d), ty, pos, af, none⟩].toArray false) (Exit.then K (fun _ _ _ => False)) (ins σ d x.2) W :=
  ECI.region (ELI.val (x_assign (show evS (ins σ d x.2) (.tmp d) = some x.2 by simp [evS, ins])) he (ELI.nil (fun a ha => hK a ha)))
/-! ### Leaving with marks -/
def Marks (n0 : Nat) (ds : List Deferred) (W : World) : Prop := ∀ d ∈ ds, ∃ D, n0 ≤ D ∧ d = { target := .collected D, args := #[] } ∧ W.heap[D]? = some (.deferred (some []))
/-- what taking the marks does -/
structure Took (n0 : Nat) (w w' : World) : Prop where
  below : Below n0 w w'
  size : w'.heap.size = w.heap.size
  blk : ∀ g T cs, Blk w g T cs → Blk w' g T cs
theorem leaves_marks {fn : Func} {tmps : Array Value} {R : Ending → World → Prop} {n0 k : Nat} : ∀ (ds : List Deferred) (w : World), Marks n0 ds w → ds.Nodup → (∀ w', Took n0 w w' → ∃ v, (results fn tmps).run P w' = .ok v w' ∧ R (.returned v) w') → LeavesInM Fence.wide k P fn tmps R ds .returning w
  | [], w, _, _, h => h w ⟨Below.refl _ _, rfl, fun _ _ _ h => h⟩
  | d :: ds, w, hm, hd, h => by
    obtain ⟨D, hD, rfl, hw⟩ := hm d (List.mem_cons_self ..)
    have ho : ∀ j, j ≠ D → (w.putObj D (.deferred none)).heap[j]? = w.heap[j]? := fun j hj => World.putObj_heap_other hj
    refine ⟨by simp, .inl ⟨D, _, rfl, run_takeDeferred hw, leaves_marks (n0 := n0) ds _ (fun d' hd' => ?_) (List.nodup_cons.1 hd).2 fun w' ht => h w' ?_⟩⟩
    · obtain ⟨D', h1, rfl, h3⟩ := hm d' (List.mem_cons_of_mem _ hd')
      refine ⟨D', h1, rfl, (ho D' fun e => ?_).trans h3⟩
      subst e
      exact (List.nodup_cons.1 hd).1 hd'
    · have hk : Kp n0 [] w (w.putObj D (.deferred none)) := Kp.putObj _ hD hw rfl
      exact ⟨hk.below.trans ht.below, ht.size.trans (by simp), fun g T cs hg => ht.blk g T cs (hk.blk g T cs hg rfl)⟩
theorem EC.marks {fn : Func} {f : FuncId} {c : Code} {args : List Value} {R : Ending → World → Prop} (n : Nat) (hf : P.funcs[f]? = some fn) (hb : fn.body = some c) (hn : fn.ntmps = n) (hl : Nat.ble args.length n = true) (h : ECI none 0 P n [] c (bodyPostM Fence.wide 0 P fn R) (argsS args 0) w) : Calls P f args.toArray w R := by
  subst hn
  refine (callsIn_wide (n := 0)).1 (callsIn_of_wp_marks hf hb trivial ?_)
  have := h _ (env_args (l := args) (by simpa [Nat.ble_eq] using hl)).g
  simp only [List.size_toArray] at this ⊢
  exact this
theorem EXI.done {fn : Func} {R : Ending → World → Prop} {n0 : Nat} {v : Value} (hm : Marks n0 ds w) (hd : ds.Nodup) (hr : ∀ w', Took n0 w w' → ∀ a, Env n σ a → (results fn a.tmps).run P w' = .ok v w') (h : ∀ w', Took n0 w w' → R (.returned v) w') : EXI n ds (bodyPostM Fence.wide 0 P fn R) .ret σ w := fun a ha => by
  show LeavesInM Fence.wide 0 P fn a.tmps R a.defers .returning w
  rw [ha.ds]
  exact leaves_marks ds w hm hd fun w' ht => ⟨v, hr w' ht ⟨a.tmps, []⟩ ha.env, h w' ht⟩
end
/-! ### An append to a slice that is full, and only read -/
section
variable {P : Program} {w : World}
end
section
variable {P : Program} {n : Nat} {σ : Sg} {L : List Oper} {cls : List (List Nat)} {alc : List Nat} {val : Nat → Value} {a : Act} {w1 : World} {i : Nat} {Q : Exit → Act → World → Prop}
end
/-- a run that ends as code does -/
theorem EXI.of {n : Nat} {Q : Exit → Act → World → Prop} {e : Exit} {σ : Sg} {w : World} (h : EX n Q e σ w) : EXI n [] Q e σ w := fun a ha => h a ha.e
end Go.Proofs.Ytabgmnmpdjnjoaa
set_option linter.unusedVariables false
set_option linter.unusedSimpArgs false
namespace Go.Proofs.Ytabgmnmpdjnjoaa
open Go Go.RowKit
def IterAtN (Nd : World → Prop) (P : Program) (gf : Nat) (caps : Array Value) (ok : It → World → Prop) (n0 : Nat) (S : List Nat) (all : List (List Int)) (w : World) : Prop :=
  ∀ (l : Nat) (J Jx : List It → World → Prop) (W : World), Kp n0 S w W → (∀ s A, J s A → Nd A) → Stays J → Stays Jx →
    (∀ pre x W1, ok x W1 → J pre W1 → (pre ++ [x]).map (·.1) <+: all → YieldW P l #[x.2] W1 (RoundAns n0 S J Jx (pre ++ [x]) W1)) →
    J [] W → Calls P gf (#[.func (.yield l) #[] #[]] ++ caps) W fun e W' => (∃ v, e = .returned v) ∧ Kp n0 S W W' ∧ ((∃ xs : List It, xs.map (·.1) = all ∧ J xs W') ∨ (∃ pre : List It, pre ≠ [] ∧ pre.map (·.1) <+: all ∧ Jx pre W'))
section
variable {P : Program} {n : Nat} {ds : List Deferred} {σ : Sg} {w : World} {Q : Exit → Act → World → Prop}
theorem rangeFN {Nd : World → Prop} {k : Nat} {g : Operand} {d : Nat} {assign body : Code} {gf : Nat} {caps : Array Value} (hg : evS σ g = some (.func (.func gf) #[] caps)) (eg : ∀ args w, (callFunc gf args).run P w = .ok (.enter gf args) w) (hd : Nat.blt d n = true)
    {ok : It → World → Prop} {n0 : Nat} {S : List Nat} {all : List (List Int)} (hit : IterAtN Nd P gf caps ok n0 S all w) (hn0 : n0 ≤ w.heap.size)
    (I Ix : List It → World → Prop) (hI : OwnFrom w.heap.size I) (hIx : OwnFrom w.heap.size Ix) (h0 : I [] w) (hNd : ∀ s A, I s A → Nd A) (hok : OwnFrom w.heap.size ok) (σ1 : It → Sg)
    (hassign : ∀ l x W K, (∀ a', EnvG n [] (σ1 x) a' → K a' W) → ECI (some l) 0 P n [] assign (Exit.then K (fun _ _ _ => False)) (ins σ d x.2) W)
    (hbody : ∀ l pre x W, (pre ++ [x]).map (·.1) <+: all → ok x W → I pre W → ECI (some l) 0 P n [] body (fun e _ W' => KeepsOthers W W' ∧ Kp n0 S W W' ∧ ((e = .normal ∧ I (pre ++ [x]) W') ∨ (e = .ret ∧ Ix (pre ++ [x]) W'))) (σ1 x) W)
    (hdone : ∀ D xs W, w.heap.size ≤ D → xs.map (·.1) = all → I xs W → Kp n0 S w W → W.heap[D]? = some (.deferred (some [])) → EXI n ({ target := .collected D, args := #[] } :: ds) Q .normal σ W)
    (hstop : ∀ D pre W, w.heap.size ≤ D → pre ≠ [] → pre.map (·.1) <+: all → Ix pre W → Kp n0 S w W → W.heap[D]? = some (.deferred (some [])) → EXI n ({ target := .collected D, args := #[] } :: ds) Q .ret σ W) :
    ECI none k P n ds (.rangeFunc g #[d] assign body) Q σ w := fun a ha => by
  refine wpIn_rangeFunc fun fn hfn => ?_
  obtain ⟨rec, hrec⟩ : ∃ rec : LoopState → Option Code → Loop, rec = fun st pe => { state := st, pending := pe, fn, tmps := a.tmps, params := #[d], assign, body, defers := w.heap.size } := ⟨_, rfl⟩
  obtain ⟨W1, eW1⟩ : ∃ W1, W1 = (w.alloc (.deferred (some []))).alloc (.loop (rec .ready none)) := ⟨_, rfl⟩
  have hL := World.alloc_heap_new (w.alloc (.deferred (some []))) (.loop (rec .ready none))
  rw [World.size_alloc, ← eW1] at hL
  have hD : W1.heap[w.heap.size]? = some (.deferred (some [])) := by rw [eW1]; exact (Below.heap_alloc _ _ _ (by simp)).trans (World.alloc_heap_new w _)
  have hs1 : W1.heap.size = w.heap.size + 2 := by rw [eW1]; simp
  have hI1 : I [] W1 := by rw [eW1]; exact hI.alloc _ (hI.alloc _ h0)
  have hK1 : Kp n0 S w W1 := by rw [eW1]; exact (Kp.alloc w hn0 _).trans (Kp.alloc _ (by simp; omega) _)
  refine ⟨w.heap.size + 1, [{ target := .collected w.heap.size, args := #[] }], W1, { target := .fn (.func gf) caps, args := #[.func (.yield (w.heap.size + 1)) #[] #[]] }, W1, gf, #[.func (.yield (w.heap.size + 1)) #[] #[]] ++ caps, W1, ?_, ?_, ?_, ?_, fr_depth _ _, ?_⟩
  · rw [eW1, hrec]; exact run_enterLoop_outer _ _ _ _ _
  · simp only [resolve, ha.eval hg]
    simp [go_sem]
  · intro f' hf'; trivial
  · simp [invoke, go_sem, eg]
  · refine CallsIn.mono (callsIn_fr (hit (w.heap.size + 1) (fun pre W => I pre W ∧ w.heap.size + 2 ≤ W.heap.size ∧ W.heap[w.heap.size + 1]? = some (.loop (rec .ready none)) ∧ W.heap[w.heap.size]? = some (.deferred (some [])))
      (fun pre W => Ix pre W ∧ w.heap.size + 2 ≤ W.heap.size ∧ W.heap[w.heap.size + 1]? = some (.loop (rec .done (some .ret))) ∧ W.heap[w.heap.size]? = some (.deferred (some [])))
      W1 hK1 (fun s A h => hNd s A h.1) ?_ ?_ ?_ ⟨hI1, by omega, hL, hD⟩)) ?_
    · rintro s A B ⟨h1, h2, h3, h4⟩ hb
      exact ⟨hI s A B none h1 ⟨hb.os, hb.tape, hb.output, hb.size, fun i hi _ => hb.block i hi⟩ (fun r h => by cases h), Nat.le_trans h2 hb.size, (hb.block _ (by omega)).trans h3, (hb.block _ (by omega)).trans h4⟩
    · rintro s A B ⟨h1, h2, h3, h4⟩ hb
      exact ⟨hIx s A B none h1 ⟨hb.os, hb.tape, hb.output, hb.size, fun i hi _ => hb.block i hi⟩ (fun r h => by cases h), Nat.le_trans h2 hb.size, (hb.block _ (by omega)).trans h3, (hb.block _ (by omega)).trans h4⟩
    · rintro pre x W hokx ⟨hi, hsz, hl, hk⟩ hpf
      have hlt : w.heap.size + 1 < W.heap.size := by omega
      have hy := run_yield (P := P) (args := #[x.2]) hl (by rw [hrec]; rfl)
      rw [hrec] at hy
      refine ⟨fn, _, assign, body, hy, roundIn_of_wpIn hfn (hassign (w.heap.size + 1) x W _ (fun a' ha' => ?_) _ (env_arg ha hd))⟩
      refine ⟨_, run_beginRound hl (by rw [hrec]), ?_⟩
      obtain ⟨W2, eW2⟩ : ∃ W2, W2 = W.putObj (w.heap.size + 1) (.loop { rec .ready none with state := .busy }) := ⟨_, rfl⟩
      have hl2 : W2.heap[w.heap.size + 1]? = some (.loop { rec .ready none with state := .busy }) := by rw [eW2]; exact World.putObj_heap_same hlt
      have hk2 : W2.heap[w.heap.size]? = some (.deferred (some [])) := by rw [eW2]; exact (World.putObj_heap_other (by omega)).trans hk
      have hw2 : Kp n0 S W W2 := by rw [eW2]; exact Kp.putObj _ (by omega) hl rfl
      have hi2 : I pre W2 := by rw [eW2]; exact hI.putObj _ hi (by omega) hl rfl
      have hok2 : ok x W2 := by rw [eW2]; exact hok.putObj _ hokx (by omega) hl rfl
      have hsz2 : w.heap.size + 2 ≤ W2.heap.size := Nat.le_trans hsz hw2.size
      rw [← eW2]
      refine wpIn_mono (hbody (w.heap.size + 1) pre x W2 hpf hok2 hi2 a' ha') ?_
      rintro e a3 W3 ⟨hk3, hp3, h3⟩
      have hl3 := hk3.same _ _ hl2 rfl
      have hd3 := hk3.same _ _ hk2 rfl
      have fin : ∀ jump : Option Code, ∃ W4, (Instr.endRound (w.heap.size + 1) jump).run P W3 = .ok (.bool jump.isNone) W4 ∧ W4 = W3.putObj (w.heap.size + 1) (.loop (rec (if jump.isNone then .ready else .done) jump)) ∧ Kp n0 S W W4 ∧ w.heap.size + 2 ≤ W4.heap.size ∧ W4.heap[w.heap.size + 1]? = some (.loop (rec (if jump.isNone then .ready else .done) jump)) ∧ W4.heap[w.heap.size]? = some (.deferred (some [])) := fun jump => by
        have hr := run_endRound (P := P) jump hl3
        rw [hrec] at hr ⊢
        have hk4 : Kp n0 S W3 (W3.putObj (w.heap.size + 1) (.loop (rec (if jump.isNone then .ready else .done) jump))) := Kp.putObj _ (by omega) hl3 rfl
        rw [hrec] at hk4
        exact ⟨_, hr, rfl, hw2.trans (hp3.trans hk4), Nat.le_trans hsz2 (Nat.le_trans hp3.size hk4.size), World.putObj_heap_same (Array.getElem?_eq_some_iff.1 hl3).1, (World.putObj_heap_other (by omega)).trans hd3⟩
      rcases h3 with ⟨rfl, hi3⟩ | ⟨rfl, hi3⟩
      · obtain ⟨W4, hr, e4, k4, s4, l4, d4⟩ := fin none
        exact ⟨_, W4, hr, k4, .inl ⟨rfl, by rw [e4]; exact hI.putObj _ hi3 (by omega) hl3 rfl, s4, l4, d4⟩⟩
      · obtain ⟨W4, hr, e4, k4, s4, l4, d4⟩ := fin (some .ret)
        exact ⟨_, W4, hr, k4, .inr ⟨rfl, by rw [e4]; exact hIx.putObj _ hi3 (by omega) hl3 rfl, s4, l4, d4⟩⟩
    · rintro e W2 ⟨⟨v, rfl⟩, hkk, ⟨xs, hS, hi, hsz, hl, hk⟩ | ⟨pre, hne, hS, hi, hsz, hl, hk⟩⟩
      · refine ⟨none, _, by have := run_endLoop (P := P) hl (by rw [hrec]; simp); rw [hrec] at this; exact this, ?_⟩
        exact hdone w.heap.size xs _ (Nat.le_refl _) hS (hI.putObj _ hi (by omega) hl rfl) (hK1.trans (hkk.trans (Kp.putObj _ (by omega) hl rfl))) ((World.putObj_heap_other (by omega)).trans hk) _ ⟨ha.env, by rw [List.singleton_append, ha.ds]⟩
      · refine ⟨some .ret, _, by have := run_endLoop (P := P) hl (by rw [hrec]; simp); rw [hrec] at this; exact this, wpIn_ret ?_⟩
        exact hstop w.heap.size pre _ (Nat.le_refl _) hne hS (hIx.putObj _ hi (by omega) hl rfl) (hK1.trans (hkk.trans (Kp.putObj _ (by omega) hl rfl))) ((World.putObj_heap_other (by omega)).trans hk) _ ⟨ha.env, by rw [List.singleton_append, ha.ds]⟩
end
end Go.Proofs.Ytabgmnmpdjnjoaa
set_option linter.unusedVariables false
set_option linter.unusedSimpArgs false
namespace Go.Proofs.Ytabgmnmpdjnjoaa
open Go Go.RowKit
section
variable {P : Program} {ops : Array Oper} {Q : Exit → Act → World → Prop} {n l : Nat}
theorem oper_round {o : Oper} {a : Act} {w : World} {K : Act → World → Prop} (hnd : ∀ c, o.op ≠ .defer c) (h : o.wp P a w K Q) : o.wpIn (Fence.wide.inRound l) n P a w K Q := by
  refine ⟨fun _ _ => trivial, ?_⟩
  rw [Oper.semAt_eq _ _ _ hnd]
  unfold Oper.wp at h
  generalize (execOp a.eval o).run P w = r at h ⊢
  have hd : ((Fence.wide.inRound l).depth.isSome = true → 1 ≤ n) := fun h => by simp [Fence.wide] at h
  cases r with
  | ok x w' =>
    cases x
    case value => exact h
    case skip => exact h
    case defer => exact h
    case enter f args => exact ⟨hd, ((callsIn_wide.2 h).inRound l).mono fun e w'' he => by cases e <;> exact he⟩
    case row row args =>
      refine ⟨hd, fun c cs _ => ?_⟩
      obtain ⟨v, w'', hv, hs⟩ := h c cs
      exact ⟨v, w'', hv, stepsIn_wide.2 hs⟩
    all_goals exact h.elim
  | halt x w' => cases x <;> exact h
theorem ops_round (hnd : ∀ (i : Nat) (o : Oper), ops[i]? = some o → ∀ c, o.op ≠ .defer c) (hQ : ¬ LetsOut Q) : ∀ (is : List Nat) (a : Act) (w : World), wpOps P ops Q is a w → wpOpsIn (Fence.wide.inRound l) n P ops Q is a w
  | [], _, _, h => h
  | i :: rest, a, w, h => by
    unfold wpOpsIn
    unfold wpOps at h
    cases ho : ops[i]? with
    | none =>
      simp only [ho] at h ⊢
      exact ops_round hnd hQ rest a w h
    | some o =>
      simp only [ho] at h ⊢
      by_cases hw : Region.wanted o (yielded ops a.tmps) = true
      · simp only [hw, if_true] at h ⊢
        rcases h with h | h
        · exact Oper.wpIn_mono (fun a' w' h' => ops_round hnd hQ rest a' w' h') (oper_round (hnd i o ho) h)
        · exact absurd h.2 hQ
      · simp only [hw, if_false, Bool.false_eq_true] at h ⊢
        exact ⟨fun _ _ => trivial, ops_round hnd hQ rest _ _ h⟩
/-- no operation is a defer statement: by reckoning -/
def noDefer (ops : Array Oper) : Bool := ops.all fun o => match o.op with | .defer _ => false | _ => true
theorem noDefer_spec (h : noDefer ops = true) (i : Nat) (o : Oper) (ho : ops[i]? = some o) (c) : o.op ≠ .defer c := by
  intro e
  obtain ⟨hi, rfl⟩ := Array.getElem?_eq_some_iff.1 ho
  have := Array.all_eq_true.1 h i hi
  rw [e] at this
  cases this
end
/-- in every order -/
def RO (P : Program) (ops : Array Oper) (Q : Exit → Act → World → Prop) (a : Act) (w : World) : Prop := ∀ t, wpOps P ops Q (Region.schedule (P.follows .mixedOrders) ops t) a { w with drawn := w.drawn + 1 }
section
variable {P : Program} {ops : Array Oper} {Q : Exit → Act → World → Prop}
theorem ro_any {a : Act} {w : World} (hm : P.follows .mixedOrders = true) (h : wpAny P .any ops Q ops.size (Array.replicate ops.size false) a { w with drawn := w.drawn + 1 }) : RO P ops Q a w := fun t => by
  simp only [Region.schedule, hm, Bool.true_or, if_true]
  exact wpAny_sound ops.size t _ a _ h
theorem ro_inv {a : Act} {w : World} (hm : P.follows .mixedOrders = true) (hback : backB ops = true) (I : Array Bool → Act → World → Prop)
    (h0 : I (Array.replicate ops.size false) a { w with drawn := w.drawn + 1 })
    (hstep : ∀ (L : Array Bool) (a : Act) (w : World) (i : Nat) (o : Oper), L.size = ops.size → I L a w → L.getD i true = false → ops[i]? = some o → (∀ e ∈ o.after, Region.binds .any e = true → L.getD e.on false = true) →
      wpOp P ops Q i (I (L.setIfInBounds i true)) a w)
    (hend : ∀ (L : Array Bool) (a : Act) (w : World), L.size = ops.size → I L a w → (∀ i, i < ops.size → L.getD i false = true) → Q .normal a w) : RO P ops Q a w := by
  refine ro_any hm (wpAny_inv hback I hstep hend _ _ _ _ (by simp) ?_ h0)
  unfold openN
  exact Nat.le_trans (List.length_filter_le _ _) (by simp)
end
section
variable {P : Program} {n : Nat} {σ : Sg} {w : World} {Q : Exit → Act → World → Prop} {L : List Oper}
theorem EO.regionP (cls : List (List Nat)) (m : Nat) (alc : List Nat) (Φ : Nat → (Nat → Value) → World → Prop) (hf : P.follows .mixedOrders = true) (hq : headQ n cls m 0 L = true) (hml : Nat.ble m L.length = true)
    (hmono : ∀ i r w1 w2, Below w1.heap.size w1 w2 → Φ i r w1 → Φ i r w2)
    (hstep : ∀ i, i < m → HStep P n L Q cls m alc σ w Φ i)
    (hend : ∀ val w', Below w.heap.size w w' → Alc alc m val w w' → (∀ i, i < m → Φ i (res val i (clsAt cls i)) w') → EL P n L Q (L.drop m) (sgEnd L σ val m) w') : ∀ a, Env n σ a → RO P L.toArray Q a w := by
  have hm : m ≤ L.length := by simpa [Nat.ble_eq] using hml
  have H := headQ_ok hq
  have hback : backB L.toArray = true := by
    refine List.all_eq_true.2 fun i hi => ?_
    have hi' : i < L.length := by simpa using hi
    have ho : L.toArray[i]? = some L[i] := by simp [hi']
    rw [ho]
    refine Array.all_eq_true_iff_forall_mem.2 fun e he => ?_
    cases hb : Region.binds .any e with
    | false => rfl
    | true => simpa using H.back i L[i] (by simp [hi']) e he hb
  intro a ha
  -- the tail's part
  have tailDone : ∀ (D : Array Bool) (i : Nat) (o : Oper), (∀ i, D.getD i false = true → ∀ j ∈ clsAt cls i, D.getD j false = true) → L[i]? = some o → (∀ e ∈ o.after, Region.binds .any e = true → D.getD e.on false = true) → ∀ j ∈ clsAt cls i, D.getD j false = true := by
    intro D i o hdown ho hdep j hj
    obtain ⟨e, he, hb, h⟩ := H.dep i o ho j hj
    rcases h with rfl | h
    · exact hdep e he hb
    · exact hdown _ (hdep e he hb) j h
  have hEnd : ∀ (D : Array Bool) (val : Nat → Value) (a : Act) (w' : World), HInv n L cls m alc σ w Φ D val a w' → (∀ i, i < m → D.getD i false = true) → wpList P L.toArray Q (L.drop m) a w' := by
    intro D val a w' I hall
    refine hend val w' I.below ⟨fun i hi hlt => I.alc1 i hi hlt (hall i hlt), fun i hi j hj h1 h2 hne => I.alc2 i hi j hj h1 h2 (hall i h1) (hall j h2) hne⟩ (fun i hi => I.says i hi (hall i hi)) a ⟨I.size, I.defers, ?_⟩
    have : ∀ k, k ≤ m → ∀ t v, sgEnd L σ val k t = some v → (∀ j, k ≤ j → j < m → dstOf L j ≠ some t) → a.tmps[t]? = some v := by
      intro k
      induction k with
      | zero => intro _ t v ht hn; exact I.old t v ht fun j hj _ => hn j (Nat.zero_le _) hj
      | succ k ih =>
        intro hk t v ht hn
        unfold sgEnd at ht
        cases hd : dstOf L k with
        | none =>
          simp only [hd] at ht
          exact ih (by omega) t v ht fun j h1 h2 => by
            rcases Nat.lt_or_ge k j with h | h
            · exact hn j h h2
            · obtain rfl : j = k := by omega
              rw [hd]; simp
        | some d =>
          simp only [hd] at ht
          unfold ins at ht
          cases e : Nat.beq t d with
          | true =>
            rw [e] at ht
            have e' := Nat.eq_of_beq_eq_true e
            subst e'
            rw [I.new k t (by omega) (hall k (by omega)) hd]
            exact ht
          | false =>
            rw [e] at ht
            exact ih (by omega) t v ht fun j h1 h2 => by
              rcases Nat.lt_or_ge k j with h | h
              · exact hn j h h2
              · obtain rfl : j = k := by omega
                rw [hd]
                intro e2
                injection e2 with e2
                exact Nat.ne_of_beq_eq_false e e2.symm
    exact fun t v ht => this m (Nat.le_refl _) t v ht fun j h1 h2 => by omega
  refine ro_inv hf hback (fun D a w' => (∃ val, HInv n L cls m alc σ w Φ D val a w') ∨ ∃ k, m < k ∧ k ≤ L.length ∧ (∀ i, D.getD i false = decide (i < k)) ∧ wpList P L.toArray Q (L.drop k) a w') ?_ ?_ ?_
  · left
    have hno : ∀ i, (Array.replicate L.toArray.size false).getD i false = false := fun i => by
      by_cases h : i < L.toArray.size
      · simp [Array.getD]
      · simp [Array.getD]
    refine ⟨fun _ => undef, ⟨⟨rfl, rfl, rfl, Nat.le_refl _, fun _ _ => rfl⟩, ha.size, ha.defers, ?_, fun t v ht _ => ha.get t v ht, ?_, ?_, ?_, ?_, fun i _ => hno i⟩⟩
    · intro i d _ h; rw [hno] at h; cases h
    · intro i _ h; rw [hno] at h; cases h
    · intro i h; rw [hno] at h; cases h
    · intro i _ _ h; rw [hno] at h; cases h
    · intro i _ j _ _ _ h; rw [hno] at h; cases h
  · intro D a w1 i o hs hI hni ho hdep
    have hs' : D.size = L.length := by simpa using hs
    have ho' : L[i]? = some o := by simpa using ho
    have hil : i < L.length := (List.getElem?_eq_some_iff.1 ho').1
    have hnd : D.getD i false = false := getD_false_of (by omega) hni
    have takeTail : ∀ (k : Nat), k = i → m ≤ k → (∀ j, D.getD j false = decide (j < k)) → wpList P L.toArray Q (L.drop k) a w1 →
        wpOp P L.toArray Q i (fun a w' => (∃ val, HInv n L cls m alc σ w Φ (D.setIfInBounds i true) val a w') ∨ ∃ k, m < k ∧ k ≤ L.length ∧ (∀ j, (D.setIfInBounds i true).getD j false = decide (j < k)) ∧ wpList P L.toArray Q (L.drop k) a w') a w1 := by
      intro k hk hmk hD hw
      subst hk
      rw [List.drop_eq_getElem_cons hil] at hw
      have e : L[k] = o := by rw [List.getElem?_eq_getElem hil] at ho'; injection ho'
      rw [e] at hw
      unfold wpList at hw
      have hnext : ∀ a w', wpList P L.toArray Q (L.drop (k + 1)) a w' → (∃ val, HInv n L cls m alc σ w Φ (D.setIfInBounds k true) val a w') ∨ ∃ k', m < k' ∧ k' ≤ L.length ∧ (∀ j, (D.setIfInBounds k true).getD j false = decide (j < k')) ∧ wpList P L.toArray Q (L.drop k') a w' := fun a w' h => .inr ⟨k + 1, by omega, by omega, fun j => by
        rw [set_get (by omega)]
        by_cases e : j = k
        · subst e; simp
        · rw [if_neg e, hD]
          by_cases h : j < k
          · simp [h]; omega
          · simp [h]; omega, h⟩
      unfold wpOp
      simp only [ho]
      split
      · rename_i hw'
        rw [if_pos hw'] at hw
        rcases hw with h | h
        · exact .inl (Oper.wp_mono hnext h)
        · exact .inr h
      · rename_i hw'
        rw [if_neg hw'] at hw
        exact hnext _ _ hw
    rcases hI with ⟨val, I⟩ | ⟨k, hmk, hkl, hD, hw⟩
    · have hcd := tailDone D i o I.down ho' hdep
      rcases Nat.lt_or_ge i m with him | him
      · have henv : Env n (sgAt L cls m σ val i) a := by
          refine ⟨I.size, I.defers, fun t v ht => ?_⟩
          unfold sgAt at ht
          cases hfw : findW L t (clsAt cls i) with
          | some j =>
            simp only [hfw] at ht
            obtain ⟨h1, h2⟩ := findW_spec hfw
            injection ht with ht
            have hj := hcd j h1
            have hjm : j < m := by
              rcases Nat.lt_or_ge j m with h | h
              · exact h
              · rw [I.high j h] at hj; cases hj
            rw [I.new j t hjm hj h2, ht]
          | none =>
            simp only [hfw] at ht
            cases hob : oldB L cls i t m with
            | false => rw [hob] at ht; cases ht
            | true =>
              rw [hob] at ht
              refine I.old t v ht fun k hk hdk hd => ?_
              rcases oldB_spec hob k hk hd with rfl | h
              · rw [hnd] at hdk; cases hdk
              · have := I.down k hdk i h
                rw [hnd] at this; cases this
        have hjm : ∀ j, D.getD j false = true → j < m := fun j hj => by
          rcases Nat.lt_or_ge j m with h | h
          · exact h
          · rw [I.high j h] at hj; cases hj
        refine wpOp_mono ?_ (hstep i him val w1 a I.below henv fun j hj => I.says j (hjm j (hcd j hj)) (hcd j hj))
        rintro a' w' ⟨v, rfl, hb, hphi, halc⟩
        left
        have hgrow : Below w.heap.size w w' := I.below.trans (hb.mono I.below.size)
        have hdi : dstOf L i = o.dst := dstOf_at ho'
        refine ⟨upd val i v, ⟨hgrow, ?_, ?_, ?_, ?_, ?_, ?_, ?_, ?_, ?_⟩⟩
        · rw [put_size]; exact I.size
        · cases dstOf L i <;> exact I.defers
        · intro k d hk hdk hd
          rw [set_get (by omega)] at hdk
          by_cases e : k = i
          · subst e
            have hdn : d < n := H.small k o d ho' hk (by rw [← hdi]; exact hd)
            rw [hd]
            simp only [Act.put, upd, if_true]
            rw [Array.getElem?_setIfInBounds_self_of_lt (by rw [I.size]; exact hdn)]
          · rw [if_neg e] at hdk
            have hok : ∃ p, L[k]? = some p := ⟨L[k]'(by omega), by simp [show k < L.length by omega]⟩
            obtain ⟨p, hp⟩ := hok
            have hne : dstOf L i ≠ some d := by
              intro h'
              rcases Nat.lt_or_gt_of_ne e with hlt | hgt
              · exact H.dist k i p o d hp ho' hlt him (by rw [← dstOf_at hp]; exact hd) (by rw [← hdi]; exact h')
              · exact H.dist i k o p d ho' hp hgt hk (by rw [← hdi]; exact h') (by rw [← dstOf_at hp]; exact hd)
            have := I.new k d hk hdk hd
            simp only [upd, if_neg e]
            cases hdi' : dstOf L i with
            | none => exact this
            | some d' =>
              have : d' ≠ d := fun h => hne (by rw [hdi', h])
              simp only [Act.put, Array.getElem?_setIfInBounds_ne this]
              assumption
        · intro t u ht hno
          have h1 : a.tmps[t]? = some u := I.old t u ht fun k hk hdk => hno k hk (by rw [set_get (by omega)]; split <;> simp [hdk])
          have h2 : dstOf L i ≠ some t := hno i him (by rw [set_get (by omega), if_pos rfl])
          cases hdi' : dstOf L i with
          | none => exact h1
          | some d' =>
            have : d' ≠ t := fun h => h2 (by rw [hdi', h])
            simp only [Act.put, Array.getElem?_setIfInBounds_ne this]
            exact h1
        · intro k hk hdk
          rw [set_get (by omega)] at hdk
          by_cases e : k = i
          · subst e; exact hphi
          · rw [if_neg e] at hdk
            have hni' : i ∉ clsAt cls k := fun h => by
              have := I.down k hdk i h
              rw [hnd] at this; cases this
            rw [res_upd e hni']
            exact hmono k _ w1 w' hb (I.says k hk hdk)
        · intro k hdk j hj
          rw [set_get (by omega)] at hdk ⊢
          by_cases e : k = i
          · subst e
            rw [hcd j hj]; simp
          · rw [if_neg e] at hdk
            rw [I.down k hdk j hj]; simp
        · intro k hk hkm hdk
          rw [set_get (by omega)] at hdk
          by_cases e : k = i
          · subst e
            obtain ⟨h1, h2⟩ := halc hk
            exact ⟨w1.heap.size, by simp [upd, h1], I.below.size, h2⟩
          · rw [if_neg e] at hdk
            obtain ⟨g, h1, h2, h3⟩ := I.alc1 k hk hkm hdk
            exact ⟨g, by simp [upd, e, h1], h2, Nat.lt_of_lt_of_le h3 hb.size⟩
        · intro k hk j hj hkm hjm' hdk hdj hne
          rw [set_get (by omega)] at hdk hdj
          by_cases e : k = i
          · subst e
            have e2 : j ≠ k := Ne.symm hne
            rw [if_neg e2] at hdj
            obtain ⟨h1, _⟩ := halc hk
            obtain ⟨g, h3, _, h5⟩ := I.alc1 j hj hjm' hdj
            simp only [upd, if_true, if_neg e2, h1, h3]
            intro h
            injection h with h
            injection h with h
            injection h with h
            omega
          · rw [if_neg e] at hdk
            by_cases e2 : j = i
            · subst e2
              obtain ⟨h1, _⟩ := halc hj
              obtain ⟨g, h3, _, h5⟩ := I.alc1 k hk hkm hdk
              simp only [upd, if_true, if_neg e, h1, h3]
              intro h
              injection h with h
              injection h with h
              injection h with h
              omega
            · rw [if_neg e2] at hdj
              simp only [upd, if_neg e, if_neg e2]
              exact I.alc2 k hk j hj hkm hjm' hdk hdj hne
        · intro k hk
          rw [set_get (by omega), if_neg (by omega)]
          exact I.high k hk
      · have hall : ∀ j, j < i → D.getD j false = true := fun j hj => hcd j (H.tail i o ho' him j hj)
        have him' : i = m := by
          rcases Nat.lt_or_ge m i with h | h
          · have := hall m h
            rw [I.high m (Nat.le_refl _)] at this; cases this
          · omega
        subst him'
        exact takeTail i rfl (Nat.le_refl _) (fun j => by
          by_cases h : j < i
          · rw [hall j h]; simp [h]
          · rw [I.high j (by omega)]; simp [h]) (hEnd D val a w1 I hall)
    · have hcd : ∀ j, j < i → D.getD j false = true := fun j hj => by
        have hmi : m ≤ i := by
          have := hD i
          rw [hnd] at this
          have : ¬ i < k := by simpa using this.symm
          omega
        have hdn : ∀ i, D.getD i false = true → ∀ j ∈ clsAt cls i, D.getD j false = true := by
          intro x hx y hy
          rw [hD] at hx ⊢
          have hx' : x < k := by simpa using hx
          obtain ⟨p, hp⟩ : ∃ p, L[x]? = some p := ⟨L[x]'(by omega), by simp [show x < L.length by omega]⟩
          have : ∀ (x : Nat) (p : Oper), L[x]? = some p → ∀ y ∈ clsAt cls x, y < x := by
            intro x
            induction x using Nat.strongRecOn with
            | ind x ih =>
              intro p hp y hy
              obtain ⟨e, he, hb, h⟩ := H.dep x p hp y hy
              have h1 := H.back x p hp e he hb
              rcases h with rfl | h
              · exact h1
              · obtain ⟨q, hq⟩ : ∃ q, L[e.on]? = some q := by
                  have : x < L.length := (List.getElem?_eq_some_iff.1 hp).1
                  exact ⟨L[e.on]'(by omega), by simp [show e.on < L.length by omega]⟩
                have := ih e.on h1 q hq y h
                omega
          have := this x p hp y hy
          simp
          omega
        exact tailDone D i o hdn ho' hdep j (H.tail i o ho' hmi j hj)
      have hik : k = i := by
        have h1 := hD i
        rw [hnd] at h1
        have h2 : ¬ i < k := by simpa using h1.symm
        rcases Nat.lt_or_ge k i with h | h
        · have := hcd k h
          rw [hD] at this
          simp at this
        · omega
      exact takeTail k hik (by omega) hD hw
  · intro D a w1 hs hI hall
    have hs' : D.size = L.length := by simpa using hs
    rcases hI with ⟨val, I⟩ | ⟨k, hmk, hkl, hD, hw⟩
    · have hmL : m = L.length := by
        rcases Nat.lt_or_ge m L.length with h | h
        · have := hall m (by simpa using h)
          rw [I.high m (Nat.le_refl _)] at this; cases this
        · omega
      have := hEnd D val a w1 I fun i hi => hall i (by simp; omega)
      rw [hmL, List.drop_length] at this
      exact this
    · have hk : k = L.length := by
        rcases Nat.lt_or_ge k L.length with h | h
        · have := hall k (by simpa using h)
          rw [hD] at this
          simp at this
        · omega
      rw [hk, List.drop_length] at hw
      exact hw
theorem EO.regionS (cls : List (List Nat)) (m : Nat) (alc sto : List Nat) (Base : (Nat → Bool) → World → Prop) (Φ : Nat → (Nat → Bool) → (Nat → Value) → World → Prop) (hf : P.follows .mixedOrders = true) (hq : headQ n cls m 0 L = true) (hml : Nat.ble m L.length = true) (hds : ∀ i ∈ sto, i ∉ alc ∧ i < m) (hB : BaseOk w Base)
    (hmono : ∀ i fl r w1 w2, Below w1.heap.size w1 w2 → Φ i fl r w1 → Φ i fl r w2)
    (hstep : ∀ i, i < m → i ∉ sto → SStep P n L Q cls m alc sto σ Base Φ i) (hsto : ∀ i ∈ sto, TStep P n L Q cls m alc sto σ Base Φ i)
    (hend : ∀ val fl w', (∀ k ∈ sto, fl k = true) → Base fl w' → Alc alc m val w w' → (∀ i, i < m → Φ i fl (res val i (clsAt cls i)) w') → EL P n L Q (L.drop m) (sgEnd L σ val m) w') : ∀ a, Env n σ a → RO P L.toArray Q a w := by
  have hm : m ≤ L.length := by simpa [Nat.ble_eq] using hml
  have H := headQ_ok hq
  have hback : backB L.toArray = true := by
    refine List.all_eq_true.2 fun i hi => ?_
    have hi' : i < L.length := by simpa using hi
    have ho : L.toArray[i]? = some L[i] := by simp [hi']
    rw [ho]
    refine Array.all_eq_true_iff_forall_mem.2 fun e he => ?_
    cases hb : Region.binds .any e with
    | false => rfl
    | true => simpa using H.back i L[i] (by simp [hi']) e he hb
  intro a ha
  -- the tail's part
  have tailDone : ∀ (D : Array Bool) (i : Nat) (o : Oper), (∀ i, D.getD i false = true → ∀ j ∈ clsAt cls i, D.getD j false = true) → L[i]? = some o → (∀ e ∈ o.after, Region.binds .any e = true → D.getD e.on false = true) → ∀ j ∈ clsAt cls i, D.getD j false = true := by
    intro D i o hdown ho hdep j hj
    obtain ⟨e, he, hb, h⟩ := H.dep i o ho j hj
    rcases h with rfl | h
    · exact hdep e he hb
    · exact hdown _ (hdep e he hb) j h
  have hEnd : ∀ (D : Array Bool) (val : Nat → Value) (a : Act) (w' : World), SInv n L cls m alc sto σ w Base Φ D val a w' → (∀ i, i < m → D.getD i false = true) → wpList P L.toArray Q (L.drop m) a w' := by
    intro D val a w' I hall
    refine hend val (flD sto D) w' (fun k hk => by unfold flD; rw [memB_mem.2 hk]; exact hall k (hds k hk).2) I.base ⟨fun i hi hlt => I.alc1 i hi hlt (hall i hlt), fun i hi j hj h1 h2 hne => I.alc2 i hi j hj h1 h2 (hall i h1) (hall j h2) hne⟩ (fun i hi => I.says i hi (hall i hi)) a ⟨I.size, I.defers, ?_⟩
    have : ∀ k, k ≤ m → ∀ t v, sgEnd L σ val k t = some v → (∀ j, k ≤ j → j < m → dstOf L j ≠ some t) → a.tmps[t]? = some v := by
      intro k
      induction k with
      | zero => intro _ t v ht hn; exact I.old t v ht fun j hj _ => hn j (Nat.zero_le _) hj
      | succ k ih =>
        intro hk t v ht hn
        unfold sgEnd at ht
        cases hd : dstOf L k with
        | none =>
          simp only [hd] at ht
          exact ih (by omega) t v ht fun j h1 h2 => by
            rcases Nat.lt_or_ge k j with h | h
            · exact hn j h h2
            · obtain rfl : j = k := by omega
              rw [hd]; simp
        | some d =>
          simp only [hd] at ht
          unfold ins at ht
          cases e : Nat.beq t d with
          | true =>
            rw [e] at ht
            have e' := Nat.eq_of_beq_eq_true e
            subst e'
            rw [I.new k t (by omega) (hall k (by omega)) hd]
            exact ht
          | false =>
            rw [e] at ht
            exact ih (by omega) t v ht fun j h1 h2 => by
              rcases Nat.lt_or_ge k j with h | h
              · exact hn j h h2
              · obtain rfl : j = k := by omega
                rw [hd]
                intro e2
                injection e2 with e2
                exact Nat.ne_of_beq_eq_false e e2.symm
    exact fun t v ht => this m (Nat.le_refl _) t v ht fun j h1 h2 => by omega
  refine ro_inv hf hback (fun D a w' => (∃ val, SInv n L cls m alc sto σ w Base Φ D val a w') ∨ ∃ k, m < k ∧ k ≤ L.length ∧ (∀ i, D.getD i false = decide (i < k)) ∧ wpList P L.toArray Q (L.drop k) a w') ?_ ?_ ?_
  · left
    have hno : ∀ i, (Array.replicate L.toArray.size false).getD i false = false := fun i => by
      by_cases h : i < L.toArray.size
      · simp [Array.getD]
      · simp [Array.getD]
    refine ⟨fun _ => undef, ⟨hB.start _ (fun k => by unfold flD; rw [hno]; cases memB sto k <;> rfl), ha.size, ha.defers, ?_, fun t v ht _ => ha.get t v ht, ?_, ?_, ?_, ?_, fun i _ => hno i⟩⟩
    · intro i d _ h; rw [hno] at h; cases h
    · intro i _ h; rw [hno] at h; cases h
    · intro i h; rw [hno] at h; cases h
    · intro i _ _ h; rw [hno] at h; cases h
    · intro i _ j _ _ _ h; rw [hno] at h; cases h
  · intro D a w1 i o hs hI hni ho hdep
    have hs' : D.size = L.length := by simpa using hs
    have ho' : L[i]? = some o := by simpa using ho
    have hil : i < L.length := (List.getElem?_eq_some_iff.1 ho').1
    have hnd : D.getD i false = false := getD_false_of (by omega) hni
    have takeTail : ∀ (k : Nat), k = i → m ≤ k → (∀ j, D.getD j false = decide (j < k)) → wpList P L.toArray Q (L.drop k) a w1 →
        wpOp P L.toArray Q i (fun a w' => (∃ val, SInv n L cls m alc sto σ w Base Φ (D.setIfInBounds i true) val a w') ∨ ∃ k, m < k ∧ k ≤ L.length ∧ (∀ j, (D.setIfInBounds i true).getD j false = decide (j < k)) ∧ wpList P L.toArray Q (L.drop k) a w') a w1 := by
      intro k hk hmk hD hw
      subst hk
      rw [List.drop_eq_getElem_cons hil] at hw
      have e : L[k] = o := by rw [List.getElem?_eq_getElem hil] at ho'; injection ho'
      rw [e] at hw
      unfold wpList at hw
      have hnext : ∀ a w', wpList P L.toArray Q (L.drop (k + 1)) a w' → (∃ val, SInv n L cls m alc sto σ w Base Φ (D.setIfInBounds k true) val a w') ∨ ∃ k', m < k' ∧ k' ≤ L.length ∧ (∀ j, (D.setIfInBounds k true).getD j false = decide (j < k')) ∧ wpList P L.toArray Q (L.drop k') a w' := fun a w' h => .inr ⟨k + 1, by omega, by omega, fun j => by
        rw [set_get (by omega)]
        by_cases e : j = k
        · subst e; simp
        · rw [if_neg e, hD]
          by_cases h : j < k
          · simp [h]; omega
          · simp [h]; omega, h⟩
      unfold wpOp
      simp only [ho]
      split
      · rename_i hw'
        rw [if_pos hw'] at hw
        rcases hw with h | h
        · exact .inl (Oper.wp_mono hnext h)
        · exact .inr h
      · rename_i hw'
        rw [if_neg hw'] at hw
        exact hnext _ _ hw
    rcases hI with ⟨val, I⟩ | ⟨k, hmk, hkl, hD, hw⟩
    · have hcd := tailDone D i o I.down ho' hdep
      rcases Nat.lt_or_ge i m with him | him
      · have henv : Env n (sgAt L cls m σ val i) a := by
          refine ⟨I.size, I.defers, fun t v ht => ?_⟩
          unfold sgAt at ht
          cases hfw : findW L t (clsAt cls i) with
          | some j =>
            simp only [hfw] at ht
            obtain ⟨h1, h2⟩ := findW_spec hfw
            injection ht with ht
            have hj := hcd j h1
            have hjm : j < m := by
              rcases Nat.lt_or_ge j m with h | h
              · exact h
              · rw [I.high j h] at hj; cases hj
            rw [I.new j t hjm hj h2, ht]
          | none =>
            simp only [hfw] at ht
            cases hob : oldB L cls i t m with
            | false => rw [hob] at ht; cases ht
            | true =>
              rw [hob] at ht
              refine I.old t v ht fun k hk hdk hd => ?_
              rcases oldB_spec hob k hk hd with rfl | h
              · rw [hnd] at hdk; cases hdk
              · have := I.down k hdk i h
                rw [hnd] at this; cases this
        have hjm : ∀ j, D.getD j false = true → j < m := fun j hj => by
          rcases Nat.lt_or_ge j m with h | h
          · exact h
          · rw [I.high j h] at hj; cases hj
        by_cases his : i ∈ sto
        · have hfi : flD sto D i = false := by unfold flD; rw [memB_mem.2 his]; exact hnd
          refine wpOp_mono ?_ (hsto i his val (flD sto D) w1 a I.base hfi henv (fun j hj => I.says j (hjm j (hcd j hj)) (hcd j hj)) fun s hs' hi' => by
              unfold flD; rw [memB_mem.2 hs']
              rcases Bool.eq_false_or_eq_true (D.getD s false) with h | h
              · have := I.down s h i hi'; rw [hnd] at this; cases this
              · exact h)
          rintro a' w' ⟨v, rfl, hgsz, hbase, hphi, hkeep⟩
          left
          have hsz := hB.size _ _ I.base
          have hfl := flD_set (D := D) his (by omega)
          obtain ⟨hal0, _⟩ := hds i his
          have hdi : dstOf L i = o.dst := dstOf_at ho'
          refine ⟨upd val i v, ⟨by rw [hfl]; exact hbase, ?_, ?_, ?_, ?_, ?_, ?_, ?_, ?_, ?_⟩⟩
          · rw [put_size]; exact I.size
          · cases dstOf L i <;> exact I.defers
          · intro k d hk hdk hd
            rw [set_get (by omega)] at hdk
            by_cases e : k = i
            · subst e
              have hdn : d < n := H.small k o d ho' hk (by rw [← hdi]; exact hd)
              rw [hd]
              simp only [Act.put, upd, if_true]
              rw [Array.getElem?_setIfInBounds_self_of_lt (by rw [I.size]; exact hdn)]
            · rw [if_neg e] at hdk
              have hok : ∃ p, L[k]? = some p := ⟨L[k]'(by omega), by simp [show k < L.length by omega]⟩
              obtain ⟨p, hp⟩ := hok
              have hne : dstOf L i ≠ some d := by
                intro h'
                rcases Nat.lt_or_gt_of_ne e with hlt | hgt
                · exact H.dist k i p o d hp ho' hlt him (by rw [← dstOf_at hp]; exact hd) (by rw [← hdi]; exact h')
                · exact H.dist i k o p d ho' hp hgt hk (by rw [← hdi]; exact h') (by rw [← dstOf_at hp]; exact hd)
              have := I.new k d hk hdk hd
              simp only [upd, if_neg e]
              cases hdi' : dstOf L i with
              | none => exact this
              | some d' =>
                have : d' ≠ d := fun h => hne (by rw [hdi', h])
                simp only [Act.put, Array.getElem?_setIfInBounds_ne this]
                assumption
          · intro t u ht hno
            have h1 : a.tmps[t]? = some u := I.old t u ht fun k hk hdk => hno k hk (by rw [set_get (by omega)]; split <;> simp [hdk])
            have h2 : dstOf L i ≠ some t := hno i him (by rw [set_get (by omega), if_pos rfl])
            cases hdi' : dstOf L i with
            | none => exact h1
            | some d' =>
              have : d' ≠ t := fun h => h2 (by rw [hdi', h])
              simp only [Act.put, Array.getElem?_setIfInBounds_ne this]
              exact h1
          · intro k hk hdk
            rw [set_get (by omega)] at hdk
            rw [hfl]
            by_cases e : k = i
            · subst e; exact hphi
            · rw [if_neg e] at hdk
              have hni' : i ∉ clsAt cls k := fun h => by
                have := I.down k hdk i h
                rw [hnd] at this; cases this
              rw [res_upd e hni']
              refine hkeep k hk e hni' (fun p hp hpk q hq hqi hne => ?_) (I.says k hk hdk)
              have hpd : D.getD p false = true := by
                rcases hpk with rfl | h
                · exact hdk
                · exact I.down k hdk p h
              have hqd : D.getD q false = true := by
                rcases hqi with rfl | h
                · exact absurd hq hal0
                · exact hcd q h
              exact I.alc2 p hp q hq (hjm p hpd) (hjm q hqd) hpd hqd hne
          · intro k hdk j hj
            rw [set_get (by omega)] at hdk ⊢
            by_cases e : k = i
            · subst e
              rw [hcd j hj]; simp
            · rw [if_neg e] at hdk
              rw [I.down k hdk j hj]; simp
          · intro k hk hkm hdk
            rw [set_get (by omega)] at hdk
            by_cases e : k = i
            · subst e; exact absurd hk hal0
            · rw [if_neg e] at hdk
              obtain ⟨g, h1, h2, h3⟩ := I.alc1 k hk hkm hdk
              exact ⟨g, by simp [upd, e, h1], h2, Nat.lt_of_lt_of_le h3 hgsz⟩
          · intro k hk j hj hkm hjm' hdk hdj hne
            rw [set_get (by omega)] at hdk hdj
            by_cases e : k = i
            · subst e; exact absurd hk hal0
            · by_cases e2 : j = i
              · subst e2; exact absurd hj hal0
              · rw [if_neg e] at hdk
                rw [if_neg e2] at hdj
                simp only [upd, if_neg e, if_neg e2]
                exact I.alc2 k hk j hj hkm hjm' hdk hdj hne
          · intro k hk
            rw [set_get (by omega), if_neg (by omega)]
            exact I.high k hk
        refine wpOp_mono ?_ (hstep i him his val (flD sto D) w1 a I.base henv (fun j hj => I.says j (hjm j (hcd j hj)) (hcd j hj)) fun s hs' hi' => by
            unfold flD; rw [memB_mem.2 hs']
            rcases Bool.eq_false_or_eq_true (D.getD s false) with h | h
            · have := I.down s h i hi'; rw [hnd] at this; cases this
            · exact h)
        rintro a' w' ⟨v, rfl, hb, hphi, halc⟩
        left
        have hsz := hB.size _ _ I.base
        have hfl := flD_same (D := D) his (by omega)
        have hdi : dstOf L i = o.dst := dstOf_at ho'
        refine ⟨upd val i v, ⟨by rw [hfl]; exact hB.grow _ _ _ I.base hb, ?_, ?_, ?_, ?_, ?_, ?_, ?_, ?_, ?_⟩⟩
        · rw [put_size]; exact I.size
        · cases dstOf L i <;> exact I.defers
        · intro k d hk hdk hd
          rw [set_get (by omega)] at hdk
          by_cases e : k = i
          · subst e
            have hdn : d < n := H.small k o d ho' hk (by rw [← hdi]; exact hd)
            rw [hd]
            simp only [Act.put, upd, if_true]
            rw [Array.getElem?_setIfInBounds_self_of_lt (by rw [I.size]; exact hdn)]
          · rw [if_neg e] at hdk
            have hok : ∃ p, L[k]? = some p := ⟨L[k]'(by omega), by simp [show k < L.length by omega]⟩
            obtain ⟨p, hp⟩ := hok
            have hne : dstOf L i ≠ some d := by
              intro h'
              rcases Nat.lt_or_gt_of_ne e with hlt | hgt
              · exact H.dist k i p o d hp ho' hlt him (by rw [← dstOf_at hp]; exact hd) (by rw [← hdi]; exact h')
              · exact H.dist i k o p d ho' hp hgt hk (by rw [← hdi]; exact h') (by rw [← dstOf_at hp]; exact hd)
            have := I.new k d hk hdk hd
            simp only [upd, if_neg e]
            cases hdi' : dstOf L i with
            | none => exact this
            | some d' =>
              have : d' ≠ d := fun h => hne (by rw [hdi', h])
              simp only [Act.put, Array.getElem?_setIfInBounds_ne this]
              assumption
        · intro t u ht hno
          have h1 : a.tmps[t]? = some u := I.old t u ht fun k hk hdk => hno k hk (by rw [set_get (by omega)]; split <;> simp [hdk])
          have h2 : dstOf L i ≠ some t := hno i him (by rw [set_get (by omega), if_pos rfl])
          cases hdi' : dstOf L i with
          | none => exact h1
          | some d' =>
            have : d' ≠ t := fun h => h2 (by rw [hdi', h])
            simp only [Act.put, Array.getElem?_setIfInBounds_ne this]
            exact h1
        · intro k hk hdk
          rw [set_get (by omega)] at hdk
          rw [hfl]
          by_cases e : k = i
          · subst e; exact hphi
          · rw [if_neg e] at hdk
            have hni' : i ∉ clsAt cls k := fun h => by
              have := I.down k hdk i h
              rw [hnd] at this; cases this
            rw [res_upd e hni']
            exact hmono k _ _ w1 w' hb (I.says k hk hdk)
        · intro k hdk j hj
          rw [set_get (by omega)] at hdk ⊢
          by_cases e : k = i
          · subst e
            rw [hcd j hj]; simp
          · rw [if_neg e] at hdk
            rw [I.down k hdk j hj]; simp
        · intro k hk hkm hdk
          rw [set_get (by omega)] at hdk
          by_cases e : k = i
          · subst e
            obtain ⟨h1, h2⟩ := halc hk
            exact ⟨w1.heap.size, by simp [upd, h1], hsz, h2⟩
          · rw [if_neg e] at hdk
            obtain ⟨g, h1, h2, h3⟩ := I.alc1 k hk hkm hdk
            exact ⟨g, by simp [upd, e, h1], h2, Nat.lt_of_lt_of_le h3 hb.size⟩
        · intro k hk j hj hkm hjm' hdk hdj hne
          rw [set_get (by omega)] at hdk hdj
          by_cases e : k = i
          · subst e
            have e2 : j ≠ k := Ne.symm hne
            rw [if_neg e2] at hdj
            obtain ⟨h1, _⟩ := halc hk
            obtain ⟨g, h3, _, h5⟩ := I.alc1 j hj hjm' hdj
            simp only [upd, if_true, if_neg e2, h1, h3]
            intro h
            injection h with h
            injection h with h
            injection h with h
            omega
          · rw [if_neg e] at hdk
            by_cases e2 : j = i
            · subst e2
              obtain ⟨h1, _⟩ := halc hj
              obtain ⟨g, h3, _, h5⟩ := I.alc1 k hk hkm hdk
              simp only [upd, if_true, if_neg e, h1, h3]
              intro h
              injection h with h
              injection h with h
              injection h with h
              omega
            · rw [if_neg e2] at hdj
              simp only [upd, if_neg e, if_neg e2]
              exact I.alc2 k hk j hj hkm hjm' hdk hdj hne
        · intro k hk
          rw [set_get (by omega), if_neg (by omega)]
          exact I.high k hk
      · have hall : ∀ j, j < i → D.getD j false = true := fun j hj => hcd j (H.tail i o ho' him j hj)
        have him' : i = m := by
          rcases Nat.lt_or_ge m i with h | h
          · have := hall m h
            rw [I.high m (Nat.le_refl _)] at this; cases this
          · omega
        subst him'
        exact takeTail i rfl (Nat.le_refl _) (fun j => by
          by_cases h : j < i
          · rw [hall j h]; simp [h]
          · rw [I.high j (by omega)]; simp [h]) (hEnd D val a w1 I hall)
    · have hcd : ∀ j, j < i → D.getD j false = true := fun j hj => by
        have hmi : m ≤ i := by
          have := hD i
          rw [hnd] at this
          have : ¬ i < k := by simpa using this.symm
          omega
        have hdn : ∀ i, D.getD i false = true → ∀ j ∈ clsAt cls i, D.getD j false = true := by
          intro x hx y hy
          rw [hD] at hx ⊢
          have hx' : x < k := by simpa using hx
          obtain ⟨p, hp⟩ : ∃ p, L[x]? = some p := ⟨L[x]'(by omega), by simp [show x < L.length by omega]⟩
          have : ∀ (x : Nat) (p : Oper), L[x]? = some p → ∀ y ∈ clsAt cls x, y < x := by
            intro x
            induction x using Nat.strongRecOn with
            | ind x ih =>
              intro p hp y hy
              obtain ⟨e, he, hb, h⟩ := H.dep x p hp y hy
              have h1 := H.back x p hp e he hb
              rcases h with rfl | h
              · exact h1
              · obtain ⟨q, hq⟩ : ∃ q, L[e.on]? = some q := by
                  have : x < L.length := (List.getElem?_eq_some_iff.1 hp).1
                  exact ⟨L[e.on]'(by omega), by simp [show e.on < L.length by omega]⟩
                have := ih e.on h1 q hq y h
                omega
          have := this x p hp y hy
          simp
          omega
        exact tailDone D i o hdn ho' hdep j (H.tail i o ho' hmi j hj)
      have hik : k = i := by
        have h1 := hD i
        rw [hnd] at h1
        have h2 : ¬ i < k := by simpa using h1.symm
        rcases Nat.lt_or_ge k i with h | h
        · have := hcd k h
          rw [hD] at this
          simp at this
        · omega
      exact takeTail k hik (by omega) hD hw
  · intro D a w1 hs hI hall
    have hs' : D.size = L.length := by simpa using hs
    rcases hI with ⟨val, I⟩ | ⟨k, hmk, hkl, hD, hw⟩
    · have hmL : m = L.length := by
        rcases Nat.lt_or_ge m L.length with h | h
        · have := hall m (by simpa using h)
          rw [I.high m (Nat.le_refl _)] at this; cases this
        · omega
      have := hEnd D val a w1 I fun i hi => hall i (by simp; omega)
      rw [hmL, List.drop_length] at this
      exact this
    · have hk : k = L.length := by
        rcases Nat.lt_or_ge k L.length with h | h
        · have := hall k (by simpa using h)
          rw [hD] at this
          simp at this
        · omega
      rw [hk, List.drop_length] at hw
      exact hw
theorem ECI.regionO {id l : Nat} (hQ : ¬LetsOut Q) (hnd : noDefer L.toArray = true) (h : ∀ a, Env n σ a → RO P L.toArray Q a w) : ECI (some l) 0 P n [] (.region id L.toArray true) Q σ w := fun a ha =>
  wpIn_region_draw fun t => ops_round (noDefer_spec hnd) hQ _ _ _ (h a ha.e t)
/-! ### With deferred calls, outside of a round -/
def addD (ds : List Deferred) (a : Act) : Act := ⟨a.tmps, a.defers ++ ds⟩
theorem put_ds (ds : List Deferred) (a : Act) (d : Option Tmp) (v : Value) : (addD ds a).put d v = addD ds (a.put d v) := by cases d <;> rfl
theorem eval_ds (ds : List Deferred) (a : Act) : (addD ds a).eval = a.eval := by
  funext x
  cases x <;> rfl
theorem lets_ds {ds : List Deferred} (h : LetsOut (fun e a' w' => Q e (addD ds a') w')) : LetsOut Q := by
  obtain ⟨a, w, h⟩ := h
  exact ⟨_, w, h⟩
theorem oper_ds {ds : List Deferred} {o : Oper} {a : Act} {w : World} {K : Act → World → Prop} (h : o.wp P a w (fun a' w' => K (addD ds a') w') (fun e a' w' => Q e (addD ds a') w')) : o.wp P (addD ds a) w K Q := by
  unfold Oper.wp at h ⊢
  rw [eval_ds]
  generalize (execOp a.eval o).run P w = r at h ⊢
  have pd := fun d v => put_ds ds a d v
  cases r with
  | ok x w' =>
    cases x
    case value v => rw [Oper.upon_value] at h ⊢; rw [pd]; exact h
    case skip => rw [Oper.upon_skip] at h ⊢; rw [pd]; exact h
    case defer d =>
      rw [Oper.upon_defer] at h ⊢
      have e : ({ addD ds a with defers := d :: (addD ds a).defers } : Act).put o.dst undef = addD ds (({ a with defers := d :: a.defers } : Act).put o.dst undef) := by cases o.dst <;> rfl
      rw [e]
      exact h
    case enter f args =>
      rw [Oper.upon_enter] at h ⊢
      refine h.mono fun e w'' he => ?_
      cases e with
      | returned v => show K ((addD ds a).put o.dst v) w''; rw [pd]; exact he
      | panicked c => exact he
      | outgrown => exact lets_ds he
    case row row args =>
      intro c cs
      obtain ⟨v, w'', hv, hs⟩ := h c cs
      exact ⟨v, w'', by show K ((addD ds a).put o.dst v) w''; rw [pd]; exact hv, hs⟩
    all_goals exact h.elim
  | halt x w' => cases x <;> exact h
theorem ops_ds {ds : List Deferred} : ∀ (is : List Nat) (a : Act) (w : World), wpOps P L.toArray (fun e a' w' => Q e (addD ds a') w') is a w → wpOps P L.toArray Q is (addD ds a) w
  | [], _, _, h => h
  | i :: rest, a, w, h => by
    unfold wpOps at h ⊢
    cases ho : L.toArray[i]? with
    | none =>
      simp only [ho] at h ⊢
      exact ops_ds rest a w h
    | some o =>
      simp only [ho] at h ⊢
      by_cases hw : Region.wanted o (yielded L.toArray a.tmps) = true
      · rw [if_pos hw] at h
        rw [if_pos (show Region.wanted o (yielded L.toArray (addD ds a).tmps) = true from hw)]
        rcases h with h | h
        · exact .inl (oper_ds (Oper.wp_mono (fun a' w' h' => ops_ds rest a' w' h') h))
        · refine .inr ⟨?_, lets_ds h.2⟩
          unfold Oper.asks
          rw [eval_ds]
          exact h.1
      · rw [if_neg hw] at h
        rw [if_neg (show ¬Region.wanted o (yielded L.toArray (addD ds a).tmps) = true from hw), put_ds]
        exact ops_ds rest _ w h
theorem ECI.regionD {id : Nat} {k : Nat} {ds : List Deferred} (h : ∀ a, Env n σ a → RO P L.toArray (fun e a' w' => Q e (addD ds a') w') a w) : ECI none k P n ds (.region id L.toArray true) Q σ w := fun a ha => by
  refine wpIn_wide.2 (wp_region_draw fun t => ?_)
  have h1 := ops_ds _ _ _ (h ⟨a.tmps, []⟩ ha.env t)
  have e : addD ds ⟨a.tmps, []⟩ = a := by
    obtain ⟨tm, df⟩ := a
    have : df = ds := ha.ds
    subst this
    rfl
  rw [e] at h1
  exact h1
theorem EX.ofD {ds : List Deferred} (h : EXI n ds Q .normal σ w) : EX n (fun e a' w' => Q e (addD ds a') w') .normal σ w := fun a ha => h _ ⟨⟨ha.size, rfl, ha.get⟩, by show a.defers ++ ds = ds; rw [ha.defers]; rfl⟩
/-- a drawn region that only reads -/
theorem EO.regionQ (hm : P.follows .mixedOrders = true) (hB : lexQ L 0 L = true) (h : EQ P n L (fun w' => Below w.heap.size w w') (fun a' => ∀ w', Below w.heap.size w w' → Q .normal a' w') L σ) : ∀ a, Env n σ a → RO P L.toArray Q a w := fun a ha => by
  refine ro_any hm (wpAny_of_quiet (C := fun w' => Below w.heap.size w w') (Q := fun a' => ∀ w', Below w.heap.size w w' → Q .normal a' w') (fun _ w' hw' h => h w' hw') _ _ _ _ ⟨rfl, rfl, rfl, Nat.le_refl _, fun _ _ => rfl⟩ ?_)
  have := wpAnyQ_lexQ (C := fun w' => Below w.heap.size w w') (P := P) (Z := fun a' => ∀ w', Below w.heap.size w w' → Q .normal a' w') (fun j o cs b hj => lex_sel hB o (List.mem_of_getElem? (by simpa using hj)) cs b) L 0 (Array.replicate L.toArray.size false) a (by simp) (by simp) (fun j hj => by omega) (fun j _ hj => by simp [Array.getD, hj]) hB (h a ha)
  simpa using this
end
end Go.Proofs.Ytabgmnmpdjnjoaa
set_option linter.unusedVariables false
set_option linter.unusedSimpArgs false
namespace Go.Proofs.Ytabgmnmpdjnjoaa
open Go Go.RowKit
section
variable {n : Nat} {σ : Sg} {w : World} {dst : Option Tmp} {ty : TypeId} {pos : String} {af : Array Edge} {g : Option (Nat × Bool)} {x y z : Operand} {at' : Array TypeId}
theorem bx_77 {v0 : Value} (hx : evS σ x = some (v0)) (h1 : v0.oneCell' = true) (a : Act) (ha : Env n σ a) : (execOp a.eval ⟨dst, .box 77 x, ty, pos, af, g⟩).run Try.prog w = .ok (.value (.pointer (some ⟨w.heap.size, 0, none⟩))) (w.alloc (.cells #[v0] 77)) := by
  simp only [execOp, ha.eval hx]
  cases v0 <;> first | (simp [Value.oneCell'] at h1; done) | simp [go_sem, Value.cells]
theorem bx_29 {v0 : Value} (hx : evS σ x = some (v0)) (h1 : v0.oneCell' = true) (a : Act) (ha : Env n σ a) : (execOp a.eval ⟨dst, .box 29 x, ty, pos, af, g⟩).run Try.prog w = .ok (.value (.pointer (some ⟨w.heap.size, 0, none⟩))) (w.alloc (.cells #[v0] 29)) := by
  simp only [execOp, ha.eval hx]
  cases v0 <;> first | (simp [Value.oneCell'] at h1; done) | simp [go_sem, Value.cells]
theorem mf_83_0_2 {x0 x1 : Operand} {v0 v1 : Value} (h0 : evS σ x0 = some v0) (h1 : evS σ x1 = some v1) : Gives Try.prog n σ w ⟨dst, .makeFunc (.func 83) #[] #[x0, x1], ty, pos, af, g⟩ (.func (.func 83) #[] #[v0, v1]) := fun a ha => by
  simp only [execOp, List.map_toArray, List.map_cons, List.map_nil, ha.eval h0, ha.eval h1]
  simp [go_sem]
theorem ld_77 {b o : Nat} {v0 : Value} (hx : evS σ x = some (.pointer (some ⟨b, o, none⟩))) (c0 : w.cell? ⟨b, o, none⟩ = some v0) : Gives Try.prog n σ w ⟨dst, .load 77 x, ty, pos, af, g⟩ (v0) := fun a ha => by
  simp only [execOp, ha.eval hx]
  simp [go_sem, c0]
theorem ld_29 {b o : Nat} {v0 : Value} (hx : evS σ x = some (.pointer (some ⟨b, o, none⟩))) (c0 : w.cell? ⟨b, o, none⟩ = some v0) : Gives Try.prog n σ w ⟨dst, .load 29 x, ty, pos, af, g⟩ (v0) := fun a ha => by
  simp only [execOp, ha.eval hx]
  simp [go_sem, c0]
end
end Go.Proofs.Ytabgmnmpdjnjoaa
set_option linter.unusedVariables false
set_option linter.unusedSimpArgs false
namespace Go.Proofs.Ytabgmnmpdjnjoaa
open Go Go.RowKit
theorem back_fn {g n cb : Nat} {A : Option Addr} (w : World) : Calls Try.prog 69 #[.pointer (some ⟨g, 0, none⟩), .slice A n cb] w fun e w' => (∃ b1 b2, e = .returned (.func (.func 83) #[] #[.pointer (some ⟨b1, 0, none⟩), .pointer (some ⟨b2, 0, none⟩)]) ∧ Blk w' b1 77 #[.pointer (some ⟨g, 0, none⟩)] ∧ Blk w' b2 29 #[.slice A n cb] ∧ w.heap.size ≤ b1 ∧ w.heap.size ≤ b2 ∧ b1 ≠ b2) ∧ Below w.heap.size w w' := by
  have hbw := Below.refl w.heap.size w
  refine EC.enter 6 Try.func69 rfl rfl rfl ?_
  refine EC.seq ?_
  refine EC.region ?_
  refine EL.newP (bx_77 rfl rfl) rfl ?_
  intro g1 w1 q1 hb1 hg1 hl1
  have bhbw_1 := Nat.le_trans hbw.size hg1
  replace hbw := Below.on hbw hb1 hbw.size
  clear hb1 hg1 hl1
  refine EL.newP (bx_29 rfl rfl) rfl ?_
  intro g2 w2 q2 hb2 hg2 hl2
  have n1_2 : g1 ≠ g2 := Nat.ne_of_lt (Nat.lt_of_lt_of_le q1.lt hg2)
  have bhbw_2 := Nat.le_trans hbw.size hg2
  replace q1 := q1.below hb2 q1.lt
  replace hbw := Below.on hbw hb2 hbw.size
  clear hb2 hg2 hl2
  refine EL.val (x_assign rfl) rfl ?_
  refine EL.nil ?_
  refine EX.seq ?_
  refine EC.seq ?_
  refine EC.region ?_
  refine EL.val (mf_83_0_2 rfl rfl) rfl ?_
  refine EL.val (x_assign rfl) rfl ?_
  refine EL.nil ?_
  refine EX.seq ?_
  refine EC.ret ?_
  exact EX.done (res1 rfl rfl) ⟨⟨_, _, rfl, q1, q2, bhbw_1, bhbw_2, n1_2⟩, hbw⟩
def okI (x : It) (W : World) : Prop := x.2 = .int .i64 (x.1.getD 0 0)
def encL (qs : List Nat) : List (List Int) := qs.map fun a => [((a : Nat) : Int)]
theorem agree_nat {σ : Sg} {t a b : Nat} (h : a = b) (hs : σ t = some (.int .i64 (a : Nat))) : σ t = some (.int .i64 (b : Nat)) := by rw [hs, h]
/-- the arcs by which one comes back from a node, as they are told -/
def Back (L : List Arc) (b : List Int) (src : Nat) : Nat → List Nat → Prop
  | v, [] => v = src
  | v, a :: qs => v ≠ src ∧ v < b.length ∧ b.getD v 0 = ((a : Nat) : Int) ∧ a < L.length ∧ Back L b src (arcAt L a).fr qs
/-- what the iterator reads -/
structure BackAt (L : List Arc) (b : List Int) (p b1 b2 g gb n cb : Nat) (W : World) : Prop where
  b1 : Blk W b1 77 #[.pointer (some ⟨g, 0, none⟩)]
  b2 : Blk W b2 29 #[.slice (some ⟨gb, 0, none⟩) n cb]
  q : ∃ e1 va L2, Blk W g 114 #[.int .i64 (p : Nat), e1, va] ∧ Rd W W.heap.size 4 va L2.length (arcsC L2) ∧ L2.length = L.length ∧ ∀ i, (arcAt L2 i).fr = (arcAt L i).fr
  row : W.ownsRow 0 3 1 (.slice (some ⟨gb, 0, none⟩) n cb) n (ints b)
  len : b.length = n
theorem own_int_cell0 {w : World} {base g n c k : Nat} {l : List Int} (h : w.ownsRow base 3 1 (.slice (some ⟨g, 0, none⟩) n c) n (ints l)) (hk : k < l.length) : w.cell? ⟨g, 0 + k, none⟩ = some (.int .i64 (l.getD k 0)) := own_int_cell h hk
set_option maxHeartbeats 1000000 in
theorem back_iter (L : List Arc) (b : List Int) (p b1 b2 g gb n cb n0 : Nat) (S : List Nat) (qs0 : List Nat) (w : World) (hp : p ≤ 60) (hn0 : n0 ≤ w.heap.size) (hback : Back L b p (p + 1) qs0) : IterAtN (BackAt L b p b1 b2 g gb n cb) Try.prog 83 #[.pointer (some ⟨b1, 0, none⟩), .pointer (some ⟨b2, 0, none⟩)] okI n0 S (encL qs0) w := by
  intro l J Jx W hkW hNd hJ hJx hY hJ0
  have hkp := Kp.refl n0 S W
  have hn0W := Nat.le_trans hn0 hkW.size
  change Calls Try.prog 83 #[.func (.yield l) #[] #[], .pointer (some ⟨b1, 0, none⟩), .pointer (some ⟨b2, 0, none⟩)] W _
  have hnd := hNd _ _ hJ0
  refine EC.enter 29 Try.func83 rfl rfl rfl ?_
  refine EC.seq ?_
  refine EC.region ?_
  refine EL.val (ld_77 rfl (hnd.b1.at (j := 0) rfl)) rfl ?_
  obtain ⟨e1_, va_, L_, hG, hrL, hsh⟩ := hnd.q
  refine EL.call (cl_67 rfl) rfl (sink_any _ _ hG (by omega)) ?_
  rintro e w1 ⟨rfl, hc1⟩
  refine ⟨_, rfl, ?_⟩
  replace hkp := hkp.trans (Kp.of_below hc1 (Nat.le_trans hn0W hkp.size))
  replace hJ0 := hJ _ _ _ hJ0 hc1
  have hnd := hNd _ _ hJ0
  clear hc1
  refine EL.val (x_assign rfl) rfl ?_
  refine EL.nil ?_
  refine EX.seq ?_
  refine EC.block ?_
  refine EC.loopD [4, 7, 8, 9, 10, 11, 12, 13, 14, 15, 16, 17, 18, 19, 20, 21, 22, 23, 24, 25, 26, 27, 28] (fun x : List It × Nat × List Nat => [(4, .int .i64 (x.2.1 : Nat))]) (fun x W1 => x.1.map (·.1) ++ encL x.2.2 = encL qs0 ∧ Back L b p x.2.1 x.2.2 ∧ Kp n0 S W W1 ∧ J x.1 W1) (fun x => x.2.2.length) ([], p + 1, qs0) ⟨rfl, hback, hkp, hJ0⟩ ⟨rfl, trivial⟩ ?_
  clear hkp hJ0
  rintro ⟨pre, v, qs⟩ wx ⟨hall, hB, hkp, hJ0⟩
  dsimp only at hall hB hJ0
  have hnd := hNd _ _ hJ0
  cases qs with
  | nil =>
      have hvs : v = p := hB
      refine EC.seq ?_
      refine EC.seq ?_
      refine EC.region ?_
      refine EL.val (x_move rfl) rfl ?_
      refine EL.val (ld_77 rfl (hnd.b1.at (j := 0) rfl)) rfl ?_
      obtain ⟨e1_, va_, L_, hG, hrL, hsh⟩ := hnd.q
      refine EL.call (cl_66 rfl) rfl (source_any _ _ hG (by omega)) ?_
      rintro e w2 ⟨rfl, hc2⟩
      refine ⟨_, rfl, ?_⟩
      replace hkp := hkp.trans (Kp.of_below hc2 (Nat.le_trans hn0W hkp.size))
      replace hJ0 := hJ _ _ _ hJ0 hc2
      have hnd := hNd _ _ hJ0
      clear hc2
      refine EL.val (x_neq (r := false) rfl rfl (decide_eq_false (by rw [hvs]; exact fun h => h rfl))) rfl ?_
      refine EL.nil ?_
      refine EX.seq ?_
      refine EC.no rfl ?_
      refine EC.exit ?_
      refine EX.seq_exit ?_
      refine EX.seq_exit ?_
      refine EX.blk_here ?_
      exact EX.done' (res0 rfl) ⟨⟨_, rfl⟩, hkp, .inl ⟨pre, by rw [← hall]; simp [encL], hJ0⟩⟩
  | cons a qs =>
      obtain ⟨hvp, hvN, hbv, haL, hB2⟩ := hB
      have hbl := hnd.len
      refine EC.seq ?_
      refine EC.seq ?_
      refine EC.region ?_
      refine EL.val (x_move rfl) rfl ?_
      refine EL.val (ld_77 rfl (hnd.b1.at (j := 0) rfl)) rfl ?_
      obtain ⟨e1_, va_, L_, hG, hrL, hsh⟩ := hnd.q
      refine EL.call (cl_66 rfl) rfl (source_any _ _ hG (by omega)) ?_
      rintro e w3 ⟨rfl, hc3⟩
      refine ⟨_, rfl, ?_⟩
      replace hkp := hkp.trans (Kp.of_below hc3 (Nat.le_trans hn0W hkp.size))
      replace hJ0 := hJ _ _ _ hJ0 hc3
      have hnd := hNd _ _ hJ0
      clear hc3
      refine EL.val (x_neq (r := true) rfl rfl (decide_eq_true (fun h => hvp (by have h2 : ((v : Nat) : Int) = ((p : Nat) : Int) := h; omega)))) rfl ?_
      refine EL.nil ?_
      refine EX.seq ?_
      refine EC.yes rfl ?_
      refine EC.skip ?_
      refine EX.seq ?_
      refine EC.seq ?_
      refine EC.block ?_
      refine EC.seq ?_
      have hcell := own_int_cell0 hnd.row (k := v) (by omega)
      rw [hbv] at hcell
      refine EC.inn (k := 0) ?_
      refine ECI.region ?_
      refine ELI.val (x_move rfl) rfl ?_
      refine ELI.val (ld_29 rfl (hnd.b2.at (j := 0) rfl)) rfl ?_
      refine ELI.val (x_move rfl) rfl ?_
      refine ELI.val (ix_29 rfl rfl (show v < n by omega)) rfl ?_
      refine ELI.val (ld_3 rfl hcell) rfl ?_
      have hpf : (pre ++ [([((a : Nat) : Int)], Value.int .i64 ((a : Nat) : Int))]).map (·.1) <+: encL qs0 := by rw [← hall, List.map_append]; exact (List.prefix_append_right_inj _).2 ⟨encL qs, rfl⟩
      obtain ⟨fn_, tmps_, assign_, body_, hi_, hR_⟩ := hY pre ([((a : Nat) : Int)], .int .i64 ((a : Nat) : Int)) _ rfl hJ0 hpf
      refine ELI.yield rfl rfl rfl hi_ hR_ ?_
      rintro e wy ⟨hky, ⟨rfl, hJy⟩ | ⟨rfl, hJy⟩⟩
      ·
        refine ⟨_, rfl, ?_⟩
        refine ELI.val (x_not rfl) rfl ?_
        refine ELI.nil ?_
        refine EXI.of ?_
        replace hkp := hkp.trans hky
        have hJ0 := hJy
        have hnd := hNd _ _ hJ0
        refine EX.seq ?_
        refine EC.no rfl ?_
        refine EC.skip ?_
        refine EX.blk ?_
        refine EX.seq ?_
        obtain ⟨e1_, va_, L2, hG, hrL, hlen2, hsh⟩ := hnd.q
        obtain ⟨AL2, cL2, rfl, _⟩ := hrL.shape
        have hcell := own_int_cell0 hnd.row (k := v) (by omega)
        rw [hbv] at hcell
        obtain ⟨bq, oq, e_, _, ac⟩ := arcs_cells L2 a (by omega) _ _ _ _ _ hrL
        subst e_
        have hfr := hsh a
        refine EC.regionQ (by kernel_rfl) (by kernel_rfl) ?_
        refine EQ.val (fun _ hw => (ld_77 rfl (below_load hw (hnd.b1.at (j := 0) rfl)))) rfl ?_
        refine EQ.val (fun _ hw => (x_nilCheck rfl)) rfl ?_
        refine EQ.val (fun _ hw => (fa_114_2 rfl)) rfl ?_
        refine EQ.val (fun _ hw => (ld_112 rfl (below_load hw (hG.at (j := 2) rfl)))) rfl ?_
        refine EQ.val (fun _ hw => (ld_29 rfl (below_load hw (hnd.b2.at (j := 0) rfl)))) rfl ?_
        refine EQ.val (fun _ hw => (x_move rfl)) rfl ?_
        refine EQ.val (fun _ hw => (ix_29 rfl rfl (show v < n by omega))) rfl ?_
        refine EQ.val (fun _ hw => (ld_3 rfl (below_load hw hcell))) rfl ?_
        refine EQ.val (fun _ hw => (ix_112 rfl rfl (by omega))) rfl ?_
        refine EQ.val (fun _ hw => (fa_122_0 rfl)) rfl ?_
        refine EQ.val (fun _ hw => (ld_3 rfl (below_load hw ac.c0))) rfl ?_
        refine EQ.val (fun _ hw => (x_assign rfl)) rfl ?_
        refine EQ.fin (fun w4 hw_ => ?_)
        replace hkp := hkp.trans (Kp.of_below hw_ (Nat.le_trans hn0W hkp.size))
        replace hJ0 := hJ _ _ _ hJ0 hw_
        have hnd := hNd _ _ hJ0
        clear hw_
        refine EX.roundD (pre ++ [([((a : Nat) : Int)], .int .i64 ((a : Nat) : Int))], (arcAt L a).fr, qs) ⟨agree_nat hfr rfl, trivial⟩ (by repeat first | with_reducible exact Sub.refl _ | refine sub_past rfl ?_ | exact Sub.refl _ | refine sub_del rfl ?_ | refine sub_insL_nil ?_) ⟨by rw [← hall, List.map_append, List.append_assoc]; rfl, hB2, hkp, hJ0⟩ (by simp)
      ·
        refine ⟨_, rfl, ?_⟩
        refine ELI.val (x_not rfl) rfl ?_
        refine ELI.nil ?_
        refine EXI.of ?_
        replace hkp := hkp.trans hky
        refine EX.seq ?_
        refine EC.yes rfl ?_
        refine EC.ret ?_
        refine EX.blk_ret ?_
        refine EX.seq_ret ?_
        refine EX.seq_ret ?_
        refine EX.blk_ret ?_
        exact EX.done (res0 rfl) ⟨⟨_, rfl⟩, hkp, .inr ⟨pre ++ [_], by simp, hpf, hJy⟩⟩
end Go.Proofs.Ytabgmnmpdjnjoaa
set_option linter.unusedVariables false
set_option linter.unusedSimpArgs false
namespace Go.Proofs.Ytabgmnmpdjnjoaa
def mate (a : Nat) : Nat := if a % 2 = 0 then a + 1 else a - 1
theorem mate_mate (a : Nat) : mate (mate a) = a := by
  unfold mate
  by_cases h : a % 2 = 0
  · rw [if_pos h, if_neg (by omega)]; omega
  · rw [if_neg h, if_pos (by omega)]; omega
theorem mate_ne (a : Nat) : mate a ≠ a := by unfold mate; split <;> omega
def setRoom (L : List Arc) (i : Nat) (r : Int) : List Arc := L.set i ⟨(arcAt L i).fr, (arcAt L i).to, (arcAt L i).cost, r⟩
/-- hulls more on an arc, and fewer on its opposite -/
def pushArc (h : Int) (L : List Arc) (a : Nat) : List Arc := setRoom (setRoom L a ((arcAt L a).room - h)) (mate a) ((arcAt (setRoom L a ((arcAt L a).room - h)) (mate a)).room + h)
def pushAll (h : Int) (L : List Arc) (cs : List Nat) : List Arc := cs.foldl (pushArc h) L
theorem setRoom_len {L : List Arc} {i : Nat} {r : Int} : (setRoom L i r).length = L.length := by simp [setRoom]
theorem setRoom_at {L : List Arc} {i j : Nat} {r : Int} (hi : i < L.length) : arcAt (setRoom L i r) j = if j = i then ⟨(arcAt L i).fr, (arcAt L i).to, (arcAt L i).cost, r⟩ else arcAt L j := by
  by_cases h : j = i
  · subst h
    rw [if_pos rfl]
    simp [setRoom, arcAt, List.getD, hi]
  · rw [if_neg h]
    simp [setRoom, arcAt, List.getD, List.getElem?_set, Ne.symm h]
section
variable {L : List Arc} {h : Int} {a : Nat}
theorem push_len : (pushArc h L a).length = L.length := by rw [pushArc, setRoom_len, setRoom_len]
theorem push_room (ha : a < L.length) (hm : mate a < L.length) (j : Nat) : (arcAt (pushArc h L a) j).fr = (arcAt L j).fr ∧ (arcAt (pushArc h L a) j).to = (arcAt L j).to ∧ (arcAt (pushArc h L a) j).cost = (arcAt L j).cost ∧
    (arcAt (pushArc h L a) j).room = (arcAt L j).room + (if j = mate a then h else 0) - (if j = a then h else 0) := by
  unfold pushArc
  have hne := mate_ne a
  rw [setRoom_at (by rw [setRoom_len]; exact hm)]
  by_cases h1 : j = mate a
  · rw [if_pos h1, if_pos h1]
    subst h1
    rw [if_neg hne, setRoom_at ha, if_neg hne]
    exact ⟨rfl, rfl, rfl, by show _ + h = _; omega⟩
  · rw [if_neg h1, if_neg h1, setRoom_at ha]
    by_cases h2 : j = a
    · rw [if_pos h2, if_pos h2]
      subst h2
      exact ⟨rfl, rfl, rfl, by show _ - h = _; omega⟩
    · rw [if_neg h2, if_neg h2]
      exact ⟨rfl, rfl, rfl, by omega⟩
end
/-- the arcs of a net, with some flow: arcs come in pairs -/
structure Good (L0 L : List Arc) : Prop where
  len : L.length = L0.length
  shape : ∀ i, (arcAt L i).fr = (arcAt L0 i).fr ∧ (arcAt L i).to = (arcAt L0 i).to ∧ (arcAt L i).cost = (arcAt L0 i).cost
  nn : ∀ i, i < L.length → 0 ≤ (arcAt L i).room
  pair : ∀ i, i < L.length → (arcAt L i).room + (arcAt L (mate i)).room = (arcAt L0 i).room + (arcAt L0 (mate i)).room
/-- the arcs come in pairs, there and back -/
structure Pairs (L0 : List Arc) : Prop where
  mate : ∀ i, i < L0.length → mate i < L0.length
  back : ∀ i, i < L0.length → (arcAt L0 (Proofs.Ytabgmnmpdjnjoaa.mate i)).fr = (arcAt L0 i).to ∧ (arcAt L0 (Proofs.Ytabgmnmpdjnjoaa.mate i)).to = (arcAt L0 i).fr ∧ (arcAt L0 (Proofs.Ytabgmnmpdjnjoaa.mate i)).cost = -(arcAt L0 i).cost
theorem Good.push {L0 L : List Arc} {h : Int} {a : Nat} (hP : Pairs L0) (hG : Good L0 L) (ha : a < L.length) (h0 : 0 ≤ h) (hr : h ≤ (arcAt L a).room) : Good L0 (pushArc h L a) := by
  have hm : mate a < L.length := by rw [hG.len] at ha ⊢; exact hP.mate a ha
  have key := push_room (h := h) ha hm
  refine ⟨by rw [push_len]; exact hG.len, fun i => ?_, fun i hi => ?_, fun i hi => ?_⟩
  · obtain ⟨h1, h2, h3, _⟩ := key i
    obtain ⟨g1, g2, g3⟩ := hG.shape i
    exact ⟨h1.trans g1, h2.trans g2, h3.trans g3⟩
  · rw [push_len] at hi
    have := hG.nn i hi
    have hne := mate_ne a
    rw [(key i).2.2.2]
    by_cases h1 : i = a
    · subst h1; rw [if_neg (Ne.symm hne), if_pos rfl]; omega
    · rw [if_neg h1]; split <;> omega
  · rw [push_len] at hi
    have := hG.pair i hi
    rw [(key i).2.2.2, (key (mate i)).2.2.2]
    have hmm := mate_mate a
    have hmi := mate_mate i
    by_cases h1 : i = a
    · subst h1
      have := mate_ne i
      rw [if_neg (Ne.symm this), if_pos rfl, if_pos rfl, if_neg this]; omega
    · by_cases h2 : i = mate a
      · have hna := mate_ne a
        rw [h2, hmm] at this ⊢
        rw [if_pos rfl, if_neg hna, if_neg (Ne.symm hna), if_pos rfl]; omega
      · have h3 : mate i ≠ mate a := fun e => h1 (by rw [← hmi, e, hmm])
        have h4 : mate i ≠ a := fun e => h2 (by rw [← e, hmi])
        rw [if_neg h2, if_neg h1, if_neg h3, if_neg h4]; omega
/-! ### What goes into a node -/
/-- what goes into a node more than out of it, by the first edges -/
def balTo (L : List Arc) (v : Nat) : Nat → Int
  | 0 => 0
  | j + 1 => balTo L v j + ((if (arcAt L (2 * j)).to = v then (arcAt L (2 * j + 1)).room else 0) - (if (arcAt L (2 * j)).fr = v then (arcAt L (2 * j + 1)).room else 0))
def bal (L : List Arc) (v : Nat) : Int := balTo L v (L.length / 2)
theorem ite_add {p : Prop} [Decidable p] (x h : Int) : (if p then x + h else 0) = (if p then x else 0) + (if p then h else 0) := by split <;> omega
theorem ite_sub {p : Prop} [Decidable p] (x h : Int) : (if p then x - h else 0) = (if p then x else 0) - (if p then h else 0) := by split <;> omega
theorem bal_push {L0 L : List Arc} {h : Int} {a : Nat} (hP : Pairs L0) (hG : Good L0 L) (ha : a < L.length) (v : Nat) (hne : (arcAt L a).fr ≠ (arcAt L a).to) :
    bal (pushArc h L a) v = bal L v + (if (arcAt L a).to = v then h else 0) - (if (arcAt L a).fr = v then h else 0) := by
  have hm : mate a < L.length := by rw [hG.len] at ha ⊢; exact hP.mate a ha
  have key := push_room (h := h) ha hm
  have hb := hP.back a (by rw [← hG.len]; exact ha)
  have hs := hG.shape
  have hbf : (arcAt L (mate a)).fr = (arcAt L a).to := by rw [(hs _).1, hb.1, (hs a).2.1]
  have hbt : (arcAt L (mate a)).to = (arcAt L a).fr := by rw [(hs _).2.1, hb.2.1, (hs a).1]
  have gen : ∀ j, balTo (pushArc h L a) v j = balTo L v j + (if a / 2 < j then (if (arcAt L a).to = v then h else 0) - (if (arcAt L a).fr = v then h else 0) else 0) := by
    intro j
    induction j with
    | zero => simp [balTo]
    | succ j ih =>
      rw [balTo, balTo, ih, (key (2 * j)).1, (key (2 * j)).2.1, (key (2 * j + 1)).2.2.2]
      by_cases h1 : a / 2 = j
      · have h2 : a = 2 * j ∨ a = 2 * j + 1 := by omega
        rw [if_neg (show ¬a / 2 < j by omega), if_pos (show a / 2 < j + 1 by omega)]
        rcases h2 with rfl | rfl
        · have hmt : mate (2 * j) = 2 * j + 1 := by unfold mate; rw [if_pos (by omega)]
          rw [if_pos hmt.symm, if_neg (show ¬2 * j + 1 = 2 * j by omega), Int.sub_zero, ite_add, ite_add]
          omega
        · have hmt : mate (2 * j + 1) = 2 * j := by unfold mate; rw [if_neg (by omega)]; omega
          rw [hmt] at hbf hbt
          rw [if_neg (show ¬2 * j + 1 = mate (2 * j + 1) by rw [hmt]; omega), if_pos rfl, ← hbf, ← hbt, Int.add_zero, ite_sub, ite_sub]
          omega
      · have h2 : 2 * j + 1 ≠ mate a := by unfold mate; split <;> omega
        have h3 : 2 * j + 1 ≠ a := by omega
        rw [if_neg h2, if_neg h3, Int.add_zero, Int.sub_zero]
        by_cases h4 : a / 2 < j
        · rw [if_pos h4, if_pos (show a / 2 < j + 1 by omega)]; omega
        · rw [if_neg h4, if_neg (show ¬a / 2 < j + 1 by omega)]; omega
  unfold bal
  rw [push_len, gen, if_pos (by rw [hG.len] at *; have h1 := hP.mate a ha; unfold mate at h1; split at h1 <;> omega)]
  omega
/-! ### A way, backwards -/
/-- arcs from a node back to another one -/
def Path (L : List Arc) : List Nat → Nat → Nat → Prop
  | [], v, s => v = s
  | a :: cs, v, s => a < L.length ∧ (arcAt L a).to = v ∧ Path L cs (arcAt L a).fr s
theorem Path.shape {L L' : List Arc} (hl : L'.length = L.length) (hs : ∀ i, (arcAt L' i).fr = (arcAt L i).fr ∧ (arcAt L' i).to = (arcAt L i).to) : ∀ {cs : List Nat} {v s : Nat}, Path L cs v s → Path L' cs v s
  | [], _, _, h => h
  | a :: cs, v, s, ⟨h1, h2, h3⟩ => ⟨by rw [hl]; exact h1, by rw [(hs a).2]; exact h2, by rw [(hs a).1]; exact h3.shape hl hs⟩
/-- hulls that are moved along a way -/
theorem pushAll_good {L0 : List Arc} (hP : Pairs L0) (hloop : ∀ i, i < L0.length → (arcAt L0 i).fr ≠ (arcAt L0 i).to) {h : Int} (h0 : 0 ≤ h) : ∀ (cs : List Nat) (L : List Arc) (v s : Nat), Good L0 L → Path L cs v s → cs.Nodup → (∀ a ∈ cs, h ≤ (arcAt L a).room) →
    Good L0 (pushAll h L cs) ∧ (∀ x, bal (pushAll h L cs) x = bal L x + (if v = x then h else 0) - (if s = x then h else 0)) ∧
    ∀ j, j < L.length → 0 < (arcAt (pushAll h L cs) j).room → 0 < (arcAt L j).room ∨ ∃ a ∈ cs, j = mate a
  | [], L, v, s, hG, hp, _, _ => ⟨hG, fun x => by have e : v = s := hp; subst e; show bal L x = _; omega, fun j _ hj => .inl hj⟩
  | a :: cs, L, v, s, hG, ⟨ha, hto, hp⟩, hd, hr => by
    have hd' := List.nodup_cons.1 hd
    have hra := hr a List.mem_cons_self
    have hG2 := hG.push hP ha h0 hra
    have hm : mate a < L.length := by rw [hG.len] at ha ⊢; exact hP.mate a ha
    have key := push_room (h := h) ha hm
    have hne : (arcAt L a).fr ≠ (arcAt L a).to := by rw [(hG.shape a).1, (hG.shape a).2.1]; exact hloop a (by rw [← hG.len]; exact ha)
    obtain ⟨g1, g2, g3⟩ := pushAll_good hP hloop h0 cs (pushArc h L a) (arcAt L a).fr s hG2 (hp.shape push_len fun i => ⟨(key i).1, (key i).2.1⟩) hd'.2 fun b hb => by
      have := hr b (List.mem_cons_of_mem _ hb)
      rw [(key b).2.2.2, if_neg (show ¬b = a from fun e => hd'.1 (e ▸ hb))]
      split <;> omega
    refine ⟨g1, fun x => ?_, fun j hj hpos => ?_⟩
    · show bal (pushAll h (pushArc h L a) cs) x = _
      rw [g2, bal_push hP hG ha x hne, hto]
      omega
    · rcases g3 j (by rw [push_len]; exact hj) hpos with h1 | ⟨b, hb, e⟩
      · rw [(key j).2.2.2] at h1
        by_cases e : j = mate a
        · exact .inr ⟨a, List.mem_cons_self, e⟩
        · rw [if_neg e] at h1
          refine .inl ?_
          by_cases e2 : j = a
          · rw [if_pos e2] at h1; omega
          · rw [if_neg e2] at h1; omega
      · exact .inr ⟨b, List.mem_cons_of_mem _ hb, e⟩
/-! ### The way back cs the rounds tell it -/
def chainL (L : List Arc) (b : List Int) : Nat → Nat → List Nat
  | 0, _ => []
  | k + 1, v => (b.getD v 0).toNat :: chainL L b k (arcAt L (b.getD v 0).toNat).fr
section
variable {L : List Arc} {N : Nat} {R : Nat → Prop} {π init : Nat → Int} {s : BF}
theorem InvB.chain {src : Nat} (hA : ArcsOk L N) (h : InvB L N R π init s) (hx : Fixed L s) (h0 : ∀ v, v < N → init v < farI → v = src) : ∀ {v k : Nat}, Up L s.by_ v k → v < N → s.l.getD v 0 < farI →
    Path L (chainL L s.by_ k v) v src ∧ (chainL L s.by_ k v).Nodup ∧ ∀ a ∈ chainL L s.by_ k v, 0 < (arcAt L a).room ∧ s.l.getD (arcAt L a).fr 0 < farI ∧ s.l.getD (arcAt L a).to 0 = s.l.getD (arcAt L a).fr 0 + (arcAt L a).cost ∧ ∃ j, j ≤ k ∧ Up L s.by_ (arcAt L a).to j ∧ 0 < j
  | v, _, .root hb, hv, hf => by
    have h1 := h.root v hv hb
    exact ⟨h0 v hv (by omega), List.nodup_nil, fun a ha => by cases ha⟩
  | v, _, .step (k := k) (i := i) hb hu, hv, hf => by
    rcases h.arc v hv with h1 | ⟨j, hj, hbj, hto, hroom, hfr, hle, _⟩
    · omega
    · have e : i = j := by omega
      subst e
      have hfN := hA.fr i hj
      obtain ⟨g1, g2, g3⟩ := InvB.chain hA h hx h0 hu hfN hfr
      have hle2 := hx.le hj hroom hfr
      have ei : (s.by_.getD v 0).toNat = i := by omega
      rw [chainL, ei]
      refine ⟨⟨hj, hto, g1⟩, List.nodup_cons.2 ⟨fun hm => ?_, g2⟩, fun a ha => ?_⟩
      · obtain ⟨_, _, _, m, hm1, hm2, _⟩ := g3 i hm
        rw [hto] at hm2
        have := hm2.one (.step hb hu)
        omega
      · rcases List.mem_cons.1 ha with rfl | ha
        · refine ⟨hroom, hfr, by rw [hto] at hle2 ⊢; omega, k + 1, Nat.le_refl _, ?_, Nat.succ_pos _⟩
          rw [hto]
          exact .step hb hu
        · obtain ⟨q1, q2, q3, m, q4, q5⟩ := g3 a ha
          exact ⟨q1, q2, q3, m, by omega, q5⟩
end
end Go.Proofs.Ytabgmnmpdjnjoaa
set_option linter.unusedVariables false
set_option linter.unusedSimpArgs false
namespace Go.Proofs.Ytabgmnmpdjnjoaa
section
variable {nt : Net}
theorem range_get {α : Type} {f : Nat → List α} {m : Nat} (hf : ∀ i, (f i).length = m) : ∀ {k q r : Nat}, q < k → r < m → ((List.range k).flatMap f)[q * m + r]? = (f q)[r]?
  | k + 1, q, r, hq, hr => by
    have hl : ∀ k, ((List.range k).flatMap f).length = k * m := by
      intro k
      induction k with
      | zero => simp
      | succ k ih => rw [flat_succ, List.length_append, ih, hf, Nat.succ_mul]
    rw [flat_succ]
    by_cases e : q = k
    · subst e
      rw [List.getElem?_append_right (by rw [hl]; omega), hl]
      congr 1
      omega
    · have h1 : (q + 1) * m ≤ k * m := Nat.mul_le_mul_right m (by omega)
      rw [Nat.succ_mul] at h1
      rw [List.getElem?_append_left (by rw [hl]; omega)]
      exact range_get hf (by omega) hr
theorem arc_of {L : List Arc} {i : Nat} {a : Arc} (h : L[i]? = some a) : arcAt L i = a := by simp [arcAt, List.getD, h]
theorem open_way {j : Nat} (hj : j < nt.ways.length) : arcAt (openL nt) (2 * j) = ⟨(nt.ways.getD j way0).fr.toNat, (nt.ways.getD j way0).to.toNat, (nt.ways.getD j way0).cost, (nt.ways.getD j way0).room⟩ ∧ arcAt (openL nt) (2 * j + 1) = ⟨(nt.ways.getD j way0).to.toNat, (nt.ways.getD j way0).fr.toNat, -(nt.ways.getD j way0).cost, 0⟩ := by
  have g : ∀ r, r < 2 → (openL nt)[2 * j + r]? = (wayA (nt.ways.getD j way0))[r]? := fun r hr => by
    unfold openL
    rw [List.getElem?_append_left (by rw [wayL_len]; omega)]
    have := range_get (f := fun i => wayA (nt.ways.getD i way0)) (m := 2) (fun _ => rfl) hj hr
    rw [Nat.mul_comm] at this
    exact this
  exact ⟨arc_of (g 0 (by omega)), arc_of (g 1 (by omega))⟩
theorem open_port {q : Nat} (hq : q < nt.ports.length) : arcAt (openL nt) (2 * nt.ways.length + 4 * q) = ⟨nt.ports.length, q, 0, (nt.ports.getD q prt0).has⟩ ∧ arcAt (openL nt) (2 * nt.ways.length + 4 * q + 1) = ⟨q, nt.ports.length, 0, 0⟩ ∧ arcAt (openL nt) (2 * nt.ways.length + 4 * q + 2) = ⟨q, nt.ports.length + 1, 0, (nt.ports.getD q prt0).wants⟩ ∧ arcAt (openL nt) (2 * nt.ways.length + 4 * q + 3) = ⟨nt.ports.length + 1, q, 0, 0⟩ := by
  have g : ∀ r, r < 4 → (openL nt)[2 * nt.ways.length + 4 * q + r]? = (prtA nt q)[r]? := fun r hr => by
    unfold openL
    rw [List.getElem?_append_right (by rw [wayL_len]; omega), wayL_len]
    have := range_get (f := prtA nt) (m := 4) (fun _ => rfl) hq hr
    rw [show 2 * nt.ways.length + 4 * q + r - nt.ways.length * 2 = q * 4 + r by omega]
    exact this
  exact ⟨arc_of (g 0 (by omega)), arc_of (g 1 (by omega)), arc_of (g 2 (by omega)), arc_of (g 3 (by omega))⟩
theorem open_cases {i : Nat} (hi : i < (openL nt).length) : (∃ j, j < nt.ways.length ∧ (i = 2 * j ∨ i = 2 * j + 1)) ∨ ∃ q, q < nt.ports.length ∧ (i = 2 * nt.ways.length + 4 * q ∨ i = 2 * nt.ways.length + 4 * q + 1 ∨ i = 2 * nt.ways.length + 4 * q + 2 ∨ i = 2 * nt.ways.length + 4 * q + 3) := by
  rw [openL_len] at hi
  by_cases h : i < 2 * nt.ways.length
  · exact .inl ⟨i / 2, by omega, by omega⟩
  · exact .inr ⟨(i - 2 * nt.ways.length) / 4, by omega, by omega⟩
theorem mate_even (j : Nat) : mate (2 * j) = 2 * j + 1 := by unfold mate; rw [if_pos (by omega)]
theorem mate_odd (j : Nat) : mate (2 * j + 1) = 2 * j := by unfold mate; rw [if_neg (by omega)]; omega
theorem open_pairs : Pairs (openL nt) := ⟨fun i hi => by
  rw [openL_len] at hi ⊢
  unfold mate
  split <;> omega, fun i hi => by
  rcases open_cases hi with ⟨j, hj, rfl | rfl⟩ | ⟨q, hq, rfl | rfl | rfl | rfl⟩
  · rw [mate_even, (open_way hj).1, (open_way hj).2]; exact ⟨rfl, rfl, rfl⟩
  · rw [mate_odd, (open_way hj).1, (open_way hj).2]; exact ⟨rfl, rfl, (Int.neg_neg _).symm⟩
  · rw [show 2 * nt.ways.length + 4 * q = 2 * (nt.ways.length + 2 * q) by omega, mate_even, show 2 * (nt.ways.length + 2 * q) = 2 * nt.ways.length + 4 * q by omega, (open_port hq).1, (open_port hq).2.1]; exact ⟨rfl, rfl, rfl⟩
  · rw [show 2 * nt.ways.length + 4 * q + 1 = 2 * (nt.ways.length + 2 * q) + 1 by omega, mate_odd, show 2 * (nt.ways.length + 2 * q) = 2 * nt.ways.length + 4 * q by omega, (open_port hq).1, (open_port hq).2.1]; exact ⟨rfl, rfl, rfl⟩
  · rw [show 2 * nt.ways.length + 4 * q + 2 = 2 * (nt.ways.length + 2 * q + 1) by omega, mate_even, show 2 * (nt.ways.length + 2 * q + 1) + 1 = 2 * nt.ways.length + 4 * q + 3 by omega, show 2 * (nt.ways.length + 2 * q + 1) = 2 * nt.ways.length + 4 * q + 2 by omega, (open_port hq).2.2.1, (open_port hq).2.2.2]; exact ⟨rfl, rfl, rfl⟩
  · rw [show 2 * nt.ways.length + 4 * q + 3 = 2 * (nt.ways.length + 2 * q + 1) + 1 by omega, mate_odd, show 2 * (nt.ways.length + 2 * q + 1) + 1 = 2 * nt.ways.length + 4 * q + 3 by omega, show 2 * (nt.ways.length + 2 * q + 1) = 2 * nt.ways.length + 4 * q + 2 by omega, (open_port hq).2.2.1, (open_port hq).2.2.2]; exact ⟨rfl, rfl, rfl⟩⟩
/-- what each arc of a valid net is like -/
theorem open_each (hv : netB nt = true) {i : Nat} (hi : i < (openL nt).length) : ((arcAt (openL nt) i).fr < nt.ports.length + 2 ∧ (arcAt (openL nt) i).to < nt.ports.length + 2) ∧ (-1000000 ≤ (arcAt (openL nt) i).cost ∧ (arcAt (openL nt) i).cost ≤ 1000000) ∧ (0 ≤ (arcAt (openL nt) i).room ∧ (arcAt (openL nt) i).room ≤ 1000) ∧ (arcAt (openL nt) i).fr ≠ (arcAt (openL nt) i).to ∧ (0 < (arcAt (openL nt) i).room → i % 2 = 0 ∧ 0 ≤ (arcAt (openL nt) i).cost) := by
  obtain ⟨⟨hp1, hp60⟩, hw300, hvp, hvw⟩ := netB_ok hv
  rcases open_cases hi with ⟨j, hj, rfl | rfl⟩ | ⟨q, hq, rfl | rfl | rfl | rfl⟩
  · rw [(open_way hj).1]
    obtain ⟨h1, h2, h3, h4, h5⟩ := hvw j hj
    simp only
    refine ⟨by omega, by omega, h5, by omega, fun _ => by omega⟩
  · rw [(open_way hj).2]
    obtain ⟨h1, h2, h3, h4, h5⟩ := hvw j hj
    simp only
    refine ⟨by omega, by omega, by omega, by omega, fun h => by omega⟩
  · rw [(open_port hq).1]
    obtain ⟨h1, h2⟩ := hvp q hq
    simp only
    refine ⟨by omega, by omega, h1, by omega, fun _ => by omega⟩
  · rw [(open_port hq).2.1]
    simp only
    refine ⟨by omega, by omega, by omega, by omega, fun h => by omega⟩
  · rw [(open_port hq).2.2.1]
    obtain ⟨h1, h2⟩ := hvp q hq
    simp only
    refine ⟨by omega, by omega, h2, by omega, fun _ => by omega⟩
  · rw [(open_port hq).2.2.2]
    simp only
    refine ⟨by omega, by omega, by omega, by omega, fun h => by omega⟩
/-- what holds of the arcs while hulls are moved -/
structure St (nt : Net) (L : List Arc) : Prop where
  good : Good (openL nt) L
  pot : ∃ R π, Feas L R π ∧ R nt.ports.length ∧ π nt.ports.length = 0 ∧ ∀ v, R v → 0 ≤ π v ∧ π v ≤ farI
  glob : ∃ κ, Feas L (fun _ => True) κ ∧ ∀ v, 0 ≤ κ v
  cons : ∀ v, v < nt.ports.length → bal L v = 0
theorem St.arcs {L : List Arc} (hv : netB nt = true) (h : St nt L) : ArcsOk L (nt.ports.length + 2) := ⟨fun i hi => by
  rw [(h.good.shape i).1]; exact (open_each hv (by rw [← h.good.len]; exact hi)).1.1, fun i hi => by
  rw [(h.good.shape i).2.1]; exact (open_each hv (by rw [← h.good.len]; exact hi)).1.2, fun i hi => by
  rw [(h.good.shape i).2.2]; exact (open_each hv (by rw [← h.good.len]; exact hi)).2.1⟩
theorem open_st (hv : netB nt = true) : St nt (openL nt) := by
  have hF : ∀ R : Nat → Prop, (∀ v, R v) → Feas (openL nt) R (fun _ => 0) := fun R hR => ⟨fun i hi hr _ => ⟨hR _, by have := (open_each hv hi).2.2.2.2 hr; show (0 : Int) ≤ 0 + _; omega⟩⟩
  refine ⟨⟨rfl, fun i => ⟨rfl, rfl, rfl⟩, fun i hi => (open_each hv hi).2.2.1.1, fun i hi => rfl⟩, ⟨fun _ => True, fun _ => 0, hF _ fun _ => trivial, trivial, rfl, fun v _ => ⟨Int.le_refl _, by show (0 : Int) ≤ farI; decide⟩⟩, ⟨fun _ => 0, hF _ fun _ => trivial, fun v => Int.le_refl _⟩, fun v hv' => ?_⟩
  have : ∀ j, 2 * j ≤ (openL nt).length → balTo (openL nt) v j = 0 := by
    intro j
    induction j with
    | zero => intro _; rfl
    | succ j ih =>
      intro hj
      have h0 := open_each hv (i := 2 * j + 1) (by omega)
      have hr : (arcAt (openL nt) (2 * j + 1)).room = 0 := by
        rcases Int.lt_or_le 0 (arcAt (openL nt) (2 * j + 1)).room with h | h
        · have := (h0.2.2.2.2 h).1; omega
        · have := h0.2.2.1.1; omega
      rw [balTo, ih (by omega), hr]
      split <;> split <;> omega
  exact this _ (by omega)
/-- from the source -/
def initS (nt : Net) (v : Nat) : Int := if v = nt.ports.length then 0 else farI
theorem initS_far (v : Nat) : initS nt v ≤ farI := by unfold initS farI; split <;> omega
theorem initS_zero {v : Nat} (h : initS nt v < farI) : v = nt.ports.length ∧ initS nt v = 0 := by
  unfold initS at h ⊢
  by_cases e : v = nt.ports.length
  · exact ⟨e, by rw [if_pos e]⟩
  · rw [if_neg e] at h; omega
/-- the costs from the source -/
theorem St.inv {L : List Arc} (hv : netB nt = true) (h : St nt L) {l b : List Int} (hE : EndsAt L (bf0 (nt.ports.length + 2) (initS nt)) l b) : ∃ R π, InvB L (nt.ports.length + 2) R π (initS nt) ⟨l, b, false⟩ ∧ Feas L R π ∧ R nt.ports.length ∧ π nt.ports.length = 0 ∧ ∀ v, R v → 0 ≤ π v ∧ π v ≤ farI := by
  obtain ⟨R, π, hF, hRs, hπ0, hbd⟩ := h.pot
  refine ⟨R, π, hE.inv (h.arcs hv) hF initS_far (inv0 (fun v _ hR => ?_) (fun v _ hR => ?_)), hF, hRs, hπ0, hbd⟩
  · unfold initS; rw [if_neg (fun e : v = nt.ports.length => hR (by rw [e]; exact hRs))]
  · have := hbd v hR
    unfold initS
    split
    · rename_i e; rw [e, hπ0]; exact Int.le_refl _
    · omega
structure Far (nt : Net) (L : List Arc) (l b : List Int) : Prop where
  feas : Feas L (fun v => l.getD v 0 < farI) (fun v => l.getD v 0)
  src : l.getD nt.ports.length 0 = 0
  nn : ∀ v, v < nt.ports.length + 2 → 0 ≤ l.getD v 0 ∧ l.getD v 0 ≤ farI
  small : ∀ v, v < nt.ports.length + 2 → l.getD v 0 < farI → l.getD v 0 ≤ 61000000
  none : ∀ v, v < nt.ports.length + 2 → v ≠ nt.ports.length → (b.getD v 0 = -1 ∧ l.getD v 0 = farI) ∨ (0 ≤ b.getD v 0 ∧ l.getD v 0 < farI)
theorem St.far {L : List Arc} (hv : netB nt = true) (h : St nt L) {l b : List Int} (hE : EndsAt L (bf0 (nt.ports.length + 2) (initS nt)) l b) : Far nt L l b := by
  obtain ⟨R, π, hI, hF, hRs, hπ0, hbd⟩ := h.inv hv hE
  obtain ⟨⟨hp1, hp60⟩, _⟩ := netB_ok hv
  have hA := h.arcs hv
  have h0 : ∀ v, v < nt.ports.length + 2 → initS nt v < farI → initS nt v = 0 := fun v _ hx => (initS_zero hx).2
  have hnn : ∀ v, v < nt.ports.length + 2 → 0 ≤ l.getD v 0 ∧ l.getD v 0 ≤ farI := fun v hv' => by
    have h1 : l.getD v 0 ≤ initS nt v := hI.le v hv'
    have h2 := initS_far (nt := nt) v
    refine ⟨?_, by omega⟩
    by_cases hR : R v
    · have h3 : π v ≤ l.getD v 0 := hI.low v hv' hR
      have := hbd v hR
      omega
    · have h3 : l.getD v 0 = farI := hI.out v hv' hR
      rw [h3]; decide
  refine ⟨hI.feas hA (by omega) hE.fixed h0, ?_, hnn, fun v hv' hf => (hI.small hA (by omega) hE.fixed h0 hv' hf).2, fun v hv' hne => ?_⟩
  · have h1 : l.getD nt.ports.length 0 ≤ initS nt nt.ports.length := hI.le nt.ports.length (by omega)
    have h2 := hnn nt.ports.length (by omega)
    unfold initS at h1
    rw [if_pos rfl] at h1
    omega
  · have hi : initS nt v = farI := by unfold initS; rw [if_neg hne]
    rcases hI.none hv' with h1 | ⟨h1, h2⟩
    · have h3 : l.getD v 0 = initS nt v := hI.root v hv' h1
      exact .inl ⟨h1, h3.trans hi⟩
    · have h3 : l.getD v 0 < initS nt v := h2
      exact .inr ⟨h1, by omega⟩
/-- more hulls to the sink -/
theorem St.step {L : List Arc} (hv : netB nt = true) (h : St nt L) {l b : List Int} (hE : EndsAt L (bf0 (nt.ports.length + 2) (initS nt)) l b) (hb : 0 ≤ b.getD (nt.ports.length + 1) 0) {k : Nat} (hk : Up L b (nt.ports.length + 1) k) {y : Int} (hy : 0 ≤ y) (hr : ∀ a ∈ chainL L b k (nt.ports.length + 1), y ≤ (arcAt L a).room) :
    St nt (pushAll y L (chainL L b k (nt.ports.length + 1))) ∧ bal (pushAll y L (chainL L b k (nt.ports.length + 1))) (nt.ports.length + 1) = bal L (nt.ports.length + 1) + y := by
  obtain ⟨R, π, hI, hF, hRs, hπ0, hbd⟩ := h.inv hv hE
  have hFar := h.far hv hE
  have hA := h.arcs hv
  have hlt : l.getD (nt.ports.length + 1) 0 < farI := by
    rcases hFar.none (nt.ports.length + 1) (by omega) (by omega) with ⟨h1, _⟩ | ⟨_, h1⟩
    · omega
    · exact h1
  obtain ⟨hpath, hnd, hall⟩ := hI.chain hA hE.fixed (src := nt.ports.length) (fun v _ hx => (initS_zero hx).1) hk (by omega) hlt
  have hloop : ∀ i, i < (openL nt).length → (arcAt (openL nt) i).fr ≠ (arcAt (openL nt) i).to := fun i hi => (open_each hv hi).2.2.2.1
  obtain ⟨g1, g2, g3⟩ := pushAll_good open_pairs hloop hy _ L _ _ h.good hpath hnd hr
  have hback : ∀ a, a ∈ chainL L b k (nt.ports.length + 1) → a < L.length := by
    intro a ha
    have : ∀ {qs : List Nat} {v s : Nat}, Path L qs v s → ∀ a ∈ qs, a < L.length := by
      intro qs
      induction qs with
      | nil => intro v s _ a ha; cases ha
      | cons c qs ih =>
        intro v s hp a ha
        rcases List.mem_cons.1 ha with rfl | ha
        · exact hp.1
        · exact ih hp.2.2 a ha
    exact this hpath a ha
  -- an arc with room is an old one, or the opposite of one on the way
  have key : ∀ i, i < (pushAll y L (chainL L b k (nt.ports.length + 1))).length → 0 < (arcAt (pushAll y L (chainL L b k (nt.ports.length + 1))) i).room →
      (0 < (arcAt L i).room ∨ (l.getD (arcAt L i).fr 0 < farI ∧ l.getD (arcAt L i).to 0 < farI ∧ l.getD (arcAt L i).to 0 = l.getD (arcAt L i).fr 0 + (arcAt L i).cost)) := by
    intro i hi hpos
    rw [g1.len] at hi
    rcases g3 i (by rw [h.good.len]; exact hi) hpos with h1 | ⟨a, ha, rfl⟩
    · exact .inl h1
    · obtain ⟨q1, q2, q3, _⟩ := hall a ha
      have hal := hback a ha
      obtain ⟨p1, p2, p3⟩ := open_pairs.back a (by rw [← h.good.len]; exact hal)
      have s1 := h.good.shape a
      have s2 := h.good.shape (mate a)
      have e1 : (arcAt L (mate a)).fr = (arcAt L a).to := by rw [s2.1, p1, s1.2.1]
      have e2 : (arcAt L (mate a)).to = (arcAt L a).fr := by rw [s2.2.1, p2, s1.1]
      have e3 : (arcAt L (mate a)).cost = -(arcAt L a).cost := by rw [s2.2.2, p3, s1.2.2]
      have q2' : l.getD (arcAt L a).fr 0 < farI := q2
      have q3' : l.getD (arcAt L a).to 0 = l.getD (arcAt L a).fr 0 + (arcAt L a).cost := q3
      have hto := (hFar.feas.step a hal q1 q2').1
      have hto' : l.getD (arcAt L a).to 0 < farI := hto
      rw [e1, e2, e3]
      exact .inr ⟨hto', q2', by omega⟩
  have sh : ∀ i, (arcAt (pushAll y L (chainL L b k (nt.ports.length + 1))) i).fr = (arcAt L i).fr ∧ (arcAt (pushAll y L (chainL L b k (nt.ports.length + 1))) i).to = (arcAt L i).to ∧ (arcAt (pushAll y L (chainL L b k (nt.ports.length + 1))) i).cost = (arcAt L i).cost := fun i => ⟨(g1.shape i).1.trans (h.good.shape i).1.symm, (g1.shape i).2.1.trans (h.good.shape i).2.1.symm, (g1.shape i).2.2.trans (h.good.shape i).2.2.symm⟩
  have hlen : (pushAll y L (chainL L b k (nt.ports.length + 1))).length = L.length := g1.len.trans h.good.len.symm
  refine ⟨⟨g1, ⟨fun v => v < nt.ports.length + 2 ∧ l.getD v 0 < farI, fun v => l.getD v 0, ⟨fun i hi hpos hR => ?_⟩, ⟨by omega, by rw [hFar.src]; decide⟩, hFar.src, fun v hR => hFar.nn v hR.1⟩, ?_, fun v hv' => ?_⟩, ?_⟩
  · rw [(sh i).1] at hR
    rw [(sh i).1, (sh i).2.1, (sh i).2.2]
    rcases key i hi hpos with h1 | ⟨h1, h2, h3⟩
    · have := hFar.feas.step i (by rw [← hlen]; exact hi) h1 hR.2
      exact ⟨⟨hA.to i (by rw [← hlen]; exact hi), this.1⟩, this.2⟩
    · exact ⟨⟨hA.to i (by rw [← hlen]; exact hi), h2⟩, by show l.getD _ 0 ≤ l.getD _ 0 + _; omega⟩
  · obtain ⟨κ, hκ, hκ0⟩ := h.glob
    refine ⟨fun v => if v < nt.ports.length + 2 ∧ l.getD v 0 < farI then l.getD v 0 else κ v + 121000000, ⟨fun i hi hpos _ => ⟨trivial, ?_⟩⟩, fun v => ?_⟩
    · have hiL : i < L.length := by rw [← hlen]; exact hi
      have hfN := hA.fr i hiL
      have htN := hA.to i hiL
      have hc := hA.cost i hiL
      rw [(sh i).1, (sh i).2.1, (sh i).2.2]
      show (if (arcAt L i).to < nt.ports.length + 2 ∧ l.getD (arcAt L i).to 0 < farI then l.getD (arcAt L i).to 0 else κ (arcAt L i).to + 121000000) ≤ (if (arcAt L i).fr < nt.ports.length + 2 ∧ l.getD (arcAt L i).fr 0 < farI then l.getD (arcAt L i).fr 0 else κ (arcAt L i).fr + 121000000) + (arcAt L i).cost
      rcases key i hi hpos with h1 | ⟨h1, h2, h3⟩
      · by_cases hf : l.getD (arcAt L i).fr 0 < farI
        · have := hFar.feas.step i hiL h1 hf
          have ht : l.getD (arcAt L i).to 0 < farI := this.1
          rw [if_pos ⟨htN, ht⟩, if_pos ⟨hfN, hf⟩]
          exact this.2
        · rw [if_neg (show ¬((arcAt L i).fr < nt.ports.length + 2 ∧ l.getD (arcAt L i).fr 0 < farI) from fun x => hf x.2)]
          have hp := hκ0 (arcAt L i).fr
          split
          · rename_i ht
            have := ht.2
            unfold farI at this
            omega
          · have := (hκ.step i hiL h1 trivial).2
            omega
      · rw [if_pos ⟨htN, h2⟩, if_pos ⟨hfN, h1⟩]; omega
    · show 0 ≤ (if v < nt.ports.length + 2 ∧ l.getD v 0 < farI then l.getD v 0 else κ v + 121000000)
      split
      · rename_i hx; exact (hFar.nn v hx.1).1
      · have := hκ0 v; omega
  · rw [g2, h.cons v hv', if_neg (by omega), if_neg (by omega)]; rfl
  · rw [g2, if_pos rfl, if_neg (by omega)]; omega
theorem St.bal_le {L : List Arc} (hv : netB nt = true) (h : St nt L) (v : Nat) : bal L v ≤ 1000 * (L.length / 2 : Nat) := by
  have : ∀ j : Nat, 2 * j ≤ L.length → balTo L v j ≤ 1000 * j := by
    intro j
    induction j with
    | zero => intro _; exact Int.le_refl _
    | succ j ih =>
      intro hj
      have h1 := ih (by omega)
      have h2 := h.good.nn (2 * j) (by omega)
      have h3 := h.good.nn (2 * j + 1) (by omega)
      have h4 := h.good.pair (2 * j) (by omega)
      rw [mate_even] at h4
      have hl := h.good.len
      have h5 := open_each hv (i := 2 * j) (by omega)
      have h6 := open_each hv (i := 2 * j + 1) (by omega)
      have h7 : (arcAt (openL nt) (2 * j + 1)).room = 0 := by
        rcases Int.lt_or_le 0 (arcAt (openL nt) (2 * j + 1)).room with hx | hx
        · have := (h6.2.2.2.2 hx).1; omega
        · have := h6.2.2.1.1; omega
      have h8 := h5.2.2.1
      rw [balTo]
      split <;> split <;> omega
  have := this (L.length / 2) (by omega)
  exact this
end
end Go.Proofs.Ytabgmnmpdjnjoaa
set_option linter.unusedVariables false
set_option linter.unusedSimpArgs false
namespace Go.Proofs.Ytabgmnmpdjnjoaa
/-- how many hulls a way takes -/
def hullsL (L : List Arc) (qs : List Nat) : Int := qs.foldl (fun h a => min h (arcAt L a).room) 1000
theorem hulls_snoc (L : List Arc) (qs : List Nat) (a : Nat) : hullsL L (qs ++ [a]) = min (hullsL L qs) (arcAt L a).room := by simp [hullsL, List.foldl_append]
theorem hulls_spec {L : List Arc} : ∀ {qs : List Nat}, (∀ a ∈ qs, 0 < (arcAt L a).room) → 0 < hullsL L qs ∧ hullsL L qs ≤ 1000 ∧ ∀ a ∈ qs, hullsL L qs ≤ (arcAt L a).room := by
  intro qs
  have : ∀ (qs : List Nat), (∀ a ∈ qs, 0 < (arcAt L a).room) → ∀ h0 : Int, 0 < h0 → 0 < qs.foldl (fun h a => min h (arcAt L a).room) h0 ∧ qs.foldl (fun h a => min h (arcAt L a).room) h0 ≤ h0 ∧ ∀ a ∈ qs, qs.foldl (fun h a => min h (arcAt L a).room) h0 ≤ (arcAt L a).room := by
    intro qs
    induction qs with
    | nil => intro _ h0 hh; exact ⟨hh, Int.le_refl _, fun a ha => by cases ha⟩
    | cons c qs ih =>
      intro hq h0 hh
      have hc := hq c List.mem_cons_self
      obtain ⟨i1, i2, i3⟩ := ih (fun a ha => hq a (List.mem_cons_of_mem _ ha)) (min h0 (arcAt L c).room) (by omega)
      refine ⟨i1, by rw [List.foldl_cons]; omega, fun a ha => ?_⟩
      rw [List.foldl_cons]
      rcases List.mem_cons.1 ha with rfl | ha
      · omega
      · exact i3 a ha
  intro hq
  exact this qs hq 1000 (by omega)
def augL (L : List Arc) (qs : List Nat) : List Arc := pushAll (hullsL L qs) L qs
inductive FillTo (nt : Net) : List Arc → List Arc → Prop
  | stop {L : List Arc} {l b : List Int} : EndsAt L (bf0 (nt.ports.length + 2) (initS nt)) l b → b.getD (nt.ports.length + 1) 0 < 0 → FillTo nt L L
  | step {L L' : List Arc} {l b : List Int} {k : Nat} : EndsAt L (bf0 (nt.ports.length + 2) (initS nt)) l b → 0 ≤ b.getD (nt.ports.length + 1) 0 → Up L b (nt.ports.length + 1) k → FillTo nt (augL L (chainL L b k (nt.ports.length + 1))) L' → FillTo nt L L'
theorem FillTo.one {nt : Net} {L L1 : List Arc} (h : FillTo nt L L1) : ∀ {L2 : List Arc}, FillTo nt L L2 → L1 = L2 := by
  induction h with
  | stop hE hb =>
    intro L2 h2
    cases h2 with
    | stop _ _ => rfl
    | step hE' hb' _ _ => have := (hE.one hE').2; subst this; omega
  | step hE hb hu _ ih =>
    intro L2 h2
    cases h2 with
    | stop hE' hb' => have := (hE.one hE').2; subst this; omega
    | step hE' hb' hu' h' =>
      have := (hE.one hE').2
      subst this
      have := hu.one hu'
      subst this
      exact ih h'
section
variable {nt : Net} {L : List Arc} {l b : List Int}
/-- the way back from the sink -/
theorem St.way (hv : netB nt = true) (h : St nt L) (hE : EndsAt L (bf0 (nt.ports.length + 2) (initS nt)) l b) (hb : 0 ≤ b.getD (nt.ports.length + 1) 0) : ∃ k, Up L b (nt.ports.length + 1) k ∧ Back L b nt.ports.length (nt.ports.length + 1) (chainL L b k (nt.ports.length + 1)) ∧ (∀ a ∈ chainL L b k (nt.ports.length + 1), 0 < (arcAt L a).room ∧ a < L.length) ∧ b.length = nt.ports.length + 2 := by
  obtain ⟨R, π, hI, hF, hRs, hπ0, hbd⟩ := h.inv hv hE
  have hFar := h.far hv hE
  have hA := h.arcs hv
  obtain ⟨k, hk⟩ := hI.up (nt.ports.length + 1) (by omega)
  have hlt : l.getD (nt.ports.length + 1) 0 < farI := by
    rcases hFar.none (nt.ports.length + 1) (by omega) (by omega) with ⟨h1, _⟩ | ⟨_, h1⟩
    · omega
    · exact h1
  obtain ⟨hpath, hnd, hall⟩ := hI.chain hA hE.fixed (src := nt.ports.length) (fun v _ hx => (initS_zero hx).1) hk (by omega) hlt
  have hlb : b.length = nt.ports.length + 2 := hI.lb
  have hback : ∀ {k v : Nat}, Up L b v k → v < nt.ports.length + 2 → l.getD v 0 < farI → Back L b nt.ports.length v (chainL L b k v) ∧ ∀ a ∈ chainL L b k v, a < L.length := by
    intro k v hu
    induction hu with
    | @root v hb0 =>
      intro hv' hf
      have h1 : l.getD v 0 = initS nt v := hI.root v hv' hb0
      exact ⟨(initS_zero (by omega)).1, fun a ha => by cases ha⟩
    | @step v k i hb0 hu ih =>
      intro hv' hf
      rcases hI.arc v hv' with h1 | ⟨j, hj, hbj, hto, hroom, hfr, hle, hinit⟩
      · have h1' : b.getD v 0 = -1 := h1; omega
      · have hbj' : b.getD v 0 = (j : Int) := hbj
        have e : i = j := by omega
        subst e
        obtain ⟨g1, g2⟩ := ih (hA.fr i hj) hfr
        have ei : (b.getD v 0).toNat = i := by omega
        rw [chainL, ei]
        refine ⟨⟨fun e => ?_, by omega, hb0, hj, g1⟩, fun a ha => ?_⟩
        · have h2 : l.getD v 0 < initS nt v := hinit
          rw [e, hFar.src] at h2
          unfold initS at h2
          rw [if_pos rfl] at h2
          omega
        · rcases List.mem_cons.1 ha with rfl | ha
          · exact hj
          · exact g2 a ha
  obtain ⟨g1, g2⟩ := hback hk (by omega) hlt
  exact ⟨k, hk, g1, fun a ha => ⟨(hall a ha).1, g2 a ha⟩, hlb⟩
theorem St.aug (hv : netB nt = true) (h : St nt L) (hE : EndsAt L (bf0 (nt.ports.length + 2) (initS nt)) l b) (hb : 0 ≤ b.getD (nt.ports.length + 1) 0) {k : Nat} (hk : Up L b (nt.ports.length + 1) k) (hpos : ∀ a ∈ chainL L b k (nt.ports.length + 1), 0 < (arcAt L a).room) :
    St nt (augL L (chainL L b k (nt.ports.length + 1))) ∧ bal L (nt.ports.length + 1) < bal (augL L (chainL L b k (nt.ports.length + 1))) (nt.ports.length + 1) := by
  obtain ⟨h1, h2, h3⟩ := hulls_spec hpos
  obtain ⟨g1, g2⟩ := h.step hv hE hb hk (Int.le_of_lt h1) h3
  exact ⟨g1, by show _ < bal (pushAll _ _ _) _; omega⟩
theorem pushAll_snoc (h : Int) (L : List Arc) (qs : List Nat) (a : Nat) : pushAll h L (qs ++ [a]) = pushArc h (pushAll h L qs) a := by simp [pushAll, List.foldl_append]
/-- the numbers that are told -/
def decL (pre : List It) : List Nat := pre.map fun x => (x.1.getD 0 0).toNat
theorem dec_enc {pre : List It} {x : It} {qs : List Nat} (h : (pre ++ [x]).map (·.1) <+: encL qs) : ∃ a, x.1 = [((a : Nat) : Int)] ∧ a ∈ qs ∧ decL (pre ++ [x]) = decL pre ++ [a] := by
  have hx : x.1 ∈ encL qs := h.subset (by simp)
  obtain ⟨a, ha, e⟩ := List.mem_map.1 hx
  exact ⟨a, e.symm, ha, by simp [decL, ← e]⟩
theorem dec_all {pre : List It} {qs : List Nat} (h : pre.map (·.1) = encL qs) : decL pre = qs := by
  have : decL pre = (pre.map (·.1)).map fun y => (y.getD 0 0).toNat := by simp [decL]
  rw [this, h, encL, List.map_map]
  exact (List.map_congr_left (fun a _ => by show ((a : Nat) : Int).toNat = a; omega)).trans (List.map_id qs)
end
end Go.Proofs.Ytabgmnmpdjnjoaa
set_option linter.unusedVariables false
set_option linter.unusedSimpArgs false
namespace Go.Proofs.Ytabgmnmpdjnjoaa
open Go Go.RowKit
theorem mono_cp {k e size n : Nat} {xs : List Value} {base : Nat} {f : Option Addr → Nat → Value} {N : Nat} : Mono fun r w => ∃ A c, r k = f A c ∧ w.ownsRow base e size (.slice A N c) n xs := fun _ _ _ hb ⟨A, c, h1, h2⟩ => ⟨A, c, h1, own_below h2 hb (Nat.le_refl _)⟩
section
variable {P : Program} {n : Nat} {σ : Sg} {w : World} {dst : Option Tmp} {ty t t' : TypeId} {pos : String} {af : Array Edge} {g : Option (Nat × Bool)} {x y : Operand}
end
end Go.Proofs.Ytabgmnmpdjnjoaa
set_option linter.unusedVariables false
set_option linter.unusedSimpArgs false
namespace Go.Proofs.Ytabgmnmpdjnjoaa
open Go Go.RowKit
section
variable {ro : Option Nat} {k : Nat} {P : Program} {n : Nat} {ds : List Deferred} {σ τ : Sg} {w : World} {Q : Exit → Act → World → Prop} {L : List Oper} {rest : List Oper}
theorem ECI.loopD {c : Code} {ι : Type} (dl : List Nat) (vs : ι → List (Nat × Value)) (D : ι → List Deferred) (I : ι → World → Prop) (μ : ι → Nat) (i0 : ι) (h0 : I i0 w) (hs : AgreeS σ (vs i0)) (hd : ds = D i0)
    (round : ∀ i w, I i w → ECI ro k P n (D i) c (Exit.then (fun a' w' => ∃ i', EnvG n (D i') (insL (del σ dl) (vs i')) a' ∧ I i' w' ∧ μ i' < μ i) Q) (insL (del σ dl) (vs i)) w) : ECI ro k P n ds (.loop c) Q σ w := by
  intro a ha
  subst hd
  refine wpIn_loop_ghost (fun m a w => ∃ i, EnvG n (D i) (insL (del σ dl) (vs i)) a ∧ I i w ∧ μ i = m) (μ i0) ⟨i0, ha.sub (sub_insL ((Sub.refl σ).del dl) hs), h0, rfl⟩ fun m a w hI => ?_
  obtain ⟨i, h1, h2, rfl⟩ := hI
  refine wpIn_mono (round i w h2 a h1) fun e a' w' hq => ?_
  cases e with
  | normal =>
    obtain ⟨i', h4, h5, h6⟩ := hq
    exact ⟨μ i', h6, i', h4, h5, rfl⟩
  | _ => exact hq
theorem EXI.roundD {ι : Type} {σ0 : Sg} {dl : List Nat} {vs : ι → List (Nat × Value)} {D : ι → List Deferred} {I : ι → World → Prop} {μ : ι → Nat} {i : ι} (i' : ι) (hv : AgreeS σ (vs i')) (hs : Sub (del σ0 dl) σ) (hd : ds = D i') (hI : I i' w) (hm : μ i' < μ i) : EXI n ds (Exit.then (fun a' w' => ∃ i', EnvG n (D i') (insL (del σ0 dl) (vs i')) a' ∧ I i' w' ∧ μ i' < μ i) Q) .normal σ w :=
  fun _ ha => ⟨i', by subst hd; exact ha.sub (sub_insL hs hv), hI, hm⟩
end
/-! ### Appends and copies of any length that fits an address space -/
section
variable {P : Program} {w : World}
variable {n : Nat} {σ : Sg} {L : List Oper} {Q : Exit → Act → World → Prop} {rest : List Oper}
end
end Go.Proofs.Ytabgmnmpdjnjoaa
set_option linter.unusedVariables false
set_option linter.unusedSimpArgs false
namespace Go.Proofs.Ytabgmnmpdjnjoaa
open Go Go.RowKit
theorem own_keep {w w' : World} {base e size n : Nat} {v : Value} {xs : List Value} {row : Option Nat} (h : w.ownsRow base e size v n xs) (hg : w.grownBy w' row) (hr : ∀ r, row = some r → ∃ o : Obj, w.heap[r]? = some o ∧ o.isCells = false) : w'.ownsRow base e size v n xs := by
  refine h.kept hg ?_
  obtain ⟨_, ⟨rfl, _⟩ | ⟨k, cap, cur, rfl, _, hk, _⟩⟩ := h
  · exact .inl rfl
  · refine .inr fun e1 => ?_
    obtain ⟨o, h1, h2⟩ := hr k e1.symm
    rw [hk] at h1
    injection h1 with h1
    subst h1
    cases h2
theorem blk_keep {w w' : World} {g T : Nat} {cs : Array Value} {row : Option Nat} (h : Blk w g T cs) (hg : w.grownBy w' row) (hr : ∀ r, row = some r → ∃ o : Obj, w.heap[r]? = some o ∧ o.isCells = false) : Blk w' g T cs := h.grown hg fun e => by
  obtain ⟨o, h1, h2⟩ := hr g e.symm
  unfold Blk at h
  rw [h] at h1
  injection h1 with h1
  subst h1
  cases h2
theorem Marks.below {n0 : Nat} {ds : List Deferred} {W W' : World} (h : Marks n0 ds W) (hb : Below W.heap.size W W') : Marks n0 ds W' := fun d hd => by
  obtain ⟨D, h1, h2, h3⟩ := h d hd
  exact ⟨D, h1, h2, (hb.block D (Array.getElem?_eq_some_iff.1 h3).1).trans h3⟩
theorem Marks.keeps {n0 : Nat} {ds : List Deferred} {W W' : World} (h : Marks n0 ds W) (hk : KeepsOthers W W') : Marks n0 ds W' := fun d hd => by
  obtain ⟨D, h1, h2, h3⟩ := h d hd
  exact ⟨D, h1, h2, hk.same _ _ h3 rfl⟩
theorem Marks.cons {n0 D : Nat} {ds : List Deferred} {W : World} (h : Marks n0 ds W) (hD : n0 ≤ D) (hd : W.heap[D]? = some (.deferred (some []))) : Marks n0 ({ target := .collected D, args := #[] } :: ds) W := fun d hm => by
  rcases List.mem_cons.1 hm with rfl | h1
  · exact ⟨D, hD, rfl, hd⟩
  · exact h d h1
/-- the marks of a world that has been, still there -/
structure MarksIn (n0 : Nat) (ds : List Deferred) (W0 W : World) : Prop where
  marks : Marks n0 ds W
  old : Marks n0 ds W0
theorem Marks.refl {n0 : Nat} {ds : List Deferred} {W : World} (h : Marks n0 ds W) : MarksIn n0 ds W W := ⟨h, h⟩
theorem MarksIn.below {n0 : Nat} {ds : List Deferred} {W0 W W' : World} (h : MarksIn n0 ds W0 W) (hb : Below W.heap.size W W') : MarksIn n0 ds W0 W' := ⟨h.marks.below hb, h.old⟩
theorem MarksIn.keeps {n0 : Nat} {ds : List Deferred} {W0 W W' : World} (h : MarksIn n0 ds W0 W) (hk : KeepsOthers W W') : MarksIn n0 ds W0 W' := ⟨h.marks.keeps hk, h.old⟩
theorem MarksIn.fresh {n0 D : Nat} {ds : List Deferred} {W0 W : World} (h : MarksIn n0 ds W0 W) (hD : W0.heap.size ≤ D) (hm : ({ target := .collected D, args := #[] } : Deferred) ∈ ds) : False := by
  obtain ⟨D', _, h2, h3⟩ := h.old _ hm
  have := (Array.getElem?_eq_some_iff.1 h3).1
  injection h2 with h2 _
  injection h2 with h2
  omega
theorem MarksIn.grown {n0 B : Nat} {ds : List Deferred} {W0 W W' : World} {row : Option Nat} (h : MarksIn n0 ds W0 W) (h3 : W0.heap.size ≤ B) (hg : W.grownBy W' row) (hr : ∀ r, row = some r → B ≤ r) : MarksIn n0 ds W0 W' := ⟨fun d hd => by
  obtain ⟨D, k1, k2, k3⟩ := h.marks d hd
  obtain ⟨D', _, k5, k6⟩ := h.old d hd
  have e : D' = D := by rw [k2] at k5; injection k5 with k5 _; injection k5 with k5; exact k5.symm
  subst e
  have hlt := (Array.getElem?_eq_some_iff.1 k6).1
  exact ⟨D', k1, k2, (hg.block D' (Array.getElem?_eq_some_iff.1 k3).1 (fun e => by have := hr D' e.symm; omega)).trans k3⟩, h.old⟩
/-- a store into a block of cells leaves what is no cells -/
theorem keeps_blk {w w' : World} {g T : Nat} {cs : Array Value} (h : Blk w g T cs) (hg : w.grownBy w' (some g)) : KeepsOthers w w' := ⟨hg.size, fun j o ho hc => by
  refine (hg.block j (Array.getElem?_eq_some_iff.1 ho).1 fun e => ?_).trans ho
  injection e with e
  subst e
  unfold Blk at h
  rw [h] at ho
  injection ho with ho
  subst ho
  cases hc⟩
theorem own_took {n0 : Nat} {w w' : World} {base e size n : Nat} {v : Value} {xs : List Value} (h : w.ownsRow base e size v n xs) (ht : Took n0 w w') : w'.ownsRow base e size v n xs := by
  obtain ⟨hl, h0 | ⟨g, cap, cur, hv, hb, hk, h1⟩⟩ := h
  · exact ⟨hl, .inl h0⟩
  · exact ⟨hl, .inr ⟨g, cap, cur, hv, hb, ht.blk g e cur hk, h1⟩⟩
end Go.Proofs.Ytabgmnmpdjnjoaa
set_option linter.unusedVariables false
set_option linter.unusedSimpArgs false
namespace Go.Proofs.Ytabgmnmpdjnjoaa
open Go Go.RowKit
section
variable {n : Nat} {σ : Sg} {w : World} {dst : Option Tmp} {ty : TypeId} {pos : String} {af : Array Edge} {g : Option (Nat × Bool)} {x y z : Operand} {at' : Array TypeId}
theorem cl_68 {x0 x1 : Operand} {v0 v1 : Value} (h0 : evS σ x0 = some v0) (h1 : evS σ x1 = some v1) (a : Act) (ha : Env n σ a) : (execOp a.eval ⟨dst, .call { callee := .value (.func 68), args := #[x0, x1], argTypes := at' }, ty, pos, af, g⟩).run Try.prog w = .ok (.enter 68 #[v0, v1]) w := by
  simp only [execOp, resolve, List.map_toArray, List.map_cons, List.map_nil, ha.eval h0, ha.eval h1]
  simp [go_sem, Act.eval]
theorem sll_112 {b o m c lo r : Nat} (hx : evS σ x = some (.slice (some ⟨b, o, none⟩) m c)) (hl : evS σ y = some (.int .i64 (lo : Int))) (h1 : lo ≤ m) (hr : (if c = lo then o else o + lo * 4) = r) : Gives Try.prog n σ w ⟨dst, .slice 112 x (some y) none none, ty, pos, af, g⟩ (.slice (some ⟨b, r, none⟩) (m - lo) (c - lo)) := fun a ha => by
  have k0 : (0 : Int) ≤ (lo : Int) := Int.natCast_nonneg _
  have k2 : (lo : Int) ≤ (m : Int) := by omega
  subst hr
  simp only [execOp, Option.map_some, Option.map_none, ha.eval hx, ha.eval hl]
  by_cases e : c = lo
  · subst e; simp [go_sem, k0, k2, h1]
  · simp [go_sem, k0, k2, h1, e]
theorem fa_114_1 {b o : Nat} (hx : evS σ x = some (.pointer (some ⟨b, o, none⟩))) : Gives Try.prog n σ w ⟨dst, .fieldAddr 114 x 1, ty, pos, af, g⟩ (.pointer (some ⟨b, o + 1, none⟩)) := fun a ha => by
  simp only [execOp, ha.eval hx]
  simp [go_sem]
theorem al_3 (a : Act) (_ : Env n σ a) : (execOp a.eval ⟨dst, .alloc 3, ty, pos, af, g⟩).run Try.prog w = .ok (.value (.pointer (some ⟨w.heap.size, 0, none⟩))) (w.alloc (.cells #[.int .i64 0] 3)) := by
  simp only [execOp]
  simp [go_sem]
theorem cl_69 {x0 x1 : Operand} {v0 v1 : Value} (h0 : evS σ x0 = some v0) (h1 : evS σ x1 = some v1) (a : Act) (ha : Env n σ a) : (execOp a.eval ⟨dst, .call { callee := .value (.func 69), args := #[x0, x1], argTypes := at' }, ty, pos, af, g⟩).run Try.prog w = .ok (.enter 69 #[v0, v1]) w := by
  simp only [execOp, resolve, List.map_toArray, List.map_cons, List.map_nil, ha.eval h0, ha.eval h1]
  simp [go_sem, Act.eval]
theorem mm_min {p q r : Int} (hx : evS σ x = some (.int .i64 p)) (hy : evS σ y = some (.int .i64 q)) (hr : min p q = r) : Gives Try.prog n σ w ⟨dst, .call { callee := .builtin .min, args := #[x, y], argTypes := at' }, ty, pos, af, g⟩ (.int .i64 r) := fun a ha => by
  simp only [execOp, resolve, List.map_toArray, List.map_cons, List.map_nil, ha.eval hx, ha.eval hy]
  subst hr
  simp [go_sem, Int.min_def]
  split <;> split <;> omega
end
end Go.Proofs.Ytabgmnmpdjnjoaa
