/- X29, X30, WWg, WTd, WTe, ExX31, X31, WLift3, X25, X26, WWq, X27, X28, WTr, ExX32: what WitnessTruthsProof needs of them (merged by trimpack.py). -/
import Derived.Test.YtmaiiigijjfjfaaTruthsT3
set_option linter.unusedVariables false
set_option linter.unusedSimpArgs false
namespace Go.Proofs.Ytmaiiigijjfjfaa
open Go Go.RowKit
/-- a case that fits an address space -/
structure Fits (c : Case) : Prop where
  clues : c.clues.length * 24 ≤ 140737488351232
  clocks : c.clocks.length * 16 ≤ 140737488351232
  opts : ∀ j, j < c.clues.length → (c.clues.getD j []).length * 48 ≤ 140737488351232
set_option maxHeartbeats 2000000 in
set_option maxRecDepth 100000 in
theorem copied_big (c : Case) (vc vl : Value) (vs : List Value) (w : World) (B : Nat) (hr : RdCase w B vc vl c vs) (hB : B ≤ w.heap.size) (hn1 : c.clocks.length ≤ 9223372036854775807) (hn2 : c.clues.length ≤ 9223372036854775807) (hsm : Fits c) :
    Calls Try.prog 14 #[.agg #[.int .i64 c.events, vc, vl]] w fun e w' => (∃ va vb vs', e = .returned (.agg #[.int .i64 c.events, va, vb]) ∧ OwnCase w' w.heap.size va vb c vs') ∧ Below w.heap.size w w' := by
  obtain ⟨Ac, cc_, rfl, _⟩ := hr.clocks.shape
  obtain ⟨Al, cl_, rfl, _⟩ := hr.clues.rd.shape
  have hbw := Below.refl w.heap.size w
  refine EC.enter 34 Try.func14 rfl rfl rfl ?_
  refine EC.seq ?_
  refine EC.region ?_
  refine EL.newP (bx_25 rfl) rfl ?_
  intro g1 w1 q1 hb1 hg1 hl1
  have bhbw_1 := Nat.le_trans hbw.size hg1
  replace hbw := Below.on hbw hb1 hbw.size
  clear hb1 hg1 hl1
  refine EL.newP al_25 rfl ?_
  intro g2 w2 q2 hb2 hg2 hl2
  have n1_2 : g1 ≠ g2 := Nat.ne_of_lt (Nat.lt_of_lt_of_le q1.lt hg2)
  have bhbw_2 := Nat.le_trans hbw.size hg2
  replace q1 := q1.below hb2 q1.lt
  replace hbw := Below.on hbw hb2 hbw.size
  clear hb2 hg2 hl2
  refine EL.nil ?_
  refine EX.seq ?_
  refine EC.seq ?_
  have hsz0 := hbw.size
  have lt_1 := q1.lt
  have lt_2 := q2.lt
  refine EC.regionP [[], [0], [], [], [3], [2, 3, 4], [0, 1, 2, 3, 4, 5], [], [0, 1, 2, 3, 4, 5, 6, 7]] 8 [7] (phi (fun i_ r => match i_ with | 0 => r 0 = .pointer (some ⟨g1, 0, none⟩) | 1 => r 1 = .int .i64 c.events | 3 => r 3 = .pointer (some ⟨g1, 1, none⟩) | 4 => r 4 = .slice Ac c.clocks.length cc_ | _ => True) [(2, fun r w_ => ∃ g_, r 2 = .slice (some ⟨g_, 0, none⟩) 0 0 ∧ Blk w_ g_ 54 #[] ∧ w2.heap.size ≤ g_), (5, fun r w_ => ∃ A_ c_, r 5 = .slice A_ c.clocks.length c_ ∧ w_.ownsRow w2.heap.size 54 2 (.slice A_ c.clocks.length c_) c.clocks.length (bdsC c.clocks)), (6, fun r w_ => ∃ A_ c_, r 6 = .agg #[.int .i64 c.events, .slice A_ c.clocks.length c_, .slice none 0 0] ∧ w_.ownsRow w2.heap.size 54 2 (.slice A_ c.clocks.length c_) c.clocks.length (bdsC c.clocks)), (7, fun r w_ => ∃ g_, r 7 = .pointer (some ⟨g_, 0, none⟩) ∧ Blk w_ g_ 25 #[.int .i64 0, .slice none 0 0, .slice none 0 0])]) (by kernel_rfl) rfl rfl (phi_cons mono_bs (phi_cons mono_cp (phi_cons mono_cp (phi_cons mono_alloc (phi_nil))))) (fun i_ hi_ => ?_) ?_
  · match i_, hi_ with
    | 0, _ =>
      intro val w1 a hb ha hd
      have ha := ha.sub (Sub.ins (d := 1) (Sub.nil _) rfl)
      exact hs_val ha rfl rfl (fa_25_0 rfl) rfl rfl
    | 1, _ =>
      intro val w1 a hb ha hd
      have e0 : val 0 = .pointer (some ⟨g1, 0, none⟩) := hd 0 (memB_mem.1 rfl)
      have ha := ha.sub (Sub.ins (d := 5) (Sub.nil _) (dep_get rfl e0))
      exact hs_val ha rfl rfl (ld_3 rfl ((q1.below hb q1.lt).at (j := 0) rfl)) rfl rfl
    | 2, _ =>
      intro val w1 a hb ha hd
      have ha := ha.sub (Sub.nil _)
      exact hs_newS ha rfl rfl (bs_22_0) rfl (fun g w' hq _ hge => ⟨g, rfl, hq, Nat.le_trans hb.size hge⟩)
    | 3, _ =>
      intro val w1 a hb ha hd
      have ha := ha.sub (Sub.ins (d := 1) (Sub.nil _) rfl)
      exact hs_val ha rfl rfl (fa_25_1 rfl) rfl rfl
    | 4, _ =>
      intro val w1 a hb ha hd
      have e3 : val 3 = .pointer (some ⟨g1, 1, none⟩) := hd 3 (memB_mem.1 rfl)
      have ha := ha.sub (Sub.ins (d := 8) (Sub.nil _) (dep_get rfl e3))
      exact hs_val ha rfl rfl (ld_22 rfl ((q1.below hb q1.lt).at (j := 1) rfl)) rfl rfl
    | 5, _ =>
      intro val w1 a hb ha hd
      obtain ⟨g2_, e2, q2_, h2_⟩ := hd 2 (memB_mem.1 rfl)
      change val 2 = _ at e2
      have e4 : val 4 = .slice Ac c.clocks.length cc_ := hd 4 (memB_mem.1 rfl)
      have ha := ha.sub (Sub.ins (d := 9) (Sub.ins (d := 7) (Sub.nil _) (dep_get rfl e2)) (dep_get rfl e4))
      refine hs_copyB bd_elem ha rfl rfl rfl q2_ h2_ (hr.clocks.below ((Below.on hbw hb hbw.size).mono hB)) (bdsC_one _) (by have := hsm.clocks; omega) (by have := hsm.clocks; omega) hb.size rfl (fun v' w' ho => ?_)
      obtain ⟨A, c9, rfl, _⟩ := (Rd.of_own ho).shape
      exact ⟨A, c9, rfl, ho⟩
    | 6, _ =>
      intro val w1 a hb ha hd
      have e1 : val 1 = .int .i64 c.events := hd 1 (memB_mem.1 rfl)
      obtain ⟨A5_, c5_, e5, o5_⟩ := hd 5 (memB_mem.1 rfl)
      have ha := ha.sub (Sub.ins (d := 10) (Sub.ins (d := 6) (Sub.nil _) (dep_get rfl e1)) (dep_get rfl e5))
      exact hs_val ha rfl rfl (bd_25_0_1 rfl rfl) ⟨A5_, c5_, rfl, o5_⟩ rfl
    | 7, _ =>
      intro val w1 a hb ha hd
      have ha := ha.sub (Sub.nil _)
      exact hs_newP ha rfl rfl al_25 (fun g w' hq _ _ => ⟨g, rfl, hq⟩)
    | k + 8, h => exact absurd h (by omega)
  · intro val wR1 hb halc hd
    have e0 : val 0 = .pointer (some ⟨g1, 0, none⟩) := hd 0 (by omega)
    have e1 : val 1 = .int .i64 c.events := hd 1 (by omega)
    obtain ⟨ga2_1, e2, qa2_1, hga2_1⟩ := hd 2 (by omega)
    change val 2 = _ at e2
    change Blk wR1 ga2_1 54 #[] at qa2_1
    have e3 : val 3 = .pointer (some ⟨g1, 1, none⟩) := hd 3 (by omega)
    have e4 : val 4 = .slice Ac c.clocks.length cc_ := hd 4 (by omega)
    obtain ⟨A5_, c5_, e5, o5_⟩ := hd 5 (by omega)
    obtain ⟨A6_, c6_, e6, o6_⟩ := hd 6 (by omega)
    obtain ⟨ga7_1, e7, qa7_1⟩ := hd 7 (by omega)
    refine EL.ends (cs := [.pointer (some ⟨g1, 0, none⟩), .int .i64 c.events, .slice (some ⟨ga2_1, 0, none⟩) 0 0, .pointer (some ⟨g1, 1, none⟩), .slice Ac c.clocks.length cc_, .slice A5_ c.clocks.length c5_, .agg #[.int .i64 c.events, .slice A6_ c.clocks.length c6_, .slice none 0 0], .pointer (some ⟨ga7_1, 0, none⟩)]) ⟨e0, e1, e2, e3, e4, e5, e6, e7, trivial⟩ rfl ?_
    replace q1 := q1.below hb q1.lt
    replace q2 := q2.below hb q2.lt
    have bge3 := alc_ge halc (i := 7) rfl rfl e7
    have n1_3 : g1 ≠ ga7_1 := Nat.ne_of_lt (Nat.lt_of_lt_of_le lt_1 bge3)
    have n2_3 : g2 ≠ ga7_1 := Nat.ne_of_lt (Nat.lt_of_lt_of_le lt_2 bge3)
    have bhbw_3 := Nat.le_trans hbw.size bge3
    have n1_4 : g1 ≠ ga2_1 := Nat.ne_of_lt (Nat.lt_of_lt_of_le lt_1 hga2_1)
    have n2_4 : g2 ≠ ga2_1 := Nat.ne_of_lt (Nat.lt_of_lt_of_le lt_2 hga2_1)
    have bhbw_4 := Nat.le_trans hbw.size hga2_1
    replace hbw := Below.on hbw hb hbw.size
    clear hb
    replace o6_ := own_less o6_ hsz0
    refine EL.store rfl rfl qa7_1 sz_25 rfl rfl rfl rfl ?_
    intro w5 hq5 hg5
    replace q1 := q1.grown hg5 (fun h => n1_3 (Option.some.inj h))
    replace q2 := q2.grown hg5 (fun h => n2_3 (Option.some.inj h))
    replace o6_ := own_type o6_ qa7_1 rfl hg5
    replace hbw := below_store hbw hg5 bhbw_3
    replace qa7_1 := hq5
    clear hg5 hq5
    refine EL.nil ?_
    refine EX.seq ?_
    refine EC.seq ?_
    refine EC.seq ?_
    refine EC.region ?_
    refine EL.val (x_assign rfl) rfl ?_
    refine EL.nil ?_
    refine EX.seq ?_
    refine EC.block ?_
    have hg3 : w.heap.size ≤ ga7_1 := bhbw_3
    have hg2 : w.heap.size ≤ g2 := bhbw_2
    have n23 : g2 ≠ ga7_1 := n2_3
    have n13 : g1 ≠ ga7_1 := n1_3
    refine EC.loopD [4, 12, 13, 14, 15, 16, 17, 18, 19, 20, 21, 22, 23, 24, 25, 26, 27, 28, 29, 30, 31, 32] (fun x : Nat × Value × List Value => [(4, .int .i64 (x.1 : Nat))]) (fun x W => x.1 ≤ c.clues.length ∧ Blk W g1 25 #[.int .i64 c.events, .slice Ac c.clocks.length cc_, .slice Al c.clues.length cl_] ∧ Blk W g2 25 #[.int .i64 0, .slice none 0 0, .slice none 0 0] ∧ Blk W ga7_1 25 #[.int .i64 c.events, .slice A6_ c.clocks.length c6_, x.2.1] ∧ W.ownsRow w.heap.size 54 2 (.slice A6_ c.clocks.length c6_) c.clocks.length (bdsC c.clocks) ∧ OwnClues W w.heap.size x.2.1 (c.clues.take x.1) x.2.2 ∧ Below w.heap.size w W) (fun x => c.clues.length - x.1) (0, .slice none 0 0, []) ⟨Nat.zero_le _, q1, q2, qa7_1, o6_, OwnClues.nil, hbw⟩ ⟨rfl, trivial⟩ ?_
    clear q1 q2 qa7_1 o6_ hbw
    rintro ⟨x, vo, fs⟩ wx ⟨hx, q1x, q2x, q3x, o6_, hoc, hbw⟩
    dsimp only at hx q3x hoc
    obtain ⟨AO, cO, eO, _⟩ := (Rd.of_own hoc.own).shape
    subst eO
    by_cases hlt : x < c.clues.length
    ·
      obtain ⟨bl, ol, e_, _, hcell⟩ := rdll_cell hr.clues x hlt
      subst e_
      have hrow := hr.clues.row x hlt
      obtain ⟨Ao, co, eo, _⟩ := hrow.shape
      rw [eo] at hcell hrow
      have hl5 := hsm.opts x hlt
      refine EC.seq ?_
      refine EC.seq ?_
      refine EC.region ?_
      refine EL.val (x_move rfl) rfl ?_
      refine EL.val (fa_25_2 rfl) rfl ?_
      refine EL.val (ld_23 rfl (q1x.at (j := 2) rfl)) rfl ?_
      refine EL.val (ln_23 rfl) rfl ?_
      refine EL.val (x_lss rfl rfl (decide_eq_true (show (((x : Nat) : Int) < (c.clues.length : Nat)) by omega))) rfl ?_
      refine EL.nil ?_
      refine EX.seq ?_
      refine EC.yes rfl ?_
      refine EC.skip ?_
      refine EX.seq ?_
      refine EC.seq ?_
      refine EC.block ?_
      have hoc0 := hoc
      have hsz := hbw.size
      have lt_1 := q1x.lt
      have lt_2 := q2x.lt
      have lt_3 := q3x.lt
      refine EC.regionP [[], [0], [], [], [3], [], [3, 4, 5], [3, 4, 5, 6], [3, 4, 5, 6, 7], [2, 3, 4, 5, 6, 7, 8], [2, 3, 4, 5, 6, 7, 8, 9], [2, 3, 4, 5, 6, 7, 8, 9, 10], [0, 1, 2, 3, 4, 5, 6, 7, 8, 9, 10, 11], [0, 1, 2, 3, 4, 5, 6, 7, 8, 9, 10, 11, 12], [0, 1, 2, 3, 4, 5, 6, 7, 8, 9, 10, 11, 12, 13]] 12 [] (phi (fun i_ r => match i_ with | 0 => r 0 = .pointer (some ⟨ga7_1, 2, none⟩) | 1 => r 1 = .slice AO (c.clues.take x).length cO | 3 => r 3 = .pointer (some ⟨g1, 2, none⟩) | 4 => r 4 = .slice (some ⟨bl, ol, none⟩) c.clues.length cl_ | 5 => r 5 = .int .i64 (x : Nat) | 6 => r 6 = .pointer (some ⟨bl, ol + x, none⟩) | 7 => r 7 = .pointer (some ⟨bl, ol + x, none⟩) | 8 => r 8 = .slice Ao (c.clues.getD x []).length co | _ => True) [(2, fun r w_ => ∃ g_, r 2 = .slice (some ⟨g_, 0, none⟩) 0 0 ∧ Blk w_ g_ 71 #[] ∧ wx.heap.size ≤ g_), (9, fun r w_ => ∃ A_ c_, r 9 = .slice A_ (c.clues.getD x []).length c_ ∧ w_.ownsRow wx.heap.size 71 6 (.slice A_ (c.clues.getD x []).length c_) (c.clues.getD x []).length (optsC (c.clues.getD x []))), (10, fun r w_ => ∃ A_ c_, r 10 = .agg #[.slice A_ (c.clues.getD x []).length c_] ∧ w_.ownsRow wx.heap.size 71 6 (.slice A_ (c.clues.getD x []).length c_) (c.clues.getD x []).length (optsC (c.clues.getD x []))), (11, fun r w_ => ∃ g_ A_ c_, r 11 = .slice (some ⟨g_, 0, none⟩) 1 1 ∧ Blk w_ g_ 74 #[.slice A_ (c.clues.getD x []).length c_] ∧ w_.ownsRow wx.heap.size 71 6 (.slice A_ (c.clues.getD x []).length c_) (c.clues.getD x []).length (optsC (c.clues.getD x [])) ∧ wx.heap.size ≤ g_)]) (by kernel_rfl) rfl rfl (phi_cons mono_bs (phi_cons mono_cp (phi_cons mono_cp (phi_cons mono_cp3 (phi_nil))))) (fun i_ hi_ => ?_) ?_
      · match i_, hi_ with
        | 0, _ =>
          intro val w1 a hb ha hd
          have ha := ha.sub (Sub.ins (d := 3) (Sub.nil _) rfl)
          exact hs_val ha rfl rfl (fa_25_2 rfl) rfl rfl
        | 1, _ =>
          intro val w1 a hb ha hd
          have e0 : val 0 = .pointer (some ⟨ga7_1, 2, none⟩) := hd 0 (memB_mem.1 rfl)
          have ha := ha.sub (Sub.ins (d := 19) (Sub.nil _) (dep_get rfl e0))
          exact hs_val ha rfl rfl (ld_23 rfl ((q3x.below hb q3x.lt).at (j := 2) rfl)) rfl rfl
        | 2, _ =>
          intro val w1 a hb ha hd
          have ha := ha.sub (Sub.nil _)
          exact hs_newS ha rfl rfl (bs_72_0) rfl (fun g w' hq _ hge => ⟨g, rfl, hq, Nat.le_trans hb.size hge⟩)
        | 3, _ =>
          intro val w1 a hb ha hd
          have ha := ha.sub (Sub.ins (d := 1) (Sub.nil _) rfl)
          exact hs_val ha rfl rfl (fa_25_2 rfl) rfl rfl
        | 4, _ =>
          intro val w1 a hb ha hd
          have e3 : val 3 = .pointer (some ⟨g1, 2, none⟩) := hd 3 (memB_mem.1 rfl)
          have ha := ha.sub (Sub.ins (d := 22) (Sub.nil _) (dep_get rfl e3))
          exact hs_val ha rfl rfl (ld_23 rfl ((q1x.below hb q1x.lt).at (j := 2) rfl)) rfl rfl
        | 5, _ =>
          intro val w1 a hb ha hd
          have ha := ha.sub (Sub.ins (d := 4) (Sub.nil _) rfl)
          exact hs_val ha rfl rfl (x_move rfl) rfl rfl
        | 6, _ =>
          intro val w1 a hb ha hd
          have e4 : val 4 = .slice (some ⟨bl, ol, none⟩) c.clues.length cl_ := hd 4 (memB_mem.1 rfl)
          have e5 : val 5 = .int .i64 (x : Nat) := hd 5 (memB_mem.1 rfl)
          have ha := ha.sub (Sub.ins (d := 24) (Sub.ins (d := 23) (Sub.nil _) (dep_get rfl e4)) (dep_get rfl e5))
          exact hs_val ha rfl rfl (ix_23 rfl rfl hlt) rfl rfl
        | 7, _ =>
          intro val w1 a hb ha hd
          have e6 : val 6 = .pointer (some ⟨bl, ol + x, none⟩) := hd 6 (memB_mem.1 rfl)
          have ha := ha.sub (Sub.ins (d := 25) (Sub.nil _) (dep_get rfl e6))
          exact hs_val ha rfl rfl (fa_74_0 rfl) rfl rfl
        | 8, _ =>
          intro val w1 a hb ha hd
          have e7 : val 7 = .pointer (some ⟨bl, ol + x, none⟩) := hd 7 (memB_mem.1 rfl)
          have ha := ha.sub (Sub.ins (d := 26) (Sub.nil _) (dep_get rfl e7))
          exact hs_val ha rfl rfl (ld_72 rfl (below_load (Below.on hbw hb hbw.size) hcell)) rfl rfl
        | 9, _ =>
          intro val w1 a hb ha hd
          obtain ⟨g2_, e2, q2_, h2_⟩ := hd 2 (memB_mem.1 rfl)
          change val 2 = _ at e2
          have e8 : val 8 = .slice Ao (c.clues.getD x []).length co := hd 8 (memB_mem.1 rfl)
          have ha := ha.sub (Sub.ins (d := 27) (Sub.ins (d := 21) (Sub.nil _) (dep_get rfl e2)) (dep_get rfl e8))
          refine hs_copyB opt_elem ha rfl rfl rfl q2_ h2_ (hrow.below ((Below.on hbw hb hbw.size).mono hB)) (optsC_one _) (by omega) (by omega) hb.size rfl (fun v' w' ho => ?_)
          obtain ⟨A, c9, rfl, _⟩ := (Rd.of_own ho).shape
          exact ⟨A, c9, rfl, ho⟩
        | 10, _ =>
          intro val w1 a hb ha hd
          obtain ⟨A9_, c9_, e9, o9_⟩ := hd 9 (memB_mem.1 rfl)
          have ha := ha.sub (Sub.ins (d := 28) (Sub.nil _) (dep_get rfl e9))
          exact hs_val ha rfl rfl (bd_74_0 rfl) ⟨A9_, c9_, rfl, o9_⟩ rfl
        | 11, _ =>
          intro val w1 a hb ha hd
          obtain ⟨A10_, c10_, e10, o10_⟩ := hd 10 (memB_mem.1 rfl)
          have ha := ha.sub (Sub.ins (d := 29) (Sub.nil _) (dep_get rfl e10))
          exact hs_newS ha rfl rfl (bs_23_1 rfl) rfl (fun g w' hq hb' hge => ⟨g, A10_, c10_, rfl, hq, own_below o10_ hb' (Nat.le_refl _), Nat.le_trans hb.size hge⟩)
        | k + 12, h => exact absurd h (by omega)
      · intro val wR5 hb halc hd
        have e0 : val 0 = .pointer (some ⟨ga7_1, 2, none⟩) := hd 0 (by omega)
        have e1 : val 1 = .slice AO (c.clues.take x).length cO := hd 1 (by omega)
        obtain ⟨ga2_5, e2, qa2_5, hga2_5⟩ := hd 2 (by omega)
        change val 2 = _ at e2
        change Blk wR5 ga2_5 71 #[] at qa2_5
        have e3 : val 3 = .pointer (some ⟨g1, 2, none⟩) := hd 3 (by omega)
        have e4 : val 4 = .slice (some ⟨bl, ol, none⟩) c.clues.length cl_ := hd 4 (by omega)
        have e5 : val 5 = .int .i64 (x : Nat) := hd 5 (by omega)
        have e6 : val 6 = .pointer (some ⟨bl, ol + x, none⟩) := hd 6 (by omega)
        have e7 : val 7 = .pointer (some ⟨bl, ol + x, none⟩) := hd 7 (by omega)
        have e8 : val 8 = .slice Ao (c.clues.getD x []).length co := hd 8 (by omega)
        obtain ⟨A9_, c9_, e9, o9_⟩ := hd 9 (by omega)
        obtain ⟨A10_, c10_, e10, o10_⟩ := hd 10 (by omega)
        obtain ⟨g11_, A11_, c11_, e11, q11_, o11_, h11_⟩ := hd 11 (by omega)
        refine EL.ends (cs := [.pointer (some ⟨ga7_1, 2, none⟩), .slice AO (c.clues.take x).length cO, .slice (some ⟨ga2_5, 0, none⟩) 0 0, .pointer (some ⟨g1, 2, none⟩), .slice (some ⟨bl, ol, none⟩) c.clues.length cl_, .int .i64 (x : Nat), .pointer (some ⟨bl, ol + x, none⟩), .pointer (some ⟨bl, ol + x, none⟩), .slice Ao (c.clues.getD x []).length co, .slice A9_ (c.clues.getD x []).length c9_, .agg #[.slice A10_ (c.clues.getD x []).length c10_], .slice (some ⟨g11_, 0, none⟩) 1 1]) ⟨e0, e1, e2, e3, e4, e5, e6, e7, e8, e9, e10, e11, trivial⟩ rfl ?_
        replace q1x := q1x.below hb q1x.lt
        replace q2x := q2x.below hb q2x.lt
        replace q3x := q3x.below hb q3x.lt
        replace o6_ := own_below o6_ hb (Nat.le_refl _)
        replace hoc := hoc.below hb
        have n1_6 : g1 ≠ ga2_5 := Nat.ne_of_lt (Nat.lt_of_lt_of_le lt_1 hga2_5)
        have n2_6 : g2 ≠ ga2_5 := Nat.ne_of_lt (Nat.lt_of_lt_of_le lt_2 hga2_5)
        have n3_6 : ga7_1 ≠ ga2_5 := Nat.ne_of_lt (Nat.lt_of_lt_of_le lt_3 hga2_5)
        have bhbw_6 := Nat.le_trans hbw.size hga2_5
        replace hbw := Below.on hbw hb hbw.size
        clear hb
        have hnew := o11_
        have hap : ∀ g, (Value.slice A11_ (c.clues.getD x []).length c11_).ownBlock = some g → wx.heap.size ≤ g := fun g h => (o11_.lt g h).1
        have hlen2 : (c.clues.take x).length = x := by rw [List.length_take]; omega
        refine EL.pushB clue_elem rfl rfl hoc.own (rd_one (l := [.slice A11_ (c.clues.getD x []).length c11_]) q11_ rfl) (by intro u hu; rw [List.mem_singleton.1 hu]; rfl) (by have := hsm.clues; omega) (by have := hsm.clues; omega) hbw.size rfl ?_
        intro v2 wp ho2 hgr hb2 hat
        have hoc2 := hoc.push hnew hgr ho2 hoc0 hap hsz
        skip
        replace q1x := blk_grown q1x hoc.own rfl hgr
        replace q2x := blk_grown q2x hoc.own rfl hgr
        replace q3x := blk_grown q3x hoc.own rfl hgr
        replace o6_ := own_grown o6_ hoc.own rfl hgr
        replace hbw := hbw.trans hb2
        clear hoc
        obtain ⟨A2, c2, e2, _⟩ := (Rd.of_own hoc2.own).shape
        subst e2
        refine EL.val (fa_25_2 rfl) rfl ?_
        refine EL.store rfl rfl q3x sz_23 rfl rfl rfl rfl ?_
        intro w7 hq7 hg7
        replace q1x := q1x.grown hg7 (fun h => n1_3 (Option.some.inj h))
        replace q2x := q2x.grown hg7 (fun h => n2_3 (Option.some.inj h))
        replace o6_ := own_type o6_ q3x rfl hg7
        replace hoc2 := hoc2.type q3x rfl rfl hg7
        replace hbw := below_store hbw hg7 bhbw_3
        replace q3x := hq7
        clear hg7 hq7
        refine EL.nil ?_
        refine EX.blk ?_
        refine EX.seq ?_
        refine EC.region ?_
        refine EL.val (x_move rfl) rfl ?_
        refine EL.val (x_add rfl rfl (c := ((x + 1 : Nat) : Int)) ((IntWalk.i64_in _ ⟨by have := hsm.clues; omega, by have := hsm.clues; omega⟩).trans (by omega))) rfl ?_
        refine EL.val (x_assign rfl) rfl ?_
        refine EL.nil ?_
        refine EX.roundD (x + 1, _, fs ++ [_]) ⟨rfl, trivial⟩ (by repeat first | with_reducible exact Sub.refl _ | refine sub_past rfl ?_ | exact Sub.refl _ | refine sub_del rfl ?_ | refine sub_insL_nil ?_) ⟨hlt, q1x, q2x, q3x, o6_, by rw [take_get hlt]; exact hoc2, hbw⟩ (by simp only; omega)
    ·
      obtain rfl : x = c.clues.length := by omega
      rw [List.take_length] at hoc q3x
      refine EC.seq ?_
      refine EC.seq ?_
      refine EC.region ?_
      refine EL.val (x_move rfl) rfl ?_
      refine EL.val (fa_25_2 rfl) rfl ?_
      refine EL.val (ld_23 rfl (q1x.at (j := 2) rfl)) rfl ?_
      refine EL.val (ln_23 rfl) rfl ?_
      refine EL.val (x_lss rfl rfl (decide_eq_false (Int.lt_irrefl _))) rfl ?_
      refine EL.nil ?_
      refine EX.seq ?_
      refine EC.no rfl ?_
      refine EC.exit ?_
      refine EX.seq_exit ?_
      refine EX.seq_exit ?_
      refine EX.blk_here ?_
      refine EX.seq ?_
      refine EC.seq ?_
      refine EC.region ?_
      refine EL.val (ld_25 rfl (q3x.at (j := 0) rfl) (q3x.at (j := 1) rfl) (q3x.at (j := 2) rfl)) rfl ?_
      refine EL.store rfl rfl q2x sz_25 rfl rfl rfl rfl ?_
      intro w8 hq8 hg8
      replace q1x := q1x.grown hg8 (fun h => n1_2 (Option.some.inj h))
      replace q3x := q3x.grown hg8 (fun h => n2_3.symm (Option.some.inj h))
      replace o6_ := own_type o6_ q2x rfl hg8
      replace hoc := hoc.type q2x rfl rfl hg8
      replace hbw := below_store hbw hg8 bhbw_2
      replace q2x := hq8
      clear hg8 hq8
      refine EL.nil ?_
      refine EX.seq ?_
      refine EC.ret ?_
      exact EX.done (resc1 rfl rfl (lv_25 (q2x.at (j := 0) rfl) (q2x.at (j := 1) rfl) (q2x.at (j := 2) rfl))) ⟨⟨_, _, _, rfl, ⟨o6_, hoc⟩⟩, hbw⟩
end Go.Proofs.Ytmaiiigijjfjfaa
set_option linter.unusedVariables false
set_option linter.unusedSimpArgs false
namespace Go.Proofs.Ytmaiiigijjfjfaa
open Go Go.RowKit
set_option maxHeartbeats 1000000 in
theorem fits_seen (e : Nat) (k : Nat) (a : Int) (lo hi : Int) (M F : List Int) (vm vf : Value) (w : World) (B : Nat) (hm : Rd w B 1 vm M.length (ints M)) (hf : Rd w B 1 vf F.length (ints F)) (hB : B ≤ w.heap.size) (he : e < M.length) (hk : k < F.length) (hme : -1000000 ≤ M.getD e 0 ∧ M.getD e 0 ≤ 1000000) (hv : -1000000 ≤ F.getD k 0 ∧ F.getD k 0 ≤ 1000000) :
    Calls Try.prog 57 #[.agg #[.int .i64 1, .int .i64 (e : Nat), .int .i64 (k : Nat), .int .i64 a, .int .i64 lo, .int .i64 hi], vm, vf] w fun e_ w' => e_ = .returned (.bool (decide (lo ≤ M.getD e 0 + F.getD k 0) && decide (M.getD e 0 + F.getD k 0 ≤ hi))) ∧ Below w.heap.size w w' := by
  obtain ⟨Am, cm_, rfl, _⟩ := hm.shape
  obtain ⟨Af, cf_, rfl, _⟩ := hf.shape
  obtain ⟨bm, om, e1, _, ce⟩ := ints_cells M e he w B _ _ _ hm
  subst e1
  obtain ⟨bv, ov, e2, _, cv⟩ := ints_cells F k hk w B _ _ _ hf
  subst e2
  have hbw := Below.refl w.heap.size w
  refine EC.enter 81 Try.func57 rfl rfl rfl ?_
  refine EC.seq ?_
  refine EC.region ?_
  refine EL.newP (bx_71 rfl) rfl ?_
  intro g1 w1 q1 hb1 hg1 hl1
  have bhbw_1 := Nat.le_trans hbw.size hg1
  replace hbw := Below.on hbw hb1 hbw.size
  clear hb1 hg1 hl1
  refine EL.val (x_assign rfl) rfl ?_
  refine EL.nil ?_
  refine EX.seq ?_
  refine EC.seq ?_
  refine EC.seq ?_
  refine EC.region ?_
  refine EL.val (fa_71_1 rfl) rfl ?_
  refine EL.val (ld_3 rfl (q1.at (j := 1) rfl)) rfl ?_
  refine EL.val (x_lss (r := false) rfl rfl (decide_eq_false (by omega))) rfl ?_
  refine EL.val (x_move rfl) rfl ?_
  refine EL.valg rfl rfl (fa_71_1 rfl) rfl ?_
  refine EL.valg rfl rfl (ld_3 rfl (q1.at (j := 1) rfl)) rfl ?_
  refine EL.valg rfl rfl (x_move rfl) rfl ?_
  refine EL.valg rfl rfl (ln_26 rfl) rfl ?_
  refine EL.valg rfl rfl (x_geq (r := false) rfl rfl (decide_eq_false (by omega))) rfl ?_
  refine EL.val (x_pick_f rfl rfl) rfl ?_
  refine EL.nil ?_
  refine EX.seq ?_
  refine EC.no rfl ?_
  refine EC.skip ?_
  refine EX.seq ?_
  refine EC.seq ?_
  refine EC.region ?_
  refine EL.val (x_move rfl) rfl ?_
  refine EL.val (fa_71_1 rfl) rfl ?_
  refine EL.val (ld_3 rfl (q1.at (j := 1) rfl)) rfl ?_
  refine EL.val (ix_26 rfl rfl he) rfl ?_
  refine EL.val (ld_3 rfl (below_load hbw ce)) rfl ?_
  refine EL.val (x_assign rfl) rfl ?_
  refine EL.nil ?_
  refine EX.seq ?_
  refine EC.seq ?_
  refine EC.block ?_
  refine EC.seq ?_
  refine EC.region ?_
  refine EL.val (fa_71_0 rfl) rfl ?_
  refine EL.val (ld_69 rfl (q1.at (j := 0) rfl)) rfl ?_
  refine EL.val (x_eql (r := true) rfl rfl (decide_eq_true (by decide))) rfl ?_
  refine EL.val (x_move rfl) rfl ?_
  refine EL.valg rfl rfl (fa_71_2 rfl) rfl ?_
  refine EL.valg rfl rfl (ld_3 rfl (q1.at (j := 2) rfl)) rfl ?_
  refine EL.valg rfl rfl (x_geq (r := true) rfl rfl (decide_eq_true (by omega))) rfl ?_
  refine EL.val (x_pick_t rfl rfl) rfl ?_
  refine EL.val (x_move rfl) rfl ?_
  refine EL.valg rfl rfl (fa_71_2 rfl) rfl ?_
  refine EL.valg rfl rfl (ld_3 rfl (q1.at (j := 2) rfl)) rfl ?_
  refine EL.valg rfl rfl (x_move rfl) rfl ?_
  refine EL.valg rfl rfl (ln_26 rfl) rfl ?_
  refine EL.valg rfl rfl (x_lss (r := true) rfl rfl (decide_eq_true (by omega))) rfl ?_
  refine EL.val (x_pick_t rfl rfl) rfl ?_
  refine EL.val (x_assign rfl) rfl ?_
  refine EL.nil ?_
  refine EX.seq ?_
  refine EC.yes rfl ?_
  refine EC.region ?_
  refine EL.val (x_move rfl) rfl ?_
  refine EL.val (x_move rfl) rfl ?_
  refine EL.val (fa_71_2 rfl) rfl ?_
  refine EL.val (ld_3 rfl (q1.at (j := 2) rfl)) rfl ?_
  refine EL.val (ix_26 rfl rfl hk) rfl ?_
  refine EL.val (ld_3 rfl (below_load hbw cv)) rfl ?_
  refine EL.val (x_add rfl rfl (c := M.getD e 0 + F.getD k 0) (IntWalk.i64_in _ ⟨by omega, by omega⟩)) rfl ?_
  refine EL.val (x_assign rfl) rfl ?_
  refine EL.nil ?_
  refine EX.blk ?_
  refine EX.seq ?_
  refine EC.seq ?_
  refine EC.region ?_
  refine EL.val (x_move rfl) rfl ?_
  refine EL.val (fa_71_4 rfl) rfl ?_
  refine EL.val (fa_54_0 rfl) rfl ?_
  refine EL.val (ld_3 rfl (q1.at (j := 4) rfl)) rfl ?_
  by_cases h1 : lo ≤ M.getD e 0 + F.getD k 0
  ·
    refine EL.val (x_geq rfl rfl (by first | assumption | exact decide_eq_true (by omega))) rfl ?_
    refine EL.val (x_move rfl) rfl ?_
    refine EL.valg rfl rfl (x_move rfl) rfl ?_
    refine EL.valg rfl rfl (fa_71_4 rfl) rfl ?_
    refine EL.valg rfl rfl (fa_54_1 rfl) rfl ?_
    refine EL.valg rfl rfl (ld_3 rfl (q1.at (j := 5) rfl)) rfl ?_
    by_cases h2 : M.getD e 0 + F.getD k 0 ≤ hi
    ·
      refine EL.valg rfl rfl (x_leq rfl rfl (by first | assumption | exact decide_eq_true (by omega))) rfl ?_
      refine EL.val (x_pick_t rfl rfl) rfl ?_
      refine EL.val (x_assign rfl) rfl ?_
      refine EL.nil ?_
      refine EX.seq ?_
      refine EC.ret ?_
      exact EX.done (res1 rfl rfl) ⟨by congr 2; symm; first | (rw [Bool.and_eq_true, decide_eq_true_eq, decide_eq_true_eq]; omega) | (rw [Bool.and_eq_false_iff, decide_eq_false_iff_not, decide_eq_false_iff_not]; omega), hbw⟩
    ·
      refine EL.valg rfl rfl (x_leq rfl rfl (by first | assumption | exact decide_eq_false (by omega))) rfl ?_
      refine EL.val (x_pick_t rfl rfl) rfl ?_
      refine EL.val (x_assign rfl) rfl ?_
      refine EL.nil ?_
      refine EX.seq ?_
      refine EC.ret ?_
      exact EX.done (res1 rfl rfl) ⟨by congr 2; symm; first | (rw [Bool.and_eq_true, decide_eq_true_eq, decide_eq_true_eq]; omega) | (rw [Bool.and_eq_false_iff, decide_eq_false_iff_not, decide_eq_false_iff_not]; omega), hbw⟩
  ·
    refine EL.val (x_geq rfl rfl (by first | assumption | exact decide_eq_false (by omega))) rfl ?_
    refine EL.val (x_move rfl) rfl ?_
    refine EL.skip rfl rfl rfl rfl ?_
    refine EL.skip rfl rfl rfl rfl ?_
    refine EL.skip rfl rfl rfl rfl ?_
    refine EL.skip rfl rfl rfl rfl ?_
    refine EL.skip rfl rfl rfl rfl ?_
    refine EL.val (x_pick_f rfl rfl) rfl ?_
    refine EL.val (x_assign rfl) rfl ?_
    refine EL.nil ?_
    refine EX.seq ?_
    refine EC.ret ?_
    exact EX.done (res1 rfl rfl) ⟨by congr 2; symm; first | (rw [Bool.and_eq_true, decide_eq_true_eq, decide_eq_true_eq]; omega) | (rw [Bool.and_eq_false_iff, decide_eq_false_iff_not, decide_eq_false_iff_not]; omega), hbw⟩
set_option maxHeartbeats 1000000 in
theorem fits_gap (e : Nat) (k : Int) (a : Nat) (lo hi : Int) (M F : List Int) (vm vf : Value) (w : World) (B : Nat) (hm : Rd w B 1 vm M.length (ints M)) (hf : Rd w B 1 vf F.length (ints F)) (hB : B ≤ w.heap.size) (he : e < M.length) (hk : a < M.length) (hme : -1000000 ≤ M.getD e 0 ∧ M.getD e 0 ≤ 1000000) (hv : -1000000 ≤ M.getD a 0 ∧ M.getD a 0 ≤ 1000000) :
    Calls Try.prog 57 #[.agg #[.int .i64 2, .int .i64 (e : Nat), .int .i64 k, .int .i64 (a : Nat), .int .i64 lo, .int .i64 hi], vm, vf] w fun e_ w' => e_ = .returned (.bool (decide (lo ≤ M.getD e 0 - M.getD a 0) && decide (M.getD e 0 - M.getD a 0 ≤ hi))) ∧ Below w.heap.size w w' := by
  obtain ⟨Am, cm_, rfl, _⟩ := hm.shape
  obtain ⟨Af, cf_, rfl, _⟩ := hf.shape
  obtain ⟨bm, om, e1, _, ce⟩ := ints_cells M e he w B _ _ _ hm
  subst e1
  obtain ⟨bv, ov, e2, _, cv⟩ := ints_cells M a hk w B _ _ _ hm
  obtain ⟨rfl, rfl⟩ : bm = bv ∧ om = ov := by injection e2 with e2; injection e2 with h1 h2; exact ⟨h1, h2⟩
  have hbw := Below.refl w.heap.size w
  refine EC.enter 81 Try.func57 rfl rfl rfl ?_
  refine EC.seq ?_
  refine EC.region ?_
  refine EL.newP (bx_71 rfl) rfl ?_
  intro g1 w1 q1 hb1 hg1 hl1
  have bhbw_1 := Nat.le_trans hbw.size hg1
  replace hbw := Below.on hbw hb1 hbw.size
  clear hb1 hg1 hl1
  refine EL.val (x_assign rfl) rfl ?_
  refine EL.nil ?_
  refine EX.seq ?_
  refine EC.seq ?_
  refine EC.seq ?_
  refine EC.region ?_
  refine EL.val (fa_71_1 rfl) rfl ?_
  refine EL.val (ld_3 rfl (q1.at (j := 1) rfl)) rfl ?_
  refine EL.val (x_lss (r := false) rfl rfl (decide_eq_false (by omega))) rfl ?_
  refine EL.val (x_move rfl) rfl ?_
  refine EL.valg rfl rfl (fa_71_1 rfl) rfl ?_
  refine EL.valg rfl rfl (ld_3 rfl (q1.at (j := 1) rfl)) rfl ?_
  refine EL.valg rfl rfl (x_move rfl) rfl ?_
  refine EL.valg rfl rfl (ln_26 rfl) rfl ?_
  refine EL.valg rfl rfl (x_geq (r := false) rfl rfl (decide_eq_false (by omega))) rfl ?_
  refine EL.val (x_pick_f rfl rfl) rfl ?_
  refine EL.nil ?_
  refine EX.seq ?_
  refine EC.no rfl ?_
  refine EC.skip ?_
  refine EX.seq ?_
  refine EC.seq ?_
  refine EC.region ?_
  refine EL.val (x_move rfl) rfl ?_
  refine EL.val (fa_71_1 rfl) rfl ?_
  refine EL.val (ld_3 rfl (q1.at (j := 1) rfl)) rfl ?_
  refine EL.val (ix_26 rfl rfl he) rfl ?_
  refine EL.val (ld_3 rfl (below_load hbw ce)) rfl ?_
  refine EL.val (x_assign rfl) rfl ?_
  refine EL.nil ?_
  refine EX.seq ?_
  refine EC.seq ?_
  refine EC.block ?_
  refine EC.seq ?_
  refine EC.region ?_
  refine EL.val (fa_71_0 rfl) rfl ?_
  refine EL.val (ld_69 rfl (q1.at (j := 0) rfl)) rfl ?_
  refine EL.val (x_eql (r := false) rfl rfl (decide_eq_false (by decide))) rfl ?_
  refine EL.val (x_move rfl) rfl ?_
  refine EL.skip rfl rfl rfl rfl ?_
  refine EL.skip rfl rfl rfl rfl ?_
  refine EL.skip rfl rfl rfl rfl ?_
  refine EL.val (x_pick_f rfl rfl) rfl ?_
  refine EL.val (x_move rfl) rfl ?_
  refine EL.skip rfl rfl rfl rfl ?_
  refine EL.skip rfl rfl rfl rfl ?_
  refine EL.skip rfl rfl rfl rfl ?_
  refine EL.skip rfl rfl rfl rfl ?_
  refine EL.skip rfl rfl rfl rfl ?_
  refine EL.val (x_pick_f rfl rfl) rfl ?_
  refine EL.val (x_assign rfl) rfl ?_
  refine EL.nil ?_
  refine EX.seq ?_
  refine EC.no rfl ?_
  refine EC.seq ?_
  refine EC.region ?_
  refine EL.val (fa_71_0 rfl) rfl ?_
  refine EL.val (ld_69 rfl (q1.at (j := 0) rfl)) rfl ?_
  refine EL.val (x_eql (r := true) rfl rfl (decide_eq_true (by decide))) rfl ?_
  refine EL.val (x_move rfl) rfl ?_
  refine EL.valg rfl rfl (fa_71_3 rfl) rfl ?_
  refine EL.valg rfl rfl (ld_3 rfl (q1.at (j := 3) rfl)) rfl ?_
  refine EL.valg rfl rfl (x_geq (r := true) rfl rfl (decide_eq_true (by omega))) rfl ?_
  refine EL.val (x_pick_t rfl rfl) rfl ?_
  refine EL.val (x_move rfl) rfl ?_
  refine EL.valg rfl rfl (fa_71_3 rfl) rfl ?_
  refine EL.valg rfl rfl (ld_3 rfl (q1.at (j := 3) rfl)) rfl ?_
  refine EL.valg rfl rfl (x_move rfl) rfl ?_
  refine EL.valg rfl rfl (ln_26 rfl) rfl ?_
  refine EL.valg rfl rfl (x_lss (r := true) rfl rfl (decide_eq_true (by omega))) rfl ?_
  refine EL.val (x_pick_t rfl rfl) rfl ?_
  refine EL.val (x_assign rfl) rfl ?_
  refine EL.nil ?_
  refine EX.seq ?_
  refine EC.yes rfl ?_
  refine EC.region ?_
  refine EL.val (x_move rfl) rfl ?_
  refine EL.val (x_move rfl) rfl ?_
  refine EL.val (fa_71_3 rfl) rfl ?_
  refine EL.val (ld_3 rfl (q1.at (j := 3) rfl)) rfl ?_
  refine EL.val (ix_26 rfl rfl hk) rfl ?_
  refine EL.val (ld_3 rfl (below_load hbw cv)) rfl ?_
  refine EL.val (x_sub rfl rfl (c := M.getD e 0 - M.getD a 0) (IntWalk.i64_in _ ⟨by omega, by omega⟩)) rfl ?_
  refine EL.val (x_assign rfl) rfl ?_
  refine EL.nil ?_
  refine EX.blk ?_
  refine EX.seq ?_
  refine EC.seq ?_
  refine EC.region ?_
  refine EL.val (x_move rfl) rfl ?_
  refine EL.val (fa_71_4 rfl) rfl ?_
  refine EL.val (fa_54_0 rfl) rfl ?_
  refine EL.val (ld_3 rfl (q1.at (j := 4) rfl)) rfl ?_
  by_cases h1 : lo ≤ M.getD e 0 - M.getD a 0
  ·
    refine EL.val (x_geq rfl rfl (by first | assumption | exact decide_eq_true (by omega))) rfl ?_
    refine EL.val (x_move rfl) rfl ?_
    refine EL.valg rfl rfl (x_move rfl) rfl ?_
    refine EL.valg rfl rfl (fa_71_4 rfl) rfl ?_
    refine EL.valg rfl rfl (fa_54_1 rfl) rfl ?_
    refine EL.valg rfl rfl (ld_3 rfl (q1.at (j := 5) rfl)) rfl ?_
    by_cases h2 : M.getD e 0 - M.getD a 0 ≤ hi
    ·
      refine EL.valg rfl rfl (x_leq rfl rfl (by first | assumption | exact decide_eq_true (by omega))) rfl ?_
      refine EL.val (x_pick_t rfl rfl) rfl ?_
      refine EL.val (x_assign rfl) rfl ?_
      refine EL.nil ?_
      refine EX.seq ?_
      refine EC.ret ?_
      exact EX.done (res1 rfl rfl) ⟨by congr 2; symm; first | (rw [Bool.and_eq_true, decide_eq_true_eq, decide_eq_true_eq]; omega) | (rw [Bool.and_eq_false_iff, decide_eq_false_iff_not, decide_eq_false_iff_not]; omega), hbw⟩
    ·
      refine EL.valg rfl rfl (x_leq rfl rfl (by first | assumption | exact decide_eq_false (by omega))) rfl ?_
      refine EL.val (x_pick_t rfl rfl) rfl ?_
      refine EL.val (x_assign rfl) rfl ?_
      refine EL.nil ?_
      refine EX.seq ?_
      refine EC.ret ?_
      exact EX.done (res1 rfl rfl) ⟨by congr 2; symm; first | (rw [Bool.and_eq_true, decide_eq_true_eq, decide_eq_true_eq]; omega) | (rw [Bool.and_eq_false_iff, decide_eq_false_iff_not, decide_eq_false_iff_not]; omega), hbw⟩
  ·
    refine EL.val (x_geq rfl rfl (by first | assumption | exact decide_eq_false (by omega))) rfl ?_
    refine EL.val (x_move rfl) rfl ?_
    refine EL.skip rfl rfl rfl rfl ?_
    refine EL.skip rfl rfl rfl rfl ?_
    refine EL.skip rfl rfl rfl rfl ?_
    refine EL.skip rfl rfl rfl rfl ?_
    refine EL.skip rfl rfl rfl rfl ?_
    refine EL.val (x_pick_f rfl rfl) rfl ?_
    refine EL.val (x_assign rfl) rfl ?_
    refine EL.nil ?_
    refine EX.seq ?_
    refine EC.ret ?_
    exact EX.done (res1 rfl rfl) ⟨by congr 2; symm; first | (rw [Bool.and_eq_true, decide_eq_true_eq, decide_eq_true_eq]; omega) | (rw [Bool.and_eq_false_iff, decide_eq_false_iff_not, decide_eq_false_iff_not]; omega), hbw⟩
end Go.Proofs.Ytmaiiigijjfjfaa
set_option linter.unusedVariables false
set_option linter.unusedSimpArgs false
namespace Go.Proofs.Ytmaiiigijjfjfaa
open Go Go.RowKit
def withoutL (c : Case) (set : List Int) : Nat → List (List Opt)
  | 0 => []
  | k + 1 => withoutL c set k ++ (if ((k : Nat) : Int) ∈ set then [] else [c.clues.getD k []])
def withoutC (c : Case) (set : List Int) : Case := ⟨c.events, c.clocks, withoutL c set c.clues.length⟩
def hasC (c : Case) : Bool := !(coursesL c).isEmpty
section
variable {c : Case} {set : List Int}
theorem withoutL_len : ∀ k : Nat, (withoutL c set k).length ≤ k
  | 0 => by simp [withoutL]
  | k + 1 => by
    have := withoutL_len k
    rw [withoutL, List.length_append]
    split <;> simp <;> omega
theorem withoutL_each : ∀ k, ∀ x ∈ withoutL c set k, ∃ i, i < k ∧ x = c.clues.getD i []
  | 0, x, hx => by simp [withoutL] at hx
  | k + 1, x, hx => by
    rw [withoutL, List.mem_append] at hx
    rcases hx with h | h
    · obtain ⟨i, hi, e⟩ := withoutL_each k x h
      exact ⟨i, by omega, e⟩
    · split at h
      · cases h
      · exact ⟨k, by omega, List.mem_singleton.1 h⟩
theorem without_ok (hc : caseB c = true) : caseB (withoutC c set) = true := by
  have h20 := (caseB_ok hc).2.2.1
  have hcl : ∀ i, i < c.clues.length → clueB c (c.clues.getD i []) = true := fun i hi => by
    simp only [caseB, Bool.and_eq_true, decide_eq_true_eq] at hc
    rw [show c.clues.getD i [] = c.clues[i] by simp [List.getD, hi]]
    exact List.all_eq_true.1 hc.2.2.2.2 _ (List.getElem_mem hi)
  simp only [caseB, Bool.and_eq_true, decide_eq_true_eq] at hc ⊢
  refine ⟨hc.1, hc.2.1, Nat.le_trans (withoutL_len _) h20, hc.2.2.2.1, List.all_eq_true.2 fun x hx => ?_⟩
  obtain ⟨i, hi, rfl⟩ := withoutL_each _ x hx
  exact hcl i hi
theorem without_succ_in {k : Nat} (h : ((k : Nat) : Int) ∈ set) : withoutL c set (k + 1) = withoutL c set k := by simp [withoutL, h]
theorem without_succ_out {k : Nat} (h : ¬((k : Nat) : Int) ∈ set) : withoutL c set (k + 1) = withoutL c set k ++ [c.clues.getD k []] := by simp [withoutL, h]
end
/-! ### Sets -/
/-- the sets that begin with some numbers, d more of them, from a number on -/
def setsP (n : Nat) : Nat → List Int → Nat → List (List Int)
  | 0, pre, _ => [pre]
  | d + 1, pre, next => (List.range (n - next)).flatMap fun k => setsP n d (pre ++ [((next + k : Nat) : Int)]) (next + k + 1)
theorem setsP_len (n : Nat) : ∀ (d : Nat) (pre : List Int) (next : Nat), (setsP n d pre next).length ≤ 2 ^ (n - next)
  | 0, pre, next => by simp [setsP]; exact Nat.one_le_two_pow
  | d + 1, pre, next => by
    have h : ∀ m, m ≤ n - next → ((List.range m).flatMap fun k => setsP n d (pre ++ [((next + k : Nat) : Int)]) (next + k + 1)).length + 2 ^ (n - next - m) ≤ 2 ^ (n - next) := by
      intro m
      induction m with
      | zero => intro _; simp
      | succ m ih =>
        intro hm
        have h1 := ih (by omega)
        have h2 := setsP_len n d (pre ++ [((next + m : Nat) : Int)]) (next + m + 1)
        rw [range_flat, List.length_append]
        rw [show n - (next + m + 1) = n - next - (m + 1) by omega] at h2
        have h3 : 2 ^ (n - next - m) = 2 * 2 ^ (n - next - (m + 1)) := by
          rw [show n - next - m = (n - next - (m + 1)) + 1 by omega, Nat.pow_succ, Nat.mul_comm]
        omega
    have := h (n - next) (Nat.le_refl _)
    unfold setsP
    exact Nat.le_trans (Nat.le_add_right _ _) this
def hasW (c : Case) (set : List Int) : Bool := hasC (withoutC c set)
def wrongAt (c : Case) (m : Nat) : List (List Int) := (setsP c.clues.length m [] 0).filter (hasW c)
def wrongFrom (c : Case) : Nat → Nat → List (List Int)
  | 0, m => wrongAt c m
  | k + 1, m => if wrongAt c m = [] then wrongFrom c k (m + 1) else wrongAt c m
def wrongL (c : Case) : List (List Int) := wrongFrom c c.clues.length 0
theorem wrongFrom_is {c : Case} {m : Nat} (hne : wrongAt c m ≠ []) : ∀ (k j : Nat), j ≤ m → m ≤ j + k → (∀ i, j ≤ i → i < m → wrongAt c i = []) → wrongFrom c k j = wrongAt c m
  | 0, j, h1, h2, _ => by rw [show m = j by omega]; rfl
  | k + 1, j, h1, h2, h => by
    by_cases e : j = m
    · subst e
      rw [wrongFrom, if_neg hne]
    · rw [wrongFrom, if_pos (h j (Nat.le_refl _) (by omega))]
      exact wrongFrom_is hne k (j + 1) (by omega) (by omega) fun i hi => h i (by omega)
theorem wrong_is {c : Case} {m : Nat} (hne : wrongAt c m ≠ []) (hm : m ≤ c.clues.length) (h : ∀ i, i < m → wrongAt c i = []) : wrongL c = wrongAt c m :=
  wrongFrom_is hne _ 0 (Nat.zero_le _) (by omega) fun i _ => h i
theorem mem_flatR {α : Type} {f : Nat → List α} {n : Nat} {x : α} : x ∈ (List.range n).flatMap f ↔ ∃ i, i < n ∧ x ∈ f i := by
  simp [List.mem_flatMap]
theorem setsP_none (n : Nat) : ∀ (d : Nat) (pre : List Int) (next : Nat), next ≤ n → n < next + d → setsP n d pre next = []
  | 0, pre, next, h0, h => by omega
  | d + 1, pre, next, h0, h => by
    unfold setsP
    refine flat_nil _ fun k hk => setsP_none n d _ _ (by omega) (by omega)
theorem setsP_some (n : Nat) : ∀ (d : Nat) (pre : List Int) (next : Nat), next + d ≤ n → setsP n d pre next ≠ []
  | 0, pre, next, h => by simp [setsP]
  | d + 1, pre, next, h => by
    unfold setsP
    obtain ⟨y, hy⟩ := List.exists_mem_of_ne_nil _ (setsP_some n d (pre ++ [((next + 0 : Nat) : Int)]) (next + 0 + 1) (by omega))
    exact List.ne_nil_of_mem (mem_flatR.2 ⟨0, by omega, hy⟩)
/-! ### Without any clue a course is left -/
theorem base_ok {c : Case} (hc : caseB c = true) (hl : c.clues = []) : okC c [] = true := by
  obtain ⟨hev, h8, _, hck, _⟩ := caseB_ok hc
  refine (ok_iff hc (inCourseN_nil c)).2 ⟨fun v => if v ≤ c.events.toNat then 0 else -(c.clocks.getD (v - 1 - c.events.toNat) bd0).lo, fun x hx => ?_⟩
  unfold linksOf at hx
  rw [List.length_nil, crsLinks, List.range_zero, List.flatMap_nil, List.append_nil, List.mem_append] at hx
  rcases hx with h | h
  · unfold evLinks at h
    obtain ⟨i, hi, h⟩ := mem_flatR.1 h
    simp only [evL, List.mem_cons, List.not_mem_nil, or_false] at h
    rcases h with rfl | rfl
    · simp only [Nat.zero_le, if_true]
      rw [if_pos (by omega)]
      omega
    · simp only [Nat.zero_le, if_true]
      rw [if_pos (by omega)]
      omega
  · unfold clLinks at h
    obtain ⟨i, hi, h⟩ := mem_flatR.1 h
    have hb := bdOk_iff.1 (hck i hi)
    simp only [clL, List.mem_cons, List.not_mem_nil, or_false] at h
    rcases h with rfl | rfl
    · simp only [Nat.zero_le, if_true]
      rw [if_neg (by omega), show 1 + c.events.toNat + i - 1 - c.events.toNat = i by omega]
      omega
    · simp only [Nat.zero_le, if_true]
      rw [if_neg (by omega), show 1 + c.events.toNat + i - 1 - c.events.toNat = i by omega]
      omega
theorem setsP_all (n : Nat) : ∀ (d : Nat) (pre : List Int) (next : Nat), next + d = n → ∀ y ∈ setsP n d pre next, ∀ x : Int, (x ∈ pre ∨ ((next : Nat) : Int) ≤ x ∧ x < (n : Nat)) → x ∈ y
  | 0, pre, next, h, y, hy, x, hx => by
    simp only [setsP, List.mem_singleton] at hy
    subst hy
    rcases hx with h1 | h1
    · exact h1
    · omega
  | d + 1, pre, next, h, y, hy, x, hx => by
    unfold setsP at hy
    obtain ⟨k, hk, hy⟩ := mem_flatR.1 hy
    by_cases e : k = 0
    · subst e
      refine setsP_all n d _ _ (by omega) y hy x ?_
      rcases hx with h1 | ⟨h1, h2⟩
      · exact .inl (List.mem_append_left _ h1)
      · by_cases e2 : x = ((next : Nat) : Int)
        · subst e2; exact .inl (List.mem_append_right _ (by simp))
        · exact .inr ⟨by omega, h2⟩
    · have := setsP_none n d (pre ++ [((next + k : Nat) : Int)]) (next + k + 1) (by omega) (by omega)
      rw [this] at hy
      cases hy
theorem wrong_last {c : Case} (hc : caseB c = true) : wrongAt c c.clues.length ≠ [] := by
  have hne := setsP_some c.clues.length c.clues.length [] 0 (by omega)
  obtain ⟨y, hy⟩ := List.exists_mem_of_ne_nil _ hne
  have hall := setsP_all c.clues.length c.clues.length [] 0 (by omega) y hy
  refine List.ne_nil_of_mem (a := y) (List.mem_filter.2 ⟨hy, ?_⟩)
  have hw := without_ok (set := y) hc
  have he : (withoutC c y).clues = [] := by
    have : ∀ k, k ≤ c.clues.length → withoutL c y k = [] := by
      intro k
      induction k with
      | zero => intro _; rfl
      | succ k ih =>
        intro hk
        rw [without_succ_in (hall _ (.inr ⟨by omega, by omega⟩))]
        exact ih (by omega)
    exact this _ (Nat.le_refl _)
  have hf : fitsS (withoutC c y) [] = true := by
    rw [fits_okC hw (inCourseN_nil _)]
    exact base_ok hw he
  unfold hasW hasC coursesL
  rw [he, List.length_nil, crsP_last hf]
  rfl
end Go.Proofs.Ytmaiiigijjfjfaa
set_option linter.unusedVariables false
set_option linter.unusedSimpArgs false
namespace Go.Proofs.Ytmaiiigijjfjfaa
open Go Go.RowKit
theorem getD_lt {α : Type} {l : List α} {i : Nat} {d : α} (h : i < l.length) : l.getD i d = l[i] := by rw [List.getD_eq_getElem?_getD, List.getElem?_eq_getElem h, Option.getD_some]
/-- the minutes of the events -/
def minAt (xm : List Int) (i : Nat) : Int := if xm.length = 0 then 0 else xm.getD (i % xm.length) 0
def minsL (xm : List Int) (n : Nat) : List Int := (List.range n).map (minAt xm)
/-- how fast the clocks are -/
def fastAt (c : Case) (xf : List Int) (k : Nat) : Int := (c.clocks.getD k bd0).lo + (((c.clocks.getD k bd0).hi - (c.clocks.getD k bd0).lo) * partI xf k).tdiv 255
def fastL (c : Case) (xf : List Int) (n : Nat) : List Int := (List.range n).map (fastAt c xf)
theorem minsL_len (xm : List Int) (n : Nat) : (minsL xm n).length = n := by simp [minsL]
theorem fastL_len (c : Case) (xf : List Int) (n : Nat) : (fastL c xf n).length = n := by simp [fastL]
theorem minsL_succ (xm : List Int) (n : Nat) : minsL xm (n + 1) = minsL xm n ++ [minAt xm n] := by simp [minsL, List.range_succ]
theorem fastL_succ (c : Case) (xf : List Int) (n : Nat) : fastL c xf (n + 1) = fastL c xf n ++ [fastAt c xf n] := by simp [fastL, List.range_succ]
theorem minsL_get {xm : List Int} {n i : Nat} (hi : i < n) : (minsL xm n).getD i 0 = minAt xm i := by simp [minsL, List.getD, hi]
theorem fastL_get {c : Case} {xf : List Int} {n i : Nat} (hi : i < n) : (fastL c xf n).getD i 0 = fastAt c xf i := by simp [fastL, List.getD, hi]
theorem minAt_bd {xm : List Int} (h : ∀ y ∈ xm, 0 ≤ y ∧ y ≤ 65535) (i : Nat) : 0 ≤ minAt xm i ∧ minAt xm i ≤ 65535 := by
  unfold minAt
  by_cases h0 : xm.length = 0
  · rw [if_pos h0]; omega
  · rw [if_neg h0]
    have hk : i % xm.length < xm.length := Nat.mod_lt _ (by omega)
    rw [show xm.getD (i % xm.length) 0 = xm[i % xm.length] by simp [hk]]
    exact h _ (List.getElem_mem hk)
theorem fast_in {lo hi p : Int} (h : lo ≤ hi) (hp : 0 ≤ p ∧ p ≤ 255) : lo ≤ lo + ((hi - lo) * p).tdiv 255 ∧ lo + ((hi - lo) * p).tdiv 255 ≤ hi := by
  have h0 : 0 ≤ (hi - lo) * p := Int.mul_nonneg (by omega) hp.1
  have h1 : (hi - lo) * p ≤ (hi - lo) * 255 := Int.mul_le_mul_of_nonneg_left hp.2 (by omega)
  rw [Int.tdiv_eq_ediv_of_nonneg h0]
  generalize (hi - lo) * p = z at *
  omega
/-- what a witness of an option says if this is the truth -/
def tv (o : Opt) (M F : List Int) : Int := if o.kind = 1 then M.getD o.event.toNat 0 + F.getD o.clock.toNat 0 else M.getD o.event.toNat 0 - M.getD o.after.toNat 0
def tvIn (o : Opt) (M F : List Int) : Bool := decide (o.mins.lo ≤ tv o M F) && decide (tv o M F ≤ o.mins.hi)
def wideO (o : Opt) : Int := min 20 (max 0 (o.mins.hi - o.mins.lo))
def mvd (o : Opt) (M F : List Int) : Opt := ⟨o.kind, o.event, o.clock, o.after, ⟨tv o M F - (wideO o).tdiv 2, tv o M F + wideO o - (wideO o).tdiv 2⟩⟩
def mvO (o : Opt) (M F : List Int) : Opt := if tvIn o M F = true then o else mvd o M F
theorem wide_bd (o : Opt) : 0 ≤ wideO o ∧ wideO o ≤ 20 ∧ (wideO o).tdiv 2 = wideO o / 2 := by
  have h : 0 ≤ wideO o ∧ wideO o ≤ 20 := by unfold wideO; omega
  exact ⟨h.1, h.2, Int.tdiv_eq_ediv_of_nonneg h.1⟩
theorem mvd_in (o : Opt) (M F : List Int) : tvIn (mvd o M F) M F = true := by
  have h := wide_bd o
  refine (Bool.and_eq_true _ _).mpr ⟨decide_eq_true ?_, decide_eq_true ?_⟩
  · show tv o M F - (wideO o).tdiv 2 ≤ tv o M F
    rw [h.2.2]; omega
  · show tv o M F ≤ tv o M F + wideO o - (wideO o).tdiv 2
    rw [h.2.2]; omega
theorem mvO_in (o : Opt) (M F : List Int) : tvIn (mvO o M F) M F = true := by
  unfold mvO
  by_cases h : tvIn o M F = true
  · rw [if_pos h]; exact h
  · rw [if_neg h]; exact mvd_in _ _ _
theorem mvd_ok {c : Case} {o : Opt} {M F : List Int} (h : optB c o = true) (ht : -1000000 ≤ tv o M F ∧ tv o M F ≤ 1000000) : optB c (mvd o M F) = true := by
  have hw := wide_bd o
  simp only [optB, Bool.and_eq_true, bdOk_iff] at h ⊢
  refine ⟨h.1, ?_, h.2.2⟩
  simp only [mvd]
  rw [hw.2.2]
  omega
theorem mvO_ok {c : Case} {o : Opt} {M F : List Int} (h : optB c o = true) (ht : -1000000 ≤ tv o M F ∧ tv o M F ≤ 1000000) : optB c (mvO o M F) = true := by
  unfold mvO
  split
  · exact h
  · exact mvd_ok h ht
/-! ### One option of one clue set anew -/
def setO (l : List (List Opt)) (x K : Nat) (p : Opt) : List (List Opt) := l.set x ((l.getD x []).set K p)
theorem setO_len (l : List (List Opt)) (x K : Nat) (p : Opt) : (setO l x K p).length = l.length := by simp [setO]
theorem setO_at {l : List (List Opt)} {x K : Nat} {p : Opt} (hx : x < l.length) : (setO l x K p).getD x [] = (l.getD x []).set K p := by simp [setO, List.getD, hx]
theorem setO_ne {l : List (List Opt)} {x K i : Nat} {p : Opt} (hi : i ≠ x) : (setO l x K p).getD i [] = l.getD i [] := by
  simp only [setO, List.getD]
  rw [List.getElem?_set_ne (by omega)]
theorem setO_same {l : List (List Opt)} {x K : Nat} (hx : x < l.length) (hK : K < (l.getD x []).length) : setO l x K ((l.getD x []).getD K opt0) = l := by
  unfold setO
  rw [getD_lt hK, List.set_getElem_self, getD_lt hx, List.set_getElem_self]
theorem setO_twice {l : List (List Opt)} {x K : Nat} {p q : Opt} (hx : x < l.length) : setO (setO l x K p) x K q = setO l x K q := by
  rw [show setO (setO l x K p) x K q = (setO l x K p).set x (((setO l x K p).getD x []).set K q) from rfl, setO_at hx]
  unfold setO
  rw [List.set_set, List.set_set]
/-! ### The case -/
def mvCl (c : Case) (b M F : List Int) (i : Nat) : List Opt := (c.clues.getD i []).set (pickK c b i) (mvO (chosen c b i) M F)
def toldL (c : Case) (b M F : List Int) (x : Nat) : List (List Opt) := (List.range c.clues.length).map fun i => if i < x then mvCl c b M F i else c.clues.getD i []
def toldC (c : Case) (b M F : List Int) : Case := ⟨c.events, c.clocks, toldL c b M F c.clues.length⟩
section
variable {c : Case} {b M F : List Int} {x : Nat}
theorem toldL_len (c : Case) (b M F : List Int) (x : Nat) : (toldL c b M F x).length = c.clues.length := by simp [toldL]
theorem toldL_get {i : Nat} (hi : i < c.clues.length) : (toldL c b M F x).getD i [] = if i < x then mvCl c b M F i else c.clues.getD i [] := by simp [toldL, List.getD, hi]
theorem ext_getD {α : Type} {d : α} {l m : List α} (h1 : l.length = m.length) (h : ∀ i, i < l.length → l.getD i d = m.getD i d) : l = m := by
  refine List.ext_getElem h1 fun i h2 h3 => ?_
  have := h i h2
  simpa [List.getD, h2, h3] using this
theorem toldL_zero : toldL c b M F 0 = c.clues := ext_getD (d := []) (toldL_len _ _ _ _ _) fun i hi => by
  rw [toldL_len] at hi
  rw [toldL_get hi, if_neg (by omega)]
theorem toldL_succ (hx : x < c.clues.length) : toldL c b M F (x + 1) = setO (toldL c b M F x) x (pickK c b x) (mvO (chosen c b x) M F) := ext_getD (d := []) (by rw [setO_len, toldL_len, toldL_len]) fun i hi => by
  rw [toldL_len] at hi
  rw [toldL_get hi]
  by_cases e : i = x
  · subst e
    rw [if_pos (by omega), setO_at (by rw [toldL_len]; exact hi), toldL_get hi, if_neg (by omega)]
    rfl
  · rw [setO_ne e, toldL_get hi]
    by_cases h : i < x
    · rw [if_pos h, if_pos (by omega)]
    · rw [if_neg h, if_neg (by omega)]
theorem toldL_row (i : Nat) : ((toldL c b M F x).getD i []).length = (c.clues.getD i []).length := by
  by_cases hi : i < c.clues.length
  · rw [toldL_get hi]
    split
    · simp [mvCl]
    · rfl
  · rw [List.getD_eq_getElem?_getD, List.getD_eq_getElem?_getD, List.getElem?_eq_none (by rw [toldL_len]; omega), List.getElem?_eq_none (by omega)]
/-- what is known of a truth -/
structure Truth (c : Case) (M F : List Int) : Prop where
  mlen : M.length = c.events.toNat
  flen : F.length = c.clocks.length
  mins : ∀ i, i < c.events.toNat → 0 ≤ M.getD i 0 ∧ M.getD i 0 ≤ 1000000
  fast : ∀ k, k < c.clocks.length → (c.clocks.getD k bd0).lo ≤ F.getD k 0 ∧ F.getD k 0 ≤ (c.clocks.getD k bd0).hi
  m16 : ∀ i, i < c.events.toNat → M.getD i 0 ≤ 65535
theorem Truth.fbd (ht : Truth c M F) (hc : caseB c = true) {k : Nat} (hk : k < c.clocks.length) : -100000 ≤ F.getD k 0 ∧ F.getD k 0 ≤ 100000 := by
  have h1 := bdOk_iff.1 ((caseB_ok hc).2.2.2.1 k hk)
  have h2 := ht.fast k hk
  omega
theorem Truth.tv_bd (ht : Truth c M F) (hc : caseB c = true) {o : Opt} (ho : optB c o = true) : -1000000 ≤ tv o M F ∧ tv o M F ≤ 1000000 := by
  have h := optB_ok ho
  have he := (caseB_ok hc).1
  have h1 := h.event
  have m1 := ht.mins o.event.toNat (by omega)
  have m2 := ht.m16 o.event.toNat (by omega)
  unfold tv
  rcases h.kind with ⟨hk, hr⟩ | ⟨hk, hr⟩
  · rw [if_pos hk]
    have := ht.fbd hc (k := o.clock.toNat) (by omega)
    omega
  · rw [if_neg (by omega)]
    have m3 := ht.mins o.after.toNat (by omega)
    have m4 := ht.m16 o.after.toNat (by omega)
    omega
theorem told_ok (hc : caseB c = true) (ht : Truth c M F) : caseB (toldC c b M F) = true := by
  have h0 := caseB_ok hc
  simp only [caseB, Bool.and_eq_true, decide_eq_true_eq] at hc ⊢
  refine ⟨hc.1, hc.2.1, ?_, hc.2.2.2.1, List.all_eq_true.2 fun l hl => ?_⟩
  · show (toldL c b M F c.clues.length).length ≤ 20
    rw [toldL_len]; exact hc.2.2.1
  · obtain ⟨i, hi, rfl⟩ := List.mem_map.1 hl
    have hi := List.mem_range.1 hi
    have hcb : caseB c = true := by simp only [caseB, Bool.and_eq_true, decide_eq_true_eq]; exact hc
    rw [if_pos hi]
    have hr := h0.2.2.2.2 i hi
    simp only [clueB, Bool.and_eq_true, inB_iff]
    refine ⟨by simp only [mvCl, List.length_set]; omega, List.all_eq_true.2 fun p hp => ?_⟩
    change optB c p = true
    rcases List.mem_or_eq_of_mem_set hp with h | rfl
    · obtain ⟨j, hj, rfl⟩ := List.mem_iff_getElem.1 h
      have := hr.2 j hj
      rwa [getD_lt hj] at this
    · exact mvO_ok (chosen_ok hcb hi) (ht.tv_bd hcb (chosen_ok hcb hi))
theorem told_course (hc : caseB c = true) : inCourse (toldC c b M F) (crsBy c b c.clues.length) := by
  have h := inCourse_by (b := b) hc (Nat.le_refl _)
  refine ⟨by show _ ≤ (toldL c b M F c.clues.length).length; rw [toldL_len]; exact h.1, fun i hi => ?_⟩
  have := h.2 i hi
  show _ ∧ _ < (((toldL c b M F c.clues.length).getD i []).length : Int)
  rw [toldL_row]
  exact this
theorem told_start (hc : caseB c = true) (ht : Truth c M F) : startErr (toldC c b M F) (crsBy c b c.clues.length) = 0 :=
  start_of (told_ok hc ht) (by show _ = (toldL c b M F c.clues.length).length; rw [toldL_len, crsBy_len]) (told_course hc)
/-- the numbers of the truth -/
def piT (c : Case) (M F : List Int) (v : Nat) : Int := if v = 0 then 0 else if v < 1 + c.events.toNat then M.getD (v - 1) 0 else -F.getD (v - 1 - c.events.toNat) 0
theorem piT_zero : piT c M F 0 = 0 := rfl
theorem piT_ev {i : Nat} (hi : i < c.events.toNat) : piT c M F (1 + i) = M.getD i 0 := by
  unfold piT
  rw [if_neg (by omega), if_pos (by omega), show 1 + i - 1 = i by omega]
theorem piT_cl (k : Nat) : piT c M F (1 + c.events.toNat + k) = -F.getD k 0 := by
  unfold piT
  rw [if_neg (by omega), if_neg (by omega), show 1 + c.events.toNat + k - 1 - c.events.toNat = k by omega]
theorem piT_from (ht : Truth c M F) {o : Opt} (h : OptOk c o) : piT c M F (1 + o.event.toNat) - piT c M F (optFrom c o) = tv o M F := by
  have h1 := h.event
  rw [piT_ev (by omega)]
  unfold optFrom tv
  rcases h.kind with ⟨hk, hr⟩ | ⟨hk, hr⟩
  · rw [if_neg (by omega), piT_cl, if_pos hk]; omega
  · rw [if_pos hk, piT_ev (by omega), if_neg (by omega)]
theorem told_chosen {i : Nat} (hi : i < c.clues.length) (hc : caseB c = true) : optAt (toldC c b M F) i ((crsBy c b c.clues.length).getD i 0) = mvO (chosen c b i) M F := by
  rw [crsBy_get hi]
  unfold optAt
  rw [Int.toNat_natCast]
  show ((toldL c b M F c.clues.length).getD i []).getD (pickK c b i) opt0 = _
  rw [toldL_get hi, if_pos hi]
  have := pick_lt (b := b) hc hi
  rw [getD_lt (by simp only [mvCl, List.length_set]; exact this)]
  simp [mvCl]
theorem told_feas (hc : caseB c = true) (ht : Truth c M F) : FeasM (linksOf (toldC c b M F) (crsBy c b c.clues.length)) (piT c M F) := by
  intro x hx
  unfold linksOf at hx
  rcases List.mem_append.1 hx with hx | hx
  · rcases List.mem_append.1 hx with hx | hx
    · obtain ⟨i, hi, hm⟩ := mem_flatR.1 hx
      have hm' : x ∈ evL i := hm
      simp only [evL, List.mem_cons, List.not_mem_nil, or_false] at hm'
      have hi' : i < c.events.toNat := hi
      have := ht.mins i hi'
      rcases hm' with rfl | rfl
      · simp only [piT_ev hi', piT_zero]; omega
      · simp only [piT_ev hi', piT_zero]; omega
    · obtain ⟨k, hk, hm⟩ := mem_flatR.1 hx
      have hk' : k < c.clocks.length := hk
      have := ht.fast k hk'
      have hm' : x ∈ clL c k := hm
      simp only [clL, List.mem_cons, List.not_mem_nil, or_false] at hm'
      rcases hm' with rfl | rfl
      · simp only [piT_cl, piT_zero]; omega
      · simp only [piT_cl, piT_zero]; omega
  · unfold crsLinks at hx
    rw [crsBy_len] at hx
    obtain ⟨i, hi, hm⟩ := mem_flatR.1 hx
    unfold crsL at hm
    rw [if_neg (by rw [crsBy_get hi]; omega), told_chosen hi hc] at hm
    have ho := mvO_ok (chosen_ok (b := b) hc hi) (ht.tv_bd hc (chosen_ok (b := b) hc hi))
    have hp := piT_from ht (optB_ok ho)
    have hin := mvO_in (chosen c b i) M F
    simp only [tvIn, Bool.and_eq_true, decide_eq_true_eq] at hin
    have hm' : x ∈ optL c (mvO (chosen c b i) M F) := hm
    simp only [optL, List.mem_cons, List.not_mem_nil, or_false] at hm'
    rcases hm' with rfl | rfl
    · simp only; omega
    · simp only; omega
end
end Go.Proofs.Ytmaiiigijjfjfaa
set_option linter.unusedVariables false
set_option linter.unusedSimpArgs false
namespace Go.Proofs.Ytmaiiigijjfjfaa
open Go Go.RowKit
def u16s (l : List Int) : List Value := l.map fun x => .int .u16 x
section
variable {P : Program} {n : Nat} {σ : Sg} {w : World}
theorem resc5 {fn : Func} {c s1 s2 s3 s4 : Tmp} {t : TypeId} {p : Addr} {v u1 u2 u3 u4 : Value} (h : fn.results = #[.cell c t, .tmp s1, .tmp s2, .tmp s3, .tmp s4]) (hc : σ c = some (.pointer (some p))) (h1 : σ s1 = some u1) (h2 : σ s2 = some u2) (h3 : σ s3 = some u3) (h4 : σ s4 = some u4) (hl : (loadVar t p).run P w = .ok v w) (a : Act) (ha : Env n σ a) : (results fn a.tmps).run P w = .ok (.tuple #[v, u1, u2, u3, u4]) w := by
  have e0 : a.tmps.getD c undef = .pointer (some p) := ha.eval (x := .tmp c) hc
  have e1 : a.tmps.getD s1 undef = u1 := ha.eval (x := .tmp s1) h1
  have e2 : a.tmps.getD s2 undef = u2 := ha.eval (x := .tmp s2) h2
  have e3 : a.tmps.getD s3 undef = u3 := ha.eval (x := .tmp s3) h3
  have e4 : a.tmps.getD s4 undef = u4 := ha.eval (x := .tmp s4) h4
  rw [Array.getD_eq_getD_getElem?] at e0 e1 e2 e3 e4
  simp [results, h, e0, e1, e2, e3, e4, asAddr, hl]
end
/-- three rows of integers of one's own, apart from each other -/
structure Rows3 (W : World) (base : Nat) (v1 v2 v3 : Value) (l1 l2 l3 : List Int) : Prop where
  r1 : W.ownsRow base 3 1 v1 l1.length (ints l1)
  r2 : W.ownsRow base 3 1 v2 l2.length (ints l2)
  r3 : W.ownsRow base 3 1 v3 l3.length (ints l3)
  a12 : Apart v1 v2
  a13 : Apart v1 v3
  a23 : Apart v2 v3
section
variable {W W' : World} {base base2 : Nat} {v1 v2 v3 v : Value} {l1 l2 l3 : List Int}
theorem Rows3.below (h : Rows3 W base v1 v2 v3 l1 l2 l3) (hb : Below W.heap.size W W') : Rows3 W' base v1 v2 v3 l1 l2 l3 := ⟨own_below h.r1 hb (Nat.le_refl _), own_below h.r2 hb (Nat.le_refl _), own_below h.r3 hb (Nat.le_refl _), h.a12, h.a13, h.a23⟩
theorem Rows3.type {g T : Nat} {cs : Array Value} (h : Rows3 W base v1 v2 v3 l1 l2 l3) (hq : Blk W g T cs) (hT : Nat.beq T 3 = false) (hg : W.grownBy W' (some g)) : Rows3 W' base v1 v2 v3 l1 l2 l3 := ⟨own_type h.r1 hq hT hg, own_type h.r2 hq hT hg, own_type h.r3 hq hT hg, h.a12, h.a13, h.a23⟩
theorem Rows3.grown {e2 size2 m : Nat} {u : Value} {ys : List Value} (h : Rows3 W base v1 v2 v3 l1 l2 l3) (hu : W.ownsRow base2 e2 size2 u m ys) (hT : Nat.beq e2 3 = false) (hg : W.grownBy W' u.ownBlock) : Rows3 W' base v1 v2 v3 l1 l2 l3 := ⟨own_grown h.r1 hu hT hg, own_grown h.r2 hu hT hg, own_grown h.r3 hu hT hg, h.a12, h.a13, h.a23⟩
theorem apart_more {w : World} {v v' u : Value} {base e size n : Nat} {xs : List Value} (h : Apart v u) (hu : w.ownsRow base e size u n xs) (hat : ∀ b, v'.ownBlock = some b → v.ownBlock = some b ∨ w.heap.size ≤ b) : Apart v' u := fun g h1 h2 => by
  rcases hat g h1 with h3 | h3
  · exact h g h3 h2
  · have := (hu.lt g h2).2
    omega
theorem at_grown {w : World} {v v' : Value} (hat : v'.ownBlock = v.ownBlock ∨ v'.ownBlock = some w.heap.size) : ∀ b, v'.ownBlock = some b → v.ownBlock = some b ∨ w.heap.size ≤ b := fun b hb => by
  rcases hat with h | h
  · exact .inl (h ▸ hb)
  · rw [h] at hb; injection hb with hb; exact .inr (by omega)
theorem Rows3.push1 {x : Int} (h : Rows3 W base v1 v2 v3 l1 l2 l3) (hg : W.grownBy W' v1.ownBlock) (ho : W'.ownsRow base 3 1 v (l1.length + 1) (ints l1 ++ [.int .i64 x])) (hat : ∀ b, v.ownBlock = some b → v1.ownBlock = some b ∨ W.heap.size ≤ b) : Rows3 W' base v v2 v3 (l1 ++ [x]) l2 l3 :=
  ⟨by rw [List.length_append, List.length_singleton, ints_app]; exact ho, own_apart h.r2 hg h.a12, own_apart h.r3 hg h.a13, apart_more h.a12 h.r2 hat, apart_more h.a13 h.r3 hat, h.a23⟩
theorem Rows3.push2 {x : Int} (h : Rows3 W base v1 v2 v3 l1 l2 l3) (hg : W.grownBy W' v2.ownBlock) (ho : W'.ownsRow base 3 1 v (l2.length + 1) (ints l2 ++ [.int .i64 x])) (hat : ∀ b, v.ownBlock = some b → v2.ownBlock = some b ∨ W.heap.size ≤ b) : Rows3 W' base v1 v v3 l1 (l2 ++ [x]) l3 :=
  ⟨own_apart h.r1 hg h.a12.symm, by rw [List.length_append, List.length_singleton, ints_app]; exact ho, own_apart h.r3 hg h.a23, (apart_more h.a12.symm h.r1 hat).symm, h.a13, apart_more h.a23 h.r3 hat⟩
theorem Rows3.push3 {x : Int} (h : Rows3 W base v1 v2 v3 l1 l2 l3) (hg : W.grownBy W' v3.ownBlock) (ho : W'.ownsRow base 3 1 v (l3.length + 1) (ints l3 ++ [.int .i64 x])) (hat : ∀ b, v.ownBlock = some b → v3.ownBlock = some b ∨ W.heap.size ≤ b) : Rows3 W' base v1 v2 v l1 l2 (l3 ++ [x]) :=
  ⟨own_apart h.r1 hg h.a13.symm, own_apart h.r2 hg h.a23.symm, by rw [List.length_append, List.length_singleton, ints_app]; exact ho, h.a12, (apart_more h.a13.symm h.r1 hat).symm, (apart_more h.a23.symm h.r2 hat).symm⟩
end
section
variable {W W' : World} {base base2 : Nat} {va vb : Value} {c : Case} {vs : List Value}
theorem OwnCase.type {g T : Nat} {cs : Array Value} (h : OwnCase W base va vb c vs) (hq : Blk W g T cs) (h0 : Nat.beq T 54 = false) (h1 : Nat.beq T 74 = false) (h2 : Nat.beq T 71 = false) (hg : W.grownBy W' (some g)) : OwnCase W' base va vb c vs := ⟨own_type h.clocks hq h0 hg, h.clues.type hq h1 h2 hg⟩
theorem OwnCase.grown {e2 size2 m : Nat} {u : Value} {ys : List Value} (h : OwnCase W base va vb c vs) (hu : W.ownsRow base2 e2 size2 u m ys) (h0 : Nat.beq e2 54 = false) (h1 : Nat.beq e2 74 = false) (h2 : Nat.beq e2 71 = false) (hg : W.grownBy W' u.ownBlock) : OwnCase W' base va vb c vs := ⟨own_grown h.clocks hu h0 hg, h.clues.grown hu h1 h2 hg⟩
/-- a box of bounds that is newer than a case of one's own -/
theorem OwnCase.newer {g : Nat} (h : OwnCase W base va vb c vs) {cs : Array Value} (hq : Blk W g 54 cs) (hne : ∀ g', va.ownBlock = some g' → g' ≠ g) (hg : W.grownBy W' (some g)) : OwnCase W' base va vb c vs := ⟨own_apart (v := .slice (some ⟨g, 0, none⟩) 0 0) h.clocks hg fun g' h1 h2 => hne g' h2 (Option.some.inj h1).symm, h.clues.type hq rfl rfl hg⟩
theorem OwnCase.less {base0 : Nat} (h : OwnCase W base va vb c vs) (hB : base0 ≤ base) : OwnCase W base0 va vb c vs := ⟨own_less h.clocks hB, h.clues.len, own_less h.clues.own hB, fun i hi => own_less (h.clues.row i hi) hB, h.clues.apart⟩
def withM (o : Opt) (m : Bd) : Opt := ⟨o.kind, o.event, o.clock, o.after, m⟩
theorem opts_set : ∀ {l : List Opt} {K : Nat} (m : Bd), K < l.length → spl (optsC l) (K * 6 + 4) [.int .i64 m.lo, .int .i64 m.hi] = optsC (l.set K (withM (l.getD K opt0) m))
  | [], K, m, h => absurd h (by simp)
  | p :: l, 0, m, _ => by
    show Value.int .i64 p.kind :: Value.int .i64 p.event :: Value.int .i64 p.clock :: Value.int .i64 p.after :: Value.int .i64 m.lo :: Value.int .i64 m.hi :: ovr (optsC l) [] = _
    rw [ovr_eq _ _ (by simp)]
    rfl
  | p :: l, K + 1, m, h => by
    have ih := opts_set (l := l) (K := K) m (by simpa using h)
    have e : (K + 1) * 6 + 4 = (K * 6 + 4) + 6 := by omega
    rw [e]
    show Value.int .i64 p.kind :: Value.int .i64 p.event :: Value.int .i64 p.clock :: Value.int .i64 p.after :: Value.int .i64 p.mins.lo :: Value.int .i64 p.mins.hi :: spl (optsC l) (K * 6 + 4) _ = _
    rw [ih]
    rfl
theorem OwnClues.set {l : List (List Opt)} {l' : List Opt} {x : Nat} (h : OwnClues W base vb l vs) (hx : x < l.length) (hrow : W'.ownsRow base 71 6 (vs.getD x undef) (l.getD x []).length (optsC l')) (hl : l'.length = (l.getD x []).length) (hg : W.grownBy W' (vs.getD x undef).ownBlock) : OwnClues W' base vb (l.set x l') vs := by
  have hn : (l.set x l').length = l.length := List.length_set
  refine ⟨by rw [hn]; exact h.len, by rw [hn]; exact own_grown h.own (h.row x hx) rfl hg, fun i hi => ?_, fun i j hi hj => h.apart i j (by rwa [hn] at hi) hj⟩
  rw [hn] at hi
  by_cases e : i = x
  · subst e
    rw [show (l.set i l').getD i [] = l' by simp [List.getD, hi], hl]
    exact hrow
  · rw [show (l.set x l').getD i [] = l.getD i [] by simp only [List.getD]; rw [List.getElem?_set_ne (by omega)]]
    refine own_apart (h.row i hi) hg ?_
    by_cases h1 : i < x
    · exact (h.apart x i hx h1).symm
    · exact h.apart i x hi (by omega)
/-- an option's minutes set anew -/
theorem OwnCase.set {x K : Nat} {m : Bd} (h : OwnCase W base va vb c vs) (hx : x < c.clues.length) (hK : K < (c.clues.getD x []).length) (hrow : W'.ownsRow base 71 6 (vs.getD x undef) (c.clues.getD x []).length (spl (optsC (c.clues.getD x [])) (K * 6 + 4) [.int .i64 m.lo, .int .i64 m.hi])) (hg : W.grownBy W' (vs.getD x undef).ownBlock) :
    OwnCase W' base va vb ⟨c.events, c.clocks, setO c.clues x K (withM ((c.clues.getD x []).getD K opt0) m)⟩ vs := by
  rw [opts_set m hK] at hrow
  refine ⟨own_grown h.clocks (h.clues.row x hx) rfl hg, ?_⟩
  exact h.clues.set hx hrow List.length_set hg
end
/-- an option that is looked at: as it was, or set anew -/
def pY (o : Opt) (M F : List Int) (y : Nat) : Opt := if y = 0 then o else mvd o M F
theorem fits_opt {c : Case} {o : Opt} {M F : List Int} (ht : Truth c M F) (hc : caseB c = true) (ho : OptOk c o) {b : Bool} (hb : tvIn o M F = b) (vm vf : Value) (w : World) (B : Nat) (hm : Rd w B 1 vm M.length (ints M)) (hf : Rd w B 1 vf F.length (ints F)) (hB : B ≤ w.heap.size) :
    Calls Try.prog 57 #[.agg #[.int .i64 o.kind, .int .i64 o.event, .int .i64 o.clock, .int .i64 o.after, .int .i64 o.mins.lo, .int .i64 o.mins.hi], vm, vf] w fun e_ w' => e_ = .returned (.bool b) ∧ Below w.heap.size w w' := by
  subst hb
  have h1 := ho.event
  have h2 := ho.kind
  have hml := ht.mlen
  have hfl := ht.flen
  have he1 := (caseB_ok hc).1
  obtain ⟨kd, ev, ck, af, ⟨lo, hi⟩⟩ := o
  simp only at h1 h2
  obtain ⟨e, rfl⟩ : ∃ e : Nat, ev = e := ⟨ev.toNat, by omega⟩
  have m1 := ht.mins e (by omega)
  rcases h2 with ⟨rfl, h3, h4⟩ | ⟨rfl, h3, h4, h5⟩
  · obtain ⟨k, rfl⟩ : ∃ k : Nat, ck = k := ⟨ck.toNat, by omega⟩
    have f1 := ht.fbd hc (k := k) (by omega)
    exact fits_seen e k af lo hi M F vm vf w B hm hf hB (by omega) (by omega) (by omega) (by omega)
  · obtain ⟨a, rfl⟩ : ∃ a : Nat, af = a := ⟨af.toNat, by omega⟩
    have m2 := ht.mins a (by omega)
    exact fits_gap e ck a lo hi M F vm vf w B hm hf hB (by omega) (by omega) (by omega) (by omega)
theorem mvd_with (o : Opt) (M F : List Int) : mvd o M F = withM o ⟨tv o M F - (wideO o).tdiv 2, tv o M F + wideO o - (wideO o).tdiv 2⟩ := rfl
end Go.Proofs.Ytmaiiigijjfjfaa
set_option linter.unusedVariables false
set_option linter.unusedSimpArgs false
namespace Go.Proofs.Ytmaiiigijjfjfaa
open Go Go.RowKit
section
variable {n : Nat} {σ : Sg} {w : World} {dst : Option Tmp} {ty : TypeId} {pos : String} {af : Array Edge} {g : Option (Nat × Bool)} {x y z : Operand} {at' : Array TypeId}
theorem bx_65 {v0 v1 v2 v3 v4 : Value} (hx : evS σ x = some (.agg #[v0, v1, v2, v3, v4])) (a : Act) (ha : Env n σ a) : (execOp a.eval ⟨dst, .box 65 x, ty, pos, af, g⟩).run Try.prog w = .ok (.value (.pointer (some ⟨w.heap.size, 0, none⟩))) (w.alloc (.cells #[v0, v1, v2, v3, v4] 65)) := by
  simp only [execOp, ha.eval hx]
  simp [go_sem]
theorem fa_65_0 {b o : Nat} (hx : evS σ x = some (.pointer (some ⟨b, o, none⟩))) : Gives Try.prog n σ w ⟨dst, .fieldAddr 65 x 0, ty, pos, af, g⟩ (.pointer (some ⟨b, o, none⟩)) := fun a ha => by
  simp only [execOp, ha.eval hx]
  simp [go_sem]
theorem fa_65_1 {b o : Nat} (hx : evS σ x = some (.pointer (some ⟨b, o, none⟩))) : Gives Try.prog n σ w ⟨dst, .fieldAddr 65 x 1, ty, pos, af, g⟩ (.pointer (some ⟨b, o + 3, none⟩)) := fun a ha => by
  simp only [execOp, ha.eval hx]
  simp [go_sem]
theorem ld_62 {b o : Nat} {v0 : Value} (hx : evS σ x = some (.pointer (some ⟨b, o, none⟩))) (c0 : w.cell? ⟨b, o, none⟩ = some v0) : Gives Try.prog n σ w ⟨dst, .load 62 x, ty, pos, af, g⟩ (v0) := fun a ha => by
  simp only [execOp, ha.eval hx]
  simp [go_sem, c0]
theorem ln_62 {A : Option Addr} {m c : Nat} (hx : evS σ x = some (.slice A m c)) : Gives Try.prog n σ w ⟨dst, .call { callee := .builtin .len, args := #[x], argTypes := #[62] }, ty, pos, af, g⟩ (.int .i64 (m : Int)) := fun a ha => by
  simp only [execOp, resolve, List.map_toArray, List.map_cons, List.map_nil, ha.eval hx]
  simp [go_sem]
theorem ix_62 {b o m c k : Nat} (hx : evS σ x = some (.slice (some ⟨b, o, none⟩) m c)) (hy : evS σ y = some (.int .i64 (k : Int))) (hk : k < m) : Gives Try.prog n σ w ⟨dst, .indexAddr 62 x y, ty, pos, af, g⟩ (.pointer (some ⟨b, o + k, none⟩)) := fun a ha => by
  have k0 : (0 : Int) ≤ (k : Int) := Int.natCast_nonneg _
  have k1 : (k : Int) < (m : Int) := by omega
  simp only [execOp, ha.eval hx, ha.eval hy]
  simp [go_sem, k0, k1]
theorem ld_99 {b o : Nat} {v0 : Value} (hx : evS σ x = some (.pointer (some ⟨b, o, none⟩))) (c0 : w.cell? ⟨b, o, none⟩ = some v0) : Gives Try.prog n σ w ⟨dst, .load 99 x, ty, pos, af, g⟩ (v0) := fun a ha => by
  simp only [execOp, ha.eval hx]
  simp [go_sem, c0]
theorem cv_99_3 {m : Int} (hx : evS σ x = some (.int .u16 m)) (hm : IntKind.i64.wrap m = m) : Gives Try.prog n σ w ⟨dst, .convert 99 3 x, ty, pos, af, g⟩ (.int .i64 m) := fun a ha => by
  simp only [execOp, ha.eval hx]
  simp [go_sem, hm]
theorem fa_65_2 {b o : Nat} (hx : evS σ x = some (.pointer (some ⟨b, o, none⟩))) : Gives Try.prog n σ w ⟨dst, .fieldAddr 65 x 2, ty, pos, af, g⟩ (.pointer (some ⟨b, o + 4, none⟩)) := fun a ha => by
  simp only [execOp, ha.eval hx]
  simp [go_sem]
theorem ld_63 {b o : Nat} {v0 : Value} (hx : evS σ x = some (.pointer (some ⟨b, o, none⟩))) (c0 : w.cell? ⟨b, o, none⟩ = some v0) : Gives Try.prog n σ w ⟨dst, .load 63 x, ty, pos, af, g⟩ (v0) := fun a ha => by
  simp only [execOp, ha.eval hx]
  simp [go_sem, c0]
theorem cl_57 {x0 x1 x2 : Operand} {v0 v1 v2 : Value} (h0 : evS σ x0 = some v0) (h1 : evS σ x1 = some v1) (h2 : evS σ x2 = some v2) (a : Act) (ha : Env n σ a) : (execOp a.eval ⟨dst, .call { callee := .value (.func 57), args := #[x0, x1, x2], argTypes := at' }, ty, pos, af, g⟩).run Try.prog w = .ok (.enter 57 #[v0, v1, v2]) w := by
  simp only [execOp, resolve, List.map_toArray, List.map_cons, List.map_nil, ha.eval h0, ha.eval h1, ha.eval h2]
  simp [go_sem, Act.eval]
theorem mm_max {p q r : Int} (hx : evS σ x = some (.int .i64 p)) (hy : evS σ y = some (.int .i64 q)) (hr : max p q = r) : Gives Try.prog n σ w ⟨dst, .call { callee := .builtin .max, args := #[x, y], argTypes := at' }, ty, pos, af, g⟩ (.int .i64 r) := fun a ha => by
  simp only [execOp, resolve, List.map_toArray, List.map_cons, List.map_nil, ha.eval hx, ha.eval hy]
  subst hr
  simp [go_sem, Int.max_def]
  split <;> split <;> omega
end
end Go.Proofs.Ytmaiiigijjfjfaa
set_option linter.unusedVariables false
set_option linter.unusedSimpArgs false
namespace Go.Proofs.Ytmaiiigijjfjfaa
open Go Go.RowKit
set_option maxHeartbeats 8000000 in
set_option maxRecDepth 100000 in
theorem told_any (c : Case) (vc vl : Value) (vs : List Value) (w : World) (B : Nat) (hr : RdCase w B vc vl c vs) (hB : B ≤ w.heap.size) (hn1 : c.clocks.length ≤ 9223372036854775807) (hn2 : c.clues.length ≤ 9223372036854775807) (hfit : Fits c) (xm xf b : List Int) (vm vf vb : Value) (hrm : Rd w B 1 vm xm.length (u16s xm)) (hrf : Rd w B 1 vf xf.length (u8s xf)) (hrb : Rd w B 1 vb b.length (u8s b)) (hnm : xm.length ≤ 9223372036854775807) (hnf : xf.length ≤ 9223372036854775807) (hnb : b.length ≤ 9223372036854775807) (hxm : ∀ y ∈ xm, 0 ≤ y ∧ y ≤ 65535) (hxf : ∀ y ∈ xf, 0 ≤ y ∧ y ≤ 255) (hbb : ∀ y ∈ b, 0 ≤ y ∧ y ≤ 255) :
    Calls Try.prog 33 #[.agg #[.int .i64 c.events, vc, vl, vm, vf], vb] w fun e w' => ((∃ (A1 A2 : Option Addr) (n1 n2 k1 k2 : Nat), e = .returned (.tuple #[.agg #[.int .i64 c.events, .slice A1 n1 k1, .slice A2 n2 k2], .slice none 0 0, .slice none 0 0, .slice none 0 0, .bool false])) ∨
      ∃ va vb vM vF vK ws, e = .returned (.tuple #[.agg #[.int .i64 c.events, va, vb], vM, vF, vK, .bool true]) ∧ caseB c = true ∧ Small c ∧ OwnCase w' w.heap.size va vb (toldC c b (minsL xm c.events.toNat) (fastL c xf c.clocks.length)) ws ∧ Rows3 w' w.heap.size vM vF vK (minsL xm c.events.toNat) (fastL c xf c.clocks.length) (crsBy c b c.clues.length) ∧ Truth c (minsL xm c.events.toNat) (fastL c xf c.clocks.length)) ∧ Below w.heap.size w w' := by
  obtain ⟨Ac, cc_, rfl, _⟩ := hr.clocks.shape
  obtain ⟨Al, cl_, rfl, _⟩ := hr.clues.rd.shape
  obtain ⟨Am, cm_, rfl, _⟩ := hrm.shape
  obtain ⟨Af, cf_, rfl, _⟩ := hrf.shape
  obtain ⟨Ab, cb_, rfl, _⟩ := hrb.shape
  have hbw := Below.refl w.heap.size w
  refine EC.enter 270 Try.func33 rfl rfl rfl ?_
  refine EC.seq ?_
  refine EC.region ?_
  refine EL.newP (bx_65 rfl) rfl ?_
  intro g1 w1 q1 hb1 hg1 hl1
  have bhbw_1 := Nat.le_trans hbw.size hg1
  replace hbw := Below.on hbw hb1 hbw.size
  clear hb1 hg1 hl1
  refine EL.newP al_25 rfl ?_
  intro g2 w2 q2 hb2 hg2 hl2
  have n1_2 : g1 ≠ g2 := Nat.ne_of_lt (Nat.lt_of_lt_of_le q1.lt hg2)
  have bhbw_2 := Nat.le_trans hbw.size hg2
  replace q1 := q1.below hb2 q1.lt
  replace hbw := Below.on hbw hb2 hbw.size
  clear hb2 hg2 hl2
  refine EL.val (x_assign rfl) rfl ?_
  refine EL.val (x_assign rfl) rfl ?_
  refine EL.val (x_assign rfl) rfl ?_
  refine EL.val (x_assign rfl) rfl ?_
  refine EL.nil ?_
  refine EX.seq ?_
  refine EC.seq ?_
  refine EC.region ?_
  refine EL.val (fa_65_0 rfl) rfl ?_
  refine EL.val (ld_25 rfl (q1.at (j := 0) rfl) (q1.at (j := 1) rfl) (q1.at (j := 2) rfl)) rfl ?_
  have hsz0 := hbw.size
  refine EL.call (cl_14 rfl) rfl (copied_big c _ _ vs _ B (hr.below (hbw.mono hB)) (Nat.le_trans hB hbw.size) hn1 hn2 hfit) ?_
  rintro e w3 ⟨⟨va_, vb_, ws, rfl, ho⟩, hc3⟩
  refine ⟨_, rfl, ?_⟩
  replace q1 := q1.below hc3 q1.lt
  replace q2 := q2.below hc3 q2.lt
  replace hbw := Below.on hbw hc3 hbw.size
  clear hc3
  replace ho := ho.less hsz0
  obtain ⟨AB, cB, rfl, _⟩ := (Rd.of_own ho.clocks).shape
  obtain ⟨AL, cL, rfl, _⟩ := (Rd.of_own ho.clues.own).shape
  refine EL.newS (bs_26_0) rfl ?_
  intro g4 w4 q4 hb4 hg4 hl4
  have n1_4 : g1 ≠ g4 := Nat.ne_of_lt (Nat.lt_of_lt_of_le q1.lt hg4)
  have n2_4 : g2 ≠ g4 := Nat.ne_of_lt (Nat.lt_of_lt_of_le q2.lt hg4)
  have bhbw_4 := Nat.le_trans hbw.size hg4
  replace q1 := q1.below hb4 q1.lt
  replace q2 := q2.below hb4 q2.lt
  replace ho := ho.below hb4
  replace hbw := Below.on hbw hb4 hbw.size
  clear hb4 hg4 hl4
  refine EL.newS (bs_26_0) rfl ?_
  intro g5 w5 q5 hb5 hg5 hl5
  have n1_5 : g1 ≠ g5 := Nat.ne_of_lt (Nat.lt_of_lt_of_le q1.lt hg5)
  have n2_5 : g2 ≠ g5 := Nat.ne_of_lt (Nat.lt_of_lt_of_le q2.lt hg5)
  have n4_5 : g4 ≠ g5 := Nat.ne_of_lt (Nat.lt_of_lt_of_le q4.lt hg5)
  have bhbw_5 := Nat.le_trans hbw.size hg5
  replace q1 := q1.below hb5 q1.lt
  replace q2 := q2.below hb5 q2.lt
  replace q4 := q4.below hb5 q4.lt
  replace ho := ho.below hb5
  replace hbw := Below.on hbw hb5 hbw.size
  clear hb5 hg5 hl5
  refine EL.newS (bs_26_0) rfl ?_
  intro g6 w6 q6 hb6 hg6 hl6
  have n1_6 : g1 ≠ g6 := Nat.ne_of_lt (Nat.lt_of_lt_of_le q1.lt hg6)
  have n2_6 : g2 ≠ g6 := Nat.ne_of_lt (Nat.lt_of_lt_of_le q2.lt hg6)
  have n4_6 : g4 ≠ g6 := Nat.ne_of_lt (Nat.lt_of_lt_of_le q4.lt hg6)
  have n5_6 : g5 ≠ g6 := Nat.ne_of_lt (Nat.lt_of_lt_of_le q5.lt hg6)
  have bhbw_6 := Nat.le_trans hbw.size hg6
  replace q1 := q1.below hb6 q1.lt
  replace q2 := q2.below hb6 q2.lt
  replace q4 := q4.below hb6 q4.lt
  replace q5 := q5.below hb6 q5.lt
  replace ho := ho.below hb6
  replace hbw := Below.on hbw hb6 hbw.size
  clear hb6 hg6 hl6
  refine EL.newP al_25 rfl ?_
  intro g7 w7 q7 hb7 hg7 hl7
  have n1_7 : g1 ≠ g7 := Nat.ne_of_lt (Nat.lt_of_lt_of_le q1.lt hg7)
  have n2_7 : g2 ≠ g7 := Nat.ne_of_lt (Nat.lt_of_lt_of_le q2.lt hg7)
  have n4_7 : g4 ≠ g7 := Nat.ne_of_lt (Nat.lt_of_lt_of_le q4.lt hg7)
  have n5_7 : g5 ≠ g7 := Nat.ne_of_lt (Nat.lt_of_lt_of_le q5.lt hg7)
  have n6_7 : g6 ≠ g7 := Nat.ne_of_lt (Nat.lt_of_lt_of_le q6.lt hg7)
  have bhbw_7 := Nat.le_trans hbw.size hg7
  replace q1 := q1.below hb7 q1.lt
  replace q2 := q2.below hb7 q2.lt
  replace q4 := q4.below hb7 q4.lt
  replace q5 := q5.below hb7 q5.lt
  replace q6 := q6.below hb7 q6.lt
  replace ho := ho.below hb7
  replace hbw := Below.on hbw hb7 hbw.size
  clear hb7 hg7 hl7
  refine EL.store rfl rfl q7 sz_25 rfl rfl rfl rfl ?_
  intro w8 hq8 hg8
  replace q1 := q1.grown hg8 (fun h => n1_7 (Option.some.inj h))
  replace q2 := q2.grown hg8 (fun h => n2_7 (Option.some.inj h))
  replace q4 := q4.grown hg8 (fun h => n4_7 (Option.some.inj h))
  replace q5 := q5.grown hg8 (fun h => n5_7 (Option.some.inj h))
  replace q6 := q6.grown hg8 (fun h => n6_7 (Option.some.inj h))
  replace ho := ho.type q7 rfl rfl rfl hg8
  replace hbw := below_store hbw hg8 bhbw_7
  replace q7 := hq8
  clear hg8 hq8
  refine EL.val (x_assign rfl) rfl ?_
  refine EL.val (x_assign rfl) rfl ?_
  refine EL.val (x_assign rfl) rfl ?_
  refine EL.nil ?_
  refine EX.seq ?_
  refine EC.seq ?_
  refine EC.seq ?_
  refine EC.region ?_
  refine EL.val (ld_25 rfl (q7.at (j := 0) rfl) (q7.at (j := 1) rfl) (q7.at (j := 2) rfl)) rfl ?_
  refine EL.call (cl_11 rfl) rfl (large_any c _ _ ws _ _ ho.rd (Nat.le_refl _) hn1 hn2) ?_
  rintro e wB ⟨⟨bB, rfl, hsm⟩, hcB⟩
  cases bB
  ·
    replace hsm := hsm rfl
    have hk1 : c.clocks.length ≤ 1073741824 := by have := hsm.clocks; omega
    have hk2 : c.clues.length ≤ 1073741824 := by have := hsm.clues; omega
    refine ⟨_, rfl, ?_⟩
    replace q1 := q1.below hcB q1.lt
    replace q2 := q2.below hcB q2.lt
    replace q4 := q4.below hcB q4.lt
    replace q5 := q5.below hcB q5.lt
    replace q6 := q6.below hcB q6.lt
    replace q7 := q7.below hcB q7.lt
    replace ho := ho.below hcB
    replace hbw := Below.on hbw hcB hbw.size
    clear hcB
    refine EL.val (x_move rfl) rfl ?_
    refine EL.valg rfl rfl (fa_25_0 rfl) rfl ?_
    refine EL.valg rfl rfl (ld_3 rfl (q7.at (j := 0) rfl)) rfl ?_
    by_cases he1 : c.events < 1
    ·
      refine EL.valg rfl rfl (x_lss rfl rfl (by first | assumption | exact decide_eq_true (by omega))) rfl ?_
      refine EL.val (x_pick_f rfl rfl) rfl ?_
      refine EL.val (x_move rfl) rfl ?_
      refine EL.skip rfl rfl rfl rfl ?_
      refine EL.skip rfl rfl rfl rfl ?_
      refine EL.skip rfl rfl rfl rfl ?_
      refine EL.val (x_pick_t rfl rfl) rfl ?_
      refine EL.val (x_move rfl) rfl ?_
      refine EL.skip rfl rfl rfl rfl ?_
      refine EL.skip rfl rfl rfl rfl ?_
      refine EL.skip rfl rfl rfl rfl ?_
      refine EL.skip rfl rfl rfl rfl ?_
      refine EL.val (x_pick_t rfl rfl) rfl ?_
      refine EL.nil ?_
      refine EX.seq ?_
      refine EC.yes rfl ?_
      refine EC.seq ?_
      refine EC.region ?_
      refine EL.val (ld_25 rfl (q7.at (j := 0) rfl) (q7.at (j := 1) rfl) (q7.at (j := 2) rfl)) rfl ?_
      refine EL.store rfl rfl q2 sz_25 rfl rfl rfl rfl ?_
      intro w9 hq9 hg9
      replace q1 := q1.grown hg9 (fun h => n1_2 (Option.some.inj h))
      replace q4 := q4.grown hg9 (fun h => n2_4.symm (Option.some.inj h))
      replace q5 := q5.grown hg9 (fun h => n2_5.symm (Option.some.inj h))
      replace q6 := q6.grown hg9 (fun h => n2_6.symm (Option.some.inj h))
      replace q7 := q7.grown hg9 (fun h => n2_7.symm (Option.some.inj h))
      replace ho := ho.type q2 rfl rfl rfl hg9
      replace hbw := below_store hbw hg9 bhbw_2
      replace q2 := hq9
      clear hg9 hq9
      refine EL.val (x_assign rfl) rfl ?_
      refine EL.val (x_assign rfl) rfl ?_
      refine EL.val (x_assign rfl) rfl ?_
      refine EL.val (x_assign rfl) rfl ?_
      refine EL.nil ?_
      refine EX.seq ?_
      refine EC.ret ?_
      refine EX.seq_ret ?_
      exact EX.done (resc5 rfl rfl rfl rfl rfl rfl (lv_25 (q2.at (j := 0) rfl) (q2.at (j := 1) rfl) (q2.at (j := 2) rfl))) ⟨.inl ⟨_, _, _, _, _, _, rfl⟩, hbw⟩
    ·
      refine EL.valg rfl rfl (x_lss rfl rfl (by first | assumption | exact decide_eq_false (by omega))) rfl ?_
      refine EL.val (x_pick_f rfl rfl) rfl ?_
      refine EL.val (x_move rfl) rfl ?_
      refine EL.valg rfl rfl (fa_25_0 rfl) rfl ?_
      refine EL.valg rfl rfl (ld_3 rfl (q7.at (j := 0) rfl)) rfl ?_
      by_cases he2 : 20 < c.events
      ·
        refine EL.valg rfl rfl (x_gtr rfl rfl (by first | assumption | exact decide_eq_true (by omega))) rfl ?_
        refine EL.val (x_pick_f rfl rfl) rfl ?_
        refine EL.val (x_move rfl) rfl ?_
        refine EL.skip rfl rfl rfl rfl ?_
        refine EL.skip rfl rfl rfl rfl ?_
        refine EL.skip rfl rfl rfl rfl ?_
        refine EL.skip rfl rfl rfl rfl ?_
        refine EL.val (x_pick_t rfl rfl) rfl ?_
        refine EL.nil ?_
        refine EX.seq ?_
        refine EC.yes rfl ?_
        refine EC.seq ?_
        refine EC.region ?_
        refine EL.val (ld_25 rfl (q7.at (j := 0) rfl) (q7.at (j := 1) rfl) (q7.at (j := 2) rfl)) rfl ?_
        refine EL.store rfl rfl q2 sz_25 rfl rfl rfl rfl ?_
        intro w10 hq10 hg10
        replace q1 := q1.grown hg10 (fun h => n1_2 (Option.some.inj h))
        replace q4 := q4.grown hg10 (fun h => n2_4.symm (Option.some.inj h))
        replace q5 := q5.grown hg10 (fun h => n2_5.symm (Option.some.inj h))
        replace q6 := q6.grown hg10 (fun h => n2_6.symm (Option.some.inj h))
        replace q7 := q7.grown hg10 (fun h => n2_7.symm (Option.some.inj h))
        replace ho := ho.type q2 rfl rfl rfl hg10
        replace hbw := below_store hbw hg10 bhbw_2
        replace q2 := hq10
        clear hg10 hq10
        refine EL.val (x_assign rfl) rfl ?_
        refine EL.val (x_assign rfl) rfl ?_
        refine EL.val (x_assign rfl) rfl ?_
        refine EL.val (x_assign rfl) rfl ?_
        refine EL.nil ?_
        refine EX.seq ?_
        refine EC.ret ?_
        refine EX.seq_ret ?_
        exact EX.done (resc5 rfl rfl rfl rfl rfl rfl (lv_25 (q2.at (j := 0) rfl) (q2.at (j := 1) rfl) (q2.at (j := 2) rfl))) ⟨.inl ⟨_, _, _, _, _, _, rfl⟩, hbw⟩
      ·
        refine EL.valg rfl rfl (x_gtr rfl rfl (by first | assumption | exact decide_eq_false (by omega))) rfl ?_
        refine EL.val (x_pick_f rfl rfl) rfl ?_
        refine EL.val (x_move rfl) rfl ?_
        refine EL.valg rfl rfl (ld_25 rfl (q7.at (j := 0) rfl) (q7.at (j := 1) rfl) (q7.at (j := 2) rfl)) rfl ?_
        refine EL.callg rfl rfl (cl_14 rfl) rfl (copied_any c _ _ ws _ _ ho.rd (Nat.le_refl _) hk1 hk2 hsm) ?_
        rintro e w11 ⟨⟨va2, vb2, ws2, rfl, ho2⟩, hc11⟩
        refine ⟨_, rfl, ?_⟩
        replace q1 := q1.below hc11 q1.lt
        replace q2 := q2.below hc11 q2.lt
        replace q4 := q4.below hc11 q4.lt
        replace q5 := q5.below hc11 q5.lt
        replace q6 := q6.below hc11 q6.lt
        replace q7 := q7.below hc11 q7.lt
        replace ho := ho.below hc11
        replace hbw := Below.on hbw hc11 hbw.size
        clear hc11
        have hr2 := ho2.rd
        obtain ⟨Ad2, cd2, rfl, _⟩ := hr2.clocks.shape
        obtain ⟨Am2, cm2, rfl, _⟩ := hr2.clues.rd.shape
        have hb2 := Below.refl w11.heap.size w11
        by_cases hcb : caseB c = true
        ·
          refine EL.callg rfl rfl (cl_25 rfl) rfl (check_ok hcb _ _ ws2 _ _ (hr2.below hb2) hb2.size hk1 hk2) ?_
          rintro e w12 ⟨rfl, hc12⟩
          refine ⟨_, rfl, ?_⟩
          replace q1 := q1.below hc12 q1.lt
          replace q2 := q2.below hc12 q2.lt
          replace q4 := q4.below hc12 q4.lt
          replace q5 := q5.below hc12 q5.lt
          replace q6 := q6.below hc12 q6.lt
          replace q7 := q7.below hc12 q7.lt
          replace ho := ho.below hc12
          replace hbw := Below.on hbw hc12 hbw.size
          replace hb2 := Below.on hb2 hc12 hb2.size
          clear hc12
          refine EL.valg rfl rfl (x_neq (r := false) rfl rfl (by decide)) rfl ?_
          refine EL.val (x_pick_f rfl rfl) rfl ?_
          refine EL.nil ?_
          refine EX.seq ?_
          refine EC.no rfl ?_
          refine EC.skip ?_
          refine EX.seq ?_
          refine EC.seq ?_
          refine EC.seq ?_
          refine EC.region ?_
          refine EL.val (x_assign rfl) rfl ?_
          refine EL.nil ?_
          refine EX.seq ?_
          refine EC.block ?_
          obtain ⟨hev, h8, h20, hck, hcl⟩ := caseB_ok hcb
          obtain ⟨Ne, eN⟩ : ∃ N : Nat, c.events = N := ⟨c.events.toNat, by omega⟩
          have eN2 : c.events.toNat = Ne := by omega
          have h3 : Rows3 w12 w.heap.size (.slice (some ⟨g4, 0, none⟩) 0 0) (.slice (some ⟨g5, 0, none⟩) 0 0) (.slice (some ⟨g6, 0, none⟩) 0 0) [] [] [] := ⟨own_empty 1 q4 bhbw_4, own_empty 1 q5 bhbw_5, own_empty 1 q6 bhbw_6, fun g h1 h2 => n4_5 (Option.some.inj (h1.trans h2.symm)), fun g h1 h2 => n4_6 (Option.some.inj (h1.trans h2.symm)), fun g h1 h2 => n5_6 (Option.some.inj (h1.trans h2.symm))⟩
          refine EC.loopD [10, 13, 14, 47, 48, 49, 50, 51, 52, 53, 54, 55, 56, 57, 58, 59, 60, 61, 62, 63, 64, 65, 66, 67, 68, 69, 70] (fun x : Nat × Value => [(10, x.2), (13, .int .i64 (x.1 : Nat))]) (fun x W => x.1 ≤ Ne ∧ Blk W g1 65 #[.int .i64 c.events, .slice Ac c.clocks.length cc_, .slice Al c.clues.length cl_, .slice Am xm.length cm_, .slice Af xf.length cf_] ∧ Blk W g2 25 #[.int .i64 0, .slice none 0 0, .slice none 0 0] ∧ Blk W g7 25 #[.int .i64 c.events, .slice AB c.clocks.length cB, .slice AL c.clues.length cL] ∧ OwnCase W w.heap.size (.slice AB c.clocks.length cB) (.slice AL c.clues.length cL) c ws ∧ Rows3 W w.heap.size x.2 (.slice (some ⟨g5, 0, none⟩) 0 0) (.slice (some ⟨g6, 0, none⟩) 0 0) (minsL xm x.1) [] [] ∧ Below w.heap.size w W) (fun x => Ne - x.1) (0, (.slice (some ⟨g4, 0, none⟩) 0 0)) ⟨Nat.zero_le _, q1, q2, q7, ho, h3, hbw⟩ ⟨rfl, rfl, trivial⟩ ?_
          clear q1 q2 q7 ho h3 hbw
          rintro ⟨x, v⟩ wx ⟨hx, q1x, q4x, q9x, ho, h3, hbw⟩
          dsimp only at hx h3
          have hml := minsL_len xm x
          obtain ⟨AV, cV, eV, _⟩ := (Rd.of_own h3.r1).shape
          rw [hml] at eV
          subst eV
          by_cases hlt : x < Ne
          ·
            refine EC.seq ?_
            refine EC.seq ?_
            refine EC.region ?_
            refine EL.val (x_move rfl) rfl ?_
            refine EL.val (fa_25_0 rfl) rfl ?_
            refine EL.val (ld_3 rfl (q9x.at (j := 0) rfl)) rfl ?_
            refine EL.val (x_lss rfl rfl (decide_eq_true (show ((x : Nat) : Int) < c.events by omega))) rfl ?_
            refine EL.nil ?_
            refine EX.seq ?_
            refine EC.yes rfl ?_
            refine EC.skip ?_
            refine EX.seq ?_
            refine EC.seq ?_
            refine EC.block ?_
            refine EC.seq ?_
            refine EC.region ?_
            refine EL.val (x_assign rfl) rfl ?_
            refine EL.nil ?_
            refine EX.seq ?_
            refine EC.seq ?_
            refine EC.seq ?_
            refine EC.region ?_
            refine EL.val (fa_65_1 rfl) rfl ?_
            refine EL.val (ld_62 rfl (q1x.at (j := 3) rfl)) rfl ?_
            refine EL.val (ln_62 rfl) rfl ?_
            by_cases h0 : xm.length = 0
            ·
              have hp : minAt xm x = 0 := by rw [minAt, if_pos h0]
              refine EL.val (x_gtr (r := false) rfl rfl (decide_eq_false (by omega))) rfl ?_
              refine EL.nil ?_
              refine EX.seq ?_
              refine EC.no rfl ?_
              refine EC.skip ?_
              refine EX.seq ?_
              refine EC.region ?_
              refine EL.val (x_move rfl) rfl ?_
              refine EL.val (x_move rfl) rfl ?_
              refine EL.newS (bs_26_1 rfl) rfl ?_
              intro g13 w13 q13 hb13 hg13 hl13
              have n1_13 : g1 ≠ g13 := Nat.ne_of_lt (Nat.lt_of_lt_of_le q1x.lt hg13)
              have n2_13 : g2 ≠ g13 := Nat.ne_of_lt (Nat.lt_of_lt_of_le q4x.lt hg13)
              have n7_13 : g7 ≠ g13 := Nat.ne_of_lt (Nat.lt_of_lt_of_le q9x.lt hg13)
              have bhbw_13 := Nat.le_trans hbw.size hg13
              replace q1x := q1x.below hb13 q1x.lt
              replace q4x := q4x.below hb13 q4x.lt
              replace q9x := q9x.below hb13 q9x.lt
              replace ho := ho.below hb13
              replace h3 := h3.below hb13
              replace hbw := Below.on hbw hb13 hbw.size
              clear hb13 hg13 hl13
              have hr_ := h3.r1
              refine EL.push i64_elem rfl rfl hr_ (rd_one (l := [.int .i64 0]) q13 rfl) (by intro u hu; rw [List.mem_singleton.1 hu]; rfl) (by omega) rfl hbw.size rfl ?_
              intro v14 w14 hn_ hgr hb_ hat_
              have h3n := h3.push1 hgr hn_ (at_grown hat_)
              replace q1x := blk_grown q1x hr_ rfl hgr
              replace q4x := blk_grown q4x hr_ rfl hgr
              replace q9x := blk_grown q9x hr_ rfl hgr
              replace ho := ho.grown hr_ rfl rfl rfl hgr
              replace hbw := hbw.trans hb_
              clear h3
              have h3 := h3n
              clear h3n hn_ hgr hb_ hat_ hr_
              refine EL.val (x_assign rfl) rfl ?_
              refine EL.nil ?_
              refine EX.blk ?_
              refine EX.seq ?_
              refine EC.region ?_
              refine EL.val (x_move rfl) rfl ?_
              refine EL.val (x_add rfl rfl (c := ((x + 1 : Nat) : Int)) ((IntWalk.i64_in _ ⟨by first | omega | (simp only; omega), by first | omega | (simp only; omega)⟩).trans (by first | omega | (simp only; omega)))) rfl ?_
              refine EL.val (x_assign rfl) rfl ?_
              refine EL.nil ?_
              refine EX.roundD (x + 1, _) ⟨rfl, rfl, trivial⟩ (by repeat first | with_reducible exact Sub.refl _ | refine sub_past rfl ?_ | exact Sub.refl _ | refine sub_del rfl ?_ | refine sub_insL_nil ?_) ⟨hlt, q1x, q4x, q9x, ho, by rw [minsL_succ, hp]; exact h3, hbw⟩ (by simp only; omega)
            ·
              have hk : x % xm.length < xm.length := Nat.mod_lt _ (by omega)
              have hp : minAt xm x = xm.getD (x % xm.length) 0 := by rw [minAt, if_neg h0]
              have hmb := minAt_bd hxm x
              obtain ⟨bm, om, e_, _, hc_⟩ := hrm.at_ (by omega)
              subst e_
              have c0 := hc_ (x % xm.length) (.int .u16 (minAt xm x)) (by rw [hp]; simp [u16s, hk])
              refine EL.val (x_gtr (r := true) rfl rfl (decide_eq_true (by omega))) rfl ?_
              refine EL.nil ?_
              refine EX.seq ?_
              refine EC.yes rfl ?_
              refine EC.regionQ (by kernel_rfl) (by kernel_rfl) ?_
              refine EQ.val (fun _ hw => (fa_65_1 rfl)) rfl ?_
              refine EQ.val (fun _ hw => (ld_62 rfl (below_load hw (q1x.at (j := 3) rfl)))) rfl ?_
              refine EQ.val (fun _ hw => (x_move rfl)) rfl ?_
              refine EQ.val (fun _ hw => (fa_65_1 rfl)) rfl ?_
              refine EQ.val (fun _ hw => (ld_62 rfl (below_load hw (q1x.at (j := 3) rfl)))) rfl ?_
              refine EQ.val (fun _ hw => (ln_62 rfl)) rfl ?_
              refine EQ.val (fun _ hw => (x_rem rfl rfl (c := ((x % xm.length : Nat) : Int)) (by omega) rfl)) rfl ?_
              refine EQ.val (fun _ hw => (ix_62 rfl rfl hk)) rfl ?_
              refine EQ.val (fun _ hw => (ld_99 rfl (below_load hw (below_load hbw c0)))) rfl ?_
              refine EQ.val (fun _ hw => (cv_99_3 rfl (IntWalk.i64_in _ ⟨by omega, by omega⟩))) rfl ?_
              refine EQ.val (fun _ hw => (x_assign rfl)) rfl ?_
              refine EQ.fin (fun w15 hw_ => ?_)
              replace q1x := q1x.below hw_ q1x.lt
              replace q4x := q4x.below hw_ q4x.lt
              replace q9x := q9x.below hw_ q9x.lt
              replace ho := ho.below hw_
              replace h3 := h3.below hw_
              replace hbw := Below.on hbw hw_ hbw.size
              clear hw_
              refine EX.seq ?_
              refine EC.region ?_
              refine EL.val (x_move rfl) rfl ?_
              refine EL.val (x_move rfl) rfl ?_
              refine EL.newS (bs_26_1 rfl) rfl ?_
              intro g16 w16 q16 hb16 hg16 hl16
              have n1_16 : g1 ≠ g16 := Nat.ne_of_lt (Nat.lt_of_lt_of_le q1x.lt hg16)
              have n2_16 : g2 ≠ g16 := Nat.ne_of_lt (Nat.lt_of_lt_of_le q4x.lt hg16)
              have n7_16 : g7 ≠ g16 := Nat.ne_of_lt (Nat.lt_of_lt_of_le q9x.lt hg16)
              have bhbw_16 := Nat.le_trans hbw.size hg16
              replace q1x := q1x.below hb16 q1x.lt
              replace q4x := q4x.below hb16 q4x.lt
              replace q9x := q9x.below hb16 q9x.lt
              replace ho := ho.below hb16
              replace h3 := h3.below hb16
              replace hbw := Below.on hbw hb16 hbw.size
              clear hb16 hg16 hl16
              have hr_ := h3.r1
              refine EL.push i64_elem rfl rfl hr_ (rd_one (l := [.int .i64 (minAt xm x)]) q16 rfl) (by intro u hu; rw [List.mem_singleton.1 hu]; rfl) (by omega) rfl hbw.size rfl ?_
              intro v17 w17 hn_ hgr hb_ hat_
              have h3n := h3.push1 hgr hn_ (at_grown hat_)
              replace q1x := blk_grown q1x hr_ rfl hgr
              replace q4x := blk_grown q4x hr_ rfl hgr
              replace q9x := blk_grown q9x hr_ rfl hgr
              replace ho := ho.grown hr_ rfl rfl rfl hgr
              replace hbw := hbw.trans hb_
              clear h3
              have h3 := h3n
              clear h3n hn_ hgr hb_ hat_ hr_
              refine EL.val (x_assign rfl) rfl ?_
              refine EL.nil ?_
              refine EX.blk ?_
              refine EX.seq ?_
              refine EC.region ?_
              refine EL.val (x_move rfl) rfl ?_
              refine EL.val (x_add rfl rfl (c := ((x + 1 : Nat) : Int)) ((IntWalk.i64_in _ ⟨by first | omega | (simp only; omega), by first | omega | (simp only; omega)⟩).trans (by first | omega | (simp only; omega)))) rfl ?_
              refine EL.val (x_assign rfl) rfl ?_
              refine EL.nil ?_
              refine EX.roundD (x + 1, _) ⟨rfl, rfl, trivial⟩ (by repeat first | with_reducible exact Sub.refl _ | refine sub_past rfl ?_ | exact Sub.refl _ | refine sub_del rfl ?_ | refine sub_insL_nil ?_) ⟨hlt, q1x, q4x, q9x, ho, by rw [minsL_succ]; exact h3, hbw⟩ (by simp only; omega)
          ·
            have hxN : x = Ne := by omega
            refine EC.seq ?_
            refine EC.seq ?_
            refine EC.region ?_
            refine EL.val (x_move rfl) rfl ?_
            refine EL.val (fa_25_0 rfl) rfl ?_
            refine EL.val (ld_3 rfl (q9x.at (j := 0) rfl)) rfl ?_
            refine EL.val (x_lss rfl rfl (decide_eq_false (show ¬((x : Nat) : Int) < c.events by omega))) rfl ?_
            refine EL.nil ?_
            refine EX.seq ?_
            refine EC.no rfl ?_
            refine EC.exit ?_
            refine EX.seq_exit ?_
            refine EX.seq_exit ?_
            refine EX.blk_here ?_
            refine EX.seq ?_
            refine EC.seq ?_
            refine EC.seq ?_
            refine EC.region ?_
            refine EL.val (x_assign rfl) rfl ?_
            refine EL.nil ?_
            refine EX.seq ?_
            refine EC.block ?_
            obtain ⟨M, eM⟩ : ∃ z, z = (minsL xm x) := ⟨_, rfl⟩
            rw [← eM] at h3 hml
            refine EC.loopD [11, 15, 16, 71, 72, 73, 74, 75, 76, 77, 78, 79, 80, 81, 82, 83, 84, 85, 86, 87, 88, 89, 90, 91, 92, 93, 94, 95, 96, 97, 98, 99, 100] (fun y : Nat × Value => [(11, y.2), (15, .int .i64 (y.1 : Nat))]) (fun y W => y.1 ≤ c.clocks.length ∧ Blk W g1 65 #[.int .i64 c.events, .slice Ac c.clocks.length cc_, .slice Al c.clues.length cl_, .slice Am xm.length cm_, .slice Af xf.length cf_] ∧ Blk W g2 25 #[.int .i64 0, .slice none 0 0, .slice none 0 0] ∧ Blk W g7 25 #[.int .i64 c.events, .slice AB c.clocks.length cB, .slice AL c.clues.length cL] ∧ OwnCase W w.heap.size (.slice AB c.clocks.length cB) (.slice AL c.clues.length cL) c ws ∧ Rows3 W w.heap.size (.slice AV x cV) y.2 (.slice (some ⟨g6, 0, none⟩) 0 0) M (fastL c xf y.1) [] ∧ Below w.heap.size w W) (fun y => c.clocks.length - y.1) (0, (.slice (some ⟨g5, 0, none⟩) 0 0)) ⟨Nat.zero_le _, q1x, q4x, q9x, ho, h3, hbw⟩ ⟨rfl, rfl, trivial⟩ ?_
            clear q1x q4x q9x ho h3 hbw
            rintro ⟨y_, v⟩ wy ⟨hy, q1y, q4y, q9y, ho, h3, hbw⟩
            dsimp only at hy h3
            have hfl := fastL_len c xf y_
            obtain ⟨AF, cF, eF, _⟩ := (Rd.of_own h3.r2).shape
            rw [hfl] at eF
            subst eF
            by_cases hlt : y_ < c.clocks.length
            ·
              have hbz := Below.refl wy.heap.size wy
              have hlt0 := fun g h => (ho.clocks.lt g h).2
              obtain ⟨bc, oc, e_, _, cl0, cl1⟩ := bds_cells c.clocks y_ hlt wy _ _ _ _ (Rd.of_own ho.clocks)
              subst e_
              have hbk := bdOk_iff.1 (hck y_ hlt)
              obtain ⟨bb, eb⟩ : ∃ z, z = c.clocks.getD y_ bd0 := ⟨_, rfl⟩
              rw [← eb] at cl0 cl1 hbk
              have hpr := part_bd hxf y_
              have hfa : bb.lo + ((bb.hi - bb.lo) * partI xf y_).tdiv 255 = fastAt c xf y_ := by rw [fastAt, ← eb]
              have hfi := fast_in hbk.2.1 hpr
              rw [hfa] at hfi
              have hD0 : 0 ≤ (bb.hi - bb.lo) * partI xf y_ := Int.mul_nonneg (by omega) hpr.1
              have hD1 : (bb.hi - bb.lo) * partI xf y_ ≤ (bb.hi - bb.lo) * 255 := Int.mul_le_mul_of_nonneg_left hpr.2 (by omega)
              refine EC.seq ?_
              refine EC.seq ?_
              refine EC.region ?_
              refine EL.val (x_move rfl) rfl ?_
              refine EL.val (fa_25_1 rfl) rfl ?_
              refine EL.val (ld_22 rfl (q9y.at (j := 1) rfl)) rfl ?_
              refine EL.val (ln_22 rfl) rfl ?_
              refine EL.val (x_lss rfl rfl (decide_eq_true (show (((y_ : Nat) : Int) < ((c.clocks.length : Nat) : Int)) by omega))) rfl ?_
              refine EL.nil ?_
              refine EX.seq ?_
              refine EC.yes rfl ?_
              refine EC.skip ?_
              refine EX.seq ?_
              refine EC.seq ?_
              refine EC.block ?_
              refine EC.seq ?_
              refine EC.region ?_
              refine EL.val (fa_25_1 rfl) rfl ?_
              refine EL.val (ld_22 rfl (q9y.at (j := 1) rfl)) rfl ?_
              refine EL.val (x_move rfl) rfl ?_
              refine EL.val (ix_22 rfl rfl hlt) rfl ?_
              refine EL.val (ld_54 rfl (below_load hbz cl0) (below_load hbz cl1)) rfl ?_
              refine EL.newP al_54 rfl ?_
              intro g18 w18 q18 hb18 hg18 hl18
              have n1_18 : g1 ≠ g18 := Nat.ne_of_lt (Nat.lt_of_lt_of_le q1y.lt hg18)
              have n2_18 : g2 ≠ g18 := Nat.ne_of_lt (Nat.lt_of_lt_of_le q4y.lt hg18)
              have n7_18 : g7 ≠ g18 := Nat.ne_of_lt (Nat.lt_of_lt_of_le q9y.lt hg18)
              have bhbw_18 := Nat.le_trans hbw.size hg18
              have bhbz_18 := Nat.le_trans hbz.size hg18
              replace q1y := q1y.below hb18 q1y.lt
              replace q4y := q4y.below hb18 q4y.lt
              replace q9y := q9y.below hb18 q9y.lt
              replace ho := ho.below hb18
              replace h3 := h3.below hb18
              replace hbw := Below.on hbw hb18 hbw.size
              replace hbz := Below.on hbz hb18 hbz.size
              clear hb18 hg18 hl18
              refine EL.store rfl rfl q18 sz_54 rfl rfl rfl rfl ?_
              intro w19 hq19 hg19
              replace q1y := q1y.grown hg19 (fun h => n1_18 (Option.some.inj h))
              replace q4y := q4y.grown hg19 (fun h => n2_18 (Option.some.inj h))
              replace q9y := q9y.grown hg19 (fun h => n7_18 (Option.some.inj h))
              replace ho := ho.newer q18 (fun g' h => Nat.ne_of_lt (Nat.lt_of_lt_of_le (hlt0 g' h) bhbz_18)) hg19
              replace h3 := h3.type q18 rfl hg19
              replace hbw := below_store hbw hg19 bhbw_18
              replace hbz := below_store hbz hg19 bhbz_18
              replace q18 := hq19
              clear hg19 hq19
              refine EL.nil ?_
              refine EX.seq ?_
              have h3r2 := h3.r2
              have hW := below_row h3r2 (w1 := w19) ⟨rfl, rfl, rfl, Nat.le_refl _, fun _ _ _ => rfl⟩ hbw.size
              clear hW
              have lt_1 := q1y.lt
              have lt_2 := q4y.lt
              have lt_7 := q9y.lt
              have lt_18 := q18.lt
              refine EC.regionS [[], [], [1], [], [3], [], [5], [3, 4, 5, 6], [], [8], [], [8, 9, 10], [8, 9, 10, 11], [3, 4, 5, 6, 7, 8, 9, 10, 11, 12], [3, 4, 5, 6, 7, 8, 9, 10, 11, 12, 13], [1, 2, 3, 4, 5, 6, 7, 8, 9, 10, 11, 12, 13, 14], [1, 2, 3, 4, 5, 6, 7, 8, 9, 10, 11, 12, 13, 14, 15], [0, 1, 2, 3, 4, 5, 6, 7, 8, 9, 10, 11, 12, 13, 14, 15, 16], [0, 1, 2, 3, 4, 5, 6, 7, 8, 9, 10, 11, 12, 13, 14, 15, 16, 17]] 18 [] [17] (fun fl w_ => w19.grownBy w_ ((.slice AF y_ cF) : Value).ownBlock ∧ (fl 17 = false → w_.ownsRow w.heap.size 3 1 (.slice AF y_ cF) (fastL c xf y_).length (ints (fastL c xf y_)))) (phiS (fun i_ r => match i_ with | 0 => r 0 = .slice AF y_ cF | 1 => r 1 = .pointer (some ⟨g18, 0, none⟩) | 2 => r 2 = .int .i64 bb.lo | 3 => r 3 = .pointer (some ⟨g18, 1, none⟩) | 4 => r 4 = .int .i64 bb.hi | 5 => r 5 = .pointer (some ⟨g18, 0, none⟩) | 6 => r 6 = .int .i64 bb.lo | 7 => r 7 = .int .i64 (bb.hi - bb.lo) | 8 => r 8 = .pointer (some ⟨g1, 4, none⟩) | 9 => r 9 = .slice Af xf.length cf_ | 10 => r 10 = .int .i64 (y_ : Nat) | 11 => r 11 = .int .u8 (partI xf y_) | 12 => r 12 = .int .i64 (partI xf y_) | 13 => r 13 = .int .i64 ((bb.hi - bb.lo) * partI xf y_) | 14 => r 14 = .int .i64 (((bb.hi - bb.lo) * partI xf y_).tdiv 255) | 15 => r 15 = .int .i64 (fastAt c xf y_) | _ => True) [(16, fun fl r w_ => fl 17 = false → (∃ g_, r 16 = .slice (some ⟨g_, 0, none⟩) 1 1 ∧ Blk w_ g_ 3 #[.int .i64 (fastAt c xf y_)] ∧ w19.heap.size ≤ g_)), (17, fun _ r w_ => w_.ownsRow w.heap.size 3 1 (r 17) ((fastL c xf y_).length + 1) ((ints (fastL c xf y_)) ++ [.int .i64 (fastAt c xf y_)]) ∧ ∀ b, (r 17).ownBlock = some b → ((.slice AF y_ cF) : Value).ownBlock = some b ∨ w19.heap.size ≤ b)]) (by kernel_rfl) rfl rfl (by intro i hi; simp at hi; subst hi; exact ⟨by simp, by omega⟩) (base_row h3r2) (phiS_cons (monoS_till mono_bs) (phiS_cons (monoS_row (e := 17) (C := fun u_ => ∀ b, u_.ownBlock = some b → ((.slice AF y_ cF) : Value).ownBlock = some b ∨ w19.heap.size ≤ b)) (phiS_nil))) (fun i_ hi_ hs_ => ?_) (fun i_ hi_ => ?_) ?_
              · match i_, hi_ with
                | 0, _ =>
                  intro val fl w1 a hb ha hd hfl
                  obtain ⟨hgb, hg0⟩ := hb
                  have hb := below_row h3r2 hgb hbw.size
                  have ha := ha.sub (Sub.ins (d := 11) (Sub.nil _) rfl)
                  exact ss_val ha rfl rfl (x_move rfl) rfl rfl
                | 1, _ =>
                  intro val fl w1 a hb ha hd hfl
                  obtain ⟨hgb, hg0⟩ := hb
                  have hb := below_row h3r2 hgb hbw.size
                  have ha := ha.sub (Sub.ins (d := 16) (Sub.nil _) rfl)
                  exact ss_val ha rfl rfl (fa_54_0 rfl) rfl rfl
                | 2, _ =>
                  intro val fl w1 a hb ha hd hfl
                  obtain ⟨hgb, hg0⟩ := hb
                  have hb := below_row h3r2 hgb hbw.size
                  have e1 : val 1 = .pointer (some ⟨g18, 0, none⟩) := hd 1 (memB_mem.1 rfl)
                  have ha := ha.sub (Sub.ins (d := 84) (Sub.nil _) (dep_get rfl e1))
                  exact ss_val ha rfl rfl (ld_3 rfl ((blk_grown q18 h3r2 rfl hgb).at (j := 0) rfl)) rfl rfl
                | 3, _ =>
                  intro val fl w1 a hb ha hd hfl
                  obtain ⟨hgb, hg0⟩ := hb
                  have hb := below_row h3r2 hgb hbw.size
                  have ha := ha.sub (Sub.ins (d := 16) (Sub.nil _) rfl)
                  exact ss_val ha rfl rfl (fa_54_1 rfl) rfl rfl
                | 4, _ =>
                  intro val fl w1 a hb ha hd hfl
                  obtain ⟨hgb, hg0⟩ := hb
                  have hb := below_row h3r2 hgb hbw.size
                  have e3 : val 3 = .pointer (some ⟨g18, 1, none⟩) := hd 3 (memB_mem.1 rfl)
                  have ha := ha.sub (Sub.ins (d := 86) (Sub.nil _) (dep_get rfl e3))
                  exact ss_val ha rfl rfl (ld_3 rfl ((blk_grown q18 h3r2 rfl hgb).at (j := 1) rfl)) rfl rfl
                | 5, _ =>
                  intro val fl w1 a hb ha hd hfl
                  obtain ⟨hgb, hg0⟩ := hb
                  have hb := below_row h3r2 hgb hbw.size
                  have ha := ha.sub (Sub.ins (d := 16) (Sub.nil _) rfl)
                  exact ss_val ha rfl rfl (fa_54_0 rfl) rfl rfl
                | 6, _ =>
                  intro val fl w1 a hb ha hd hfl
                  obtain ⟨hgb, hg0⟩ := hb
                  have hb := below_row h3r2 hgb hbw.size
                  have e5 : val 5 = .pointer (some ⟨g18, 0, none⟩) := hd 5 (memB_mem.1 rfl)
                  have ha := ha.sub (Sub.ins (d := 88) (Sub.nil _) (dep_get rfl e5))
                  exact ss_val ha rfl rfl (ld_3 rfl ((blk_grown q18 h3r2 rfl hgb).at (j := 0) rfl)) rfl rfl
                | 7, _ =>
                  intro val fl w1 a hb ha hd hfl
                  obtain ⟨hgb, hg0⟩ := hb
                  have hb := below_row h3r2 hgb hbw.size
                  have e4 : val 4 = .int .i64 bb.hi := hd 4 (memB_mem.1 rfl)
                  have e6 : val 6 = .int .i64 bb.lo := hd 6 (memB_mem.1 rfl)
                  have ha := ha.sub (Sub.ins (d := 89) (Sub.ins (d := 87) (Sub.nil _) (dep_get rfl e4)) (dep_get rfl e6))
                  exact ss_val ha rfl rfl (x_sub rfl rfl (c := bb.hi - bb.lo) (IntWalk.i64_in _ ⟨by omega, by omega⟩)) rfl rfl
                | 8, _ =>
                  intro val fl w1 a hb ha hd hfl
                  obtain ⟨hgb, hg0⟩ := hb
                  have hb := below_row h3r2 hgb hbw.size
                  have ha := ha.sub (Sub.ins (d := 2) (Sub.nil _) rfl)
                  exact ss_val ha rfl rfl (fa_65_2 rfl) rfl rfl
                | 9, _ =>
                  intro val fl w1 a hb ha hd hfl
                  obtain ⟨hgb, hg0⟩ := hb
                  have hb := below_row h3r2 hgb hbw.size
                  have e8 : val 8 = .pointer (some ⟨g1, 4, none⟩) := hd 8 (memB_mem.1 rfl)
                  have ha := ha.sub (Sub.ins (d := 91) (Sub.nil _) (dep_get rfl e8))
                  exact ss_val ha rfl rfl (ld_63 rfl ((blk_grown q1y h3r2 rfl hgb).at (j := 4) rfl)) rfl rfl
                | 10, _ =>
                  intro val fl w1 a hb ha hd hfl
                  obtain ⟨hgb, hg0⟩ := hb
                  have hb := below_row h3r2 hgb hbw.size
                  have ha := ha.sub (Sub.ins (d := 15) (Sub.nil _) rfl)
                  exact ss_val ha rfl rfl (x_move rfl) rfl rfl
                | 11, _ =>
                  intro val fl w1 a hb ha hd hfl
                  obtain ⟨hgb, hg0⟩ := hb
                  have hb := below_row h3r2 hgb hbw.size
                  have e9 : val 9 = .slice Af xf.length cf_ := hd 9 (memB_mem.1 rfl)
                  have e10 : val 10 = .int .i64 (y_ : Nat) := hd 10 (memB_mem.1 rfl)
                  have ha := ha.sub (Sub.ins (d := 93) (Sub.ins (d := 92) (Sub.nil _) (dep_get rfl e9)) (dep_get rfl e10))
                  refine ss_call ha rfl rfl (cl_34 rfl rfl) (part_any xf _ y_ w1 B (hrf.below ((hbw.trans hb).mono hB)) hnf) rfl ?_
                  rintro e w' ⟨rfl, hb'⟩
                  exact ⟨_, rfl, hb', rfl⟩
                | 12, _ =>
                  intro val fl w1 a hb ha hd hfl
                  obtain ⟨hgb, hg0⟩ := hb
                  have hb := below_row h3r2 hgb hbw.size
                  have e11 : val 11 = .int .u8 (partI xf y_) := hd 11 (memB_mem.1 rfl)
                  have ha := ha.sub (Sub.ins (d := 94) (Sub.nil _) (dep_get rfl e11))
                  exact ss_val ha rfl rfl (cv_5_3 rfl (IntWalk.i64_in _ ⟨by omega, by omega⟩)) rfl rfl
                | 13, _ =>
                  intro val fl w1 a hb ha hd hfl
                  obtain ⟨hgb, hg0⟩ := hb
                  have hb := below_row h3r2 hgb hbw.size
                  have e7 : val 7 = .int .i64 (bb.hi - bb.lo) := hd 7 (memB_mem.1 rfl)
                  have e12 : val 12 = .int .i64 (partI xf y_) := hd 12 (memB_mem.1 rfl)
                  have ha := ha.sub (Sub.ins (d := 95) (Sub.ins (d := 90) (Sub.nil _) (dep_get rfl e7)) (dep_get rfl e12))
                  exact ss_val ha rfl rfl (x_mul rfl rfl (c := (bb.hi - bb.lo) * partI xf y_) (IntWalk.i64_in _ ⟨by omega, by omega⟩)) rfl rfl
                | 14, _ =>
                  intro val fl w1 a hb ha hd hfl
                  obtain ⟨hgb, hg0⟩ := hb
                  have hb := below_row h3r2 hgb hbw.size
                  have e13 : val 13 = .int .i64 ((bb.hi - bb.lo) * partI xf y_) := hd 13 (memB_mem.1 rfl)
                  have ha := ha.sub (Sub.ins (d := 96) (Sub.nil _) (dep_get rfl e13))
                  exact ss_val ha rfl rfl (x_quo rfl rfl (c := ((bb.hi - bb.lo) * partI xf y_).tdiv 255) (by decide) (IntWalk.i64_in _ ⟨by omega, by omega⟩)) rfl rfl
                | 15, _ =>
                  intro val fl w1 a hb ha hd hfl
                  obtain ⟨hgb, hg0⟩ := hb
                  have hb := below_row h3r2 hgb hbw.size
                  have e2 : val 2 = .int .i64 bb.lo := hd 2 (memB_mem.1 rfl)
                  have e14 : val 14 = .int .i64 (((bb.hi - bb.lo) * partI xf y_).tdiv 255) := hd 14 (memB_mem.1 rfl)
                  have ha := ha.sub (Sub.ins (d := 97) (Sub.ins (d := 85) (Sub.nil _) (dep_get rfl e2)) (dep_get rfl e14))
                  exact ss_val ha rfl rfl (x_add rfl rfl (c := fastAt c xf y_) ((IntWalk.i64_in _ ⟨by omega, by omega⟩).trans hfa)) rfl rfl
                | 16, _ =>
                  intro val fl w1 a hb ha hd hfl
                  obtain ⟨hgb, hg0⟩ := hb
                  have hb := below_row h3r2 hgb hbw.size
                  have e15 : val 15 = .int .i64 (fastAt c xf y_) := hd 15 (memB_mem.1 rfl)
                  have ha := ha.sub (Sub.ins (d := 98) (Sub.nil _) (dep_get rfl e15))
                  exact ss_newS ha rfl rfl (bs_26_1 rfl) rfl (fun g w' hq _ hge => fun _ => ⟨g, rfl, hq, Nat.le_trans hgb.size hge⟩)
                | 17, _ =>
                  exact absurd (by simp) hs_
                | k + 18, h => exact absurd h (by omega)
              · simp only [List.mem_singleton] at hi_; subst hi_
                intro val fl w1 a hb hfi ha hd hfl
                obtain ⟨hgb, hg0⟩ := hb
                have hb := below_row h3r2 hgb hbw.size
                have e0 : val 0 = .slice AF y_ cF := hd 0 (memB_mem.1 rfl)
                obtain ⟨g16_, e16, q16_, h16_⟩ := hd 16 (memB_mem.1 rfl) hfi
                change val 16 = _ at e16
                have ha := ha.sub (Sub.ins (d := 99) (Sub.ins (d := 83) (Sub.nil _) (dep_get rfl e0)) (dep_get rfl e16))
                refine ts_push i64_elem ha rfl rfl rfl (hg0 hfi) (rd_one (l := [.int .i64 (fastAt c xf y_)]) q16_ rfl) (by intro u hu; rw [List.mem_singleton.1 hu]; rfl) (by omega) rfl (Nat.le_trans hbw.size hgb.size) ?_
                intro v' w' ho' hgr hat
                refine ⟨v', rfl, hgr.size, ⟨grown_three hgb hgr, fun h => by rw [fset_eq] at h; cases h⟩, ⟨ho', fun b hb' => ?_⟩, fun j _ hj hn hA => ?_⟩
                · rcases hat with h | h
                  · exact .inl (h ▸ hb')
                  · refine .inr ?_
                    change v'.ownBlock = some b at hb'
                    rw [h] at hb'
                    injection hb' with hb'
                    have := hgb.size
                    omega
                · exact phiS_cons_st (C := fun j => j ≠ 17 ∧ 17 ∉ clsAt [[], [], [1], [], [3], [], [5], [3, 4, 5, 6], [], [8], [], [8, 9, 10], [8, 9, 10, 11], [3, 4, 5, 6, 7, 8, 9, 10, 11, 12], [3, 4, 5, 6, 7, 8, 9, 10, 11, 12, 13], [1, 2, 3, 4, 5, 6, 7, 8, 9, 10, 11, 12, 13, 14], [1, 2, 3, 4, 5, 6, 7, 8, 9, 10, 11, 12, 13, 14, 15], [0, 1, 2, 3, 4, 5, 6, 7, 8, 9, 10, 11, 12, 13, 14, 15, 16], [0, 1, 2, 3, 4, 5, 6, 7, 8, 9, 10, 11, 12, 13, 14, 15, 16, 17]] j) (fun _ _ h => by rw [fset_eq] at h; cases h) (phiS_cons_st (C := fun j => j ≠ 17 ∧ 17 ∉ clsAt [[], [], [1], [], [3], [], [5], [3, 4, 5, 6], [], [8], [], [8, 9, 10], [8, 9, 10, 11], [3, 4, 5, 6, 7, 8, 9, 10, 11, 12], [3, 4, 5, 6, 7, 8, 9, 10, 11, 12, 13], [1, 2, 3, 4, 5, 6, 7, 8, 9, 10, 11, 12, 13, 14], [1, 2, 3, 4, 5, 6, 7, 8, 9, 10, 11, 12, 13, 14, 15], [0, 1, 2, 3, 4, 5, 6, 7, 8, 9, 10, 11, 12, 13, 14, 15, 16], [0, 1, 2, 3, 4, 5, 6, 7, 8, 9, 10, 11, 12, 13, 14, 15, 16, 17]] j) (fun hc => absurd rfl hc.1) (fun _ _ h => h)) j ⟨hj, hn⟩
              · intro val fl w' hfl hb halc hd
                obtain ⟨hgb, _⟩ := hb
                have hb := below_row h3r2 hgb hbw.size
                have e0 : val 0 = .slice AF y_ cF := hd 0 (by omega)
                have e1 : val 1 = .pointer (some ⟨g18, 0, none⟩) := hd 1 (by omega)
                have e2 : val 2 = .int .i64 bb.lo := hd 2 (by omega)
                have e3 : val 3 = .pointer (some ⟨g18, 1, none⟩) := hd 3 (by omega)
                have e4 : val 4 = .int .i64 bb.hi := hd 4 (by omega)
                have e5 : val 5 = .pointer (some ⟨g18, 0, none⟩) := hd 5 (by omega)
                have e6 : val 6 = .int .i64 bb.lo := hd 6 (by omega)
                have e7 : val 7 = .int .i64 (bb.hi - bb.lo) := hd 7 (by omega)
                have e8 : val 8 = .pointer (some ⟨g1, 4, none⟩) := hd 8 (by omega)
                have e9 : val 9 = .slice Af xf.length cf_ := hd 9 (by omega)
                have e10 : val 10 = .int .i64 (y_ : Nat) := hd 10 (by omega)
                have e11 : val 11 = .int .u8 (partI xf y_) := hd 11 (by omega)
                have e12 : val 12 = .int .i64 (partI xf y_) := hd 12 (by omega)
                have e13 : val 13 = .int .i64 ((bb.hi - bb.lo) * partI xf y_) := hd 13 (by omega)
                have e14 : val 14 = .int .i64 (((bb.hi - bb.lo) * partI xf y_).tdiv 255) := hd 14 (by omega)
                have e15 : val 15 = .int .i64 (fastAt c xf y_) := hd 15 (by omega)
                obtain ⟨ho17, hn17⟩ := hd 17 (by omega)
                change w'.ownsRow _ _ _ (val 17) _ _ at ho17
                refine EL.ends (cs := [.slice AF y_ cF, .pointer (some ⟨g18, 0, none⟩), .int .i64 bb.lo, .pointer (some ⟨g18, 1, none⟩), .int .i64 bb.hi, .pointer (some ⟨g18, 0, none⟩), .int .i64 bb.lo, .int .i64 (bb.hi - bb.lo), .pointer (some ⟨g1, 4, none⟩), .slice Af xf.length cf_, .int .i64 (y_ : Nat), .int .u8 (partI xf y_), .int .i64 (partI xf y_), .int .i64 ((bb.hi - bb.lo) * partI xf y_), .int .i64 (((bb.hi - bb.lo) * partI xf y_).tdiv 255), .int .i64 (fastAt c xf y_), val 16, val 17]) ⟨e0, e1, e2, e3, e4, e5, e6, e7, e8, e9, e10, e11, e12, e13, e14, e15, rfl, rfl, trivial⟩ rfl ?_
                replace q1y := blk_grown q1y h3r2 rfl hgb
                replace q4y := blk_grown q4y h3r2 rfl hgb
                replace q9y := blk_grown q9y h3r2 rfl hgb
                replace q18 := blk_grown q18 h3r2 rfl hgb
                replace ho := ho.grown h3r2 rfl rfl rfl hgb
                have h3n := h3.push2 hgb ho17 hn17
                replace hbw := hbw.trans (hb.mono (Nat.le_refl _))
                clear h3 h3r2
                have h3 := h3n
                clear h3n
                refine EL.val (x_assign rfl) rfl ?_
                refine EL.nil ?_
                refine EX.blk ?_
                refine EX.seq ?_
                refine EC.region ?_
                refine EL.val (x_move rfl) rfl ?_
                refine EL.val (x_add rfl rfl (c := ((y_ + 1 : Nat) : Int)) ((IntWalk.i64_in _ ⟨by first | omega | (simp only; omega), by first | omega | (simp only; omega)⟩).trans (by first | omega | (simp only; omega)))) rfl ?_
                refine EL.val (x_assign rfl) rfl ?_
                refine EL.nil ?_
                refine EX.roundD (y_ + 1, _) ⟨rfl, rfl, trivial⟩ (by repeat first | with_reducible exact Sub.refl _ | refine sub_past rfl ?_ | exact Sub.refl _ | refine sub_del rfl ?_ | refine sub_insL_nil ?_) ⟨hlt, q1y, q4y, q9y, ho, by rw [fastL_succ]; exact h3, hbw⟩ (by simp only; omega)
            ·
              have hyn : y_ = c.clocks.length := by omega
              obtain ⟨FL, eF⟩ : ∃ z, z = fastL c xf y_ := ⟨_, rfl⟩
              rw [← eF] at h3 hfl
              have htr : Truth c M FL := ⟨by rw [hml, eN2, hxN], by rw [hfl, hyn], fun i hi => by have := minAt_bd hxm i; rw [eM, minsL_get (by omega)]; omega, fun k hk => by rw [eF, fastL_get (by omega)]; exact fast_in (bdOk_iff.1 (hck k hk)).2.1 (part_bd hxf k), fun i hi => by have := minAt_bd hxm i; rw [eM, minsL_get (by omega)]; omega⟩
              refine EC.seq ?_
              refine EC.seq ?_
              refine EC.region ?_
              refine EL.val (x_move rfl) rfl ?_
              refine EL.val (fa_25_1 rfl) rfl ?_
              refine EL.val (ld_22 rfl (q9y.at (j := 1) rfl)) rfl ?_
              refine EL.val (ln_22 rfl) rfl ?_
              refine EL.val (x_lss rfl rfl (decide_eq_false (show ¬(((y_ : Nat) : Int) < ((c.clocks.length : Nat) : Int)) by omega))) rfl ?_
              refine EL.nil ?_
              refine EX.seq ?_
              refine EC.no rfl ?_
              refine EC.exit ?_
              refine EX.seq_exit ?_
              refine EX.seq_exit ?_
              refine EX.blk_here ?_
              refine EX.seq ?_
              refine EC.seq ?_
              refine EC.seq ?_
              refine EC.region ?_
              refine EL.val (x_assign rfl) rfl ?_
              refine EL.nil ?_
              refine EX.seq ?_
              refine EC.block ?_
              refine EC.loopD [5, 6, 7, 8, 12, 17, 18, 19, 20, 21, 101, 102, 103, 104, 105, 106, 107, 108, 109, 110, 111, 112, 113, 114, 115, 116, 117, 118, 119, 120, 121, 122, 123, 124, 125, 126, 127, 128, 129, 130, 131, 132, 133, 134, 135, 136, 137, 138, 139, 140, 141, 142, 143, 144, 145, 146, 147, 148, 149, 150, 151, 152, 153, 154, 155, 156, 157, 158, 159, 160, 161, 162, 163, 164, 165, 166, 167, 168, 169, 170, 171, 172, 173, 174, 175, 176, 177, 178, 179, 180, 181, 182, 183, 184, 185, 186, 187, 188, 189, 190, 191, 192, 193, 194, 195, 196, 197, 198, 199, 200, 201, 202, 203, 204, 205, 206, 207, 208, 209, 210, 211, 212, 213, 214, 215, 216, 217, 218, 219, 220, 221, 222, 223, 224, 225, 226, 227, 228, 229, 230, 231, 232, 233, 234, 235, 236, 237, 238, 239, 240, 241, 242, 243, 244, 245, 246, 247, 248, 249, 250, 251, 252, 253, 254, 255, 256, 257, 258, 259, 260, 261, 262, 263, 264, 265] (fun u : Nat × Value => [(12, u.2), (17, .int .i64 (u.1 : Nat))]) (fun u W => u.1 ≤ c.clues.length ∧ Blk W g1 65 #[.int .i64 c.events, .slice Ac c.clocks.length cc_, .slice Al c.clues.length cl_, .slice Am xm.length cm_, .slice Af xf.length cf_] ∧ Blk W g2 25 #[.int .i64 0, .slice none 0 0, .slice none 0 0] ∧ Blk W g7 25 #[.int .i64 c.events, .slice AB c.clocks.length cB, .slice AL c.clues.length cL] ∧ OwnCase W w.heap.size (.slice AB c.clocks.length cB) (.slice AL c.clues.length cL) ⟨c.events, c.clocks, toldL c b M FL u.1⟩ ws ∧ Rows3 W w.heap.size (.slice AV x cV) (.slice AF y_ cF) u.2 M FL (crsBy c b u.1) ∧ Below w.heap.size w W) (fun u => c.clues.length - u.1) (0, (.slice (some ⟨g6, 0, none⟩) 0 0)) ⟨Nat.zero_le _, q1y, q4y, q9y, by rw [toldL_zero]; exact ho, h3, hbw⟩ ⟨rfl, rfl, trivial⟩ ?_
              clear q1y q4y q9y ho h3 hbw
              rintro ⟨u, v⟩ wu ⟨hu, q1u, q4u, q9u, ho, h3, hbw⟩
              dsimp only at hu ho h3
              have hcl3 := crsBy_len c b u
              have hln := toldL_len c b M FL u
              obtain ⟨AK, cK, eK_, _⟩ := (Rd.of_own h3.r3).shape
              rw [hcl3] at eK_
              subst eK_
              by_cases hlt : u < c.clues.length
              ·
                have hgx : (toldL c b M FL u).getD u [] = c.clues.getD u [] := by rw [toldL_get hlt, if_neg (Nat.lt_irrefl _)]
                have hlx := (hcl u hlt).1
                have hpk := pick_lt (b := b) hcb hlt
                have hpr := part_bd hbb u
                obtain ⟨K, eK⟩ : ∃ z, z = pickK c b u := ⟨_, rfl⟩
                have eK2 : (partI b u).tmod (((c.clues.getD u []).length : Nat) : Int) = ((K : Nat) : Int) := by rw [eK]; exact part_mod hpr.1
                rw [← eK] at hpk
                have hrow := ho.clues.row u (by rw [hln]; exact hlt)
                rw [hgx] at hrow
                obtain ⟨AR, cR, eR, _⟩ := (Rd.of_own hrow).shape
                rw [eR] at hrow
                obtain ⟨gR, eAR⟩ := own_slice hrow (by omega)
                subst eAR
                have hrd := ho.rd
                obtain ⟨bl, ol, e_, _, hcell⟩ := rdll_cell hrd.clues u (by rw [hln]; exact hlt)
                subst e_
                rw [eR] at hcell
                have hbu := Below.refl wu.heap.size wu
                obtain ⟨p0, ep0⟩ : ∃ z, z = chosen c b u := ⟨_, rfl⟩
                have hpok := chosen_ok (b := b) hcb hlt
                rw [← ep0] at hpok
                have hop0 := optB_ok hpok
                have ep1 : (c.clues.getD u []).getD K opt0 = p0 := by rw [ep0, eK]; rfl
                clear hrow hrd
                refine EC.seq ?_
                refine EC.seq ?_
                refine EC.region ?_
                refine EL.val (x_move rfl) rfl ?_
                refine EL.val (fa_25_2 rfl) rfl ?_
                refine EL.val (ld_23 rfl (q9u.at (j := 2) rfl)) rfl ?_
                refine EL.val (ln_23 rfl) rfl ?_
                refine EL.val (x_lss rfl rfl (decide_eq_true (show (((u : Nat) : Int) < ((c.clues.length : Nat) : Int)) by omega))) rfl ?_
                refine EL.nil ?_
                refine EX.seq ?_
                refine EC.yes rfl ?_
                refine EC.skip ?_
                refine EX.seq ?_
                refine EC.seq ?_
                refine EC.block ?_
                refine EC.seq ?_
                refine EC.seq ?_
                refine EC.region ?_
                refine EL.val (fa_25_2 rfl) rfl ?_
                refine EL.val (ld_23 rfl (q9u.at (j := 2) rfl)) rfl ?_
                refine EL.val (x_move rfl) rfl ?_
                refine EL.val (ix_23 rfl rfl hlt) rfl ?_
                refine EL.val (fa_74_0 rfl) rfl ?_
                refine EL.val (ld_72 rfl (below_load hbu hcell)) rfl ?_
                refine EL.val (ln_72 rfl) rfl ?_
                refine EL.val (x_lss (r := false) rfl rfl (decide_eq_false (by omega))) rfl ?_
                refine EL.nil ?_
                refine EX.seq ?_
                refine EC.no rfl ?_
                refine EC.skip ?_
                refine EX.seq ?_
                refine EC.seq ?_
                refine EC.regionQ (by kernel_rfl) (by kernel_rfl) ?_
                refine EQ.val (fun _ hw => (x_move rfl)) rfl ?_
                refine EQ.val (fun _ hw => (x_move rfl)) rfl ?_
                refine EQ.call (fun _ _ _ ha => cl_34 rfl rfl _ ha) rfl (fun W hw => (part_any b _ u W B (hrb.below ((hbw.trans (hw.mono hbw.size)).mono hB)) hnb).mono fun e w' h => ⟨h.1, hw.trans (h.2.mono hw.size)⟩) ?_
                refine EQ.val (fun _ hw => (cv_5_3 rfl (IntWalk.i64_in _ ⟨by omega, by omega⟩))) rfl ?_
                refine EQ.val (fun _ hw => (fa_25_2 rfl)) rfl ?_
                refine EQ.val (fun _ hw => (ld_23 rfl (below_load hw (q9u.at (j := 2) rfl)))) rfl ?_
                refine EQ.val (fun _ hw => (x_move rfl)) rfl ?_
                refine EQ.val (fun _ hw => (ix_23 rfl rfl hlt)) rfl ?_
                refine EQ.val (fun _ hw => (fa_74_0 rfl)) rfl ?_
                refine EQ.val (fun _ hw => (ld_72 rfl (below_load hw (below_load hbu hcell)))) rfl ?_
                refine EQ.val (fun _ hw => (ln_72 rfl)) rfl ?_
                refine EQ.val (fun _ hw => (x_rem rfl rfl (c := ((K : Nat) : Int)) (by omega) eK2)) rfl ?_
                refine EQ.val (fun _ hw => (x_assign rfl)) rfl ?_
                refine EQ.fin (fun w20 hw_ => ?_)
                replace q1u := q1u.below hw_ q1u.lt
                replace q4u := q4u.below hw_ q4u.lt
                replace q9u := q9u.below hw_ q9u.lt
                replace ho := ho.below hw_
                replace h3 := h3.below hw_
                replace hbw := Below.on hbw hw_ hbw.size
                replace hbu := Below.on hbu hw_ hbu.size
                clear hw_
                refine EX.seq ?_
                refine EC.seq ?_
                refine EC.region ?_
                refine EL.val (fa_25_2 rfl) rfl ?_
                refine EL.val (ld_23 rfl (q9u.at (j := 2) rfl)) rfl ?_
                refine EL.val (x_move rfl) rfl ?_
                refine EL.val (ix_23 rfl rfl hlt) rfl ?_
                refine EL.val (fa_74_0 rfl) rfl ?_
                refine EL.val (ld_72 rfl (below_load hbu hcell)) rfl ?_
                refine EL.val (x_move rfl) rfl ?_
                refine EL.val (ix_72 rfl rfl hpk) rfl ?_
                refine EL.val (x_assign rfl) rfl ?_
                refine EL.nil ?_
                refine EX.seq ?_
                refine EC.seq ?_
                refine EC.block ?_
                refine EC.loopD [5, 6, 7, 8, 20, 21, 137, 138, 139, 140, 141, 142, 143, 144, 145, 146, 147, 148, 149, 150, 151, 152, 153, 154, 155, 156, 157, 158, 159, 160, 161, 162, 163, 164, 165, 166, 167, 168, 169, 170, 171, 172, 173, 174, 175, 176, 177, 178, 179, 180, 181, 182, 183, 184, 185, 186, 187, 188, 189, 190, 191, 192, 193, 194, 195, 196, 197, 198, 199, 200, 201, 202, 203, 204, 205, 206, 207, 208, 209, 210, 211, 212, 213, 214, 215, 216, 217, 218, 219, 220, 221, 222, 223, 224, 225, 226, 227, 228, 229, 230, 231, 232, 233, 234, 235, 236, 237, 238, 239, 240, 241, 242, 243, 244, 245, 246, 247, 248, 249, 250, 251, 252, 253, 254, 255, 256, 257, 258, 259, 260, 261] (fun y : Nat => []) (fun y W => y ≤ 1 ∧ (y = 1 → tvIn p0 M FL = false) ∧ Blk W g1 65 #[.int .i64 c.events, .slice Ac c.clocks.length cc_, .slice Al c.clues.length cl_, .slice Am xm.length cm_, .slice Af xf.length cf_] ∧ Blk W g2 25 #[.int .i64 0, .slice none 0 0, .slice none 0 0] ∧ Blk W g7 25 #[.int .i64 c.events, .slice AB c.clocks.length cB, .slice (some ⟨bl, ol, none⟩) c.clues.length cL] ∧ OwnCase W w.heap.size (.slice AB c.clocks.length cB) (.slice (some ⟨bl, ol, none⟩) c.clues.length cL) ⟨c.events, c.clocks, setO (toldL c b M FL u) u K (pY p0 M FL y)⟩ ws ∧ Rows3 W w.heap.size (.slice AV x cV) (.slice AF y_ cF) (.slice AK u cK) M FL (crsBy c b u) ∧ Below w.heap.size w W) (fun y => 1 - y) 0 ⟨by omega, fun h => absurd h (by decide), q1u, q4u, q9u, by rw [show pY p0 M FL 0 = ((toldL c b M FL u).getD u []).getD K opt0 by rw [hgx, ep1]; rfl, setO_same (by rw [hln]; exact hlt) (by rw [hgx]; exact hpk)]; exact ho, h3, hbw⟩ trivial ?_
                clear q1u q4u q9u ho h3 hbw hbu hcell
                rintro y wy ⟨hy, hy1, q1y, q4y, q9y, ho, h3, hbw⟩
                obtain ⟨p, ep⟩ : ∃ z, z = pY p0 M FL y := ⟨_, rfl⟩
                have hpk2 : optB c p = true := by rw [ep]; unfold pY; split; (exact hpok); (exact mvd_ok hpok (htr.tv_bd hcb hpok))
                have hop := optB_ok hpk2
                have hxo : u < (setO (toldL c b M FL u) u K (pY p0 M FL y)).length := by rw [setO_len, hln]; exact hlt
                have hrow := ho.clues.row u hxo
                have hgs : (setO (toldL c b M FL u) u K (pY p0 M FL y)).getD u [] = (c.clues.getD u []).set K p := by rw [setO_at (by rw [hln]; exact hlt), hgx, ep]
                have hrow1 := hrow
                change wy.ownsRow _ _ _ _ ((setO (toldL c b M FL u) u K (pY p0 M FL y)).getD u []).length (optsC ((setO (toldL c b M FL u) u K (pY p0 M FL y)).getD u [])) at hrow
                rw [hgs, eR, List.length_set] at hrow
                have hrdo := Rd.of_own hrow
                obtain ⟨bo, oo, e_, _, oc⟩ := opts_cells ((c.clues.getD u []).set K p) K (by rw [List.length_set]; exact hpk) wy _ _ _ _ hrdo
                obtain ⟨rfl, rfl⟩ : gR = bo ∧ 0 = oo := by injection e_ with e_; injection e_ with h1 h2; exact ⟨h1, h2⟩
                rw [show ((c.clues.getD u []).set K p).getD K opt0 = p by rw [getD_lt (by rw [List.length_set]; exact hpk)]; simp] at oc
                have hby := Below.refl wy.heap.size wy
                have hrm3 := Rd.of_own h3.r1
                have hrf3 := Rd.of_own h3.r2
                have hrm4 := hrm3
                have hrf4 := hrf3
                rw [hml] at hrm4
                rw [hfl] at hrf4
                have htb := htr.tv_bd hcb hpk2
                have hwd := wide_bd p
                refine EC.seq ?_
                refine EC.seq ?_
                refine EC.region ?_
                refine EL.val (x_move rfl) rfl ?_
                refine EL.val (x_nilCheck rfl) rfl ?_
                refine EL.val (ld_71 rfl (below_load hby oc.c0) (below_load hby oc.c1) (below_load hby oc.c2) (below_load hby oc.c3) (below_load hby oc.c4) (below_load hby oc.c5)) rfl ?_
                refine EL.val (x_move rfl) rfl ?_
                refine EL.val (x_move rfl) rfl ?_
                cases htv : tvIn p M FL
                ·
                  obtain rfl : y = 0 := by
                    rcases (show y = 0 ∨ y = 1 by omega) with h | h
                    · exact h
                    · subst h; rw [ep] at htv; exact absurd (mvd_in p0 M FL) (by rw [show mvd p0 M FL = pY p0 M FL 1 from rfl, htv]; decide)
                  have epp : p = p0 := ep
                  have hpe := hop.event
                  obtain ⟨ev, eev⟩ : ∃ e : Nat, p.event = e := ⟨p.event.toNat, by omega⟩
                  have oc1 := oc.c1
                  rw [eev] at oc1
                  have hm1 := htr.mlen
                  have hf1 := htr.flen
                  have hmv1 := htr.mins ev (by omega)
                  have hev2 : ev < x := by omega
                  obtain ⟨bM, oM, e_, _, cM⟩ := ints_cells M ev (by omega) wy _ _ _ _ hrm4
                  subst e_
                  refine EL.call (cl_57 rfl rfl rfl) rfl (fits_opt htr hcb hop htv _ _ _ wy.heap.size (hrm3.below hby) (hrf3.below hby) hby.size) ?_
                  rintro e w21 ⟨rfl, hc21⟩
                  refine ⟨_, rfl, ?_⟩
                  replace q1y := q1y.below hc21 q1y.lt
                  replace q4y := q4y.below hc21 q4y.lt
                  replace q9y := q9y.below hc21 q9y.lt
                  replace ho := ho.below hc21
                  replace h3 := h3.below hc21
                  replace hbw := Below.on hbw hc21 hbw.size
                  replace hby := Below.on hby hc21 hby.size
                  clear hc21
                  refine EL.val (x_not rfl) rfl ?_
                  refine EL.nil ?_
                  refine EX.seq ?_
                  refine EC.yes rfl ?_
                  refine EC.skip ?_
                  refine EX.seq ?_
                  refine EC.block ?_
                  refine EC.seq ?_
                  refine EC.region ?_
                  refine EL.val (x_assign rfl) rfl ?_
                  refine EL.nil ?_
                  refine EX.seq ?_
                  refine EC.seq ?_
                  refine EC.block ?_
                  refine EC.seq ?_
                  refine EC.region ?_
                  refine EL.val (x_move rfl) rfl ?_
                  refine EL.val (x_nilCheck rfl) rfl ?_
                  refine EL.val (fa_71_1 rfl) rfl ?_
                  refine EL.val (ld_3 rfl (below_load hby oc1)) rfl ?_
                  refine EL.val (x_lss (r := false) rfl rfl (decide_eq_false (by omega))) rfl ?_
                  refine EL.val (x_move rfl) rfl ?_
                  refine EL.valg rfl rfl (x_move rfl) rfl ?_
                  refine EL.valg rfl rfl (x_nilCheck rfl) rfl ?_
                  refine EL.valg rfl rfl (fa_71_1 rfl) rfl ?_
                  refine EL.valg rfl rfl (ld_3 rfl (below_load hby oc1)) rfl ?_
                  refine EL.valg rfl rfl (x_move rfl) rfl ?_
                  refine EL.valg rfl rfl (ln_26 rfl) rfl ?_
                  refine EL.valg rfl rfl (x_geq (r := false) rfl rfl (decide_eq_false (by omega))) rfl ?_
                  refine EL.val (x_pick_f rfl rfl) rfl ?_
                  refine EL.val (x_assign rfl) rfl ?_
                  refine EL.nil ?_
                  refine EX.seq ?_
                  refine EC.no rfl ?_
                  refine EC.seq ?_
                  refine EC.region ?_
                  refine EL.val (x_move rfl) rfl ?_
                  refine EL.val (x_nilCheck rfl) rfl ?_
                  refine EL.val (fa_71_0 rfl) rfl ?_
                  refine EL.val (ld_69 rfl (below_load hby oc.c0)) rfl ?_
                  by_cases hk : p.kind = 1
                  ·
                    obtain ⟨hk1, hk2, hk3⟩ := hop.kind.resolve_right (fun h => by have := h.1; omega)
                    obtain ⟨ck, eck⟩ : ∃ e : Nat, p.clock = e := ⟨p.clock.toNat, by omega⟩
                    have oc2 := oc.c2
                    rw [eck] at oc2
                    have hck2 : ck < y_ := by omega
                    obtain ⟨bF, oF, e_, _, cF_⟩ := ints_cells FL ck (by omega) wy _ _ _ _ hrf4
                    subst e_
                    have hfb := htr.fbd hcb (k := ck) (by omega)
                    have htvv : M.getD ev 0 + FL.getD ck 0 = tv p M FL := by unfold tv; rw [if_pos hk1, eev, eck]; rfl
                    refine EL.val (x_eql (r := true) rfl rfl (decide_eq_true hk1)) rfl ?_
                    refine EL.val (x_move rfl) rfl ?_
                    refine EL.valg rfl rfl (x_move rfl) rfl ?_
                    refine EL.valg rfl rfl (x_nilCheck rfl) rfl ?_
                    refine EL.valg rfl rfl (fa_71_2 rfl) rfl ?_
                    refine EL.valg rfl rfl (ld_3 rfl (below_load hby oc2)) rfl ?_
                    refine EL.valg rfl rfl (x_geq (r := true) rfl rfl (decide_eq_true (by omega))) rfl ?_
                    refine EL.val (x_pick_t rfl rfl) rfl ?_
                    refine EL.val (x_move rfl) rfl ?_
                    refine EL.valg rfl rfl (x_move rfl) rfl ?_
                    refine EL.valg rfl rfl (x_nilCheck rfl) rfl ?_
                    refine EL.valg rfl rfl (fa_71_2 rfl) rfl ?_
                    refine EL.valg rfl rfl (ld_3 rfl (below_load hby oc2)) rfl ?_
                    refine EL.valg rfl rfl (x_move rfl) rfl ?_
                    refine EL.valg rfl rfl (ln_26 rfl) rfl ?_
                    refine EL.valg rfl rfl (x_lss (r := true) rfl rfl (decide_eq_true (by omega))) rfl ?_
                    refine EL.val (x_pick_t rfl rfl) rfl ?_
                    refine EL.val (x_assign rfl) rfl ?_
                    refine EL.nil ?_
                    refine EX.seq ?_
                    refine EC.yes rfl ?_
                    refine EC.regionQ (by kernel_rfl) (by kernel_rfl) ?_
                    refine EQ.val (fun _ hw => (x_move rfl)) rfl ?_
                    refine EQ.val (fun _ hw => (x_move rfl)) rfl ?_
                    refine EQ.val (fun _ hw => (x_nilCheck rfl)) rfl ?_
                    refine EQ.val (fun _ hw => (fa_71_1 rfl)) rfl ?_
                    refine EQ.val (fun _ hw => (ld_3 rfl (below_load hw (below_load hby oc1)))) rfl ?_
                    refine EQ.val (fun _ hw => (ix_26 rfl rfl hev2)) rfl ?_
                    refine EQ.val (fun _ hw => (ld_3 rfl (below_load hw (below_load hby cM)))) rfl ?_
                    refine EQ.val (fun _ hw => (x_move rfl)) rfl ?_
                    refine EQ.val (fun _ hw => (x_move rfl)) rfl ?_
                    refine EQ.val (fun _ hw => (x_nilCheck rfl)) rfl ?_
                    refine EQ.val (fun _ hw => (fa_71_2 rfl)) rfl ?_
                    refine EQ.val (fun _ hw => (ld_3 rfl (below_load hw (below_load hby oc2)))) rfl ?_
                    refine EQ.val (fun _ hw => (ix_26 rfl rfl hck2)) rfl ?_
                    refine EQ.val (fun _ hw => (ld_3 rfl (below_load hw (below_load hby cF_)))) rfl ?_
                    refine EQ.val (fun _ hw => (x_add rfl rfl (c := tv p M FL) ((IntWalk.i64_in _ ⟨by omega, by omega⟩).trans htvv))) rfl ?_
                    refine EQ.val (fun _ hw => (x_assign rfl)) rfl ?_
                    refine EQ.fin (fun w22 hw_ => ?_)
                    replace q1y := q1y.below hw_ q1y.lt
                    replace q4y := q4y.below hw_ q4y.lt
                    replace q9y := q9y.below hw_ q9y.lt
                    replace ho := ho.below hw_
                    replace h3 := h3.below hw_
                    replace hbw := Below.on hbw hw_ hbw.size
                    replace hby := Below.on hby hw_ hby.size
                    clear hw_
                    refine EX.blk ?_
                    refine EX.seq ?_
                    refine EC.seq ?_
                    have hpm := hop.mins
                    refine EC.regionQ (by kernel_rfl) (by kernel_rfl) ?_
                    refine EQ.val (fun _ hw => (x_move rfl)) rfl ?_
                    refine EQ.val (fun _ hw => (x_nilCheck rfl)) rfl ?_
                    refine EQ.val (fun _ hw => (fa_71_4 rfl)) rfl ?_
                    refine EQ.val (fun _ hw => (fa_54_1 rfl)) rfl ?_
                    refine EQ.val (fun _ hw => (ld_3 rfl (below_load hw (below_load hby oc.c5)))) rfl ?_
                    refine EQ.val (fun _ hw => (x_move rfl)) rfl ?_
                    refine EQ.val (fun _ hw => (x_nilCheck rfl)) rfl ?_
                    refine EQ.val (fun _ hw => (fa_71_4 rfl)) rfl ?_
                    refine EQ.val (fun _ hw => (fa_54_0 rfl)) rfl ?_
                    refine EQ.val (fun _ hw => (ld_3 rfl (below_load hw (below_load hby oc.c4)))) rfl ?_
                    refine EQ.val (fun _ hw => (x_sub rfl rfl (c := p.mins.hi - p.mins.lo) (IntWalk.i64_in _ ⟨by omega, by omega⟩))) rfl ?_
                    refine EQ.val (fun _ hw => (mm_max rfl rfl rfl)) rfl ?_
                    refine EQ.val (fun _ hw => (mm_min rfl rfl (show _ = wideO p from rfl))) rfl ?_
                    refine EQ.val (fun _ hw => (x_assign rfl)) rfl ?_
                    refine EQ.fin (fun w23 hw_ => ?_)
                    replace q1y := q1y.below hw_ q1y.lt
                    replace q4y := q4y.below hw_ q4y.lt
                    replace q9y := q9y.below hw_ q9y.lt
                    replace ho := ho.below hw_
                    replace h3 := h3.below hw_
                    replace hbw := Below.on hbw hw_ hbw.size
                    replace hby := Below.on hby hw_ hby.size
                    clear hw_
                    refine EX.seq ?_
                    refine EC.region ?_
                    refine EL.val (x_move rfl) rfl ?_
                    refine EL.val (x_move rfl) rfl ?_
                    refine EL.val (x_move rfl) rfl ?_
                    refine EL.val (x_quo rfl rfl (c := (wideO p).tdiv 2) (by decide) (IntWalk.i64_in _ ⟨by omega, by omega⟩)) rfl ?_
                    refine EL.val (x_sub rfl rfl (c := tv p M FL - (wideO p).tdiv 2) (IntWalk.i64_in _ ⟨by omega, by omega⟩)) rfl ?_
                    refine EL.val (x_move rfl) rfl ?_
                    refine EL.val (x_move rfl) rfl ?_
                    refine EL.val (x_add rfl rfl (c := tv p M FL + wideO p) (IntWalk.i64_in _ ⟨by omega, by omega⟩)) rfl ?_
                    refine EL.val (x_move rfl) rfl ?_
                    refine EL.val (x_quo rfl rfl (c := (wideO p).tdiv 2) (by decide) (IntWalk.i64_in _ ⟨by omega, by omega⟩)) rfl ?_
                    refine EL.val (x_sub rfl rfl (c := tv p M FL + wideO p - (wideO p).tdiv 2) (IntWalk.i64_in _ ⟨by omega, by omega⟩)) rfl ?_
                    refine EL.val (bd_54_0_1 rfl rfl) rfl ?_
                    refine EL.val (x_nilCheck rfl) rfl ?_
                    refine EL.val (fa_71_4 rfl) rfl ?_
                    have hrowW := ho.clues.row u hxo
                    change w23.ownsRow _ _ _ _ ((setO (toldL c b M FL u) u K (pY p0 M FL 0)).getD u []).length (optsC ((setO (toldL c b M FL u) u K (pY p0 M FL 0)).getD u [])) at hrowW
                    rw [hgs, eR, List.length_set] at hrowW
                    refine EL.storeRow (l' := [.int .i64 (tv p M FL - (wideO p).tdiv 2), .int .i64 (tv p M FL + wideO p - (wideO p).tdiv 2)]) rfl rfl hrowW sz_54 rfl rfl (by rw [optsC_len, List.length_set]; omega) rfl ?_
                    intro w8 ho2 hg
                    have hbm := (hrowW.lt gR rfl).1
                    rw [Nat.zero_add] at ho2
                    replace q1y := blk_grown q1y hrowW rfl hg
                    replace q4y := blk_grown q4y hrowW rfl hg
                    replace q9y := blk_grown q9y hrowW rfl hg
                    replace h3 := h3.grown hrowW rfl hg
                    have ho3 := ho.set (m := ⟨tv p M FL - (wideO p).tdiv 2, tv p M FL + wideO p - (wideO p).tdiv 2⟩) (W' := w8) hxo (K := K) (by show K < ((setO (toldL c b M FL u) u K (pY p0 M FL 0)).getD u []).length; rw [hgs, List.length_set]; exact hpk) (by show w8.ownsRow _ _ _ _ ((setO (toldL c b M FL u) u K (pY p0 M FL 0)).getD u []).length (spl (optsC ((setO (toldL c b M FL u) u K (pY p0 M FL 0)).getD u [])) (K * 6 + 4) _); rw [hgs, eR, List.length_set]; exact ho2) (by rw [eR]; exact hg)
                    replace hbw := below_store hbw hg hbm
                    clear ho
                    refine EL.nil ?_
                    refine EX.blk ?_
                    refine EX.roundD 1 trivial (by repeat first | with_reducible exact Sub.refl _ | refine sub_past rfl ?_ | exact Sub.refl _ | refine sub_del rfl ?_ | refine sub_insL_nil ?_) ⟨Nat.le_refl _, fun _ => by rw [← epp]; exact htv, q1y, q4y, q9y, by have h9 := ho3; simp only at h9; rw [hgs, getD_lt (by rw [List.length_set]; exact hpk), List.getElem_set_self, setO_twice (by rw [hln]; exact hlt), ← mvd_with, epp] at h9; exact h9, h3, hbw⟩ (by omega)
                  ·
                    obtain ⟨hk1, hk2, hk3, hk4⟩ := hop.kind.resolve_left (fun h => hk h.1)
                    obtain ⟨af, eaf⟩ : ∃ e : Nat, p.after = e := ⟨p.after.toNat, by omega⟩
                    have oc3 := oc.c3
                    rw [eaf] at oc3
                    have haf2 : af < x := by omega
                    have hma := htr.mins af (by omega)
                    obtain ⟨bA, oA, e_, _, cA_⟩ := ints_cells M af (by omega) wy _ _ _ _ hrm4
                    obtain ⟨rfl, rfl⟩ : bM = bA ∧ oM = oA := by injection e_ with e_; injection e_ with h1 h2; exact ⟨h1, h2⟩
                    have htvv : M.getD ev 0 - M.getD af 0 = tv p M FL := by unfold tv; rw [if_neg (by omega), eev, eaf]; rfl
                    refine EL.val (x_eql (r := false) rfl rfl (decide_eq_false hk)) rfl ?_
                    refine EL.val (x_move rfl) rfl ?_
                    refine EL.skip rfl rfl rfl rfl ?_
                    refine EL.skip rfl rfl rfl rfl ?_
                    refine EL.skip rfl rfl rfl rfl ?_
                    refine EL.skip rfl rfl rfl rfl ?_
                    refine EL.skip rfl rfl rfl rfl ?_
                    refine EL.val (x_pick_f rfl rfl) rfl ?_
                    refine EL.val (x_move rfl) rfl ?_
                    refine EL.skip rfl rfl rfl rfl ?_
                    refine EL.skip rfl rfl rfl rfl ?_
                    refine EL.skip rfl rfl rfl rfl ?_
                    refine EL.skip rfl rfl rfl rfl ?_
                    refine EL.skip rfl rfl rfl rfl ?_
                    refine EL.skip rfl rfl rfl rfl ?_
                    refine EL.skip rfl rfl rfl rfl ?_
                    refine EL.val (x_pick_f rfl rfl) rfl ?_
                    refine EL.val (x_assign rfl) rfl ?_
                    refine EL.nil ?_
                    refine EX.seq ?_
                    refine EC.no rfl ?_
                    refine EC.seq ?_
                    refine EC.region ?_
                    refine EL.val (x_move rfl) rfl ?_
                    refine EL.val (x_nilCheck rfl) rfl ?_
                    refine EL.val (fa_71_0 rfl) rfl ?_
                    refine EL.val (ld_69 rfl (below_load hby oc.c0)) rfl ?_
                    refine EL.val (x_eql (r := true) rfl rfl (decide_eq_true hk1)) rfl ?_
                    refine EL.val (x_move rfl) rfl ?_
                    refine EL.valg rfl rfl (x_move rfl) rfl ?_
                    refine EL.valg rfl rfl (x_nilCheck rfl) rfl ?_
                    refine EL.valg rfl rfl (fa_71_3 rfl) rfl ?_
                    refine EL.valg rfl rfl (ld_3 rfl (below_load hby oc3)) rfl ?_
                    refine EL.valg rfl rfl (x_geq (r := true) rfl rfl (decide_eq_true (by omega))) rfl ?_
                    refine EL.val (x_pick_t rfl rfl) rfl ?_
                    refine EL.val (x_move rfl) rfl ?_
                    refine EL.valg rfl rfl (x_move rfl) rfl ?_
                    refine EL.valg rfl rfl (x_nilCheck rfl) rfl ?_
                    refine EL.valg rfl rfl (fa_71_3 rfl) rfl ?_
                    refine EL.valg rfl rfl (ld_3 rfl (below_load hby oc3)) rfl ?_
                    refine EL.valg rfl rfl (x_move rfl) rfl ?_
                    refine EL.valg rfl rfl (ln_26 rfl) rfl ?_
                    refine EL.valg rfl rfl (x_lss (r := true) rfl rfl (decide_eq_true (by omega))) rfl ?_
                    refine EL.val (x_pick_t rfl rfl) rfl ?_
                    refine EL.val (x_assign rfl) rfl ?_
                    refine EL.nil ?_
                    refine EX.seq ?_
                    refine EC.yes rfl ?_
                    refine EC.regionQ (by kernel_rfl) (by kernel_rfl) ?_
                    refine EQ.val (fun _ hw => (x_move rfl)) rfl ?_
                    refine EQ.val (fun _ hw => (x_move rfl)) rfl ?_
                    refine EQ.val (fun _ hw => (x_nilCheck rfl)) rfl ?_
                    refine EQ.val (fun _ hw => (fa_71_1 rfl)) rfl ?_
                    refine EQ.val (fun _ hw => (ld_3 rfl (below_load hw (below_load hby oc1)))) rfl ?_
                    refine EQ.val (fun _ hw => (ix_26 rfl rfl hev2)) rfl ?_
                    refine EQ.val (fun _ hw => (ld_3 rfl (below_load hw (below_load hby cM)))) rfl ?_
                    refine EQ.val (fun _ hw => (x_move rfl)) rfl ?_
                    refine EQ.val (fun _ hw => (x_move rfl)) rfl ?_
                    refine EQ.val (fun _ hw => (x_nilCheck rfl)) rfl ?_
                    refine EQ.val (fun _ hw => (fa_71_3 rfl)) rfl ?_
                    refine EQ.val (fun _ hw => (ld_3 rfl (below_load hw (below_load hby oc3)))) rfl ?_
                    refine EQ.val (fun _ hw => (ix_26 rfl rfl haf2)) rfl ?_
                    refine EQ.val (fun _ hw => (ld_3 rfl (below_load hw (below_load hby cA_)))) rfl ?_
                    refine EQ.val (fun _ hw => (x_sub rfl rfl (c := tv p M FL) ((IntWalk.i64_in _ ⟨by omega, by omega⟩).trans htvv))) rfl ?_
                    refine EQ.val (fun _ hw => (x_assign rfl)) rfl ?_
                    refine EQ.fin (fun w24 hw_ => ?_)
                    replace q1y := q1y.below hw_ q1y.lt
                    replace q4y := q4y.below hw_ q4y.lt
                    replace q9y := q9y.below hw_ q9y.lt
                    replace ho := ho.below hw_
                    replace h3 := h3.below hw_
                    replace hbw := Below.on hbw hw_ hbw.size
                    replace hby := Below.on hby hw_ hby.size
                    clear hw_
                    refine EX.blk ?_
                    refine EX.seq ?_
                    refine EC.seq ?_
                    have hpm := hop.mins
                    refine EC.regionQ (by kernel_rfl) (by kernel_rfl) ?_
                    refine EQ.val (fun _ hw => (x_move rfl)) rfl ?_
                    refine EQ.val (fun _ hw => (x_nilCheck rfl)) rfl ?_
                    refine EQ.val (fun _ hw => (fa_71_4 rfl)) rfl ?_
                    refine EQ.val (fun _ hw => (fa_54_1 rfl)) rfl ?_
                    refine EQ.val (fun _ hw => (ld_3 rfl (below_load hw (below_load hby oc.c5)))) rfl ?_
                    refine EQ.val (fun _ hw => (x_move rfl)) rfl ?_
                    refine EQ.val (fun _ hw => (x_nilCheck rfl)) rfl ?_
                    refine EQ.val (fun _ hw => (fa_71_4 rfl)) rfl ?_
                    refine EQ.val (fun _ hw => (fa_54_0 rfl)) rfl ?_
                    refine EQ.val (fun _ hw => (ld_3 rfl (below_load hw (below_load hby oc.c4)))) rfl ?_
                    refine EQ.val (fun _ hw => (x_sub rfl rfl (c := p.mins.hi - p.mins.lo) (IntWalk.i64_in _ ⟨by omega, by omega⟩))) rfl ?_
                    refine EQ.val (fun _ hw => (mm_max rfl rfl rfl)) rfl ?_
                    refine EQ.val (fun _ hw => (mm_min rfl rfl (show _ = wideO p from rfl))) rfl ?_
                    refine EQ.val (fun _ hw => (x_assign rfl)) rfl ?_
                    refine EQ.fin (fun w25 hw_ => ?_)
                    replace q1y := q1y.below hw_ q1y.lt
                    replace q4y := q4y.below hw_ q4y.lt
                    replace q9y := q9y.below hw_ q9y.lt
                    replace ho := ho.below hw_
                    replace h3 := h3.below hw_
                    replace hbw := Below.on hbw hw_ hbw.size
                    replace hby := Below.on hby hw_ hby.size
                    clear hw_
                    refine EX.seq ?_
                    refine EC.region ?_
                    refine EL.val (x_move rfl) rfl ?_
                    refine EL.val (x_move rfl) rfl ?_
                    refine EL.val (x_move rfl) rfl ?_
                    refine EL.val (x_quo rfl rfl (c := (wideO p).tdiv 2) (by decide) (IntWalk.i64_in _ ⟨by omega, by omega⟩)) rfl ?_
                    refine EL.val (x_sub rfl rfl (c := tv p M FL - (wideO p).tdiv 2) (IntWalk.i64_in _ ⟨by omega, by omega⟩)) rfl ?_
                    refine EL.val (x_move rfl) rfl ?_
                    refine EL.val (x_move rfl) rfl ?_
                    refine EL.val (x_add rfl rfl (c := tv p M FL + wideO p) (IntWalk.i64_in _ ⟨by omega, by omega⟩)) rfl ?_
                    refine EL.val (x_move rfl) rfl ?_
                    refine EL.val (x_quo rfl rfl (c := (wideO p).tdiv 2) (by decide) (IntWalk.i64_in _ ⟨by omega, by omega⟩)) rfl ?_
                    refine EL.val (x_sub rfl rfl (c := tv p M FL + wideO p - (wideO p).tdiv 2) (IntWalk.i64_in _ ⟨by omega, by omega⟩)) rfl ?_
                    refine EL.val (bd_54_0_1 rfl rfl) rfl ?_
                    refine EL.val (x_nilCheck rfl) rfl ?_
                    refine EL.val (fa_71_4 rfl) rfl ?_
                    have hrowW := ho.clues.row u hxo
                    change w25.ownsRow _ _ _ _ ((setO (toldL c b M FL u) u K (pY p0 M FL 0)).getD u []).length (optsC ((setO (toldL c b M FL u) u K (pY p0 M FL 0)).getD u [])) at hrowW
                    rw [hgs, eR, List.length_set] at hrowW
                    refine EL.storeRow (l' := [.int .i64 (tv p M FL - (wideO p).tdiv 2), .int .i64 (tv p M FL + wideO p - (wideO p).tdiv 2)]) rfl rfl hrowW sz_54 rfl rfl (by rw [optsC_len, List.length_set]; omega) rfl ?_
                    intro w8 ho2 hg
                    have hbm := (hrowW.lt gR rfl).1
                    rw [Nat.zero_add] at ho2
                    replace q1y := blk_grown q1y hrowW rfl hg
                    replace q4y := blk_grown q4y hrowW rfl hg
                    replace q9y := blk_grown q9y hrowW rfl hg
                    replace h3 := h3.grown hrowW rfl hg
                    have ho3 := ho.set (m := ⟨tv p M FL - (wideO p).tdiv 2, tv p M FL + wideO p - (wideO p).tdiv 2⟩) (W' := w8) hxo (K := K) (by show K < ((setO (toldL c b M FL u) u K (pY p0 M FL 0)).getD u []).length; rw [hgs, List.length_set]; exact hpk) (by show w8.ownsRow _ _ _ _ ((setO (toldL c b M FL u) u K (pY p0 M FL 0)).getD u []).length (spl (optsC ((setO (toldL c b M FL u) u K (pY p0 M FL 0)).getD u [])) (K * 6 + 4) _); rw [hgs, eR, List.length_set]; exact ho2) (by rw [eR]; exact hg)
                    replace hbw := below_store hbw hg hbm
                    clear ho
                    refine EL.nil ?_
                    refine EX.blk ?_
                    refine EX.roundD 1 trivial (by repeat first | with_reducible exact Sub.refl _ | refine sub_past rfl ?_ | exact Sub.refl _ | refine sub_del rfl ?_ | refine sub_insL_nil ?_) ⟨Nat.le_refl _, fun _ => by rw [← epp]; exact htv, q1y, q4y, q9y, by have h9 := ho3; simp only at h9; rw [hgs, getD_lt (by rw [List.length_set]; exact hpk), List.getElem_set_self, setO_twice (by rw [hln]; exact hlt), ← mvd_with, epp] at h9; exact h9, h3, hbw⟩ (by omega)
                ·
                  have hmv : pY p0 M FL y = mvO p0 M FL := by
                    unfold mvO
                    rcases (show y = 0 ∨ y = 1 by omega) with h | h
                    · subst h; rw [if_pos (by rw [ep] at htv; exact htv)]; rfl
                    · rw [if_neg (by rw [hy1 h]; decide)]; subst h; rfl
                  refine EL.call (cl_57 rfl rfl rfl) rfl (fits_opt htr hcb hop htv _ _ _ wy.heap.size (hrm3.below hby) (hrf3.below hby) hby.size) ?_
                  rintro e w26 ⟨rfl, hc26⟩
                  refine ⟨_, rfl, ?_⟩
                  replace q1y := q1y.below hc26 q1y.lt
                  replace q4y := q4y.below hc26 q4y.lt
                  replace q9y := q9y.below hc26 q9y.lt
                  replace ho := ho.below hc26
                  replace h3 := h3.below hc26
                  replace hbw := Below.on hbw hc26 hbw.size
                  replace hby := Below.on hby hc26 hby.size
                  clear hc26
                  refine EL.val (x_not rfl) rfl ?_
                  refine EL.nil ?_
                  refine EX.seq ?_
                  refine EC.no rfl ?_
                  refine EC.exit ?_
                  refine EX.seq_exit ?_
                  refine EX.seq_exit ?_
                  refine EX.blk_here ?_
                  refine EX.seq ?_
                  refine EC.region ?_
                  refine EL.val (x_move rfl) rfl ?_
                  refine EL.val (x_move rfl) rfl ?_
                  refine EL.newS (bs_26_1 rfl) rfl ?_
                  intro g27 w27 q27 hb27 hg27 hl27
                  have n1_27 : g1 ≠ g27 := Nat.ne_of_lt (Nat.lt_of_lt_of_le q1y.lt hg27)
                  have n2_27 : g2 ≠ g27 := Nat.ne_of_lt (Nat.lt_of_lt_of_le q4y.lt hg27)
                  have n7_27 : g7 ≠ g27 := Nat.ne_of_lt (Nat.lt_of_lt_of_le q9y.lt hg27)
                  have bhbw_27 := Nat.le_trans hbw.size hg27
                  have bhby_27 := Nat.le_trans hby.size hg27
                  replace q1y := q1y.below hb27 q1y.lt
                  replace q4y := q4y.below hb27 q4y.lt
                  replace q9y := q9y.below hb27 q9y.lt
                  replace ho := ho.below hb27
                  replace h3 := h3.below hb27
                  replace hbw := Below.on hbw hb27 hbw.size
                  replace hby := Below.on hby hb27 hby.size
                  clear hb27 hg27 hl27
                  have hr_ := h3.r3
                  refine EL.push i64_elem rfl rfl hr_ (rd_one (l := [.int .i64 ((K : Nat) : Int)]) q27 rfl) (by intro u hu; rw [List.mem_singleton.1 hu]; rfl) (by omega) rfl hbw.size rfl ?_
                  intro v28 w28 hn_ hgr hb_ hat_
                  have h3n := h3.push3 hgr hn_ (at_grown hat_)
                  replace q1y := blk_grown q1y hr_ rfl hgr
                  replace q4y := blk_grown q4y hr_ rfl hgr
                  replace q9y := blk_grown q9y hr_ rfl hgr
                  replace ho := ho.grown hr_ rfl rfl rfl hgr
                  replace hbw := hbw.trans hb_
                  clear h3
                  have h3 := h3n
                  clear h3n hn_ hgr hb_ hat_ hr_
                  refine EL.val (x_assign rfl) rfl ?_
                  refine EL.nil ?_
                  refine EX.blk ?_
                  refine EX.seq ?_
                  refine EC.region ?_
                  refine EL.val (x_move rfl) rfl ?_
                  refine EL.val (x_add rfl rfl (c := ((u + 1 : Nat) : Int)) ((IntWalk.i64_in _ ⟨by first | omega | (simp only; omega), by first | omega | (simp only; omega)⟩).trans (by first | omega | (simp only; omega)))) rfl ?_
                  refine EL.val (x_assign rfl) rfl ?_
                  refine EL.nil ?_
                  refine EX.roundD (u + 1, _) ⟨rfl, rfl, trivial⟩ (by repeat first | with_reducible exact Sub.refl _ | refine sub_past rfl ?_ | exact Sub.refl _ | refine sub_del rfl ?_ | refine sub_insL_nil ?_) ⟨hlt, q1y, q4y, q9y, by rw [toldL_succ hlt, ← eK, ← ep0, ← hmv]; exact ho, by rw [crsBy_succ, ← eK]; exact h3, hbw⟩ (by simp only; omega)
              ·
                have hun : u = c.clues.length := by omega
                refine EC.seq ?_
                refine EC.seq ?_
                refine EC.region ?_
                refine EL.val (x_move rfl) rfl ?_
                refine EL.val (fa_25_2 rfl) rfl ?_
                refine EL.val (ld_23 rfl (q9u.at (j := 2) rfl)) rfl ?_
                refine EL.val (ln_23 rfl) rfl ?_
                refine EL.val (x_lss rfl rfl (decide_eq_false (show ¬(((u : Nat) : Int) < ((c.clues.length : Nat) : Int)) by omega))) rfl ?_
                refine EL.nil ?_
                refine EX.seq ?_
                refine EC.no rfl ?_
                refine EC.exit ?_
                refine EX.seq_exit ?_
                refine EX.seq_exit ?_
                refine EX.blk_here ?_
                refine EX.seq ?_
                refine EC.seq ?_
                refine EC.region ?_
                refine EL.val (ld_25 rfl (q9u.at (j := 0) rfl) (q9u.at (j := 1) rfl) (q9u.at (j := 2) rfl)) rfl ?_
                refine EL.val (x_move rfl) rfl ?_
                refine EL.val (x_move rfl) rfl ?_
                refine EL.val (x_move rfl) rfl ?_
                refine EL.store rfl rfl q4u sz_25 rfl rfl rfl rfl ?_
                intro w29 hq29 hg29
                replace q1u := q1u.grown hg29 (fun h => n1_2 (Option.some.inj h))
                replace q9u := q9u.grown hg29 (fun h => n2_7.symm (Option.some.inj h))
                replace ho := ho.type q4u rfl rfl rfl hg29
                replace h3 := h3.type q4u rfl hg29
                replace hbw := below_store hbw hg29 bhbw_2
                replace q4u := hq29
                clear hg29 hq29
                refine EL.val (x_assign rfl) rfl ?_
                refine EL.val (x_assign rfl) rfl ?_
                refine EL.val (x_assign rfl) rfl ?_
                refine EL.val (x_assign rfl) rfl ?_
                refine EL.nil ?_
                refine EX.seq ?_
                refine EC.ret ?_
                have e1_ : minsL xm c.events.toNat = M := by rw [eN2, ← hxN, eM]
                have e2_ : fastL c xf c.clocks.length = FL := by rw [← hyn, eF]
                have e3_ : toldC c b M FL = ⟨c.events, c.clocks, toldL c b M FL u⟩ := by rw [hun]; rfl
                exact EX.done (resc5 rfl rfl rfl rfl rfl rfl (lv_25 (q4u.at (j := 0) rfl) (q4u.at (j := 1) rfl) (q4u.at (j := 2) rfl))) ⟨.inr ⟨_, _, _, _, _, _, rfl, hcb, hsm, by rw [e1_, e2_, e3_]; exact ho, by rw [e1_, e2_, ← hun]; exact h3, by rw [e1_, e2_]; exact htr⟩, hbw⟩
        ·
          refine EL.callg rfl rfl (cl_25 rfl) rfl (check_bad hcb _ _ ws2 _ _ (hr2.below hb2) hb2.size hk1 hk2) ?_
          rintro e w30 ⟨rfl, hc30⟩
          refine ⟨_, rfl, ?_⟩
          replace q1 := q1.below hc30 q1.lt
          replace q2 := q2.below hc30 q2.lt
          replace q4 := q4.below hc30 q4.lt
          replace q5 := q5.below hc30 q5.lt
          replace q6 := q6.below hc30 q6.lt
          replace q7 := q7.below hc30 q7.lt
          replace ho := ho.below hc30
          replace hbw := Below.on hbw hc30 hbw.size
          replace hb2 := Below.on hb2 hc30 hb2.size
          clear hc30
          refine EL.valg rfl rfl (x_neq (r := true) rfl rfl (by decide)) rfl ?_
          refine EL.val (x_pick_f rfl rfl) rfl ?_
          refine EL.nil ?_
          refine EX.seq ?_
          refine EC.yes rfl ?_
          refine EC.seq ?_
          refine EC.region ?_
          refine EL.val (ld_25 rfl (q7.at (j := 0) rfl) (q7.at (j := 1) rfl) (q7.at (j := 2) rfl)) rfl ?_
          refine EL.store rfl rfl q2 sz_25 rfl rfl rfl rfl ?_
          intro w31 hq31 hg31
          replace q1 := q1.grown hg31 (fun h => n1_2 (Option.some.inj h))
          replace q4 := q4.grown hg31 (fun h => n2_4.symm (Option.some.inj h))
          replace q5 := q5.grown hg31 (fun h => n2_5.symm (Option.some.inj h))
          replace q6 := q6.grown hg31 (fun h => n2_6.symm (Option.some.inj h))
          replace q7 := q7.grown hg31 (fun h => n2_7.symm (Option.some.inj h))
          replace ho := ho.type q2 rfl rfl rfl hg31
          replace hbw := below_store hbw hg31 bhbw_2
          clear hb2
          replace q2 := hq31
          clear hg31 hq31
          refine EL.val (x_assign rfl) rfl ?_
          refine EL.val (x_assign rfl) rfl ?_
          refine EL.val (x_assign rfl) rfl ?_
          refine EL.val (x_assign rfl) rfl ?_
          refine EL.nil ?_
          refine EX.seq ?_
          refine EC.ret ?_
          refine EX.seq_ret ?_
          exact EX.done (resc5 rfl rfl rfl rfl rfl rfl (lv_25 (q2.at (j := 0) rfl) (q2.at (j := 1) rfl) (q2.at (j := 2) rfl))) ⟨.inl ⟨_, _, _, _, _, _, rfl⟩, hbw⟩
  ·
    refine ⟨_, rfl, ?_⟩
    replace q1 := q1.below hcB q1.lt
    replace q2 := q2.below hcB q2.lt
    replace q4 := q4.below hcB q4.lt
    replace q5 := q5.below hcB q5.lt
    replace q6 := q6.below hcB q6.lt
    replace q7 := q7.below hcB q7.lt
    replace ho := ho.below hcB
    replace hbw := Below.on hbw hcB hbw.size
    clear hcB
    refine EL.val (x_move rfl) rfl ?_
    refine EL.skip rfl rfl rfl rfl ?_
    refine EL.skip rfl rfl rfl rfl ?_
    refine EL.skip rfl rfl rfl rfl ?_
    refine EL.val (x_pick_t rfl rfl) rfl ?_
    refine EL.val (x_move rfl) rfl ?_
    refine EL.skip rfl rfl rfl rfl ?_
    refine EL.skip rfl rfl rfl rfl ?_
    refine EL.skip rfl rfl rfl rfl ?_
    refine EL.val (x_pick_t rfl rfl) rfl ?_
    refine EL.val (x_move rfl) rfl ?_
    refine EL.skip rfl rfl rfl rfl ?_
    refine EL.skip rfl rfl rfl rfl ?_
    refine EL.skip rfl rfl rfl rfl ?_
    refine EL.skip rfl rfl rfl rfl ?_
    refine EL.val (x_pick_t rfl rfl) rfl ?_
    refine EL.nil ?_
    refine EX.seq ?_
    refine EC.yes rfl ?_
    refine EC.seq ?_
    refine EC.region ?_
    refine EL.val (ld_25 rfl (q7.at (j := 0) rfl) (q7.at (j := 1) rfl) (q7.at (j := 2) rfl)) rfl ?_
    refine EL.store rfl rfl q2 sz_25 rfl rfl rfl rfl ?_
    intro w32 hq32 hg32
    replace q1 := q1.grown hg32 (fun h => n1_2 (Option.some.inj h))
    replace q4 := q4.grown hg32 (fun h => n2_4.symm (Option.some.inj h))
    replace q5 := q5.grown hg32 (fun h => n2_5.symm (Option.some.inj h))
    replace q6 := q6.grown hg32 (fun h => n2_6.symm (Option.some.inj h))
    replace q7 := q7.grown hg32 (fun h => n2_7.symm (Option.some.inj h))
    replace ho := ho.type q2 rfl rfl rfl hg32
    replace hbw := below_store hbw hg32 bhbw_2
    replace q2 := hq32
    clear hg32 hq32
    refine EL.val (x_assign rfl) rfl ?_
    refine EL.val (x_assign rfl) rfl ?_
    refine EL.val (x_assign rfl) rfl ?_
    refine EL.val (x_assign rfl) rfl ?_
    refine EL.nil ?_
    refine EX.seq ?_
    refine EC.ret ?_
    refine EX.seq_ret ?_
    exact EX.done (resc5 rfl rfl rfl rfl rfl rfl (lv_25 (q2.at (j := 0) rfl) (q2.at (j := 1) rfl) (q2.at (j := 2) rfl))) ⟨.inl ⟨_, _, _, _, _, _, rfl⟩, hbw⟩
end Go.Proofs.Ytmaiiigijjfjfaa
namespace Go.Proofs.Ytmaiiigijjfjfaa
open Go Go.ChangeShapes Go.WideShapes Go.Deep Go.RowKit Go.Joins
section
variable {H : Type} {enc : TypeId × Value → H} {P : Program} {w : World} {base : Nat} {spare : Nat → Bool} {held : Bool}
theorem wt_all {e : TypeId} {d : DataW H} {m : Nat} : ∀ {ds : List (DataW H)}, d ∈ ds → m ∈ d.weights P e → m ∈ DataW.weightsAll P e ds
  | [], h, _ => by cases h
  | x :: ds, h, hm => by
    simp only [DataW.weightsAll, List.mem_append]
    rcases List.mem_cons.1 h with rfl | h
    · exact .inl hm
    · exact .inr (wt_all h hm)
theorem wt_struct {t ft : TypeId} {fs : Array Field} {ds : List (DataW H)} {j m : Nat} {d : DataW H} (ht : P.underlying t = some (.struct fs)) (h1 : (fs.toList.map (·.type))[j]? = some ft) (h2 : ds[j]? = some d) (hm : m ∈ d.weights P ft) : m ∈ (DataW.agg ds).weights P t := by
  simp only [DataW.weights, ht]
  exact DataW.weights_mem_each h1 h2 m hm
/-- a slice, opened to its elements -/
theorem rd_listW {α : Type} [Inhabited α] {f : α → List Value} {s : Nat} {Good : α → Prop} (hf : ∀ x, (f x).length = s) (hs : 0 < s) {t e : TypeId} {fuel : Nat} {v : Value} {x : DataW H × List MemPlace} (ht : P.underlying t = some (.slice e)) (hC : P.cellsOf e = s)
    (hE : ∀ (fuel : Nat) (cs : List Value) (x : DataW H × List MemPlace), cs.length = s → DataW.trod enc P w base spare held fuel e cs = some x → (∀ m ∈ x.1.weights P e, m ≤ reachBytes) → ∃ y : α, cs = f y ∧ Good y) (h : DataW.trod enc P w base spare held fuel t [v] = some x) (hw : ∀ m ∈ x.1.weights P t, m ≤ reachBytes) :
    ∃ l : List α, Rd w w.heap.size s v l.length (l.flatMap f) ∧ (∀ y ∈ l, Good y) ∧ l.length ≤ maxLen ∧ l.length * P.bytesOf e ≤ reachBytes := by
  rcases open_slice ht h with ⟨hcs, _⟩ | ⟨a, len, cap, m, n, D, Pl, hcs, _, hl, hcap, hm, hx, hi⟩
  · injection hcs with hcs
    subst hcs
    exact ⟨[], Rd.nil_ _ _ _, by simp, Nat.zero_le _, by simp⟩
  · injection hcs with hcs
    subst hcs
    have hws : ((List.range len).map D).length * P.bytesOf e ≤ reachBytes ∧ ∀ i, i < len → ∀ m' ∈ (D i).weights P e, m' ≤ reachBytes := by
      rw [hx] at hw
      simp only [DataW.weights, ht] at hw
      refine ⟨Nat.le_trans (Nat.mul_le_mul_right _ (Nat.le_add_right _ _)) (hw _ (List.mem_cons_self ..)), fun i hi' m' hm' => hw _ (List.mem_cons_of_mem _ (List.mem_append_left _ (wt_all (List.mem_map.2 ⟨i, List.mem_range.2 hi', rfl⟩) hm')))⟩
    rw [List.length_map, List.length_range] at hws
    have hcell : ∀ i, i < len → ∃ y : α, (∀ j u, (f y)[j]? = some u → w.cell? (a.add (i * s + j)) = some u) ∧ Good y := by
      intro i hi'
      obtain ⟨cs', hc, ht'⟩ := hi i (by rw [hm]; split <;> omega)
      rw [hC] at hc
      obtain ⟨_, hcl, hat⟩ := World.cells?_some hc
      obtain ⟨y, hy, hg⟩ := hE _ cs' _ hcl ht' (hws.2 i hi')
      subst hy
      refine ⟨y, fun j u hu => ?_, hg⟩
      have hj : j < s := by
        have := (List.getElem?_eq_some_iff.1 hu).1
        rwa [hf] at this
      have h1 := hat j hj
      rw [Go.Deep.add_add] at h1
      rw [h1, hu]
    let pick : Nat → α := fun i => if h : i < len then Classical.choose (hcell i h) else default
    have hpick : ∀ i, (h : i < len) → (∀ j u, (f (pick i))[j]? = some u → w.cell? (a.add (i * s + j)) = some u) ∧ Good (pick i) := fun i h => by
      have := Classical.choose_spec (hcell i h)
      simp only [pick, dif_pos h]
      exact this
    refine ⟨(List.range len).map pick, ?_, ?_, by simp; omega, by simpa using hws.1⟩
    · rw [List.length_map, List.length_range]
      rcases Nat.eq_zero_or_pos len with hz | hz
      · subst hz
        exact ⟨by simp, _, _, rfl, hl, fun h => absurd h (by omega)⟩
      · have h0 := (hpick 0 hz).1 0 _ (List.getElem?_eq_getElem (by rw [hf]; exact hs))
        obtain ⟨hsp, hb⟩ := cell_spot h0
        have e0 : a.add (0 * s + 0) = a := by simp [Addr.add]
        rw [e0] at hsp hb
        have hx : a = ⟨a.block, a.off, none⟩ := by obtain ⟨b, o, s⟩ := a; subst hsp; rfl
        rw [hx, List.flatMap_map]
        refine rd_of_cells _ (fun i => hf _) hs hb hl fun i hi' j u hu => ?_
        have h1 := (hpick i hi').1 j u hu
        rw [add_lit_more a _ hsp] at h1
        exact h1
    · intro y hy
      obtain ⟨i, hi', rfl⟩ := List.mem_map.1 hy
      exact (hpick i (by simpa using hi')).2
end
section
variable {H : Type} {enc : TypeId × Value → H} {w : World} {base : Nat} {spare : Nat → Bool} {held : Bool}
theorem co_99 : Try.prog.cellsOf 99 = 1 := by kernel_rfl
theorem co_63 : Try.prog.cellsOf 63 = 1 := by kernel_rfl
theorem co_62 : Try.prog.cellsOf 62 = 1 := by kernel_rfl
set_option maxRecDepth 100000 in
theorem cellsW_74 {fuel : Nat} {cs : List Value} {x : DataW H × List MemPlace} (hl : cs.length = 1) (h : DataW.trod enc Try.prog w base spare held fuel 74 cs = some x) (hw : ∀ m ∈ x.1.weights Try.prog 74, m ≤ reachBytes) : ∃ (v0 : Value), cs = [v0] ∧ (∃ n x, DataW.trod enc Try.prog w base spare held n 72 [v0] = some x ∧ ∀ m ∈ x.1.weights Try.prog 72, m ≤ reachBytes) := by
  obtain ⟨ys, n, _, hx, _, hyl, hf⟩ := DataW.trod_struct Try.underlying74 h
  rw [hx] at hw
  match cs, hl with
  | [u0], _ =>
    match ys, hyl with
    | [y0], _ =>
      have q0 : DataW.trod enc Try.prog w base spare held n 72 [u0] = some y0 := fld_of hf (j := 0) rfl rfl rfl co_72
      have w0 : ∀ m ∈ y0.1.weights Try.prog 72, m ≤ reachBytes := fun m hm => hw m (wt_struct Try.underlying74 (j := 0) rfl rfl hm)
      exact ⟨u0, rfl, ⟨_, _, q0, w0⟩⟩
set_option maxRecDepth 100000 in
theorem cellsW_25 {fuel : Nat} {cs : List Value} {x : DataW H × List MemPlace} (hl : cs.length = 3) (h : DataW.trod enc Try.prog w base spare held fuel 25 cs = some x) (hw : ∀ m ∈ x.1.weights Try.prog 25, m ≤ reachBytes) : ∃ (z0 : Int) (v1 : Value) (v2 : Value), cs = [.int .i64 z0, v1, v2] ∧ (∃ n x, DataW.trod enc Try.prog w base spare held n 22 [v1] = some x ∧ ∀ m ∈ x.1.weights Try.prog 22, m ≤ reachBytes) ∧ (∃ n x, DataW.trod enc Try.prog w base spare held n 23 [v2] = some x ∧ ∀ m ∈ x.1.weights Try.prog 23, m ≤ reachBytes) := by
  obtain ⟨ys, n, _, hx, _, hyl, hf⟩ := DataW.trod_struct Try.underlying25 h
  rw [hx] at hw
  match cs, hl with
  | [u0, u1, u2], _ =>
    match ys, hyl with
    | [y0, y1, y2], _ =>
      have q0 : DataW.trod enc Try.prog w base spare held n 3 [u0] = some y0 := fld_of hf (j := 0) rfl rfl rfl co_3
      have w0 : ∀ m ∈ y0.1.weights Try.prog 3, m ≤ reachBytes := fun m hm => hw m (wt_struct Try.underlying25 (j := 0) rfl rfl hm)
      obtain ⟨z0, hz0, _, _⟩ := DataW.trod_int Try.underlying3 q0
      injection hz0 with hz0
      subst hz0
      have q1 : DataW.trod enc Try.prog w base spare held n 22 [u1] = some y1 := fld_of hf (j := 1) rfl rfl rfl co_22
      have w1 : ∀ m ∈ y1.1.weights Try.prog 22, m ≤ reachBytes := fun m hm => hw m (wt_struct Try.underlying25 (j := 1) rfl rfl hm)
      have q2 : DataW.trod enc Try.prog w base spare held n 23 [u2] = some y2 := fld_of hf (j := 2) rfl rfl rfl co_23
      have w2 : ∀ m ∈ y2.1.weights Try.prog 23, m ≤ reachBytes := fun m hm => hw m (wt_struct Try.underlying25 (j := 2) rfl rfl hm)
      exact ⟨z0, u1, u2, rfl, ⟨_, _, q1, w1⟩, ⟨_, _, q2, w2⟩⟩
set_option maxRecDepth 100000 in
theorem cellsW_65 {fuel : Nat} {cs : List Value} {x : DataW H × List MemPlace} (hl : cs.length = 5) (h : DataW.trod enc Try.prog w base spare held fuel 65 cs = some x) (hw : ∀ m ∈ x.1.weights Try.prog 65, m ≤ reachBytes) : ∃ (z0 : Int) (v1 : Value) (v2 : Value) (v3 : Value) (v4 : Value), cs = [.int .i64 z0, v1, v2, v3, v4] ∧ (∃ n x, DataW.trod enc Try.prog w base spare held n 22 [v1] = some x ∧ ∀ m ∈ x.1.weights Try.prog 22, m ≤ reachBytes) ∧ (∃ n x, DataW.trod enc Try.prog w base spare held n 23 [v2] = some x ∧ ∀ m ∈ x.1.weights Try.prog 23, m ≤ reachBytes) ∧ (∃ n x, DataW.trod enc Try.prog w base spare held n 62 [v3] = some x ∧ ∀ m ∈ x.1.weights Try.prog 62, m ≤ reachBytes) ∧ (∃ n x, DataW.trod enc Try.prog w base spare held n 63 [v4] = some x ∧ ∀ m ∈ x.1.weights Try.prog 63, m ≤ reachBytes) := by
  obtain ⟨ys, n, _, hx, _, hyl, hf⟩ := DataW.trod_struct Try.underlying65 h
  rw [hx] at hw
  match cs, hl with
  | [u0, u1, u2, u3, u4], _ =>
    match ys, hyl with
    | [y0, y1, y2], _ =>
      have q0 : DataW.trod enc Try.prog w base spare held n 25 [u0, u1, u2] = some y0 := fld_of hf (j := 0) rfl rfl rfl co_25
      have w0 : ∀ m ∈ y0.1.weights Try.prog 25, m ≤ reachBytes := fun m hm => hw m (wt_struct Try.underlying65 (j := 0) rfl rfl hm)
      obtain ⟨a0, a1, a2, e0, t1, t2⟩ := cellsW_25 rfl q0 w0
      simp only [List.cons.injEq, and_true] at e0
      obtain ⟨rfl, rfl, rfl⟩ := e0
      have q1 : DataW.trod enc Try.prog w base spare held n 62 [u3] = some y1 := fld_of hf (j := 1) rfl rfl rfl co_62
      have w1 : ∀ m ∈ y1.1.weights Try.prog 62, m ≤ reachBytes := fun m hm => hw m (wt_struct Try.underlying65 (j := 1) rfl rfl hm)
      have q2 : DataW.trod enc Try.prog w base spare held n 63 [u4] = some y2 := fld_of hf (j := 2) rfl rfl rfl co_63
      have w2 : ∀ m ∈ y2.1.weights Try.prog 63, m ≤ reachBytes := fun m hm => hw m (wt_struct Try.underlying65 (j := 2) rfl rfl hm)
      exact ⟨a0, u1, u2, u3, u4, rfl, t1, t2, ⟨_, _, q1, w1⟩, ⟨_, _, q2, w2⟩⟩
theorem by_bd : Try.prog.bytesOf 54 = 16 := by kernel_rfl
theorem by_opt : Try.prog.bytesOf 71 = 48 := by kernel_rfl
theorem by_clue : Try.prog.bytesOf 74 = 24 := by kernel_rfl
theorem flat_u16s : ∀ l : List Int, l.flatMap (fun x => [Value.int .u16 x]) = u16s l
  | [] => rfl
  | x :: l => by
    have := flat_u16s l
    simp only [u16s, List.flatMap_cons, List.map_cons, List.singleton_append] at this ⊢
    rw [this]
theorem rd_u16s {fuel : Nat} {v : Value} {x : DataW H × List MemPlace} (h : DataW.trod enc Try.prog w base spare held fuel 62 [v] = some x) : ∃ l : List Int, Rd w w.heap.size 1 v l.length (u16s l) ∧ (∀ y ∈ l, 0 ≤ y ∧ y ≤ 65535) ∧ l.length ≤ maxLen := by
  obtain ⟨l, h1, h3, h2⟩ := rd_list (α := Int) (s := 1) (f := fun x => [Value.int .u16 x]) (Good := fun x => 0 ≤ x ∧ x ≤ 65535) (fun _ => rfl) (by omega) Try.underlying62 co_99 (fun _ cs _ hl ht => by
    match cs, hl with
    | [u], _ =>
      obtain ⟨z, hz, _, wf⟩ := DataW.trod_int Try.underlying99 ht
      injection hz with hz
      subst hz
      exact ⟨z, rfl, wf_u16 wf⟩) h
  rw [flat_u16s] at h1
  exact ⟨l, h1, h3, h2⟩
theorem rd_bdsW {fuel : Nat} {v : Value} {x : DataW H × List MemPlace} (h : DataW.trod enc Try.prog w base spare held fuel 22 [v] = some x) (hw : ∀ m ∈ x.1.weights Try.prog 22, m ≤ reachBytes) : ∃ l : List Bd, Rd w w.heap.size 2 v l.length (bdsC l) ∧ l.length ≤ maxLen ∧ l.length * 16 ≤ reachBytes := by
  obtain ⟨l, h1, _, h2, h3⟩ := rd_listW (f := bdC) (Good := fun _ => True) bdC_len (by omega) Try.underlying22 co_54 (fun _ cs _ hl ht _ => by
    obtain ⟨a, b, rfl⟩ := cells_54 hl ht
    exact ⟨⟨a, b⟩, rfl, trivial⟩) h hw
  rw [by_bd] at h3
  exact ⟨l, h1, h2, h3⟩
theorem rd_optsW {fuel : Nat} {v : Value} {x : DataW H × List MemPlace} (h : DataW.trod enc Try.prog w base spare held fuel 72 [v] = some x) (hw : ∀ m ∈ x.1.weights Try.prog 72, m ≤ reachBytes) : ∃ l : List Opt, Rd w w.heap.size 6 v l.length (optsC l) ∧ l.length ≤ maxLen ∧ l.length * 48 ≤ reachBytes := by
  obtain ⟨l, h1, _, h2, h3⟩ := rd_listW (f := optC) (Good := fun _ => True) optC_len (by omega) Try.underlying72 co_71 (fun _ cs _ hl ht _ => by
    obtain ⟨a, b, c, d, e, f, rfl⟩ := cells_71 hl ht
    exact ⟨⟨a, b, c, d, ⟨e, f⟩⟩, rfl, trivial⟩) h hw
  rw [by_opt] at h3
  exact ⟨l, h1, h2, h3⟩
theorem rd_cluesW {fuel : Nat} {v : Value} {x : DataW H × List MemPlace} (h : DataW.trod enc Try.prog w base spare held fuel 23 [v] = some x) (hw : ∀ m ∈ x.1.weights Try.prog 23, m ≤ reachBytes) : ∃ (l : List (List Opt)) (vs : List Value), RdLL optC 6 w w.heap.size v l vs ∧ l.length ≤ maxLen ∧ l.length * 24 ≤ reachBytes ∧ ∀ j, j < l.length → (l.getD j []).length * 48 ≤ reachBytes := by
  obtain ⟨l, h1, h3, h2, h4⟩ := rd_listW (α := List Opt × Value) (s := 1) (f := fun p => [p.2]) (Good := fun p => Rd w w.heap.size 6 p.2 p.1.length (optsC p.1) ∧ p.1.length * 48 ≤ reachBytes) (fun _ => rfl) (by omega) Try.underlying23 co_74 (fun _ cs _ hl ht hw => by
    obtain ⟨u, rfl, _, _, hq, hwq⟩ := cellsW_74 hl ht hw
    obtain ⟨l, h1, _, h2⟩ := rd_optsW hq hwq
    exact ⟨(l, u), rfl, h1, h2⟩) h hw
  rw [flat_snd] at h1
  rw [by_clue] at h4
  refine ⟨l.map Prod.fst, l.map Prod.snd, ⟨by simp, by simpa using h1, fun i hi => ?_⟩, by simpa using h2, by simpa using h4, fun i hi => ?_⟩
  · have hi' : i < l.length := by simpa using hi
    have e1 : (l.map Prod.fst).getD i [] = l[i].1 := by simp [hi']
    have e2 : (l.map Prod.snd).getD i undef = l[i].2 := by simp [hi']
    rw [e1, e2]
    exact (h3 _ (List.getElem_mem hi')).1
  · have hi' : i < l.length := by simpa using hi
    have e1 : (l.map Prod.fst).getD i [] = l[i].1 := by simp [hi']
    rw [e1]
    exact (h3 _ (List.getElem_mem hi')).2
theorem story_of {v : Value} {d : DataW H} {p : List MemPlace} (h : DataW.Trod enc Try.prog w base spare held 65 v d p) (hw : ∀ m ∈ d.weights Try.prog 65, m ≤ reachBytes) : ∃ (c : Case) (vc vl : Value) (vs : List Value) (vm vf : Value) (xm xf : List Int), v = .agg #[.int .i64 c.events, vc, vl, vm, vf] ∧ RdCase w w.heap.size vc vl c vs ∧ c.clocks.length ≤ maxLen ∧ c.clues.length ≤ maxLen ∧ Fits c ∧ Rd w w.heap.size 1 vm xm.length (u16s xm) ∧ Rd w w.heap.size 1 vf xf.length (u8s xf) ∧ xm.length ≤ maxLen ∧ xf.length ≤ maxLen ∧ (∀ y ∈ xm, 0 ≤ y ∧ y ≤ 65535) ∧ (∀ y ∈ xf, 0 ≤ y ∧ y ≤ 255) := by
  obtain ⟨fuel, hf⟩ := h
  have hl : v.cells.toList.length = 5 := by
    obtain ⟨_, _, _, _, hlen, _, _⟩ := DataW.trod_struct Try.underlying65 hf
    rw [hlen]
    show Try.prog.cellsOf 65 = 5
    kernel_rfl
  obtain ⟨ev, a, b, vm, vf, he, ⟨_, _, ha, wa⟩, ⟨_, _, hb, wb⟩, ⟨_, _, hm, _⟩, ⟨_, _, hg, _⟩⟩ := cellsW_65 hl hf hw
  obtain ⟨l, h1, h2, h2w⟩ := rd_bdsW ha wa
  obtain ⟨m, vs, h3, h4, h5, h6⟩ := rd_cluesW hb wb
  obtain ⟨xm, m1, m2, m3⟩ := rd_u16s hm
  obtain ⟨xf, f1, f2, f3⟩ := rd_u8s hg
  refine ⟨⟨ev, l, m⟩, a, b, vs, vm, vf, xm, xf, ?_, ⟨h1, h3⟩, h2, h4, ⟨h5, h2w, h6⟩, m1, f1, m3, f3, m2, f2⟩
  cases v with
    | agg cs =>
      have : cs = #[.int .i64 ev, a, b, vm, vf] := by
        apply Array.ext'
        simpa [Value.cells] using he
      rw [this]
    | _ => simp [Value.cells] at he
end
end Go.Proofs.Ytmaiiigijjfjfaa
set_option linter.unusedVariables false
set_option linter.unusedSimpArgs false
namespace Go.Proofs.Ytmaiiigijjfjfaa
open Go Go.RowKit
theorem index_any (l : List Int) (y : Int) (v : Value) (w : World) (B : Nat) (hrl : Rd w B 1 v l.length (ints l)) (hl : l.length ≤ 1073741824) :
    Calls Try.prog 78 #[v, .int .i64 y] w fun e w' => (∃ r, e = .returned (.int .i64 r) ∧ (0 ≤ r ↔ y ∈ l)) ∧ Below w.heap.size w w' := by
  obtain ⟨Ai, ci_, rfl, _⟩ := hrl.shape
  have hbw := Below.refl w.heap.size w
  refine EC.enter 19 Try.func78 rfl rfl rfl ?_
  refine EC.seq ?_
  refine EC.region ?_
  refine EL.val (x_assign rfl) rfl ?_
  refine EL.nil ?_
  refine EX.seq ?_
  refine EC.seq ?_
  refine EC.seq ?_
  refine EC.region ?_
  refine EL.val (x_move rfl) rfl ?_
  refine EL.val (ln_26 rfl) rfl ?_
  refine EL.val (x_move rfl) rfl ?_
  refine EL.nil ?_
  refine EX.seq ?_
  refine EC.block ?_
  refine EC.loopD [4, 5, 8, 9, 10, 11, 12, 13, 14, 15, 16, 17, 18] (fun x : Nat => [(8, .int .i64 (x : Nat))]) (fun x W => x ≤ l.length ∧ (∀ j, j < x → l.getD j 0 ≠ y) ∧ Below w.heap.size w W) (fun x => l.length - x) 0 ⟨Nat.zero_le _, fun j hj => absurd hj (Nat.not_lt_zero _), hbw⟩ ⟨rfl, trivial⟩ ?_
  clear hbw
  rintro k wk ⟨hk, hno, hbw⟩
  by_cases hlt : k < l.length
  ·
    obtain ⟨b1, o1, e1_, _, c1⟩ := ints_cells l k hlt w _ _ _ _ hrl
    subst e1_
    refine EC.seq ?_
    refine EC.region ?_
    refine EL.val (x_lss rfl rfl (decide_eq_true (show (((k : Nat) : Int) < ((l.length : Nat) : Int)) by omega))) rfl ?_
    refine EL.nil ?_
    refine EX.seq ?_
    refine EC.seq ?_
    refine EC.yes rfl ?_
    refine EC.skip ?_
    refine EX.seq ?_
    refine EC.seq ?_
    refine EC.block ?_
    refine EC.seq ?_
    refine EC.region ?_
    refine EL.val (x_move rfl) rfl ?_
    refine EL.val (x_assign rfl) rfl ?_
    refine EL.nil ?_
    refine EX.seq ?_
    refine EC.seq ?_
    refine EC.region ?_
    refine EL.val (x_move rfl) rfl ?_
    refine EL.val (x_move rfl) rfl ?_
    refine EL.val (x_move rfl) rfl ?_
    refine EL.val (ix_26 rfl rfl hlt) rfl ?_
    refine EL.val (ld_3 rfl (below_load hbw c1)) rfl ?_
    by_cases he : y = l.getD k 0
    ·
      refine EL.val (x_eql rfl rfl (decide_eq_true he)) rfl ?_
      refine EL.nil ?_
      refine EX.seq ?_
      refine EC.yes rfl ?_
      refine EC.seq ?_
      refine EC.region ?_
      refine EL.val (x_move rfl) rfl ?_
      refine EL.val (x_assign rfl) rfl ?_
      refine EL.nil ?_
      refine EX.seq ?_
      refine EC.ret ?_
      refine EX.blk_ret ?_
      refine EX.seq_ret ?_
      refine EX.seq_ret ?_
      refine EX.blk_ret ?_
      refine EX.seq_ret ?_
      exact EX.done (res1 rfl rfl) ⟨⟨_, rfl, ⟨fun _ => by rw [he, show l.getD k 0 = l[k] by simp [List.getD, hlt]]; exact List.getElem_mem hlt, fun _ => by omega⟩⟩, hbw⟩
    ·
      refine EL.val (x_eql rfl rfl (decide_eq_false he)) rfl ?_
      refine EL.nil ?_
      refine EX.seq ?_
      refine EC.no rfl ?_
      refine EC.skip ?_
      refine EX.blk ?_
      refine EX.seq ?_
      refine EC.region ?_
      refine EL.val (x_add rfl rfl (c := ((k + 1 : Nat) : Int)) ((IntWalk.i64_in _ ⟨by first | omega | (simp only; omega), by first | omega | (simp only; omega)⟩).trans (by first | omega | (simp only; omega)))) rfl ?_
      refine EL.val (x_move rfl) rfl ?_
      refine EL.nil ?_
      refine EX.roundD (k + 1) ⟨rfl, trivial⟩ (by repeat first | with_reducible exact Sub.refl _ | refine sub_past rfl ?_ | exact Sub.refl _ | refine sub_del rfl ?_ | refine sub_insL_nil ?_) ⟨hlt, fun j hj => by by_cases e : j < k; (exact hno j e); (rw [show j = k by omega]; exact fun h => he h.symm), hbw⟩ (by omega)
  ·
    obtain rfl : k = l.length := by omega
    refine EC.seq ?_
    refine EC.region ?_
    refine EL.val (x_lss rfl rfl (decide_eq_false (show ¬(((l.length : Nat) : Int) < ((l.length : Nat) : Int)) by omega))) rfl ?_
    refine EL.nil ?_
    refine EX.seq ?_
    refine EC.seq ?_
    refine EC.no rfl ?_
    refine EC.exit ?_
    refine EX.seq_exit ?_
    refine EX.seq_exit ?_
    refine EX.blk_here ?_
    refine EX.seq ?_
    refine EC.seq ?_
    refine EC.region ?_
    refine EL.val (x_assign rfl) rfl ?_
    refine EL.nil ?_
    refine EX.seq ?_
    refine EC.ret ?_
    exact EX.done (res1 rfl rfl) ⟨⟨_, rfl, ⟨fun h => absurd h (by decide), fun h => by obtain ⟨j, hj, ej⟩ := mem_getD (d := 0) h; exact absurd ej (hno j hj)⟩⟩, hbw⟩
theorem contains_any {b : Bool} (l : List Int) (y : Int) (hb : decide (y ∈ l) = b) (v : Value) (w : World) (B : Nat) (hrl : Rd w B 1 v l.length (ints l)) (hB : B ≤ w.heap.size) (hl : l.length ≤ 1073741824) :
    Calls Try.prog 76 #[v, .int .i64 y] w fun e w' => e = .returned (.bool b) ∧ Below w.heap.size w w' := by
  obtain ⟨Ai, ci_, rfl, _⟩ := hrl.shape
  have hbw := Below.refl w.heap.size w
  refine EC.enter 9 Try.func76 rfl rfl rfl ?_
  refine EC.seq ?_
  refine EC.region ?_
  refine EL.val (x_assign rfl) rfl ?_
  refine EL.nil ?_
  refine EX.seq ?_
  refine EC.seq ?_
  refine EC.region ?_
  refine EL.val (x_move rfl) rfl ?_
  refine EL.val (x_move rfl) rfl ?_
  refine EL.call (cl_78 rfl rfl) rfl (index_any l y _ _ _ (hrl.below (hbw.mono hB)) hl) ?_
  rintro e w1 ⟨⟨ix, rfl, hix⟩, hc1⟩
  refine ⟨_, rfl, ?_⟩
  replace hbw := Below.on hbw hc1 hbw.size
  clear hc1
  refine EL.val (x_geq (r := b) rfl rfl ((decide_eq_decide.2 hix).trans hb)) rfl ?_
  refine EL.val (x_assign rfl) rfl ?_
  refine EL.nil ?_
  refine EX.seq ?_
  refine EC.ret ?_
  exact EX.done (res1 rfl rfl) ⟨rfl, hbw⟩
set_option maxHeartbeats 2000000 in
theorem without_any (c : Case) (vc vl : Value) (vs : List Value) (w : World) (B : Nat) (hr : RdCase w B vc vl c vs) (hB : B ≤ w.heap.size) (hn1 : c.clocks.length ≤ 1073741824) (hn2 : c.clues.length ≤ 1073741824) (set : List Int) (vs_ : Value) (hrs : Rd w w.heap.size 1 vs_ set.length (ints set)) (hls : set.length ≤ 1073741824) (h25 : c.clues.length ≤ 25) :
    Calls Try.prog 60 #[.agg #[.int .i64 c.events, vc, vl], vs_] w fun e w' => (∃ v ls, e = .returned (.agg #[.int .i64 c.events, vc, v]) ∧ RdCase w' w'.heap.size vc v (withoutC c set) ls) ∧ Below w.heap.size w w' := by
  obtain ⟨Ac, cc_, rfl, _⟩ := hr.clocks.shape
  obtain ⟨Al, cl_, rfl, _⟩ := hr.clues.rd.shape
  obtain ⟨As, cs_, rfl, _⟩ := hrs.shape
  have hbw := Below.refl w.heap.size w
  refine EC.enter 28 Try.func60 rfl rfl rfl ?_
  refine EC.seq ?_
  refine EC.region ?_
  refine EL.newP (bx_25 rfl) rfl ?_
  intro g1 w1 q1 hb1 hg1 hl1
  have bhbw_1 := Nat.le_trans hbw.size hg1
  replace hbw := Below.on hbw hb1 hbw.size
  clear hb1 hg1 hl1
  refine EL.newP al_25 rfl ?_
  intro g2 w2 q2 hb2 hg2 hl2
  have n1_2 : g1 ≠ g2 := Nat.ne_of_lt (Nat.lt_of_lt_of_le q1.lt hg2)
  have bhbw_2 := Nat.le_trans hbw.size hg2
  replace q1 := q1.below hb2 q1.lt
  replace hbw := Below.on hbw hb2 hbw.size
  clear hb2 hg2 hl2
  refine EL.nil ?_
  refine EX.seq ?_
  refine EC.seq ?_
  refine EC.region ?_
  refine EL.val (x_assign rfl) rfl ?_
  refine EL.nil ?_
  refine EX.seq ?_
  refine EC.seq ?_
  refine EC.seq ?_
  refine EC.region ?_
  refine EL.val (fa_25_2 rfl) rfl ?_
  refine EL.val (ld_23 rfl (q1.at (j := 2) rfl)) rfl ?_
  refine EL.val (ln_23 rfl) rfl ?_
  refine EL.val (x_move rfl) rfl ?_
  refine EL.nil ?_
  refine EX.seq ?_
  refine EC.block ?_
  have hg2 : w.heap.size ≤ g1 := bhbw_1
  have hg4 : w.heap.size ≤ g2 := bhbw_2
  have n24 := n1_2
  refine EC.loopD [5, 6, 7, 11, 12, 13, 14, 15, 16, 17, 18, 19, 20, 21, 22, 23, 24] (fun x : Nat × Value × List Value => [(5, x.2.1), (11, .int .i64 (x.1 : Nat))]) (fun x W => x.1 ≤ c.clues.length ∧ Blk W g1 25 #[.int .i64 c.events, .slice Ac c.clocks.length cc_, .slice Al c.clues.length cl_] ∧ Blk W g2 25 #[.int .i64 0, .slice none 0 0, .slice none 0 0] ∧ W.ownsRow w.heap.size 74 1 x.2.1 (withoutL c set x.1).length x.2.2 ∧ x.2.2.length = (withoutL c set x.1).length ∧ (∀ i, i < (withoutL c set x.1).length → Rd w B 6 (x.2.2.getD i undef) ((withoutL c set x.1).getD i []).length (optsC ((withoutL c set x.1).getD i []))) ∧ Below w.heap.size w W) (fun x => c.clues.length - x.1) (0, .slice none 0 0, []) ⟨Nat.zero_le _, q1, q2, ⟨rfl, .inl ⟨rfl, rfl⟩⟩, rfl, fun i hi => absurd hi (by simp [withoutL]), hbw⟩ ⟨rfl, rfl, trivial⟩ ?_
  clear q1 q2 hbw
  rintro ⟨x, vl, ls⟩ wx ⟨hx, q2x, q4x, hol, hll, hlr, hbw⟩
  dsimp only at hx hol hll hlr
  have hlk := withoutL_len (c := c) (set := set) x
  obtain ⟨AY, cY, eY, _⟩ := (Rd.of_own hol).shape
  subst eY
  by_cases hlt : x < c.clues.length
  ·
    obtain ⟨bl, ol, e_, _, hcell⟩ := rdll_cell hr.clues x hlt
    subst e_
    have hrow := hr.clues.row x hlt
    have hrow0 := hrow
    obtain ⟨Ao, co, eo, _⟩ := hrow.shape
    rw [eo] at hcell hrow
    have hbx := Below.refl wx.heap.size wx
    have hltl := fun k hk => (hol.lt k hk).2
    refine EC.seq ?_
    refine EC.region ?_
    refine EL.val (x_lss rfl rfl (decide_eq_true (show (((x : Nat) : Int) < ((c.clues.length : Nat) : Int)) by omega))) rfl ?_
    refine EL.nil ?_
    refine EX.seq ?_
    refine EC.seq ?_
    refine EC.yes rfl ?_
    refine EC.skip ?_
    refine EX.seq ?_
    refine EC.seq ?_
    refine EC.block ?_
    refine EC.seq ?_
    refine EC.region ?_
    refine EL.val (x_move rfl) rfl ?_
    refine EL.val (ix_23 rfl rfl hlt) rfl ?_
    refine EL.val (ld_74 rfl (below_load hbw hcell)) rfl ?_
    refine EL.newP al_74 rfl ?_
    intro g3 w3 q3 hb3 hg3 hl3
    have n1_3 : g1 ≠ g3 := Nat.ne_of_lt (Nat.lt_of_lt_of_le q2x.lt hg3)
    have n2_3 : g2 ≠ g3 := Nat.ne_of_lt (Nat.lt_of_lt_of_le q4x.lt hg3)
    have bhbw_3 := Nat.le_trans hbw.size hg3
    have bhbx_3 := Nat.le_trans hbx.size hg3
    replace q2x := q2x.below hb3 q2x.lt
    replace q4x := q4x.below hb3 q4x.lt
    replace hol := own_below hol hb3 (Nat.le_refl _)
    replace hbw := Below.on hbw hb3 hbw.size
    replace hbx := Below.on hbx hb3 hbx.size
    clear hb3 hg3 hl3
    refine EL.val (x_assign rfl) rfl ?_
    refine EL.store rfl rfl q3 sz_74 rfl rfl rfl rfl ?_
    intro w4 hq4 hg4
    replace q2x := q2x.grown hg4 (fun h => n1_3 (Option.some.inj h))
    replace q4x := q4x.grown hg4 (fun h => n2_3 (Option.some.inj h))
    replace hol := own_old hol hg4 (fun k hk => by have h1 := hltl k hk; have h2 := bhbx_3; omega)
    replace hbw := below_store hbw hg4 bhbw_3
    replace hbx := below_store hbx hg4 bhbx_3
    replace q3 := hq4
    clear hg4 hq4
    refine EL.nil ?_
    refine EX.seq ?_
    refine EC.seq ?_
    refine EC.region ?_
    refine EL.val (x_move rfl) rfl ?_
    refine EL.val (x_move rfl) rfl ?_
    cases hin : decide (((x : Nat) : Int) ∈ set)
    ·
      have hsc := without_succ_out (c := c) (set := set) (k := x) (of_decide_eq_false hin)
      refine EL.call (cl_76 rfl rfl) rfl (contains_any set ((x : Nat) : Int) hin _ _ w.heap.size (hrs.below hbw) hbw.size hls) ?_
      rintro e w5 ⟨rfl, hc5⟩
      refine ⟨_, rfl, ?_⟩
      replace q2x := q2x.below hc5 q2x.lt
      replace q4x := q4x.below hc5 q4x.lt
      replace q3 := q3.below hc5 q3.lt
      replace hol := own_below hol hc5 (Nat.le_refl _)
      replace hbw := Below.on hbw hc5 hbw.size
      replace hbx := Below.on hbx hc5 hbx.size
      clear hc5
      refine EL.val (x_not rfl) rfl ?_
      refine EL.nil ?_
      refine EX.seq ?_
      refine EC.yes rfl ?_
      refine EC.region ?_
      refine EL.val (x_move rfl) rfl ?_
      refine EL.val (ld_74 rfl (q3.at (j := 0) rfl)) rfl ?_
      refine EL.newS (bs_23_1 rfl) rfl ?_
      intro g6 w6 q6 hb6 hg6 hl6
      have n1_6 : g1 ≠ g6 := Nat.ne_of_lt (Nat.lt_of_lt_of_le q2x.lt hg6)
      have n2_6 : g2 ≠ g6 := Nat.ne_of_lt (Nat.lt_of_lt_of_le q4x.lt hg6)
      have n3_6 : g3 ≠ g6 := Nat.ne_of_lt (Nat.lt_of_lt_of_le q3.lt hg6)
      have bhbw_6 := Nat.le_trans hbw.size hg6
      have bhbx_6 := Nat.le_trans hbx.size hg6
      replace q2x := q2x.below hb6 q2x.lt
      replace q4x := q4x.below hb6 q4x.lt
      replace q3 := q3.below hb6 q3.lt
      replace hol := own_below hol hb6 (Nat.le_refl _)
      replace hbw := Below.on hbw hb6 hbw.size
      replace hbx := Below.on hbx hb6 hbx.size
      clear hb6 hg6 hl6
      refine EL.push clue_elem rfl rfl hol (rd_one (l := [.slice Ao (c.clues.getD x []).length co]) q6 rfl) (by intro u hu; rw [List.mem_singleton.1 hu]; rfl) (by omega) rfl hbw.size rfl ?_
      intro v2 wp ho2 hgr hb2 _
      replace q2x := blk_grown q2x hol rfl hgr
      replace q4x := blk_grown q4x hol rfl hgr
      replace hbw := hbw.trans hb2
      clear hol
      refine EL.val (x_assign rfl) rfl ?_
      refine EL.nil ?_
      refine EX.blk ?_
      refine EX.seq ?_
      refine EC.region ?_
      refine EL.val (x_add rfl rfl (c := ((x + 1 : Nat) : Int)) ((IntWalk.i64_in _ ⟨by first | omega | (simp only; omega), by first | omega | (simp only; omega)⟩).trans (by first | omega | (simp only; omega)))) rfl ?_
      refine EL.val (x_move rfl) rfl ?_
      refine EL.nil ?_
      refine EX.roundD (x + 1, _, ls ++ [_]) ⟨rfl, rfl, trivial⟩ (by repeat first | with_reducible exact Sub.refl _ | refine sub_past rfl ?_ | exact Sub.refl _ | refine sub_del rfl ?_ | refine sub_insL_nil ?_) ⟨hlt, q2x, q4x, by rw [hsc, List.length_append]; exact ho2, by rw [hsc, List.length_append, List.length_append, hll]; rfl, by rw [hsc]; exact rows_snoc hll hlr hrow, hbw⟩ (by simp only; omega)
    ·
      have hsc := without_succ_in (c := c) (set := set) (k := x) (of_decide_eq_true hin)
      refine EL.call (cl_76 rfl rfl) rfl (contains_any set ((x : Nat) : Int) hin _ _ w.heap.size (hrs.below hbw) hbw.size hls) ?_
      rintro e w7 ⟨rfl, hc7⟩
      refine ⟨_, rfl, ?_⟩
      replace q2x := q2x.below hc7 q2x.lt
      replace q4x := q4x.below hc7 q4x.lt
      replace q3 := q3.below hc7 q3.lt
      replace hol := own_below hol hc7 (Nat.le_refl _)
      replace hbw := Below.on hbw hc7 hbw.size
      replace hbx := Below.on hbx hc7 hbx.size
      clear hc7
      refine EL.val (x_not rfl) rfl ?_
      refine EL.nil ?_
      refine EX.seq ?_
      refine EC.no rfl ?_
      refine EC.skip ?_
      refine EX.blk ?_
      refine EX.seq ?_
      refine EC.region ?_
      refine EL.val (x_add rfl rfl (c := ((x + 1 : Nat) : Int)) ((IntWalk.i64_in _ ⟨by first | omega | (simp only; omega), by first | omega | (simp only; omega)⟩).trans (by first | omega | (simp only; omega)))) rfl ?_
      refine EL.val (x_move rfl) rfl ?_
      refine EL.nil ?_
      refine EX.roundD (x + 1, _, ls) ⟨rfl, rfl, trivial⟩ (by repeat first | with_reducible exact Sub.refl _ | refine sub_past rfl ?_ | exact Sub.refl _ | refine sub_del rfl ?_ | refine sub_insL_nil ?_) ⟨hlt, q2x, q4x, by rw [hsc]; exact hol, by rw [hsc]; exact hll, by rw [hsc]; exact hlr, hbw⟩ (by simp only; omega)
  ·
    have hxn : x = c.clues.length := by omega
    subst hxn
    have hrW : RdCase wx wx.heap.size (.slice Ac c.clocks.length cc_) (.slice AY (withoutL c set c.clues.length).length cY) (withoutC c set) ls := ⟨(hr.clocks.below (hbw.mono hB)).more (Nat.le_trans hB hbw.size), hll, Rd.of_own hol, fun i hi => ((hlr i hi).below (hbw.mono hB)).more (Nat.le_trans hB hbw.size)⟩
    have hwx := hbw.size
    have hb1 := Below.refl wx.heap.size wx
    refine EC.seq ?_
    refine EC.region ?_
    refine EL.val (x_lss rfl rfl (decide_eq_false (show ¬(((c.clues.length : Nat) : Int) < ((c.clues.length : Nat) : Int)) by omega))) rfl ?_
    refine EL.nil ?_
    refine EX.seq ?_
    refine EC.seq ?_
    refine EC.no rfl ?_
    refine EC.exit ?_
    refine EX.seq_exit ?_
    refine EX.seq_exit ?_
    refine EX.blk_here ?_
    refine EX.seq ?_
    refine EC.seq ?_
    refine EC.region ?_
    refine EL.val (x_move rfl) rfl ?_
    refine EL.val (fa_25_2 rfl) rfl ?_
    refine EL.store rfl rfl q2x sz_23 rfl rfl rfl rfl ?_
    intro w8 hq8 hg8
    replace q4x := q4x.grown hg8 (fun h => n1_2.symm (Option.some.inj h))
    replace hol := own_type hol q2x rfl hg8
    replace hbw := below_store hbw hg8 bhbw_1
    replace q2x := hq8
    clear hg8 hq8
    refine EL.nil ?_
    refine EX.seq ?_
    refine EC.seq ?_
    refine EC.region ?_
    refine EL.val (ld_25 rfl (q2x.at (j := 0) rfl) (q2x.at (j := 1) rfl) (q2x.at (j := 2) rfl)) rfl ?_
    refine EL.store rfl rfl q4x sz_25 rfl rfl rfl rfl ?_
    intro w9 hq9 hg9
    replace q2x := q2x.grown hg9 (fun h => n1_2 (Option.some.inj h))
    replace hol := own_type hol q4x rfl hg9
    replace hbw := below_store hbw hg9 bhbw_2
    replace q4x := hq9
    clear hg9 hq9
    refine EL.nil ?_
    refine EX.seq ?_
    refine EC.ret ?_
    exact EX.done (resc1 rfl rfl (lv_25 (q4x.at (j := 0) rfl) (q4x.at (j := 1) rfl) (q4x.at (j := 2) rfl))) ⟨⟨_, ls, rfl, ⟨(hr.clocks.below (hbw.mono hB)).more (Nat.le_trans hB hbw.size), hll, Rd.of_own hol, fun i hi => ((hlr i hi).below (hbw.mono hB)).more (Nat.le_trans hB hbw.size)⟩⟩, hbw⟩
/-- what the inner function of sets reads -/
structure AtS (N m n0 gm gy go gf l : Nat) (W : World) : Prop where
  m : Blk W gm 3 #[.int .i64 (m : Nat)]
  y : Blk W gy 111 #[.func (.yield l) #[] #[]]
  o : Blk W go 3 #[.int .i64 (N : Nat)]
  f : Blk W gf 116 #[.func (.func 75) #[] #[.pointer (some ⟨gm, 0, none⟩), .pointer (some ⟨gy, 0, none⟩), .pointer (some ⟨go, 0, none⟩), .pointer (some ⟨gf, 0, none⟩)]]
  n0 : n0 ≤ W.heap.size
theorem AtS.keep {N m n0 gm gy go gf l : Nat} {W W' : World} {S : List Nat} (h : AtS N m n0 gm gy go gf l W) (h1 : memB S 116 = false) (h2 : memB S 111 = false) (h3 : memB S 3 = false) (hk : Kp n0 S W W') : AtS N m n0 gm gy go gf l W' :=
  ⟨hk.blk _ _ _ h.m h3, hk.blk _ _ _ h.y h2, hk.blk _ _ _ h.o h3, hk.blk _ _ _ h.f h1, Nat.le_trans h.n0 hk.size⟩
theorem AtS.below {N m n0 gm gy go gf l : Nat} {W W' : World} (h : AtS N m n0 gm gy go gf l W) (hb : Below W.heap.size W W') : AtS N m n0 gm gy go gf l W' := h.keep (S := []) rfl rfl rfl (Kp.of_below hb h.n0)
set_option maxHeartbeats 1000000 in
theorem setsF_last (N m : Nat) (n0 gm gy go gf l : Nat) (S : List Nat) (J Jx : List It → World → Prop) (all : List (List Int)) (hN : N ≤ 1000) (hS1 : memB S 116 = false) (hS2 : memB S 111 = false) (hS3 : memB S 3 = false) (hJ : Stays J) (hJx : Stays Jx)
    (hY : ∀ pre x W1, okRow x W1 → J pre W1 → (pre ++ [x]).map (·.1) <+: all → YieldW Try.prog l #[x.2] W1 (RoundAns n0 S J Jx (pre ++ [x]) W1))
    (pre : List Int) (v : Value) (nx : Nat) (xs : List It) (W : World) (hd : pre.length + 0 = m) (hnx : nx ≤ N) (hpl : pre.length ≤ nx) (hAt : AtS N m n0 gm gy go gf l W) (ho : W.ownsRow 0 3 1 v pre.length (ints pre)) (hJ0 : J xs W) (hpx : xs.map (·.1) ++ setsP N 0 pre nx <+: all) : Calls Try.prog 75 #[v, .int .i64 (nx : Nat), .pointer (some ⟨gm, 0, none⟩), .pointer (some ⟨gy, 0, none⟩), .pointer (some ⟨go, 0, none⟩), .pointer (some ⟨gf, 0, none⟩)] W fun e W' => Kp n0 S W W' ∧ ((e = .returned (.bool true) ∧ ∃ ys : List It, ys.map (·.1) = setsP N 0 pre nx ∧ J (xs ++ ys) W') ∨ (e = .returned (.bool false) ∧ ∃ ys : List It, ys ≠ [] ∧ ys.map (·.1) <+: setsP N 0 pre nx ∧ Jx (xs ++ ys) W')) := by
  obtain ⟨Ai, ci_, rfl, _⟩ := (Rd.of_own ho).shape
  have hkp := Kp.refl n0 S W
  refine EC.enter 33 Try.func75 rfl rfl rfl ?_
  refine EC.seq ?_
  refine EC.region ?_
  refine EL.val (x_assign rfl) rfl ?_
  refine EL.nil ?_
  refine EX.seq ?_
  refine EC.seq ?_
  refine EC.seq ?_
  refine EC.region ?_
  refine EL.val (x_move rfl) rfl ?_
  refine EL.val (ln_26 rfl) rfl ?_
  refine EL.val (ld_3 rfl (hAt.m.at (j := 0) rfl)) rfl ?_
  refine EL.val (x_eql rfl rfl (decide_eq_true (show ((pre.length : Nat) : Int) = ((m : Nat) : Int) by omega))) rfl ?_
  refine EL.nil ?_
  refine EX.seq ?_
  refine EC.yes rfl ?_
  refine EC.seq ?_
  refine EC.inn (k := 0) ?_
  refine ECI.region ?_
  refine ELI.val (ld_111 rfl (hAt.y.at (j := 0) rfl)) rfl ?_
  refine ELI.val (x_move rfl) rfl ?_
  obtain ⟨fn_, tmps_, assign_, body_, hi_, hR_⟩ := hY xs (pre, _) _ ho hJ0 (by rw [List.map_append]; exact hpx)
  refine ELI.yield rfl rfl rfl hi_ hR_ ?_
  rintro e wy ⟨hky, ⟨rfl, hJy⟩ | ⟨rfl, hJy⟩⟩
  ·
    refine ⟨_, rfl, ?_⟩
    refine ELI.val (x_assign rfl) rfl ?_
    refine ELI.nil ?_
    refine EXI.of ?_
    replace hkp := hkp.trans hky
    refine EX.seq ?_
    refine EC.ret ?_
    refine EX.seq_ret ?_
    exact EX.done (res1 rfl rfl) ⟨hkp, .inl ⟨rfl, [(pre, _)], rfl, hJy⟩⟩
  ·
    refine ⟨_, rfl, ?_⟩
    refine ELI.val (x_assign rfl) rfl ?_
    refine ELI.nil ?_
    refine EXI.of ?_
    replace hkp := hkp.trans hky
    refine EX.seq ?_
    refine EC.ret ?_
    refine EX.seq_ret ?_
    exact EX.done (res1 rfl rfl) ⟨hkp, .inr ⟨rfl, [(pre, _)], by simp, List.prefix_rfl, hJy⟩⟩
set_option maxHeartbeats 2000000 in
set_option maxRecDepth 100000 in
theorem setsF_more (N m : Nat) (n0 gm gy go gf l : Nat) (S : List Nat) (J Jx : List It → World → Prop) (all : List (List Int)) (hN : N ≤ 1000) (hS1 : memB S 116 = false) (hS2 : memB S 111 = false) (hS3 : memB S 3 = false) (hJ : Stays J) (hJx : Stays Jx)
    (hY : ∀ pre x W1, okRow x W1 → J pre W1 → (pre ++ [x]).map (·.1) <+: all → YieldW Try.prog l #[x.2] W1 (RoundAns n0 S J Jx (pre ++ [x]) W1))
    (d : Nat) (hI : ∀ (pre : List Int) (v : Value) (nx : Nat) (xs : List It) (W : World), pre.length + d = m → nx ≤ N → pre.length ≤ nx → AtS N m n0 gm gy go gf l W → W.ownsRow 0 3 1 v pre.length (ints pre) → J xs W → xs.map (·.1) ++ setsP N d pre nx <+: all → Calls Try.prog 75 #[v, .int .i64 (nx : Nat), .pointer (some ⟨gm, 0, none⟩), .pointer (some ⟨gy, 0, none⟩), .pointer (some ⟨go, 0, none⟩), .pointer (some ⟨gf, 0, none⟩)] W fun e W' => Kp n0 S W W' ∧ ((e = .returned (.bool true) ∧ ∃ ys : List It, ys.map (·.1) = setsP N d pre nx ∧ J (xs ++ ys) W') ∨ (e = .returned (.bool false) ∧ ∃ ys : List It, ys ≠ [] ∧ ys.map (·.1) <+: setsP N d pre nx ∧ Jx (xs ++ ys) W')))
    (pre : List Int) (v : Value) (nx : Nat) (xs : List It) (W : World) (hd : pre.length + (d + 1) = m) (hnx : nx ≤ N) (hpl : pre.length ≤ nx) (hAt : AtS N m n0 gm gy go gf l W) (ho : W.ownsRow 0 3 1 v pre.length (ints pre)) (hJ0 : J xs W) (hpx : xs.map (·.1) ++ setsP N (d + 1) pre nx <+: all) : Calls Try.prog 75 #[v, .int .i64 (nx : Nat), .pointer (some ⟨gm, 0, none⟩), .pointer (some ⟨gy, 0, none⟩), .pointer (some ⟨go, 0, none⟩), .pointer (some ⟨gf, 0, none⟩)] W fun e W' => Kp n0 S W W' ∧ ((e = .returned (.bool true) ∧ ∃ ys : List It, ys.map (·.1) = setsP N (d + 1) pre nx ∧ J (xs ++ ys) W') ∨ (e = .returned (.bool false) ∧ ∃ ys : List It, ys ≠ [] ∧ ys.map (·.1) <+: setsP N (d + 1) pre nx ∧ Jx (xs ++ ys) W')) := by
  obtain ⟨Ai, ci_, rfl, _⟩ := (Rd.of_own ho).shape
  have hkp := Kp.refl n0 S W
  refine EC.enter 33 Try.func75 rfl rfl rfl ?_
  refine EC.seq ?_
  refine EC.region ?_
  refine EL.val (x_assign rfl) rfl ?_
  refine EL.nil ?_
  refine EX.seq ?_
  refine EC.seq ?_
  refine EC.seq ?_
  refine EC.region ?_
  refine EL.val (x_move rfl) rfl ?_
  refine EL.val (ln_26 rfl) rfl ?_
  refine EL.val (ld_3 rfl (hAt.m.at (j := 0) rfl)) rfl ?_
  refine EL.val (x_eql rfl rfl (decide_eq_false (show ¬((pre.length : Nat) : Int) = ((m : Nat) : Int) by omega))) rfl ?_
  refine EL.nil ?_
  refine EX.seq ?_
  refine EC.no rfl ?_
  refine EC.skip ?_
  refine EX.seq ?_
  refine EC.seq ?_
  refine EC.seq ?_
  refine EC.region ?_
  refine EL.val (x_move rfl) rfl ?_
  refine EL.val (x_assign rfl) rfl ?_
  refine EL.nil ?_
  refine EX.seq ?_
  refine EC.block ?_
  refine EC.loopD [8, 9, 18, 19, 20, 21, 22, 23, 24, 25, 26, 27, 28, 29, 30, 31, 32] (fun x : Nat × List It => [(9, .int .i64 ((nx + x.1) : Nat))]) (fun x W1 => x.1 ≤ N - nx ∧ x.2.map (·.1) = ((List.range x.1).flatMap fun k => setsP N d (pre ++ [((nx + k : Nat) : Int)]) (nx + k + 1)) ∧ AtS N m n0 gm gy go gf l W1 ∧ W1.ownsRow 0 3 1 (.slice Ai pre.length ci_) pre.length (ints pre) ∧ Kp n0 S W W1 ∧ J (xs ++ x.2) W1) (fun x => N - nx - x.1) (0, []) ⟨Nat.zero_le _, rfl, hAt, ho, hkp, by simpa using hJ0⟩ ⟨rfl, trivial⟩ ?_
  clear hAt ho hkp hJ0
  rintro ⟨x, ys⟩ wk ⟨hx, hys, hAt, ho, hkp, hJ0⟩
  dsimp only at hx hys hJ0
  by_cases hlt : x < N - nx
  ·
    obtain ⟨p2, ep2⟩ : ∃ z, z = pre ++ [((nx + x : Nat) : Int)] := ⟨_, rfl⟩
    have hl2 : p2.length = pre.length + 1 := by rw [ep2]; simp
    have hin : ints p2 = ints pre ++ [.int .i64 ((nx + x : Nat) : Int)] := by rw [ep2, ints_app]; rfl
    refine EC.seq ?_
    refine EC.seq ?_
    refine EC.region ?_
    refine EL.val (x_move rfl) rfl ?_
    refine EL.val (ld_3 rfl (hAt.o.at (j := 0) rfl)) rfl ?_
    refine EL.val (x_lss rfl rfl (decide_eq_true (show ((nx + x : Nat) : Int) < ((N : Nat) : Int) by omega))) rfl ?_
    refine EL.nil ?_
    refine EX.seq ?_
    refine EC.yes rfl ?_
    refine EC.skip ?_
    refine EX.seq ?_
    refine EC.seq ?_
    refine EC.block ?_
    refine EC.seq ?_
    refine EC.regionP [[], [], [1], [], [3], [1, 2, 3, 4], [], [6], [0, 1, 2, 3, 4, 5, 6, 7], [0, 1, 2, 3, 4, 5, 6, 7, 8]] 8 [] (phi (fun i_ r => match i_ with | 0 => r 0 = .func (.func 75) #[] #[.pointer (some ⟨gm, 0, none⟩), .pointer (some ⟨gy, 0, none⟩), .pointer (some ⟨go, 0, none⟩), .pointer (some ⟨gf, 0, none⟩)] | 1 => r 1 = .slice Ai pre.length ci_ | 2 => r 2 = .slice Ai pre.length pre.length | 3 => r 3 = .int .i64 ((nx + x) : Nat) | 6 => r 6 = .int .i64 ((nx + x) : Nat) | 7 => r 7 = .int .i64 ((nx + x + 1) : Nat) | _ => True) [(4, fun r w_ => ∃ g_, r 4 = .slice (some ⟨g_, 0, none⟩) 1 1 ∧ Blk w_ g_ 3 #[.int .i64 ((nx + x) : Nat)] ∧ wk.heap.size ≤ g_), (5, fun r w_ => ∃ v, r 5 = v ∧ w_.ownsRow 0 3 1 v p2.length (ints p2))]) (by kernel_rfl) rfl rfl (phi_cons mono_bs (phi_cons mono_row (phi_nil))) (fun i_ hi_ => ?_) ?_
    · match i_, hi_ with
      | 0, _ =>
        intro val w1 a hb ha hd
        have ha := ha.sub (Sub.ins (d := 5) (Sub.nil _) rfl)
        exact hs_val ha rfl rfl (ld_116 rfl ((hAt.below hb).f.at (j := 0) rfl)) rfl rfl
      | 1, _ =>
        intro val w1 a hb ha hd
        have ha := ha.sub (Sub.ins (d := 0) (Sub.nil _) rfl)
        exact hs_val ha rfl rfl (x_move rfl) rfl rfl
      | 2, _ =>
        intro val w1 a hb ha hd
        have e1 : val 1 = .slice Ai pre.length ci_ := hd 1 (memB_mem.1 rfl)
        have ha := ha.sub (Sub.ins (d := 24) (Sub.nil _) (dep_get rfl e1))
        refine hs_call ha rfl rfl (cl_69 rfl) (clip_any _ ho) rfl ?_
        rintro e w' ⟨rfl, hb'⟩
        exact ⟨_, rfl, hb', rfl⟩
      | 3, _ =>
        intro val w1 a hb ha hd
        have ha := ha.sub (Sub.ins (d := 9) (Sub.nil _) rfl)
        exact hs_val ha rfl rfl (x_move rfl) rfl rfl
      | 4, _ =>
        intro val w1 a hb ha hd
        have e3 : val 3 = .int .i64 ((nx + x) : Nat) := hd 3 (memB_mem.1 rfl)
        have ha := ha.sub (Sub.ins (d := 26) (Sub.nil _) (dep_get rfl e3))
        exact hs_newS ha rfl rfl (bs_26_1 rfl) rfl (fun g w' hq _ hge => ⟨g, rfl, hq, Nat.le_trans hb.size hge⟩)
      | 5, _ =>
        intro val w1 a hb ha hd
        have e2 : val 2 = .slice Ai pre.length pre.length := hd 2 (memB_mem.1 rfl)
        obtain ⟨g4_, e4, q4_, h4_⟩ := hd 4 (memB_mem.1 rfl)
        change val 4 = _ at e4
        have ha := ha.sub (Sub.ins (d := 27) (Sub.ins (d := 25) (Sub.nil _) (dep_get rfl e2)) (dep_get rfl e4))
        refine hs_grow (base := 0) i64_elem ha rfl rfl rfl (rd_clip (Rd.of_own (own_below ho hb (Nat.le_refl _)))) (rd_one (l := [.int .i64 ((nx + x) : Nat)]) q4_ rfl) (by omega) (by omega) rfl (Nat.zero_le _) rfl ?_
        intro v' w' ho' _
        exact ⟨v', rfl, by rw [hl2, hin]; exact ho'⟩
      | 6, _ =>
        intro val w1 a hb ha hd
        have ha := ha.sub (Sub.ins (d := 9) (Sub.nil _) rfl)
        exact hs_val ha rfl rfl (x_move rfl) rfl rfl
      | 7, _ =>
        intro val w1 a hb ha hd
        have e6 : val 6 = .int .i64 ((nx + x) : Nat) := hd 6 (memB_mem.1 rfl)
        have ha := ha.sub (Sub.ins (d := 29) (Sub.nil _) (dep_get rfl e6))
        exact hs_val ha rfl rfl (x_add rfl rfl (c := ((nx + x + 1 : Nat) : Int)) ((IntWalk.i64_in _ ⟨by omega, by omega⟩).trans (by omega))) rfl rfl
      | k + 8, h => exact absurd h (by omega)
    · intro val wR6 hb halc hd
      have e0 : val 0 = .func (.func 75) #[] #[.pointer (some ⟨gm, 0, none⟩), .pointer (some ⟨gy, 0, none⟩), .pointer (some ⟨go, 0, none⟩), .pointer (some ⟨gf, 0, none⟩)] := hd 0 (by omega)
      have e1 : val 1 = .slice Ai pre.length ci_ := hd 1 (by omega)
      have e2 : val 2 = .slice Ai pre.length pre.length := hd 2 (by omega)
      have e3 : val 3 = .int .i64 ((nx + x) : Nat) := hd 3 (by omega)
      obtain ⟨ga4_6, e4, qa4_6, hga4_6⟩ := hd 4 (by omega)
      change val 4 = _ at e4
      change Blk wR6 ga4_6 3 #[.int .i64 ((nx + x) : Nat)] at qa4_6
      obtain ⟨v5_, e5, ho5_⟩ := hd 5 (by omega)
      have e6 : val 6 = .int .i64 ((nx + x) : Nat) := hd 6 (by omega)
      have e7 : val 7 = .int .i64 ((nx + x + 1) : Nat) := hd 7 (by omega)
      refine EL.ends (cs := [.func (.func 75) #[] #[.pointer (some ⟨gm, 0, none⟩), .pointer (some ⟨gy, 0, none⟩), .pointer (some ⟨go, 0, none⟩), .pointer (some ⟨gf, 0, none⟩)], .slice Ai pre.length ci_, .slice Ai pre.length pre.length, .int .i64 ((nx + x) : Nat), .slice (some ⟨ga4_6, 0, none⟩) 1 1, v5_, .int .i64 ((nx + x) : Nat), .int .i64 ((nx + x + 1) : Nat)]) ⟨e0, e1, e2, e3, e4, e5, e6, e7, trivial⟩ rfl ?_
      replace hkp := hkp.trans (Kp.of_below hb hAt.n0)
      replace hAt := hAt.below hb
      replace ho := own_below ho hb (Nat.le_refl _)
      replace hJ0 := hJ _ _ _ hJ0 hb
      clear hb
      refine EL.call (clv_75_0_2_4 rfl rfl rfl) rfl (hI p2 _ (nx + x + 1) (xs ++ ys) _ (by omega) (by omega) (by omega) hAt ho5_ hJ0 (by rw [List.map_append, hys, ep2, List.append_assoc]; exact ((List.prefix_append_right_inj _).2 (flat_part (f := fun k => setsP N d (pre ++ [((nx + k : Nat) : Int)]) (nx + k + 1)) hlt List.prefix_rfl)).trans hpx)) ?_
      rintro e wy ⟨hky, ⟨rfl, zs, hz, hJy⟩ | ⟨rfl, zs, hne, hz, hJy⟩⟩
      ·
        refine ⟨_, rfl, ?_⟩
        replace hAt := hAt.keep hS1 hS2 hS3 hky
        replace ho := hky.row ho hS3
        replace hkp := hkp.trans hky
        have hJ0 := hJy
        clear hky
        refine EL.val (x_not rfl) rfl ?_
        refine EL.nil ?_
        refine EX.seq ?_
        refine EC.no rfl ?_
        refine EC.skip ?_
        refine EX.blk ?_
        refine EX.seq ?_
        refine EC.region ?_
        refine EL.val (x_move rfl) rfl ?_
        refine EL.val (x_add rfl rfl (c := ((nx + (x + 1) : Nat) : Int)) ((IntWalk.i64_in _ ⟨by omega, by omega⟩).trans (by omega))) rfl ?_
        refine EL.val (x_assign rfl) rfl ?_
        refine EL.nil ?_
        refine EX.roundD (x + 1, ys ++ zs) ⟨rfl, trivial⟩ (by repeat first | with_reducible exact Sub.refl _ | refine sub_past rfl ?_ | exact Sub.refl _ | refine sub_del rfl ?_ | refine sub_insL_nil ?_) ⟨hlt, by simp only; rw [List.map_append, hys, hz, range_flat, ep2], hAt, ho, hkp, by rw [← List.append_assoc]; exact hJ0⟩ (by simp only; omega)
      ·
        refine ⟨_, rfl, ?_⟩
        replace hAt := hAt.keep hS1 hS2 hS3 hky
        replace ho := hky.row ho hS3
        replace hkp := hkp.trans hky
        have hJ0 := hJy
        clear hky
        refine EL.val (x_not rfl) rfl ?_
        refine EL.nil ?_
        refine EX.seq ?_
        refine EC.yes rfl ?_
        refine EC.seq ?_
        refine EC.region ?_
        refine EL.val (x_assign rfl) rfl ?_
        refine EL.nil ?_
        refine EX.seq ?_
        refine EC.ret ?_
        refine EX.blk_ret ?_
        refine EX.seq_ret ?_
        refine EX.seq_ret ?_
        refine EX.blk_ret ?_
        refine EX.seq_ret ?_
        exact EX.done (res1 rfl rfl) ⟨hkp, .inr ⟨rfl, ys ++ zs, by simp [hne], by rw [List.map_append, hys]; exact flat_part (f := fun k => setsP N d (pre ++ [((nx + k : Nat) : Int)]) (nx + k + 1)) hlt (ep2 ▸ hz), by rw [← List.append_assoc]; exact hJ0⟩⟩
  ·
    have hxe : x = N - nx := by omega
    refine EC.seq ?_
    refine EC.seq ?_
    refine EC.region ?_
    refine EL.val (x_move rfl) rfl ?_
    refine EL.val (ld_3 rfl (hAt.o.at (j := 0) rfl)) rfl ?_
    refine EL.val (x_lss rfl rfl (decide_eq_false (show ¬((nx + x : Nat) : Int) < ((N : Nat) : Int) by omega))) rfl ?_
    refine EL.nil ?_
    refine EX.seq ?_
    refine EC.no rfl ?_
    refine EC.exit ?_
    refine EX.seq_exit ?_
    refine EX.seq_exit ?_
    refine EX.blk_here ?_
    refine EX.seq ?_
    refine EC.seq ?_
    refine EC.region ?_
    refine EL.val (x_assign rfl) rfl ?_
    refine EL.nil ?_
    refine EX.seq ?_
    refine EC.ret ?_
    exact EX.done (res1 rfl rfl) ⟨hkp, .inl ⟨rfl, ys, by rw [hys, hxe]; rfl, hJ0⟩⟩
theorem setsF_any (N m : Nat) (n0 gm gy go gf l : Nat) (S : List Nat) (J Jx : List It → World → Prop) (all : List (List Int)) (hN : N ≤ 1000) (hS1 : memB S 116 = false) (hS2 : memB S 111 = false) (hS3 : memB S 3 = false) (hJ : Stays J) (hJx : Stays Jx)
    (hY : ∀ pre x W1, okRow x W1 → J pre W1 → (pre ++ [x]).map (·.1) <+: all → YieldW Try.prog l #[x.2] W1 (RoundAns n0 S J Jx (pre ++ [x]) W1)) : ∀ (d : Nat) (pre : List Int) (v : Value) (nx : Nat) (xs : List It) (W : World) (hd : pre.length + d = m) (hnx : nx ≤ N) (hpl : pre.length ≤ nx) (hAt : AtS N m n0 gm gy go gf l W) (ho : W.ownsRow 0 3 1 v pre.length (ints pre)) (hJ0 : J xs W) (hpx : xs.map (·.1) ++ setsP N d pre nx <+: all), Calls Try.prog 75 #[v, .int .i64 (nx : Nat), .pointer (some ⟨gm, 0, none⟩), .pointer (some ⟨gy, 0, none⟩), .pointer (some ⟨go, 0, none⟩), .pointer (some ⟨gf, 0, none⟩)] W fun e W' => Kp n0 S W W' ∧ ((e = .returned (.bool true) ∧ ∃ ys : List It, ys.map (·.1) = setsP N d pre nx ∧ J (xs ++ ys) W') ∨ (e = .returned (.bool false) ∧ ∃ ys : List It, ys ≠ [] ∧ ys.map (·.1) <+: setsP N d pre nx ∧ Jx (xs ++ ys) W'))
  | 0 => setsF_last N m n0 gm gy go gf l S J Jx all hN hS1 hS2 hS3 hJ hJx hY
  | d + 1 => setsF_more N m n0 gm gy go gf l S J Jx all hN hS1 hS2 hS3 hJ hJx hY d (setsF_any N m n0 gm gy go gf l S J Jx all hN hS1 hS2 hS3 hJ hJx hY d)
end Go.Proofs.Ytmaiiigijjfjfaa
set_option linter.unusedVariables false
set_option linter.unusedSimpArgs false
namespace Go.Proofs.Ytmaiiigijjfjfaa
open Go Go.RowKit
set_option maxHeartbeats 1000000 in
theorem sets_iter (N m n0 gm go : Nat) (S : List Nat) (w : World) (hN : N ≤ 1000) (hS1 : memB S 116 = false) (hS2 : memB S 111 = false) (hS3 : memB S 3 = false) (hn : n0 ≤ w.heap.size)
    (hqm0 : Blk w gm 3 #[.int .i64 (m : Nat)]) (hqo0 : Blk w go 3 #[.int .i64 (N : Nat)]) : IterAt Try.prog 74 #[.pointer (some ⟨gm, 0, none⟩), .pointer (some ⟨go, 0, none⟩)] okRow n0 S (setsP N m [] 0) w := by
  intro l J Jx W hkW hJ hJx hY hJ0
  change Calls Try.prog 74 #[.func (.yield l) #[] #[], .pointer (some ⟨gm, 0, none⟩), .pointer (some ⟨go, 0, none⟩)] W _
  have hbw := Below.refl W.heap.size W
  have hqm := hkW.blk _ _ _ hqm0 hS3
  have hqo := hkW.blk _ _ _ hqo0 hS3
  have hnW := Nat.le_trans hn hkW.size
  refine EC.enter 9 Try.func74 rfl rfl rfl ?_
  refine EC.seq ?_
  refine EC.region ?_
  refine EL.newP (bx_111 rfl rfl) rfl ?_
  intro g1 w1 q1 hb1 hg1 hl1
  have bhbw_1 := Nat.le_trans hbw.size hg1
  replace hbw := Below.on hbw hb1 hbw.size
  clear hb1 hg1 hl1
  refine EL.nil ?_
  refine EX.seq ?_
  refine EC.seq ?_
  refine EC.region ?_
  refine EL.newP al_116 rfl ?_
  intro g2 w2 q2 hb2 hg2 hl2
  have n1_2 : g1 ≠ g2 := Nat.ne_of_lt (Nat.lt_of_lt_of_le q1.lt hg2)
  have bhbw_2 := Nat.le_trans hbw.size hg2
  replace q1 := q1.below hb2 q1.lt
  replace hbw := Below.on hbw hb2 hbw.size
  clear hb2 hg2 hl2
  refine EL.nil ?_
  refine EX.seq ?_
  refine EC.seq ?_
  refine EC.region ?_
  refine EL.val (mf_75_0_4 rfl rfl rfl rfl) rfl ?_
  refine EL.store rfl rfl q2 sz_116 rfl rfl rfl rfl ?_
  intro w3 hq3 hg3
  replace q1 := q1.grown hg3 (fun h => n1_2 (Option.some.inj h))
  replace hbw := below_store hbw hg3 bhbw_2
  replace q2 := hq3
  clear hg3 hq3
  refine EL.nil ?_
  refine EX.seq ?_
  refine EC.region ?_
  refine EL.val (ld_116 rfl (q2.at (j := 0) rfl)) rfl ?_
  refine EL.newS (bs_26_0) rfl ?_
  intro g4 w4 q4 hb4 hg4 hl4
  have n1_4 : g1 ≠ g4 := Nat.ne_of_lt (Nat.lt_of_lt_of_le q1.lt hg4)
  have n2_4 : g2 ≠ g4 := Nat.ne_of_lt (Nat.lt_of_lt_of_le q2.lt hg4)
  have bhbw_4 := Nat.le_trans hbw.size hg4
  replace q1 := q1.below hb4 q1.lt
  replace q2 := q2.below hb4 q2.lt
  replace hbw := Below.on hbw hb4 hbw.size
  clear hb4 hg4 hl4
  have hAt : AtS N m n0 gm g1 go g2 l w4 := ⟨hqm.below hbw hqm.lt, q1, hqo.below hbw hqo.lt, q2, Nat.le_trans hnW hbw.size⟩
  refine EL.call (clv_75_0_2_4 rfl rfl rfl) rfl (setsF_any N m n0 gm _ go _ l S J Jx (setsP N m [] 0) hN hS1 hS2 hS3 hJ hJx hY m [] _ 0 [] _ (by simp) (Nat.zero_le _) (Nat.zero_le _) hAt (own_empty 1 q4 (Nat.zero_le _)) (hJ _ _ _ hJ0 hbw) (by rw [List.map_nil, List.nil_append]; exact List.prefix_rfl)) ?_
  rintro e wy ⟨hky, hans⟩
  replace hky := (Kp.of_below hbw hnW).trans hky
  rcases hans with ⟨rfl, ys, hys, hJy⟩ | ⟨rfl, ys, hne, hys, hJy⟩
  ·
    refine ⟨_, rfl, ?_⟩
    refine EL.nil ?_
    exact EX.done' (res0 rfl) ⟨⟨_, rfl⟩, hky, .inl ⟨ys, hys, hJy⟩⟩
  ·
    refine ⟨_, rfl, ?_⟩
    refine EL.nil ?_
    exact EX.done' (res0 rfl) ⟨⟨_, rfl⟩, hky, .inr ⟨ys, hne, hys, hJy⟩⟩
theorem sets_fn (N m : Nat) (w : World) : Calls Try.prog 58 #[.int .i64 (N : Nat), .int .i64 (m : Nat)] w fun e w' => (∃ gm go, e = .returned (.func (.func 74) #[] #[.pointer (some ⟨gm, 0, none⟩), .pointer (some ⟨go, 0, none⟩)]) ∧ Blk w' gm 3 #[.int .i64 (m : Nat)] ∧ Blk w' go 3 #[.int .i64 (N : Nat)] ∧ w.heap.size ≤ gm ∧ w.heap.size ≤ go) ∧ Below w.heap.size w w' := by
  have hbw := Below.refl w.heap.size w
  refine EC.enter 6 Try.func58 rfl rfl rfl ?_
  refine EC.seq ?_
  refine EC.region ?_
  refine EL.newP (bx_3 rfl rfl) rfl ?_
  intro g1 w1 q1 hb1 hg1 hl1
  have bhbw_1 := Nat.le_trans hbw.size hg1
  replace hbw := Below.on hbw hb1 hbw.size
  clear hb1 hg1 hl1
  refine EL.newP (bx_3 rfl rfl) rfl ?_
  intro g2 w2 q2 hb2 hg2 hl2
  have n1_2 : g1 ≠ g2 := Nat.ne_of_lt (Nat.lt_of_lt_of_le q1.lt hg2)
  have bhbw_2 := Nat.le_trans hbw.size hg2
  replace q1 := q1.below hb2 q1.lt
  replace hbw := Below.on hbw hb2 hbw.size
  clear hb2 hg2 hl2
  refine EL.val (x_assign rfl) rfl ?_
  refine EL.nil ?_
  refine EX.seq ?_
  refine EC.seq ?_
  refine EC.region ?_
  refine EL.val (mf_74_0_2 rfl rfl) rfl ?_
  refine EL.val (x_assign rfl) rfl ?_
  refine EL.nil ?_
  refine EX.seq ?_
  refine EC.ret ?_
  exact EX.done (res1 rfl rfl) ⟨⟨_, _, rfl, q2, q1, bhbw_2, bhbw_1⟩, hbw⟩
def HasI (b0 gl : Nat) (w0 : World) (pre : List It) (W : World) : Prop := pre = [] ∧ Blk W gl 4 #[.bool false] ∧ Below b0 w0 W
def HasX (b0 gl : Nat) (w0 : World) (pre : List It) (W : World) : Prop := Blk W gl 4 #[.bool true] ∧ Below b0 w0 W
theorem HasI.from {b0 gl B : Nat} {w0 : World} (h1 : b0 ≤ w0.heap.size) (h2 : b0 ≤ B) : OwnFrom B (HasI b0 gl w0) := fun s W W' row h hg hr => ⟨h.1, blk_keep h.2.1 hg fun r e => (hr r e).2, ownFrom_below (β := List It) h1 h2 s W W' row h.2.2 hg hr⟩
theorem HasX.from {b0 gl B : Nat} {w0 : World} (h1 : b0 ≤ w0.heap.size) (h2 : b0 ≤ B) : OwnFrom B (HasX b0 gl w0) := fun s W W' row h hg hr => ⟨blk_keep h.1 hg fun r e => (hr r e).2, ownFrom_below (β := List It) h1 h2 s W W' row h.2 hg hr⟩
theorem hasC_some {c : Case} {pre : List It} (h : pre ≠ []) (hp : pre.map (·.1) <+: coursesL c) : hasC c = true := by
  unfold hasC
  cases e : coursesL c with
  | nil =>
    rw [e] at hp
    have := List.prefix_nil.1 hp
    exact absurd (List.map_eq_nil_iff.1 this) h
  | cons => rfl
set_option maxHeartbeats 2000000 in
theorem has_any (c : Case) (vc vl : Value) (vs : List Value) (w : World) (B : Nat) (hr : RdCase w B vc vl c vs) (hB : B ≤ w.heap.size) (hn1 : c.clocks.length ≤ 1073741824) (hn2 : c.clues.length ≤ 1073741824) (hcb : caseB c = true) :
    Calls Try.prog 59 #[.agg #[.int .i64 c.events, vc, vl]] w fun e w' => e = .returned (.bool (hasC c)) ∧ Below w.heap.size w w' := by
  obtain ⟨Ac, cc_, rfl, _⟩ := hr.clocks.shape
  obtain ⟨Al, cl_, rfl, _⟩ := hr.clues.rd.shape
  have hbw := Below.refl w.heap.size w
  refine EC.marks 6 Try.func59 rfl rfl rfl ?_
  refine ECI.out ?_
  refine EC.seq ?_
  refine EC.region ?_
  refine EL.newP (bx_25 rfl) rfl ?_
  intro g1 w1 q1 hb1 hg1 hl1
  have bhbw_1 := Nat.le_trans hbw.size hg1
  replace hbw := Below.on hbw hb1 hbw.size
  clear hb1 hg1 hl1
  refine EL.newP al_4 rfl ?_
  intro g2 w2 q2 hb2 hg2 hl2
  have n1_2 : g1 ≠ g2 := Nat.ne_of_lt (Nat.lt_of_lt_of_le q1.lt hg2)
  have bhbw_2 := Nat.le_trans hbw.size hg2
  replace q1 := q1.below hb2 q1.lt
  replace hbw := Below.on hbw hb2 hbw.size
  clear hb2 hg2 hl2
  refine EL.nil ?_
  refine EX.seq ?_
  refine EC.seq ?_
  refine EC.seq ?_
  refine EC.region ?_
  refine EL.val (ld_25 rfl (q1.at (j := 0) rfl) (q1.at (j := 1) rfl) (q1.at (j := 2) rfl)) rfl ?_
  refine EL.call (cl_45 rfl) rfl (courses_fn _ ⟨_, _, _, rfl⟩ ⟨_, _, _, rfl⟩) ?_
  rintro e w3 ⟨⟨gc, rfl, hcq, hgc⟩, hc3⟩
  refine ⟨_, rfl, ?_⟩
  replace q1 := q1.below hc3 q1.lt
  replace q2 := q2.below hc3 q2.lt
  replace hbw := Below.on hbw hc3 hbw.size
  clear hc3
  refine EL.nil ?_
  refine EX.seq ?_
  refine EC.block ?_
  obtain ⟨gl, egl⟩ : ∃ z, z = g2 := ⟨_, rfl⟩
  have qL := q2
  rw [← egl] at qL
  have hgl : w.heap.size ≤ gl := by rw [egl]; exact bhbw_2
  subst egl
  refine EC.inn (k := 0) ?_
  have hI1 : OwnFrom w3.heap.size (HasI w.heap.size gl w) := HasI.from (Nat.le_refl _) hbw.size
  have hI2 : OwnFrom w3.heap.size (HasX w.heap.size gl w) := HasX.from (Nat.le_refl _) hbw.size
  refine rangeF (σ1 := fun x => _) (ok := okRow) (n0 := w.heap.size) (S := [4]) rfl (fun args w => by kernel_rfl) rfl (courses_iter c _ _ vs w.heap.size B gc [4] _ hcb hB rfl rfl rfl hbw.size hcq (hr.below (hbw.mono hB))) hbw.size (HasI w.heap.size gl w) (HasX w.heap.size gl w) hI1 hI2 ⟨rfl, qL, hbw⟩ (okRow_from _) (fun l x W K hK => ECI.skip (fun a ha => hK a ha)) ?_ ?_ ?_
  · rintro l pre x W hpf hokx ⟨rfl, qW, hlow⟩
    refine ECI.block ?_
    refine ECI.seq ?_
    refine ECI.region ?_
    refine ELI.store rfl rfl qW sz_4 rfl rfl rfl rfl ?_
    intro W3 q3 hgr3 hk3
    refine ELI.nil ?_
    refine EXI.seq ?_
    refine ECI.ret ?_
    refine EXI.blk_ret ?_
    exact fun a ha => ⟨hk3, Kp.grown qW rfl hgl hgr3, .inr ⟨rfl, q3, hlow.grown hgr3 hlow.size (fun k e => by injection e with e; omega)⟩⟩
  · rintro D xs W hD hall ⟨rfl, qW, hlow⟩ hkp hdef
    refine EXI.blk ?_
    refine EXI.seqw ?_
    refine ECI.seq ?_
    refine ECI.region ?_
    refine ELI.store rfl rfl qW sz_4 rfl rfl rfl rfl ?_
    intro W3 q3 hgr3 hk3
    refine ELI.nil ?_
    refine EXI.seq ?_
    refine ECI.ret ?_
    exact EXI.done (n0 := w.heap.size) (fun d hd => ⟨D, Nat.le_trans hbw.size hD, List.mem_singleton.1 hd, hk3.same _ _ hdef rfl⟩) (by simp) (v := .bool false) (fun w' ht => resc1 rfl rfl (lv_4 ((ht.blk _ _ _ q3).at (j := 0) rfl))) (fun w' ht => ⟨by rw [hasC, ← hall]; rfl, (hlow.grown hgr3 hlow.size (fun k e => by injection e with e; omega)).trans ht.below⟩)
  · rintro D pre W hD hne hall ⟨qW, hlow⟩ hkp hdef
    refine EXI.blk_ret ?_
    refine EXI.seq_ret ?_
    exact EXI.done (n0 := w.heap.size) (fun d hd => ⟨D, Nat.le_trans hbw.size hD, List.mem_singleton.1 hd, hdef⟩) (by simp) (v := .bool true) (fun w' ht => resc1 rfl rfl (lv_4 ((ht.blk _ _ _ qW).at (j := 0) rfl))) (fun w' ht => ⟨by rw [hasC_some hne hall], hlow.trans ht.below⟩)
def wrgErr (c : Case) : Int := if caseB c = false then 2 else if 10 < c.clues.length ∨ 512 < manyC c then 5 else 0
def wrgRes (c : Case) : List (List Int) := if wrgErr c = 0 then wrongL c else []
theorem wrg_bad {c : Case} (h : ¬caseB c = true) : wrgErr c = 2 := by unfold wrgErr; rw [if_pos (by simpa using h)]
theorem wrg_long {c : Case} (h : caseB c = true) (hm : 10 < c.clues.length ∨ 512 < manyC c) : wrgErr c = 5 := by unfold wrgErr; rw [if_neg (by simp [h]), if_pos hm]
theorem wrg_ok {c : Case} (h : caseB c = true) (h1 : ¬10 < c.clues.length) (h2 : ¬512 < manyC c) : wrgErr c = 0 := by unfold wrgErr; rw [if_neg (by simp [h]), if_neg (by omega)]
theorem Marks.below {n0 : Nat} {ds : List Deferred} {W W' : World} (h : Marks n0 ds W) (hb : Below W.heap.size W W') : Marks n0 ds W' := fun d hd => by
  obtain ⟨D, h1, h2, h3⟩ := h d hd
  exact ⟨D, h1, h2, (hb.block D (Array.getElem?_eq_some_iff.1 h3).1).trans h3⟩
theorem Marks.keeps {n0 : Nat} {ds : List Deferred} {W W' : World} (h : Marks n0 ds W) (hk : KeepsOthers W W') : Marks n0 ds W' := fun d hd => by
  obtain ⟨D, h1, h2, h3⟩ := h d hd
  exact ⟨D, h1, h2, hk.same _ _ h3 rfl⟩
theorem Marks.cons {n0 D : Nat} {ds : List Deferred} {W : World} (h : Marks n0 ds W) (hD : n0 ≤ D) (hd : W.heap[D]? = some (.deferred (some []))) : Marks n0 ({ target := .collected D, args := #[] } :: ds) W := fun d hm => by
  rcases List.mem_cons.1 hm with rfl | h1
  · exact ⟨D, hD, rfl, hd⟩
  · exact h d h1
/-- the marks of a world that has been, still there -/
structure MarksIn (n0 : Nat) (ds : List Deferred) (W0 W : World) : Prop where
  marks : Marks n0 ds W
  old : Marks n0 ds W0
theorem Marks.refl {n0 : Nat} {ds : List Deferred} {W : World} (h : Marks n0 ds W) : MarksIn n0 ds W W := ⟨h, h⟩
theorem MarksIn.below {n0 : Nat} {ds : List Deferred} {W0 W W' : World} (h : MarksIn n0 ds W0 W) (hb : Below W.heap.size W W') : MarksIn n0 ds W0 W' := ⟨h.marks.below hb, h.old⟩
theorem MarksIn.keeps {n0 : Nat} {ds : List Deferred} {W0 W W' : World} (h : MarksIn n0 ds W0 W) (hk : KeepsOthers W W') (_ : W.heap.size ≤ W'.heap.size) : MarksIn n0 ds W0 W' := ⟨h.marks.keeps hk, h.old⟩
theorem MarksIn.fresh {n0 D : Nat} {ds : List Deferred} {W0 W : World} (h : MarksIn n0 ds W0 W) (hD : W0.heap.size ≤ D) (hm : ({ target := .collected D, args := #[] } : Deferred) ∈ ds) : False := by
  obtain ⟨D', _, h2, h3⟩ := h.old _ hm
  have := (Array.getElem?_eq_some_iff.1 h3).1
  injection h2 with h2 _
  injection h2 with h2
  omega
/-- what a round of Wrong's range keeps -/
def WrgI (c : Case) (b0 gl gc : Nat) (w0 : World) (cs : Array Value) (W0 : World) (dl : List Deferred) (pre : List It) (W : World) : Prop :=
  ∃ ys : List It, ys.map (·.1) = (pre.map (·.1)).filter (hasW c) ∧ Coll b0 gl w0 ys W ∧ Blk W gc 25 cs ∧ MarksIn b0 dl W0 W
theorem WrgI.from {c : Case} {b0 gl gc B : Nat} {w0 W0 : World} {cs : Array Value} {dl : List Deferred} (h1 : b0 ≤ w0.heap.size) (h2 : b0 ≤ B) (h3 : W0.heap.size ≤ B) : OwnFrom B (WrgI c b0 gl gc w0 cs W0 dl) := fun s W W' row h hg hr => by
  obtain ⟨ys, hys, hcl, hq, hmk⟩ := h
  refine ⟨ys, hys, (Coll.from h1 h2) ys W W' row hcl hg hr, blk_keep hq hg fun r e => (hr r e).2, ⟨fun d hd => ?_, hmk.old⟩⟩
  obtain ⟨D, k1, k2, k3⟩ := hmk.marks d hd
  obtain ⟨D', _, k5, k6⟩ := hmk.old d hd
  have e : D' = D := by rw [k2] at k5; injection k5 with k5 _; injection k5 with k5; exact k5.symm
  subst e
  have hlt := (Array.getElem?_eq_some_iff.1 k6).1
  exact ⟨D', k1, k2, (hg.block D' (Array.getElem?_eq_some_iff.1 k3).1 (fun e => by have := (hr D' e.symm).1; omega)).trans k3⟩
theorem setsP_each (n : Nat) : ∀ (d : Nat) (pre : List Int) (next : Nat), ∀ x ∈ setsP n d pre next, x.length = pre.length + d
  | 0, pre, next, x, hx => by simp only [setsP, List.mem_singleton] at hx; subst hx; rfl
  | d + 1, pre, next, x, hx => by
    unfold setsP at hx
    obtain ⟨k, _, hx⟩ := mem_flatR.1 hx
    have := setsP_each n d _ _ x hx
    rw [List.length_append, List.length_singleton] at this
    omega
theorem sets_lt {N m : Nat} {pre : List It} {x : It} (h : (pre ++ [x]).map (·.1) <+: setsP N m [] 0) : x.1.length = m := by
  have hm : x.1 ∈ setsP N m [] 0 := h.subset (by simp)
  have := setsP_each N m [] 0 _ hm
  simpa using this
theorem wrg_len {c : Case} {m : Nat} {ys pre : List It} {x : It} (hys : ys.map (·.1) = (pre.map (·.1)).filter (hasW c)) (h : (pre ++ [x]).map (·.1) <+: setsP c.clues.length m [] 0) (hn : c.clues.length ≤ 10) : ys.length + 1 ≤ 1048576 := by
  have h1 := h.length_le
  have h2 := setsP_len c.clues.length m [] 0
  have h3 : (2 : Nat) ^ (c.clues.length - 0) ≤ 2 ^ 10 := Nat.pow_le_pow_right (by omega) (by omega)
  have h4 : ys.length ≤ pre.length := by
    have := congrArg List.length hys
    rw [List.length_map] at this
    rw [this]
    exact Nat.le_trans (List.length_filter_le _ _) (by simp)
  simp only [List.length_map, List.length_append, List.length_singleton] at h1
  omega
set_option maxHeartbeats 4000000 in
set_option maxRecDepth 100000 in
theorem wrong_any (c : Case) (vc vl : Value) (vs : List Value) (w : World) (B : Nat) (hr : RdCase w B vc vl c vs) (hB : B ≤ w.heap.size) (hn1 : c.clocks.length ≤ 1073741824) (hn2 : c.clues.length ≤ 1073741824) :
    Calls Try.prog 35 #[.agg #[.int .i64 c.events, vc, vl]] w fun e w' => (∃ v vs', e = .returned (.tuple #[v, .int .i64 (wrgErr c)]) ∧ RdLL iC 1 w' w'.heap.size v (wrgRes c) vs') ∧ Below w.heap.size w w' := by
  obtain ⟨Ac, cc_, rfl, _⟩ := hr.clocks.shape
  obtain ⟨Al, cl_, rfl, _⟩ := hr.clues.rd.shape
  have hbw := Below.refl w.heap.size w
  refine EC.marks 39 Try.func35 rfl rfl rfl ?_
  refine ECI.out ?_
  refine EC.seq ?_
  refine EC.region ?_
  refine EL.newP (bx_25 rfl) rfl ?_
  intro g1 w1 q1 hb1 hg1 hl1
  have bhbw_1 := Nat.le_trans hbw.size hg1
  replace hbw := Below.on hbw hb1 hbw.size
  clear hb1 hg1 hl1
  refine EL.newP al_41 rfl ?_
  intro g2 w2 q2 hb2 hg2 hl2
  have n1_2 : g1 ≠ g2 := Nat.ne_of_lt (Nat.lt_of_lt_of_le q1.lt hg2)
  have bhbw_2 := Nat.le_trans hbw.size hg2
  replace q1 := q1.below hb2 q1.lt
  replace hbw := Below.on hbw hb2 hbw.size
  clear hb2 hg2 hl2
  refine EL.val (x_assign rfl) rfl ?_
  refine EL.nil ?_
  refine EX.seq ?_
  refine EC.seq ?_
  refine EC.block ?_
  refine EC.seq ?_
  refine EC.region ?_
  refine EL.val (ld_25 rfl (q1.at (j := 0) rfl) (q1.at (j := 1) rfl) (q1.at (j := 2) rfl)) rfl ?_
  by_cases hcb : caseB c = true
  ·
    obtain ⟨hev, h8, h20, hck, hcl⟩ := caseB_ok hcb
    refine EL.call (cl_25 rfl) rfl (check_ok hcb _ _ vs _ B (hr.below (hbw.mono hB)) (Nat.le_trans hB hbw.size) hn1 hn2) ?_
    rintro e w3 ⟨rfl, hc3⟩
    refine ⟨_, rfl, ?_⟩
    replace q1 := q1.below hc3 q1.lt
    replace q2 := q2.below hc3 q2.lt
    replace hbw := Below.on hbw hc3 hbw.size
    clear hc3
    refine EL.val (x_neq (r := false) rfl rfl (by decide)) rfl ?_
    refine EL.val (x_assign rfl) rfl ?_
    refine EL.nil ?_
    refine EX.seq ?_
    refine EC.no rfl ?_
    refine EC.seq ?_
    refine EC.region ?_
    refine EL.val (fa_25_2 rfl) rfl ?_
    refine EL.val (ld_23 rfl (q1.at (j := 2) rfl)) rfl ?_
    refine EL.val (ln_23 rfl) rfl ?_
    by_cases h10 : 10 < c.clues.length
    ·
      refine EL.val (x_gtr rfl rfl (by first | assumption | exact decide_eq_true (by omega))) rfl ?_
      refine EL.val (x_move rfl) rfl ?_
      refine EL.skip rfl rfl rfl rfl ?_
      refine EL.skip rfl rfl rfl rfl ?_
      refine EL.val (x_pick_t rfl rfl) rfl ?_
      refine EL.val (x_assign rfl) rfl ?_
      refine EL.nil ?_
      refine EX.seq ?_
      refine EC.yes rfl ?_
      refine EC.seq ?_
      refine EC.region ?_
      refine EL.store rfl rfl q2 sz_41 rfl rfl rfl rfl ?_
      intro w4 hq4 hg4
      replace q1 := q1.grown hg4 (fun h => n1_2 (Option.some.inj h))
      replace hbw := below_store hbw hg4 bhbw_2
      replace q2 := hq4
      clear hg4 hq4
      refine EL.val (x_assign rfl) rfl ?_
      refine EL.nil ?_
      refine EX.seq ?_
      refine EC.ret ?_
      refine EX.blk_ret ?_
      refine EX.seq_ret ?_
      refine EX.doneM (resct rfl rfl rfl (lv_41 (q2.at (j := 0) rfl))) ?_
      exact ⟨⟨_, [], by rw [wrg_long hcb (.inl h10)], by rw [wrgRes, if_neg (by rw [wrg_long hcb (.inl h10)]; decide)]; exact rdll_nil⟩, hbw⟩
    ·
      refine EL.val (x_gtr rfl rfl (by first | assumption | exact decide_eq_false (by omega))) rfl ?_
      refine EL.val (x_move rfl) rfl ?_
      refine EL.valg rfl rfl (ld_25 rfl (q1.at (j := 0) rfl) (q1.at (j := 1) rfl) (q1.at (j := 2) rfl)) rfl ?_
      by_cases hmn : 512 < manyC c
      ·
        refine EL.callg rfl rfl (cl_44 rfl) rfl (tooMany_is (decide_eq_true hmn) _ _ vs _ B (hr.below (hbw.mono hB)) (Nat.le_trans hB hbw.size) hn1 hn2 hcb) ?_
        rintro e w5 ⟨rfl, hc5⟩
        refine ⟨_, rfl, ?_⟩
        replace q1 := q1.below hc5 q1.lt
        replace q2 := q2.below hc5 q2.lt
        replace hbw := Below.on hbw hc5 hbw.size
        clear hc5
        refine EL.val (x_pick_f rfl rfl) rfl ?_
        refine EL.val (x_assign rfl) rfl ?_
        refine EL.nil ?_
        refine EX.seq ?_
        refine EC.yes rfl ?_
        refine EC.seq ?_
        refine EC.region ?_
        refine EL.store rfl rfl q2 sz_41 rfl rfl rfl rfl ?_
        intro w6 hq6 hg6
        replace q1 := q1.grown hg6 (fun h => n1_2 (Option.some.inj h))
        replace hbw := below_store hbw hg6 bhbw_2
        replace q2 := hq6
        clear hg6 hq6
        refine EL.val (x_assign rfl) rfl ?_
        refine EL.nil ?_
        refine EX.seq ?_
        refine EC.ret ?_
        refine EX.blk_ret ?_
        refine EX.seq_ret ?_
        refine EX.doneM (resct rfl rfl rfl (lv_41 (q2.at (j := 0) rfl))) ?_
        exact ⟨⟨_, [], by rw [wrg_long hcb (.inr hmn)], by rw [wrgRes, if_neg (by rw [wrg_long hcb (.inr hmn)]; decide)]; exact rdll_nil⟩, hbw⟩
      ·
        refine EL.callg rfl rfl (cl_44 rfl) rfl (tooMany_is (decide_eq_false hmn) _ _ vs _ B (hr.below (hbw.mono hB)) (Nat.le_trans hB hbw.size) hn1 hn2 hcb) ?_
        rintro e w7 ⟨rfl, hc7⟩
        refine ⟨_, rfl, ?_⟩
        replace q1 := q1.below hc7 q1.lt
        replace q2 := q2.below hc7 q2.lt
        replace hbw := Below.on hbw hc7 hbw.size
        clear hc7
        refine EL.val (x_pick_f rfl rfl) rfl ?_
        refine EL.val (x_assign rfl) rfl ?_
        refine EL.nil ?_
        refine EX.seq ?_
        refine EC.no rfl ?_
        refine EC.skip ?_
        refine EX.blk ?_
        refine EX.seq ?_
        refine EC.seq ?_
        refine EC.seq ?_
        refine EC.region ?_
        refine EL.val (x_assign rfl) rfl ?_
        refine EL.nil ?_
        refine EX.seq ?_
        refine EC.block ?_
        have hg1 : w.heap.size ≤ g1 := bhbw_1
        have hg2 : w.heap.size ≤ g2 := bhbw_2
        obtain ⟨gl, egl⟩ : ∃ z, z = g2 := ⟨_, rfl⟩
        have qL := q2
        rw [← egl] at qL hg2
        subst egl
        refine EC.inn (k := 0) ?_
        refine ECI.loopD [4, 5, 19, 20, 21, 22, 23, 24, 25, 26, 27, 28, 29, 30, 31, 32, 33, 34, 35, 36, 37] (fun x : Nat × List It × List Deferred => [(4, .int .i64 (x.1 : Nat))]) (fun x => x.2.2) (fun x W => x.1 ≤ c.clues.length + 1 ∧ (∀ k, k + 1 < x.1 → wrongAt c k = []) ∧ (x.1 = 0 → x.2.1 = []) ∧ (0 < x.1 → x.2.1.map (·.1) = wrongAt c (x.1 - 1)) ∧ Blk W g1 25 #[.int .i64 c.events, .slice Ac c.clocks.length cc_, .slice Al c.clues.length cl_] ∧ Coll w.heap.size gl w x.2.1 W ∧ Marks w.heap.size x.2.2 W ∧ x.2.2.Nodup ∧ w.heap.size ≤ W.heap.size) (fun x => c.clues.length + 2 - x.1) (0, [], []) ⟨Nat.zero_le _, fun k hk => absurd hk (by omega), fun _ => rfl, fun h => absurd h (Nat.lt_irrefl 0), q1, ⟨⟨_, qL, ⟨rfl, .inl ⟨rfl, rfl⟩⟩⟩, fun x hx => absurd hx (by simp), hbw⟩, fun d hd => absurd hd (by simp), List.nodup_nil, hbw.size⟩ ⟨rfl, trivial⟩ rfl ?_
        clear q1 qL hbw
        rintro ⟨m, xs, dl⟩ wm ⟨hm, hno, hx0, hxs, qC, hcl, hmk, hnd, hszm⟩
        dsimp only at hm hno hx0 hxs hcl hmk hnd
        have hbw := hcl.low
        obtain ⟨v, qv, hov⟩ := hcl.l
        obtain ⟨Av, cv_, rfl, _⟩ := (Rd.of_own hov).shape
        by_cases hemp : xs = []
        ·
          subst hemp
          have hno2 : ∀ k, k < m → wrongAt c k = [] := fun k hk => by by_cases e : k + 1 < m; (exact hno k e); (rw [show k = m - 1 by omega, ← hxs (by omega)]; rfl)
          have hmn2 : m ≤ c.clues.length := by by_cases e : m ≤ c.clues.length; (exact e); (exact absurd (hno2 c.clues.length (by omega)) (wrong_last hcb))
          refine ECI.seq ?_
          refine ECI.seq ?_
          refine ECI.region ?_
          refine ELI.val (ld_41 rfl (qv.at (j := 0) rfl)) rfl ?_
          refine ELI.val (ln_41 rfl) rfl ?_
          refine ELI.val (x_eql (r := true) rfl rfl (decide_eq_true rfl)) rfl ?_
          refine ELI.nil ?_
          refine EXI.seq ?_
          refine ECI.yes rfl ?_
          refine ECI.skip ?_
          refine EXI.seq ?_
          refine ECI.seq ?_
          refine ECI.block ?_
          refine ECI.seq ?_
          refine ECI.region ?_
          refine ELI.val (fa_25_2 rfl) rfl ?_
          refine ELI.val (ld_23 rfl (qC.at (j := 2) rfl)) rfl ?_
          refine ELI.val (ln_23 rfl) rfl ?_
          refine ELI.val (x_move rfl) rfl ?_
          refine ELI.call (cl_58 rfl rfl) rfl (sets_fn c.clues.length m _) ?_
          rintro e w8 ⟨⟨gm, go, rfl, qm, qo, hgm, hgo⟩, hc8⟩
          refine ⟨_, rfl, ?_⟩
          replace hcl := hcl.below hc8 (Nat.le_refl _)
          replace hmk := hmk.below hc8
          replace qC := qC.below hc8 qC.lt
          replace qv := qv.below hc8 qv.lt
          replace hbw := Below.on hbw hc8 hbw.size
          clear hc8
          refine ELI.nil ?_
          refine EXI.seq ?_
          refine ECI.block ?_
          skip
          refine rangeF (σ1 := fun x => _) (ok := okRow) (n0 := w.heap.size) (S := [41, 26]) rfl (fun args w => by kernel_rfl) rfl (sets_iter c.clues.length m w.heap.size gm go [41, 26] w8 (by omega) rfl rfl rfl hbw.size qm qo) hbw.size (WrgI c w.heap.size gl g1 w #[.int .i64 c.events, .slice Ac c.clocks.length cc_, .slice Al c.clues.length cl_] w8 dl) (fun _ _ => False) (WrgI.from (Nat.le_refl _) hbw.size (Nat.le_refl _)) (fun _ _ _ _ h _ _ => h) ⟨[], rfl, hcl, qC, Marks.refl hmk⟩ (okRow_from _) (fun l x W K hK => assign1 rfl hK) ?_ ?_ ?_
          · rintro l pre ⟨xl, xv⟩ W hpf hokx ⟨ys, hys, hcl, qC, hmk⟩
            have hlow := hcl.low
            have hset : xl.length = m := sets_lt hpf
            have hlen : ys.length + 1 ≤ 1048576 := wrg_len (c := c) (m := m) hys hpf (by omega)
            obtain ⟨Ax, cx, ex_, _⟩ := (Rd.of_own hokx).shape
            have ex_ : xv = .slice Ax xl.length cx := ex_
            subst ex_
            refine ECI.block ?_
            refine ECI.seq ?_
            refine ECI.region ?_
            refine ELI.val (ld_25 rfl (qC.at (j := 0) rfl) (qC.at (j := 1) rfl) (qC.at (j := 2) rfl)) rfl ?_
            refine ELI.val (x_move rfl) rfl ?_
            refine ELI.call (cl_60 rfl rfl) rfl (without_any c _ _ vs W W.heap.size ((hr.below (hlow.mono hB)).more (Nat.le_trans hB hlow.size)) (Nat.le_refl _) hn1 hn2 xl _ (Rd.of_own hokx) (by omega) (by omega)) ?_
            rintro e W1 ⟨⟨v1, ls1, rfl, hr1⟩, hb1⟩
            refine ⟨_, rfl, ?_⟩
            replace hcl := hcl.below hb1 (Nat.le_refl _)
            replace qC := qC.below hb1 qC.lt
            replace hmk := hmk.below hb1
            have hokx1 : okRow (xl, Value.slice Ax xl.length cx) W1 := own_below hokx hb1 (Nat.le_refl _)
            have hko1 := keeps_below hb1
            have hkp1 := Kp.of_below (n0 := w.heap.size) (S := [41, 26]) hb1 hlow.size
            refine ELI.call (cl_59 rfl) rfl (has_any (withoutC c xl) _ _ ls1 W1 _ hr1 (Nat.le_refl _) (show c.clocks.length ≤ 1073741824 from hn1) (Nat.le_trans (withoutL_len _) hn2) (without_ok hcb)) ?_
            rintro e W2 ⟨rfl, hb2⟩
            refine ⟨_, rfl, ?_⟩
            replace hcl := hcl.below hb2 (Nat.le_refl _)
            replace qC := qC.below hb2 qC.lt
            replace hmk := hmk.below hb2
            have hokx2 : okRow (xl, Value.slice Ax xl.length cx) W2 := own_below hokx1 hb2 (Nat.le_refl _)
            have hko2 := hko1.trans (keeps_below hb2)
            have hkp2 := hkp1.trans (Kp.of_below (n0 := w.heap.size) (S := [41, 26]) hb2 (Nat.le_trans hlow.size hb1.size))
            refine ELI.nil ?_
            refine EXI.seq ?_
            clear hlow hokx hokx1
            have hlow := hcl.low
            cases hhas : hasC (withoutC c xl)
            ·
              refine ECI.no rfl ?_
              refine ECI.skip ?_
              refine EXI.blk ?_
              exact fun a ha => ⟨hko2, hkp2, .inl ⟨rfl, ys, by rw [List.map_append, List.filter_append, ← hys]; simp [hasW, hhas], hcl, qC, hmk⟩⟩
            ·
              refine ECI.yes rfl ?_
              refine ECI.region ?_
              obtain ⟨vy, qy, hoy⟩ := hcl.l
              have hrows := hcl.rows
              clear hcl
              refine ELI.val (ld_41 rfl (qy.at (j := 0) rfl)) rfl ?_
              refine ELI.val (x_move rfl) rfl ?_
              refine ELI.newS (bs_41_1 rfl) rfl ?_
              intro g1 W3 qn hb3 hge3 hlt3
              replace qy := qy.below hb3 qy.lt
              replace qC := qC.below hb3 qC.lt
              replace hmk := hmk.below hb3
              replace hoy := own_below hoy hb3 (Nat.le_refl _)
              have hrows1 : ∀ x ∈ ys ++ [(xl, .slice Ax xl.length cx)], okRow x W3 := fun x hx => by
                rcases List.mem_append.1 hx with h | h
                · exact own_below (hrows x h) hb3 (Nat.le_refl _)
                · rw [List.mem_singleton.1 h]; exact own_below hokx2 hb3 (Nat.le_refl _)
              have hlow1 := hlow.trans (hb3.mono hlow.size)
              refine ELI.push row_elem rfl rfl hoy (rd_one (l := [.slice Ax xl.length cx]) qn rfl) (by intro u hu; rw [List.mem_singleton.1 hu]; rfl) hlen rfl hlow1.size rfl ?_
              intro v2 W4 ho2 hgr hb4 hk4
              have qy2 := blk_grown qy hoy rfl hgr
              replace qC := blk_grown qC hoy rfl hgr
              replace hmk := hmk.keeps hk4 hgr.size
              have hrows2 : ∀ x ∈ ys ++ [(xl, .slice Ax xl.length cx)], okRow x W4 := fun x hx => own_grown (hrows1 x hx) hoy rfl hgr
              have hlow2 := hlow1.trans hb4
              obtain ⟨A2, c2, e2, _⟩ := (Rd.of_own ho2).shape
              subst e2
              refine ELI.store rfl rfl qy2 sz_41 rfl rfl rfl rfl ?_
              intro W5 q5 hgr5 hk5
              replace qC := blk_type qC qy2 rfl hgr5
              replace hmk := hmk.keeps hk5 hgr5.size
              refine ELI.nil ?_
              have hcl5 : Coll w.heap.size gl w (ys ++ [(xl, .slice Ax xl.length cx)]) W5 := ⟨⟨_, q5, by simpa using own_type ho2 qy2 rfl hgr5⟩, fun x hx => own_type (hrows2 x hx) qy2 rfl hgr5, hlow2.grown hgr5 hlow2.size (fun k e => by injection e with e; omega)⟩
              have hko5 := ((hko2.trans (keeps_below hb3)).trans hk4).trans hk5
              have hkp5 : Kp w.heap.size [41, 26] W W5 := ((hkp2.trans (Kp.of_below hb3 hlow.size)).trans (Kp.own hoy rfl (Nat.le_refl _) hlow1.size hgr)).trans (Kp.grown qy2 rfl hg2 hgr5)
              refine EXI.blk ?_
              exact fun a ha => ⟨hko5, hkp5, .inl ⟨rfl, ys ++ [(xl, .slice Ax xl.length cx)], by rw [List.map_append, List.map_append, List.filter_append, ← hys]; simp [hasW, hhas], hcl5, qC, hmk⟩⟩
          · rintro D ps W hD hall ⟨ys, hys, hcl, qC, hmk⟩ hkp hdef
            refine EXI.blk ?_
            refine EXI.blk ?_
            refine EXI.seq ?_
            refine ECI.region ?_
            refine ELI.val (x_move rfl) rfl ?_
            refine ELI.val (x_add rfl rfl (c := ((m + 1 : Nat) : Int)) ((IntWalk.i64_in _ ⟨by omega, by omega⟩).trans (by omega))) rfl ?_
            refine ELI.val (x_assign rfl) rfl ?_
            refine ELI.nil ?_
            refine EXI.roundD (m + 1, ys, { target := .collected D, args := #[] } :: dl) ⟨rfl, trivial⟩ (by repeat first | with_reducible exact Sub.refl _ | refine sub_past rfl ?_ | exact Sub.refl _ | refine sub_del rfl ?_ | refine sub_insL_nil ?_) rfl ⟨by omega, fun k hk => hno2 k (by omega), fun h => absurd h (by omega), fun _ => by rw [hys, hall]; rfl, qC, hcl, hmk.marks.cons (Nat.le_trans hbw.size hD) hdef, List.nodup_cons.2 ⟨fun h => hmk.fresh hD h, hnd⟩, hcl.low.size⟩ (by simp only; omega)
          · intro D pre W hD hne hall h
            exact absurd h id
        ·
          have hm0 : 0 < m := by by_cases e : m = 0; (exact absurd (hx0 e) hemp); omega
          have hxs := hxs hm0
          have hwl : wrongL c = wrongAt c (m - 1) := wrong_is (by rw [← hxs]; intro h; exact hemp (List.map_eq_nil_iff.1 h)) (by omega) (fun i hi => hno i (by omega))
          have hne1 : ¬((xs.length : Nat) : Int) = 0 := by have : xs.length ≠ 0 := fun h => hemp (List.eq_nil_of_length_eq_zero h); omega
          refine ECI.seq ?_
          refine ECI.seq ?_
          refine ECI.region ?_
          refine ELI.val (ld_41 rfl (qv.at (j := 0) rfl)) rfl ?_
          refine ELI.val (ln_41 rfl) rfl ?_
          refine ELI.val (x_eql (r := false) rfl rfl (decide_eq_false hne1)) rfl ?_
          refine ELI.nil ?_
          refine EXI.seq ?_
          refine ECI.no rfl ?_
          refine ECI.exit ?_
          refine EXI.seq_exit ?_
          refine EXI.seq_exit ?_
          refine EXI.blk_here ?_
          refine EXI.seqw ?_
          refine ECI.seq ?_
          refine ECI.region ?_
          refine ELI.val (ld_41 rfl (qv.at (j := 0) rfl)) rfl ?_
          refine ELI.store rfl rfl qv sz_41 rfl rfl rfl rfl ?_
          intro w9 hq9 hg9 hk_
          have qv0 := qv
          have hgX := hg9
          replace qC := qC.grown hg9 (fun h => n1_2 (Option.some.inj h))
          replace hbw := below_store hbw hg9 bhbw_2
          replace qv := hq9
          clear hg9 hq9
          refine ELI.val (x_assign rfl) rfl ?_
          refine ELI.nil ?_
          refine EXI.seq ?_
          refine ECI.ret ?_
          refine EXI.done (n0 := w.heap.size) (hmk.keeps hk_) hnd (v := .tuple #[.slice Av xs.length cv_, .int .i64 0]) (fun w' ht => resct rfl rfl rfl (lv_41 ((ht.blk _ _ _ qv).at (j := 0) rfl))) (fun w' ht => ?_)
          have hcl3 : Coll w.heap.size gl w xs w9 := ⟨⟨_, qv, own_type hov qv0 rfl hgX⟩, fun x hx => own_type (hcl.rows x hx) qv0 rfl hgX, hbw⟩
          exact ⟨⟨_, xs.map (·.2), by rw [wrg_ok hcb h10 hmn], by rw [wrgRes, if_pos (wrg_ok hcb h10 hmn), hwl, ← hxs]; exact (hcl3.took ht (Nat.le_refl _)).rd (ht.blk _ _ _ qv)⟩, hcl3.low.trans ht.below⟩
  ·
    refine EL.call (cl_25 rfl) rfl (check_bad hcb _ _ vs _ B (hr.below (hbw.mono hB)) (Nat.le_trans hB hbw.size) hn1 hn2) ?_
    rintro e w10 ⟨rfl, hc10⟩
    refine ⟨_, rfl, ?_⟩
    replace q1 := q1.below hc10 q1.lt
    replace q2 := q2.below hc10 q2.lt
    replace hbw := Below.on hbw hc10 hbw.size
    clear hc10
    refine EL.val (x_neq (r := true) rfl rfl (by decide)) rfl ?_
    refine EL.val (x_assign rfl) rfl ?_
    refine EL.nil ?_
    refine EX.seq ?_
    refine EC.yes rfl ?_
    refine EC.seq ?_
    refine EC.region ?_
    refine EL.store rfl rfl q2 sz_41 rfl rfl rfl rfl ?_
    intro w11 hq11 hg11
    replace q1 := q1.grown hg11 (fun h => n1_2 (Option.some.inj h))
    replace hbw := below_store hbw hg11 bhbw_2
    replace q2 := hq11
    clear hg11 hq11
    refine EL.val (x_assign rfl) rfl ?_
    refine EL.nil ?_
    refine EX.seq ?_
    refine EC.ret ?_
    refine EX.blk_ret ?_
    refine EX.seq_ret ?_
    refine EX.doneM (resct rfl rfl rfl (lv_41 (q2.at (j := 0) rfl))) ?_
    exact ⟨⟨_, [], by rw [wrg_bad hcb], by rw [wrgRes, if_neg (by rw [wrg_bad hcb]; decide)]; exact rdll_nil⟩, hbw⟩
end Go.Proofs.Ytmaiiigijjfjfaa
set_option linter.unusedVariables false
set_option linter.unusedSimpArgs false
namespace Go.Proofs.Ytmaiiigijjfjfaa
open Go Go.RowKit
/-! ### An order of lists -/
def lessL : List Int → List Int → Bool
  | x :: a, y :: b => if x = y then lessL a b else decide (x < y)
  | _, _ => false
/-! ### Sets as numbers -/
def bitsTo (s : Nat) : Nat → List Int
  | 0 => []
  | k + 1 => bitsTo s k ++ (if bitN s k = true then [((k : Nat) : Int)] else [])
structure InvW (c : Case) (k : Nat) (b : List (List Int)) : Prop where
  sound : ∀ x ∈ b, ∃ s, s < k ∧ rcrs c s c.clues.length [] ≠ [] ∧ x = bitsTo s c.clues.length ∧ ∀ t, t < k → rcrs c t c.clues.length [] ≠ [] → x.length ≤ (bitsTo t c.clues.length).length
  full : ∀ s, s < k → rcrs c s c.clues.length [] ≠ [] → (∀ t, t < k → rcrs c t c.clues.length [] ≠ [] → (bitsTo s c.clues.length).length ≤ (bitsTo t c.clues.length).length) → bitsTo s c.clues.length ∈ b
  some : ∀ s, s < k → rcrs c s c.clues.length [] ≠ [] → b ≠ []
  sorted : b.Pairwise (fun a b => lessL a b = true)
theorem InvW.len {c : Case} {k : Nat} {b : List (List Int)} (h : InvW c k b) {x y : List Int} (hx : x ∈ b) (hy : y ∈ b) : x.length = y.length := by
  obtain ⟨s, h1, h2, e1, h3⟩ := h.sound x hx
  obtain ⟨t, k1, k2, e2, k3⟩ := h.sound y hy
  have a := h3 t k1 k2
  have b := k3 s h1 h2
  rw [← e2] at a
  rw [← e1] at b
  omega
end Go.Proofs.Ytmaiiigijjfjfaa
set_option linter.unusedVariables false
set_option linter.unusedSimpArgs false
namespace Go.Proofs.Ytmaiiigijjfjfaa
open Go Go.RowKit
theorem OwnLL.ins {W W' : World} {base k : Nat} {v v' vl : Value} {L : List (List Int)} {l : List Int} {fs : List Value} (h : OwnLL W base v L fs) (hl : W.ownsRow 0 3 1 vl l.length (ints l)) (hb : Below W.heap.size W W') (hk : k ≤ L.length) (ho : W'.ownsRow base 26 1 v' (k + 1 + (L.length - k)) (fs.take k ++ [vl] ++ fs.drop k)) : OwnLL W' base v' (L.take k ++ [l] ++ L.drop k) (fs.take k ++ [vl] ++ fs.drop k) := by
  have hlen : (L.take k ++ [l] ++ L.drop k).length = k + 1 + (L.length - k) := by
    rw [List.length_append, List.length_append, List.length_take, List.length_drop, List.length_singleton, Nat.min_eq_left hk]
  have hf := h.len
  refine ⟨by rw [hlen, List.length_append, List.length_append, List.length_take, List.length_drop, List.length_singleton, hf, Nat.min_eq_left hk], by rw [hlen]; exact ho, fun i hi => ?_⟩
  rw [hlen] at hi
  have get : ∀ {α : Type} (m : List α) (y d : α), m.length = L.length → (m.take k ++ [y] ++ m.drop k).getD i d = if i < k then m.getD i d else if i = k then y else m.getD (i - 1) d := fun m y d hm => by
    have h1 : (m.take k).length = k := by rw [List.length_take]; omega
    rw [List.append_assoc, List.getD_eq_getElem?_getD, List.getElem?_append, h1]
    by_cases e1 : i < k
    · rw [if_pos e1, if_pos e1, List.getElem?_take, if_pos e1, List.getD_eq_getElem?_getD]
    · rw [if_neg e1, if_neg e1, List.singleton_append]
      by_cases e2 : i = k
      · rw [if_pos e2, e2, Nat.sub_self]; rfl
      · rw [if_neg e2, show i - k = (i - 1 - k) + 1 by omega, List.getElem?_cons_succ, List.getElem?_drop, show k + (i - 1 - k) = i - 1 by omega, List.getD_eq_getElem?_getD]
  rw [get L l [] rfl, get fs vl undef hf]
  by_cases e1 : i < k
  · rw [if_pos e1, if_pos e1]
    exact own_below (h.row i (by omega)) hb (Nat.le_refl _)
  · rw [if_neg e1, if_neg e1]
    by_cases e2 : i = k
    · rw [if_pos e2, if_pos e2]
      exact own_below hl hb (Nat.le_refl _)
    · rw [if_neg e2, if_neg e2]
      exact own_below (h.row (i - 1) (by omega)) hb (Nat.le_refl _)
end Go.Proofs.Ytmaiiigijjfjfaa
set_option linter.unusedVariables false
set_option linter.unusedSimpArgs false
namespace Go.Proofs.Ytmaiiigijjfjfaa
open Go Go.RowKit
theorem wrong_to {c : Case} {E : Int} {L : List (List Int)} (he : wrgErr c = E) (hL : wrgRes c = L) (vc vl : Value) (vs : List Value) (w : World) (B : Nat) (hr : RdCase w B vc vl c vs) (hB : B ≤ w.heap.size) (hn1 : c.clocks.length ≤ 1073741824) (hn2 : c.clues.length ≤ 1073741824) :
    Calls Try.prog 35 #[.agg #[.int .i64 c.events, vc, vl]] w fun e w' => (∃ v vs', e = .returned (.tuple #[v, .int .i64 E]) ∧ RdLL iC 1 w' w'.heap.size v L vs') ∧ Below w.heap.size w w' := he ▸ hL ▸ wrong_any c vc vl vs w B hr hB hn1 hn2
theorem wrgRes_no {c : Case} (h : wrgErr c ≠ 0) : wrgRes c = [] := if_neg h
theorem wrgRes_ok {c : Case} (h : wrgErr c = 0) : wrgRes c = wrongL c := if_pos h
end Go.Proofs.Ytmaiiigijjfjfaa
set_option linter.unusedVariables false
set_option linter.unusedSimpArgs false
namespace Go.Proofs.Ytmaiiigijjfjfaa
open Go Go.RowKit
section
variable {c : Case} {l : List Int} {π : Nat → Int}
theorem tr_fits (hc : caseB c = true) (hl : inCourse c l) (hf : FeasM (linksOf c l) π) : okC c l = true ∧ fitsS c l = true := by
  have h := (ok_iff hc hl.neg).2 ⟨π, hf⟩
  exact ⟨h, (fits_okC hc hl.neg).trans h⟩
theorem tr_dist (hc : caseB c = true) (hl : inCourse c l) (hf : FeasM (linksOf c l) π) {i k : Nat} (hi : i < nOf c) (hk : k < nOf c) : π k - π i ≤ dist c l i k :=
  feas_fw (hub_of hc hl.neg) (feas_iff.2 hf) (Nat.le_refl _) i k hi hk
theorem tr_tri (hc : caseB c = true) (hl : inCourse c l) (hok : okC c l = true) {i j k : Nat} (hi : i < nOf c) (hj : j < nOf c) (hk : k < nOf c) : dist c l i k ≤ dist c l i j + dist c l j k :=
  fw_tri (hub_of hc hl.neg) (Nat.le_refl _) (okM_iff.1 hok) j hj i k hi hk
theorem tr_link (hc : caseB c = true) {x : Lnk} (hx : x ∈ linksOf c l) : dist c l x.fr x.to ≤ x.most := by
  obtain ⟨k, hk, e⟩ := mem_at hx
  have a := links_le hk
  have m := fw_le0 (ls := linksOf c l) (nOf c) x.fr x.to
  rw [e] at a
  exact Int.le_trans m a
theorem tr_ev (hc : caseB c = true) {i : Nat} (hi : i < c.events.toNat) : dist c l (1 + i) 0 ≤ 0 ∧ dist c l 0 (1 + i) ≤ 1000000 := by
  have h : ∀ x ∈ evL i, x ∈ linksOf c l := fun x hx => by
    unfold linksOf
    exact List.mem_append_left _ (List.mem_append_left _ (mem_flatR.2 ⟨i, hi, hx⟩))
  exact ⟨tr_link hc (x := ⟨1 + i, 0, 0⟩) (h _ (by simp [evL])), tr_link hc (x := ⟨0, 1 + i, 1000000⟩) (h _ (by simp [evL]))⟩
theorem inCourse_pre {s : List Int} (h : inCourse c (l ++ s)) : inCourse c l := by
  refine ⟨by have := h.1; rw [List.length_append] at this; omega, fun i hi => ?_⟩
  have := h.2 i (by rw [List.length_append]; omega)
  rwa [show (l ++ s).getD i 0 = l.getD i 0 by simp [List.getElem?_append, hi]] at this
theorem ok_pre (hc : caseB c = true) : ∀ (s l : List Int), inCourse c (l ++ s) → okC c (l ++ s) = true → okC c l = true
  | [], l, _, h => by rwa [List.append_nil] at h
  | y :: s, l, hi, h => by
    rw [show l ++ y :: s = (l ++ [y]) ++ s by simp] at hi h
    have h1 := ok_pre hc s (l ++ [y]) hi h
    have h2 := inCourse_pre hi
    exact ok_less hc (inCourse_pre h2).neg h2.neg h1
theorem mem_crsP (hc : caseB c = true) : ∀ (s pre : List Int), inCourse c (pre ++ s) → okC c (pre ++ s) = true → pre ++ s ∈ crsP c s.length pre
  | [], pre, hi, h => by
    rw [List.append_nil] at hi h ⊢
    rw [show ([] : List Int).length = 0 from rfl, crsP_last ((fits_okC hc hi.neg).trans h)]
    exact List.mem_singleton.2 rfl
  | y :: s, pre, hi, h => by
    have hp := ok_pre hc _ pre hi h
    rw [show (y :: s).length = s.length + 1 from rfl, crsP_more ((fits_okC hc (inCourse_pre hi).neg).trans hp)]
    have hy := hi.2 pre.length (by simp)
    rw [show (pre ++ y :: s).getD pre.length 0 = y by simp] at hy
    obtain ⟨k, rfl⟩ : ∃ k : Nat, y = k := ⟨y.toNat, by omega⟩
    refine mem_flatR.2 ⟨k, by unfold optN; omega, ?_⟩
    rw [show pre ++ ((k : Nat) : Int) :: s = (pre ++ [((k : Nat) : Int)]) ++ s by simp] at hi h ⊢
    exact mem_crsP hc s _ hi h
theorem mem_courses (hc : caseB c = true) (hl : inCourse c l) (hlen : l.length = c.clues.length) (h : okC c l = true) : l ∈ coursesL c := by
  have := mem_crsP hc l [] hl h
  unfold coursesL
  rw [← hlen]
  simpa using this
theorem without_nil (c : Case) : withoutC c [] = c := by
  have h : ∀ k, k ≤ c.clues.length → withoutL c [] k = c.clues.take k := by
    intro k
    induction k with
    | zero => intro _; simp [withoutL]
    | succ k ih =>
      intro hk
      rw [without_succ_out (by simp), ih (by omega), take_get (d := []) (by omega)]
  unfold withoutC
  rw [h _ (Nat.le_refl _), List.take_length]
theorem wrong_none (hc : caseB c = true) (h : coursesL c ≠ []) : wrongL c = [[]] := by
  have hw : hasW c [] = true := by
    unfold hasW hasC
    rw [without_nil]
    cases e : coursesL c with
    | nil => exact absurd e h
    | cons a t => rfl
  have e : wrongAt c 0 = [[]] := by
    unfold wrongAt setsP
    simp [hw]
  rw [wrong_is (m := 0) (by rw [e]; simp) (Nat.zero_le _) (fun i hi => absurd hi (by omega)), e]
/-- the bounds of the events -/
theorem rT_get {i : Nat} (hi : i < c.events.toNat) : (rTimes c l c.events.toNat).getD i bd0 = ⟨-dist c l (1 + i) 0, dist c l 0 (1 + i)⟩ := by simp [rTimes, List.getD, hi]
end
end Go.Proofs.Ytmaiiigijjfjfaa
set_option linter.unusedVariables false
set_option linter.unusedSimpArgs false
namespace Go.Proofs.Ytmaiiigijjfjfaa
open Go Go.RowKit
section
variable {n : Nat} {σ : Sg} {w : World} {dst : Option Tmp} {ty : TypeId} {pos : String} {af : Array Edge} {g : Option (Nat × Bool)} {x y z : Operand} {at' : Array TypeId}
theorem ld_65 {b o : Nat} {v0 v1 v2 v3 v4 : Value} (hx : evS σ x = some (.pointer (some ⟨b, o, none⟩))) (c0 : w.cell? ⟨b, o, none⟩ = some v0) (c1 : w.cell? ⟨b, o + 1, none⟩ = some v1) (c2 : w.cell? ⟨b, o + 2, none⟩ = some v2) (c3 : w.cell? ⟨b, o + 3, none⟩ = some v3) (c4 : w.cell? ⟨b, o + 4, none⟩ = some v4) : Gives Try.prog n σ w ⟨dst, .load 65 x, ty, pos, af, g⟩ (.agg #[v0, v1, v2, v3, v4]) := fun a ha => by
  simp only [execOp, ha.eval hx]
  simp [go_sem, c0, c1, c2, c3, c4]
theorem cl_33 {x0 x1 : Operand} {v0 v1 : Value} (h0 : evS σ x0 = some v0) (h1 : evS σ x1 = some v1) (a : Act) (ha : Env n σ a) : (execOp a.eval ⟨dst, .call { callee := .value (.func 33), args := #[x0, x1], argTypes := at' }, ty, pos, af, g⟩).run Try.prog w = .ok (.enter 33 #[v0, v1]) w := by
  simp only [execOp, resolve, List.map_toArray, List.map_cons, List.map_nil, ha.eval h0, ha.eval h1]
  simp [go_sem, Act.eval]
end
end Go.Proofs.Ytmaiiigijjfjfaa
