/- X32: what WitnessTruthsProof needs of them (merged by trimpack.py). -/
import Derived.Test.YtmaiiigijjfjfaaTruthsT4
set_option linter.unusedVariables false
set_option linter.unusedSimpArgs false
namespace Go.Proofs.Ytmaiiigijjfjfaa
open Go Go.RowKit
theorem equal_len (l m : List Int) (n : Nat) (v u : Value) (w : World) (B : Nat) (ha : Rd w B 1 v n (ints l)) (hb : Rd w B 1 u n (ints m)) (h1 : l.length = n) (h2 : m.length = n) (hB : B ≤ w.heap.size) (hl : n ≤ 1048576) :
    Calls Try.prog 29 #[v, u] w fun e w' => e = .returned (.bool (decide (l = m))) ∧ Below w.heap.size w w' := by
  obtain ⟨Ai, ci_, rfl, _⟩ := ha.shape
  obtain ⟨Aj, cj_, rfl, _⟩ := hb.shape
  have hbw := Below.refl w.heap.size w
  refine EC.enter 26 Try.func29 rfl rfl rfl ?_
  refine EC.seq ?_
  refine EC.region ?_
  refine EL.val (x_assign rfl) rfl ?_
  refine EL.nil ?_
  refine EX.seq ?_
  refine EC.seq ?_
  refine EC.seq ?_
  refine EC.region ?_
  refine EL.val (x_move rfl) rfl ?_
  refine EL.val (ln_26 rfl) rfl ?_
  refine EL.val (x_move rfl) rfl ?_
  refine EL.val (ln_26 rfl) rfl ?_
  refine EL.val (x_neq rfl rfl (by first | assumption | exact decide_eq_false (by omega))) rfl ?_
  refine EL.nil ?_
  refine EX.seq ?_
  refine EC.no rfl ?_
  refine EC.skip ?_
  refine EX.seq ?_
  refine EC.seq ?_
  refine EC.seq ?_
  refine EC.region ?_
  refine EL.val (x_assign rfl) rfl ?_
  refine EL.nil ?_
  refine EX.seq ?_
  refine EC.block ?_
  refine EC.loopD [4, 5, 11, 12, 13, 14, 15, 16, 17, 18, 19, 20, 21, 22, 23, 24, 25] (fun x : Nat => [(5, .int .i64 (x : Nat))]) (fun x W => x ≤ n ∧ (∀ j, j < x → l.getD j 0 = m.getD j 0) ∧ Below w.heap.size w W) (fun x => n - x) 0 ⟨Nat.zero_le _, fun j hj => absurd hj (by omega), hbw⟩ ⟨rfl, trivial⟩ ?_
  clear hbw
  rintro k wk ⟨hk, hsm, hbw⟩
  by_cases hlt : k < n
  ·
    obtain ⟨b1, o1, e1_, _, c1⟩ := ints_cells l k (by omega) w _ _ _ _ ha
    obtain ⟨b2, o2, e2_, _, c2⟩ := ints_cells m k (by omega) w _ _ _ _ hb
    subst e1_
    subst e2_
    by_cases hdf : l.getD k 0 ≠ m.getD k 0
    ·
      refine EC.seq ?_
      refine EC.seq ?_
      refine EC.region ?_
      refine EL.val (x_move rfl) rfl ?_
      refine EL.val (x_move rfl) rfl ?_
      refine EL.val (ln_26 rfl) rfl ?_
      refine EL.val (x_lss rfl rfl (decide_eq_true (show (((k : Nat) : Int) < ((n : Nat) : Int)) by omega))) rfl ?_
      refine EL.nil ?_
      refine EX.seq ?_
      refine EC.yes rfl ?_
      refine EC.skip ?_
      refine EX.seq ?_
      refine EC.seq ?_
      refine EC.block ?_
      refine EC.seq ?_
      refine EC.regionQ (by kernel_rfl) (by kernel_rfl) ?_
      refine EQ.val (fun _ hw => (x_move rfl)) rfl ?_
      refine EQ.val (fun _ hw => (x_move rfl)) rfl ?_
      refine EQ.val (fun _ hw => (ix_26 rfl rfl hlt)) rfl ?_
      refine EQ.val (fun _ hw => (ld_3 rfl (below_load hw (below_load hbw c1)))) rfl ?_
      refine EQ.val (fun _ hw => (x_move rfl)) rfl ?_
      refine EQ.val (fun _ hw => (x_move rfl)) rfl ?_
      refine EQ.val (fun _ hw => (ix_26 rfl rfl hlt)) rfl ?_
      refine EQ.val (fun _ hw => (ld_3 rfl (below_load hw (below_load hbw c2)))) rfl ?_
      refine EQ.val (fun _ hw => (x_neq (r := true) rfl rfl (decide_eq_true hdf))) rfl ?_
      refine EQ.fin (fun w1 hw_ => ?_)
      replace hbw := Below.on hbw hw_ hbw.size
      clear hw_
      refine EX.seq ?_
      refine EC.yes rfl ?_
      refine EC.seq ?_
      refine EC.region ?_
      refine EL.val (x_assign rfl) rfl ?_
      refine EL.nil ?_
      refine EX.seq ?_
      refine EC.ret ?_
      refine EX.blk_ret ?_
      refine EX.seq_ret ?_
      refine EX.seq_ret ?_
      refine EX.blk_ret ?_
      refine EX.seq_ret ?_
      exact EX.done (res1 rfl rfl) ⟨by congr 2; symm; exact decide_eq_false (fun e => hdf (by rw [e])), hbw⟩
    ·
      refine EC.seq ?_
      refine EC.seq ?_
      refine EC.region ?_
      refine EL.val (x_move rfl) rfl ?_
      refine EL.val (x_move rfl) rfl ?_
      refine EL.val (ln_26 rfl) rfl ?_
      refine EL.val (x_lss rfl rfl (decide_eq_true (show (((k : Nat) : Int) < ((n : Nat) : Int)) by omega))) rfl ?_
      refine EL.nil ?_
      refine EX.seq ?_
      refine EC.yes rfl ?_
      refine EC.skip ?_
      refine EX.seq ?_
      refine EC.seq ?_
      refine EC.block ?_
      refine EC.seq ?_
      refine EC.regionQ (by kernel_rfl) (by kernel_rfl) ?_
      refine EQ.val (fun _ hw => (x_move rfl)) rfl ?_
      refine EQ.val (fun _ hw => (x_move rfl)) rfl ?_
      refine EQ.val (fun _ hw => (ix_26 rfl rfl hlt)) rfl ?_
      refine EQ.val (fun _ hw => (ld_3 rfl (below_load hw (below_load hbw c1)))) rfl ?_
      refine EQ.val (fun _ hw => (x_move rfl)) rfl ?_
      refine EQ.val (fun _ hw => (x_move rfl)) rfl ?_
      refine EQ.val (fun _ hw => (ix_26 rfl rfl hlt)) rfl ?_
      refine EQ.val (fun _ hw => (ld_3 rfl (below_load hw (below_load hbw c2)))) rfl ?_
      refine EQ.val (fun _ hw => (x_neq (r := false) rfl rfl (decide_eq_false hdf))) rfl ?_
      refine EQ.fin (fun w2 hw_ => ?_)
      replace hbw := Below.on hbw hw_ hbw.size
      clear hw_
      refine EX.seq ?_
      refine EC.no rfl ?_
      refine EC.skip ?_
      refine EX.blk ?_
      refine EX.seq ?_
      refine EC.region ?_
      refine EL.val (x_move rfl) rfl ?_
      refine EL.val (x_add rfl rfl (by first | assumption | exact IntWalk.i64_in _ ⟨by omega, by omega⟩)) rfl ?_
      refine EL.val (x_assign rfl) rfl ?_
      refine EL.nil ?_
      refine EX.roundD (k + 1) ⟨rfl, trivial⟩ (by repeat first | with_reducible exact Sub.refl _ | refine sub_past rfl ?_ | exact Sub.refl _ | refine sub_del rfl ?_ | refine sub_insL_nil ?_) ⟨hlt, fun j hj => by by_cases e : j < k; (exact hsm j e); (rw [show j = k by omega]; exact Decidable.not_not.1 hdf), hbw⟩ (by omega)
  ·
    obtain rfl : k = n := by omega
    refine EC.seq ?_
    refine EC.seq ?_
    refine EC.region ?_
    refine EL.val (x_move rfl) rfl ?_
    refine EL.val (x_move rfl) rfl ?_
    refine EL.val (ln_26 rfl) rfl ?_
    refine EL.val (x_lss rfl rfl (decide_eq_false (show ¬(((k : Nat) : Int) < ((k : Nat) : Int)) by omega))) rfl ?_
    refine EL.nil ?_
    refine EX.seq ?_
    refine EC.no rfl ?_
    refine EC.exit ?_
    refine EX.seq_exit ?_
    refine EX.seq_exit ?_
    refine EX.blk_here ?_
    refine EX.seq ?_
    refine EC.seq ?_
    refine EC.region ?_
    refine EL.val (x_assign rfl) rfl ?_
    refine EL.nil ?_
    refine EX.seq ?_
    refine EC.ret ?_
    exact EX.done (res1 rfl rfl) ⟨by congr 2; symm; exact decide_eq_true (ext_getD (d := 0) (by omega) fun i hi => hsm i (by omega)), hbw⟩
theorem equal_to {l m : List Int} {b : Bool} (h : decide (l = m) = b) {n : Nat} {v u : Value} {w : World} {B : Nat} (ha : Rd w B 1 v n (ints l)) (hb : Rd w B 1 u n (ints m)) (h1 : l.length = n) (h2 : m.length = n) (hB : B ≤ w.heap.size) (hl : n ≤ 1048576) :
    Calls Try.prog 29 #[v, u] w fun e w' => e = .returned (.bool b) ∧ Below w.heap.size w w' := h ▸ equal_len l m n v u w B ha hb h1 h2 hB hl
set_option maxHeartbeats 8000000 in
set_option maxRecDepth 100000 in
theorem truths_law (c : Case) (vc vl : Value) (vs : List Value) (w : World) (B : Nat) (hr : RdCase w B vc vl c vs) (hB : B ≤ w.heap.size) (hn1 : c.clocks.length ≤ 9223372036854775807) (hn2 : c.clues.length ≤ 9223372036854775807) (hfit : Fits c) (xm xf b : List Int) (vm vf vb : Value) (hrm : Rd w B 1 vm xm.length (u16s xm)) (hrf : Rd w B 1 vf xf.length (u8s xf)) (hrb : Rd w B 1 vb b.length (u8s b)) (hnm : xm.length ≤ 9223372036854775807) (hnf : xf.length ≤ 9223372036854775807) (hnb : b.length ≤ 9223372036854775807) (hxm : ∀ y ∈ xm, 0 ≤ y ∧ y ≤ 65535) (hxf : ∀ y ∈ xf, 0 ≤ y ∧ y ≤ 255) (hbb : ∀ y ∈ b, 0 ≤ y ∧ y ≤ 255) :
    Calls Try.prog 10 #[.agg #[.int .i64 c.events, vc, vl, vm, vf], vb] w fun e w' => e = .returned (.bool true) ∧ Below w.heap.size w w' := by
  obtain ⟨Ac, cc_, rfl, _⟩ := hr.clocks.shape
  obtain ⟨Al, cl_, rfl, _⟩ := hr.clues.rd.shape
  obtain ⟨Am, cm_, rfl, _⟩ := hrm.shape
  obtain ⟨Af, cf_, rfl, _⟩ := hrf.shape
  obtain ⟨Ab, cb_, rfl, _⟩ := hrb.shape
  have hbw := Below.refl w.heap.size w
  refine EC.enter 274 Try.func10 rfl rfl rfl ?_
  refine EC.seq ?_
  refine EC.region ?_
  refine EL.newP (bx_65 rfl) rfl ?_
  intro g1 w1 q1 hb1 hg1 hl1
  have bhbw_1 := Nat.le_trans hbw.size hg1
  replace hbw := Below.on hbw hb1 hbw.size
  clear hb1 hg1 hl1
  refine EL.val (x_assign rfl) rfl ?_
  refine EL.nil ?_
  refine EX.seq ?_
  refine EC.seq ?_
  refine EC.region ?_
  refine EL.val (ld_65 rfl (q1.at (j := 0) rfl) (q1.at (j := 1) rfl) (q1.at (j := 2) rfl) (q1.at (j := 3) rfl) (q1.at (j := 4) rfl)) rfl ?_
  refine EL.val (x_move rfl) rfl ?_
  refine EL.call (cl_33 rfl rfl) rfl (told_any c _ _ vs _ B (hr.below (hbw.mono hB)) (Nat.le_trans hB hbw.size) hn1 hn2 hfit xm xf b _ _ _ (hrm.below (hbw.mono hB)) (hrf.below (hbw.mono hB)) (hrb.below (hbw.mono hB)) hnm hnf hnb hxm hxf hbb) ?_
  rintro e wT ⟨(⟨A1F, A2F, n1F, n2F, k1F, k2F, rfl⟩ | ⟨va_, vb_, vM, vF, vK, ws, rfl, hcb, hsm, ho, h3, htr⟩), hcT⟩
  ·
    refine ⟨_, rfl, ?_⟩
    replace q1 := q1.below hcT q1.lt
    replace hbw := Below.on hbw hcT hbw.size
    clear hcT
    refine EL.val (x_move rfl) rfl ?_
    refine EL.val (x_extract rfl rfl) rfl ?_
    refine EL.val (x_extract rfl rfl) rfl ?_
    refine EL.val (x_extract rfl rfl) rfl ?_
    refine EL.val (x_extract rfl rfl) rfl ?_
    refine EL.val (x_extract rfl rfl) rfl ?_
    refine EL.newP al_25 rfl ?_
    intro g2 w2 q2 hb2 hg2 hl2
    have n1_2 : g1 ≠ g2 := Nat.ne_of_lt (Nat.lt_of_lt_of_le q1.lt hg2)
    have bhbw_2 := Nat.le_trans hbw.size hg2
    replace q1 := q1.below hb2 q1.lt
    replace hbw := Below.on hbw hb2 hbw.size
    clear hb2 hg2 hl2
    refine EL.store rfl rfl q2 sz_25 rfl rfl rfl rfl ?_
    intro w3 hq3 hg3
    replace q1 := q1.grown hg3 (fun h => n1_2 (Option.some.inj h))
    replace hbw := below_store hbw hg3 bhbw_2
    replace q2 := hq3
    clear hg3 hq3
    refine EL.val (x_assign rfl) rfl ?_
    refine EL.val (x_assign rfl) rfl ?_
    refine EL.val (x_assign rfl) rfl ?_
    refine EL.val (x_assign rfl) rfl ?_
    refine EL.nil ?_
    refine EX.seq ?_
    refine EC.seq ?_
    refine EC.seq ?_
    refine EC.region ?_
    refine EL.val (x_move rfl) rfl ?_
    refine EL.val (x_not rfl) rfl ?_
    refine EL.nil ?_
    refine EX.seq ?_
    refine EC.yes rfl ?_
    refine EC.seq ?_
    refine EC.region ?_
    refine EL.call cl_12 rfl (known_any _) ?_
    rintro e w4 ⟨rfl, hc4⟩
    refine ⟨_, rfl, ?_⟩
    replace q1 := q1.below hc4 q1.lt
    replace q2 := q2.below hc4 q2.lt
    replace hbw := Below.on hbw hc4 hbw.size
    clear hc4
    refine EL.val (x_assign rfl) rfl ?_
    refine EL.nil ?_
    refine EX.seq ?_
    refine EC.ret ?_
    refine EX.seq_ret ?_
    exact EX.done (res1 rfl rfl) ⟨rfl, hbw⟩
  ·
    refine ⟨_, rfl, ?_⟩
    replace q1 := q1.below hcT q1.lt
    replace hbw := Below.on hbw hcT hbw.size
    clear hcT
    obtain ⟨M, eM⟩ : ∃ z, z = (minsL xm c.events.toNat) := ⟨_, rfl⟩
    obtain ⟨FL, eF⟩ : ∃ z, z = (fastL c xf c.clocks.length) := ⟨_, rfl⟩
    rw [← eM] at ho h3 htr
    rw [← eF] at ho h3 htr
    have hcd : caseB (toldC c b M FL) = true := told_ok hcb htr
    have hcr : inCourse (toldC c b M FL) (crsBy c b c.clues.length) := told_course hcb
    have hst : startErr (toldC c b M FL) (crsBy c b c.clues.length) = 0 := told_start hcb htr
    have hfe := told_feas (b := b) hcb htr
    obtain ⟨hok, hfit⟩ := tr_fits hcd hcr hfe
    have hev := (caseB_ok hcb).1
    obtain ⟨Ne, eN⟩ : ∃ N : Nat, c.events = N := ⟨c.events.toNat, by omega⟩
    have eN2 : c.events.toNat = Ne := by omega
    have hNO : c.events.toNat < nOf (toldC c b M FL) := by show c.events.toNat < 1 + c.events.toNat + c.clocks.length; omega
    have hlD : (toldC c b M FL).clues.length = c.clues.length := toldL_len _ _ _ _ _
    have smD : Small (toldC c b M FL) := ⟨by rw [hlD]; exact hsm.clues, hsm.clocks, fun j hj => by show ((toldL c b M FL c.clues.length).getD j []).length ≤ 5; rw [toldL_row]; exact hsm.opts j (by rw [hlD] at hj; exact hj)⟩
    have hn1D : (toldC c b M FL).clocks.length ≤ 1073741824 := by have := smD.clocks; omega
    have hn2D : (toldC c b M FL).clues.length ≤ 1073741824 := by have := smD.clues; omega
    have hRD := ho.rd
    have hr3 := Rd.of_own h3.r3
    have hr1 := Rd.of_own h3.r1
    obtain ⟨AA, cA, rfl, _⟩ := hRD.clocks.shape
    obtain ⟨AL, cL, rfl, _⟩ := hRD.clues.rd.shape
    obtain ⟨AV, cV, eV, _⟩ := hr1.shape
    rw [htr.mlen, eN2] at eV
    subst eV
    have hLl := crsBy_len c b c.clues.length
    obtain ⟨AK, cK, eK0, _⟩ := hr3.shape
    rw [hLl] at eK0
    subst eK0
    have hr1N := hr1
    rw [htr.mlen, eN2] at hr1N
    have hcl25 := hsm.clues
    have hLn : (crsBy c b c.clues.length).length ≤ 1073741824 := by have := hsm.clues; omega
    clear ho h3
    have hbT := Below.refl wT.heap.size wT
    refine EL.val (x_move rfl) rfl ?_
    refine EL.val (x_extract rfl rfl) rfl ?_
    refine EL.val (x_extract rfl rfl) rfl ?_
    refine EL.val (x_extract rfl rfl) rfl ?_
    refine EL.val (x_extract rfl rfl) rfl ?_
    refine EL.val (x_extract rfl rfl) rfl ?_
    refine EL.newP al_25 rfl ?_
    intro g5 w5 q5 hb5 hg5 hl5
    have n1_5 : g1 ≠ g5 := Nat.ne_of_lt (Nat.lt_of_lt_of_le q1.lt hg5)
    have bhbw_5 := Nat.le_trans hbw.size hg5
    have bhbT_5 := Nat.le_trans hbT.size hg5
    replace q1 := q1.below hb5 q1.lt
    replace hbw := Below.on hbw hb5 hbw.size
    replace hbT := Below.on hbT hb5 hbT.size
    clear hb5 hg5 hl5
    refine EL.store rfl rfl q5 sz_25 rfl rfl rfl rfl ?_
    intro w6 hq6 hg6
    replace q1 := q1.grown hg6 (fun h => n1_5 (Option.some.inj h))
    replace hbw := below_store hbw hg6 bhbw_5
    replace hbT := below_store hbT hg6 bhbT_5
    replace q5 := hq6
    clear hg6 hq6
    refine EL.val (x_assign rfl) rfl ?_
    refine EL.val (x_assign rfl) rfl ?_
    refine EL.val (x_assign rfl) rfl ?_
    refine EL.val (x_assign rfl) rfl ?_
    refine EL.nil ?_
    refine EX.seq ?_
    refine EC.seq ?_
    refine EC.seq ?_
    refine EC.region ?_
    refine EL.val (x_move rfl) rfl ?_
    refine EL.val (x_not rfl) rfl ?_
    refine EL.nil ?_
    refine EX.seq ?_
    refine EC.no rfl ?_
    refine EC.skip ?_
    refine EX.seq ?_
    refine EC.seq ?_
    refine EC.region ?_
    refine EL.val (ld_25 rfl (q5.at (j := 0) rfl) (q5.at (j := 1) rfl) (q5.at (j := 2) rfl)) rfl ?_
    refine EL.call (cl_14 rfl) rfl (copied_any (toldC c b M FL) _ _ ws _ _ (hRD.below hbT) hbT.size hn1D hn2D smD) ?_
    rintro e w8 ⟨⟨vaq7, vbq7, wsq7, rfl, hoq7⟩, hc8⟩
    refine ⟨_, rfl, ?_⟩
    replace q1 := q1.below hc8 q1.lt
    replace q5 := q5.below hc8 q5.lt
    replace hbw := Below.on hbw hc8 hbw.size
    replace hbT := Below.on hbT hc8 hbT.size
    clear hc8
    have hrq7 := hoq7.rd
    obtain ⟨Adq7, cdq7, rfl, _⟩ := hrq7.clocks.shape
    obtain ⟨Amq7, cmq7, rfl, _⟩ := hrq7.clues.rd.shape
    have hbq7 := Below.refl w8.heap.size w8
    refine EL.val (x_move rfl) rfl ?_
    refine EL.call (cl_15 rfl) rfl (ints_any (crsBy c b c.clues.length) _ _ wT.heap.size (hr3.below hbT) hbT.size (by omega)) ?_
    rintro e w10 ⟨⟨vlq9, rfl, holq9⟩, hc10⟩
    refine ⟨_, rfl, ?_⟩
    replace q1 := q1.below hc10 q1.lt
    replace q5 := q5.below hc10 q5.lt
    replace hbw := Below.on hbw hc10 hbw.size
    replace hbT := Below.on hbT hc10 hbT.size
    replace hbq7 := Below.on hbq7 hc10 hbq7.size
    clear hc10
    have hlq9 := Rd.of_own holq9
    obtain ⟨Aiq9, ciq9, rfl, _⟩ := hlq9.shape
    have hzq9 := hbq7.size
    have hbq9 := Below.refl w10.heap.size w10
    refine EL.call (cl_26 rfl rfl) rfl (possible_to (poss_ok hst hfit) hst _ _ wsq7 _ _ ((hrq7.below hbq7).more hzq9) hbq9.size hn1D hn2D _ (hlq9.below hbq9) hLn) ?_
    rintro e w11 ⟨rfl, hc11⟩
    refine ⟨_, rfl, ?_⟩
    replace q1 := q1.below hc11 q1.lt
    replace q5 := q5.below hc11 q5.lt
    replace hbw := Below.on hbw hc11 hbw.size
    replace hbT := Below.on hbT hc11 hbT.size
    replace hbq7 := Below.on hbq7 hc11 hbq7.size
    replace hbq9 := Below.on hbq9 hc11 hbq9.size
    clear hc11
    refine EL.val (x_move rfl) rfl ?_
    refine EL.val (x_extract rfl rfl) rfl ?_
    refine EL.val (x_extract rfl rfl) rfl ?_
    refine EL.val (x_assign rfl) rfl ?_
    refine EL.val (x_assign rfl) rfl ?_
    refine EL.nil ?_
    refine EX.seq ?_
    refine EC.seq ?_
    refine EC.region ?_
    refine EL.val (ld_25 rfl (q5.at (j := 0) rfl) (q5.at (j := 1) rfl) (q5.at (j := 2) rfl)) rfl ?_
    refine EL.call (cl_14 rfl) rfl (copied_any (toldC c b M FL) _ _ ws _ _ (hRD.below hbT) hbT.size hn1D hn2D smD) ?_
    rintro e w13 ⟨⟨vaq12, vbq12, wsq12, rfl, hoq12⟩, hc13⟩
    refine ⟨_, rfl, ?_⟩
    replace q1 := q1.below hc13 q1.lt
    replace q5 := q5.below hc13 q5.lt
    replace hbw := Below.on hbw hc13 hbw.size
    replace hbT := Below.on hbT hc13 hbT.size
    replace hbq7 := Below.on hbq7 hc13 hbq7.size
    replace hbq9 := Below.on hbq9 hc13 hbq9.size
    clear hc13
    have hrq12 := hoq12.rd
    obtain ⟨Adq12, cdq12, rfl, _⟩ := hrq12.clocks.shape
    obtain ⟨Amq12, cmq12, rfl, _⟩ := hrq12.clues.rd.shape
    have hbq12 := Below.refl w13.heap.size w13
    refine EL.val (x_move rfl) rfl ?_
    refine EL.call (cl_15 rfl) rfl (ints_any (crsBy c b c.clues.length) _ _ wT.heap.size (hr3.below hbT) hbT.size (by omega)) ?_
    rintro e w15 ⟨⟨vlq14, rfl, holq14⟩, hc15⟩
    refine ⟨_, rfl, ?_⟩
    replace q1 := q1.below hc15 q1.lt
    replace q5 := q5.below hc15 q5.lt
    replace hbw := Below.on hbw hc15 hbw.size
    replace hbT := Below.on hbT hc15 hbT.size
    replace hbq7 := Below.on hbq7 hc15 hbq7.size
    replace hbq9 := Below.on hbq9 hc15 hbq9.size
    replace hbq12 := Below.on hbq12 hc15 hbq12.size
    clear hc15
    have hlq14 := Rd.of_own holq14
    obtain ⟨Aiq14, ciq14, rfl, _⟩ := hlq14.shape
    have hzq14 := hbq12.size
    have hbq14 := Below.refl w15.heap.size w15
    refine EL.call (cl_27 rfl rfl) rfl (times_to (times_ok hst hfit).1 ((times_ok hst hfit).2.trans (timesN_dist hcd hcr hok)) _ _ wsq12 _ _ ((hrq12.below hbq12).more hzq14) hbq14.size hn1D hn2D _ (hlq14.below hbq14) hLn) ?_
    rintro e w16 ⟨⟨vT, rfl, hrT⟩, hc16⟩
    refine ⟨_, rfl, ?_⟩
    replace q1 := q1.below hc16 q1.lt
    replace q5 := q5.below hc16 q5.lt
    replace hbw := Below.on hbw hc16 hbw.size
    replace hbT := Below.on hbT hc16 hbT.size
    replace hbq7 := Below.on hbq7 hc16 hbq7.size
    replace hbq9 := Below.on hbq9 hc16 hbq9.size
    replace hbq12 := Below.on hbq12 hc16 hbq12.size
    replace hbq14 := Below.on hbq14 hc16 hbq14.size
    clear hc16
    have hlT : (rTimes (toldC c b M FL) (crsBy c b c.clues.length) (toldC c b M FL).events.toNat).length = Ne := by rw [rTimes_len]; exact eN2
    obtain ⟨AT, cT, eT, _⟩ := hrT.shape
    rw [hlT] at eT hrT
    subst eT
    have hbX := Below.refl w16.heap.size w16
    refine EL.val (x_move rfl) rfl ?_
    refine EL.val (x_extract rfl rfl) rfl ?_
    refine EL.val (x_extract rfl rfl) rfl ?_
    refine EL.val (x_assign rfl) rfl ?_
    refine EL.val (x_assign rfl) rfl ?_
    refine EL.nil ?_
    refine EX.seq ?_
    refine EC.seq ?_
    refine EC.seq ?_
    refine EC.region ?_
    refine EL.val (x_move rfl) rfl ?_
    refine EL.val (x_neq (r := false) rfl rfl (by decide)) rfl ?_
    refine EL.val (x_move rfl) rfl ?_
    refine EL.valg rfl rfl (x_move rfl) rfl ?_
    refine EL.valg rfl rfl (x_neq (r := false) rfl rfl (by decide)) rfl ?_
    refine EL.val (x_pick_f rfl rfl) rfl ?_
    refine EL.val (x_move rfl) rfl ?_
    refine EL.valg rfl rfl (x_move rfl) rfl ?_
    refine EL.valg rfl rfl (x_not rfl) rfl ?_
    refine EL.val (x_pick_f rfl rfl) rfl ?_
    refine EL.val (x_move rfl) rfl ?_
    refine EL.valg rfl rfl (x_move rfl) rfl ?_
    refine EL.valg rfl rfl (ln_22 rfl) rfl ?_
    refine EL.valg rfl rfl (fa_25_0 rfl) rfl ?_
    refine EL.valg rfl rfl (ld_3 rfl (q5.at (j := 0) rfl)) rfl ?_
    refine EL.valg rfl rfl (x_neq (r := false) rfl rfl (decide_eq_false (by omega))) rfl ?_
    refine EL.val (x_pick_f rfl rfl) rfl ?_
    refine EL.nil ?_
    refine EX.seq ?_
    refine EC.no rfl ?_
    refine EC.skip ?_
    refine EX.seq ?_
    refine EC.seq ?_
    refine EC.seq ?_
    refine EC.region ?_
    refine EL.val (x_assign rfl) rfl ?_
    refine EL.nil ?_
    refine EX.seq ?_
    refine EC.block ?_
    refine EC.loopD [4, 14, 15, 16, 17, 18, 19, 20, 70, 71, 72, 73, 74, 75, 76, 77, 78, 79, 80, 81, 82, 83, 84, 85, 86, 87, 88, 89, 90, 91, 92, 93, 94, 95, 96, 97, 98, 99, 100, 101, 102, 103, 104, 105, 106, 107, 108, 109, 110, 111, 112, 113, 114, 115, 116, 117, 118, 119, 120, 121, 122, 123, 124, 125, 126, 127, 128, 129, 130, 131, 132, 133, 134, 135, 136, 137, 138, 139, 140, 141, 142, 143, 144, 145, 146, 147, 148, 149, 150, 151, 152, 153, 154, 155, 156, 157, 158, 159, 160, 161, 162, 163, 164, 165, 166, 167, 168, 169, 170, 171, 172, 173, 174, 175, 176, 177, 178, 179, 180, 181, 182, 183, 184, 185, 186, 187, 188, 189, 190, 191, 192, 193, 194, 195, 196, 197, 198, 199, 200, 201, 202, 203, 204, 205, 206, 207, 208, 209, 210] (fun x : Nat => [(14, .int .i64 (x : Nat))]) (fun x W => x ≤ Ne ∧ Blk W g1 65 #[.int .i64 c.events, .slice Ac c.clocks.length cc_, .slice Al c.clues.length cl_, .slice Am xm.length cm_, .slice Af xf.length cf_] ∧ Blk W g5 25 #[.int .i64 c.events, .slice AA (toldC c b M FL).clocks.length cA, .slice AL (toldC c b M FL).clues.length cL] ∧ Below w.heap.size w W ∧ Below wT.heap.size wT W ∧ Below w16.heap.size w16 W) (fun x => Ne - x) 0 ⟨Nat.zero_le _, q1, q5, hbw, hbT, hbX⟩ ⟨rfl, trivial⟩ ?_
    clear q1 q5 hbw hbT hbX
    rintro x wx ⟨hx, q2x, q5x, hbw, hbT, hbX⟩
    by_cases hlt : x < Ne
    ·
      obtain ⟨bx, ox, e_, _, cx⟩ := ints_cells M x (by rw [htr.mlen]; omega) _ _ _ _ _ hr1N
      obtain ⟨btx, otx, e2_, _, tx0, tx1⟩ := bds_cells (rTimes (toldC c b M FL) (crsBy c b c.clues.length) (toldC c b M FL).events.toNat) x (by rw [hlT]; omega) _ _ _ _ _ hrT
      subst e_
      subst e2_
      have hxN : x < c.events.toNat := by omega
      rw [rT_get (c := toldC c b M FL) hxN] at tx0 tx1
      obtain ⟨px, epx⟩ : ∃ z, z = M.getD x 0 := ⟨_, rfl⟩
      rw [← epx] at cx
      obtain ⟨dx0, edx0⟩ : ∃ z, z = dist (toldC c b M FL) (crsBy c b c.clues.length) (1 + x) 0 := ⟨_, rfl⟩
      obtain ⟨d0x, ed0x⟩ : ∃ z, z = dist (toldC c b M FL) (crsBy c b c.clues.length) 0 (1 + x) := ⟨_, rfl⟩
      have Jf1 := tr_dist hcd hcr hfe (i := 1 + x) (k := 0) (by omega) (by omega)
      have Jf2 := tr_dist hcd hcr hfe (i := 0) (k := 1 + x) (by omega) (by omega)
      rw [piT_ev hxN, piT_zero, ← epx] at Jf1 Jf2
      have Jf3 := tr_ev (c := toldC c b M FL) (l := crsBy c b c.clues.length) hcd hxN
      simp only at tx0 tx1
      rw [← edx0] at Jf1 Jf3 tx0
      rw [← ed0x] at Jf2 Jf3 tx1
      have hMx := htr.mins x hxN
      rw [← epx] at hMx
      have hpr := part_bd hbb x
      have hKn : (partI b x).toNat % Ne < Ne := Nat.mod_lt _ (by omega)
      obtain ⟨K, eK⟩ : ∃ z, z = (partI b x).toNat % Ne := ⟨_, rfl⟩
      have eK2 : (partI b x).tmod ((Ne : Nat) : Int) = ((K : Nat) : Int) := by rw [eK]; exact part_mod hpr.1
      rw [← eK] at hKn
      have hKN : K < c.events.toNat := by omega
      obtain ⟨bk, ok, e_, _, ck⟩ := ints_cells M K (by rw [htr.mlen]; omega) _ _ _ _ _ hr1N
      obtain ⟨btk, otk, e2_, _, tk0, tk1⟩ := bds_cells (rTimes (toldC c b M FL) (crsBy c b c.clues.length) (toldC c b M FL).events.toNat) K (by rw [hlT]; omega) _ _ _ _ _ hrT
      obtain ⟨rfl, rfl⟩ : bx = bk ∧ ox = ok := by injection e_ with e_; injection e_ with h1 h2; exact ⟨h1, h2⟩
      obtain ⟨rfl, rfl⟩ : btx = btk ∧ otx = otk := by injection e2_ with e_; injection e_ with h1 h2; exact ⟨h1, h2⟩
      rw [rT_get (c := toldC c b M FL) hKN] at tk0 tk1
      simp only at tk0 tk1
      obtain ⟨pk, epk⟩ : ∃ z, z = M.getD K 0 := ⟨_, rfl⟩
      rw [← epk] at ck
      obtain ⟨dk0, edk0⟩ : ∃ z, z = dist (toldC c b M FL) (crsBy c b c.clues.length) (1 + K) 0 := ⟨_, rfl⟩
      obtain ⟨d0k, ed0k⟩ : ∃ z, z = dist (toldC c b M FL) (crsBy c b c.clues.length) 0 (1 + K) := ⟨_, rfl⟩
      obtain ⟨dxk, edxk⟩ : ∃ z, z = dist (toldC c b M FL) (crsBy c b c.clues.length) (1 + x) (1 + K) := ⟨_, rfl⟩
      obtain ⟨dkx, edkx⟩ : ∃ z, z = dist (toldC c b M FL) (crsBy c b c.clues.length) (1 + K) (1 + x) := ⟨_, rfl⟩
      have Jg1 := tr_dist hcd hcr hfe (i := 1 + x) (k := 1 + K) (by omega) (by omega)
      have Jg2 := tr_dist hcd hcr hfe (i := 1 + K) (k := 1 + x) (by omega) (by omega)
      rw [piT_ev hxN, piT_ev hKN, ← epx, ← epk] at Jg1 Jg2
      rw [← edxk] at Jg1
      rw [← edkx] at Jg2
      have Jg3 := tr_tri hcd hcr hok (i := 1 + x) (j := 0) (k := 1 + K) (by omega) (by omega) (by omega)
      have Jg4 := tr_tri hcd hcr hok (i := 1 + K) (j := 0) (k := 1 + x) (by omega) (by omega) (by omega)
      rw [← edxk, ← edx0, ← ed0k] at Jg3
      rw [← edkx, ← edk0, ← ed0x] at Jg4
      rw [← edk0] at tk0
      rw [← ed0k] at tk1
      have hMk := htr.mins K hKN
      rw [← epk] at hMk
      have Jf4 := tr_ev (c := toldC c b M FL) (l := crsBy c b c.clues.length) hcd hKN
      rw [← edk0, ← ed0k] at Jf4
      have hdb := dist_bd hcd hcr.neg hok
      have hb1_ := hdb (1 + x) 0 (by omega) (by omega)
      have hb2_ := hdb 0 (1 + x) (by omega) (by omega)
      have hb3_ := hdb (1 + K) 0 (by omega) (by omega)
      have hb4_ := hdb 0 (1 + K) (by omega) (by omega)
      have hb5_ := hdb (1 + x) (1 + K) (by omega) (by omega)
      have hb6_ := hdb (1 + K) (1 + x) (by omega) (by omega)
      rw [← edx0] at hb1_
      rw [← ed0x] at hb2_
      rw [← edk0] at hb3_
      rw [← ed0k] at hb4_
      rw [← edxk] at hb5_
      rw [← edkx] at hb6_
      refine EC.seq ?_
      refine EC.seq ?_
      refine EC.region ?_
      refine EL.val (x_move rfl) rfl ?_
      refine EL.val (x_move rfl) rfl ?_
      refine EL.val (ln_22 rfl) rfl ?_
      refine EL.val (x_lss rfl rfl (decide_eq_true (show (((x : Nat) : Int) < ((Ne : Nat) : Int)) by omega))) rfl ?_
      refine EL.nil ?_
      refine EX.seq ?_
      refine EC.yes rfl ?_
      refine EC.skip ?_
      refine EX.seq ?_
      refine EC.seq ?_
      refine EC.block ?_
      refine EC.seq ?_
      refine EC.seq ?_
      refine EC.regionQ (by kernel_rfl) (by kernel_rfl) ?_
      refine EQ.val (fun _ hw => (x_move rfl)) rfl ?_
      refine EQ.val (fun _ hw => (x_move rfl)) rfl ?_
      refine EQ.val (fun _ hw => (ix_26 rfl rfl hlt)) rfl ?_
      refine EQ.val (fun _ hw => (ld_3 rfl (below_load hw (below_load hbT cx)))) rfl ?_
      refine EQ.val (fun _ hw => (x_move rfl)) rfl ?_
      refine EQ.val (fun _ hw => (x_move rfl)) rfl ?_
      refine EQ.val (fun _ hw => (ix_22 rfl rfl hlt)) rfl ?_
      refine EQ.val (fun _ hw => (fa_54_0 rfl)) rfl ?_
      refine EQ.val (fun _ hw => (ld_3 rfl (below_load hw (below_load hbX tx0)))) rfl ?_
      refine EQ.val (fun _ hw => (x_lss (r := false) rfl rfl (decide_eq_false (by omega)))) rfl ?_
      refine EQ.val (fun _ hw => (x_move rfl)) rfl ?_
      refine EQ.valg rfl rfl (fun _ hw => (x_move rfl)) rfl ?_
      refine EQ.valg rfl rfl (fun _ hw => (x_move rfl)) rfl ?_
      refine EQ.valg rfl rfl (fun _ hw => (ix_26 rfl rfl hlt)) rfl ?_
      refine EQ.valg rfl rfl (fun _ hw => (ld_3 rfl (below_load hw (below_load hbT cx)))) rfl ?_
      refine EQ.valg rfl rfl (fun _ hw => (x_move rfl)) rfl ?_
      refine EQ.valg rfl rfl (fun _ hw => (x_move rfl)) rfl ?_
      refine EQ.valg rfl rfl (fun _ hw => (ix_22 rfl rfl hlt)) rfl ?_
      refine EQ.valg rfl rfl (fun _ hw => (fa_54_1 rfl)) rfl ?_
      refine EQ.valg rfl rfl (fun _ hw => (ld_3 rfl (below_load hw (below_load hbX tx1)))) rfl ?_
      refine EQ.valg rfl rfl (fun _ hw => (x_gtr (r := false) rfl rfl (decide_eq_false (by omega)))) rfl ?_
      refine EQ.val (fun _ hw => (x_pick_f rfl rfl)) rfl ?_
      refine EQ.val (fun _ hw => (x_move rfl)) rfl ?_
      refine EQ.valg rfl rfl (fun _ hw => (x_move rfl)) rfl ?_
      refine EQ.valg rfl rfl (fun _ hw => (x_move rfl)) rfl ?_
      refine EQ.valg rfl rfl (fun _ hw => (ix_22 rfl rfl hlt)) rfl ?_
      refine EQ.valg rfl rfl (fun _ hw => (fa_54_0 rfl)) rfl ?_
      refine EQ.valg rfl rfl (fun _ hw => (ld_3 rfl (below_load hw (below_load hbX tx0)))) rfl ?_
      refine EQ.valg rfl rfl (fun _ hw => (x_lss (r := false) rfl rfl (decide_eq_false (by omega)))) rfl ?_
      refine EQ.val (fun _ hw => (x_pick_f rfl rfl)) rfl ?_
      refine EQ.val (fun _ hw => (x_move rfl)) rfl ?_
      refine EQ.valg rfl rfl (fun _ hw => (x_move rfl)) rfl ?_
      refine EQ.valg rfl rfl (fun _ hw => (x_move rfl)) rfl ?_
      refine EQ.valg rfl rfl (fun _ hw => (ix_22 rfl rfl hlt)) rfl ?_
      refine EQ.valg rfl rfl (fun _ hw => (fa_54_1 rfl)) rfl ?_
      refine EQ.valg rfl rfl (fun _ hw => (ld_3 rfl (below_load hw (below_load hbX tx1)))) rfl ?_
      refine EQ.valg rfl rfl (fun _ hw => (x_gtr (r := false) rfl rfl (decide_eq_false (by omega)))) rfl ?_
      refine EQ.val (fun _ hw => (x_pick_f rfl rfl)) rfl ?_
      refine EQ.fin (fun w17 hw_ => ?_)
      replace q2x := q2x.below hw_ q2x.lt
      replace q5x := q5x.below hw_ q5x.lt
      replace hbw := Below.on hbw hw_ hbw.size
      replace hbT := Below.on hbT hw_ hbT.size
      replace hbX := Below.on hbX hw_ hbX.size
      clear hw_
      refine EX.seq ?_
      refine EC.no rfl ?_
      refine EC.skip ?_
      refine EX.seq ?_
      refine EC.seq ?_
      refine EC.region ?_
      refine EL.val (x_move rfl) rfl ?_
      refine EL.val (x_move rfl) rfl ?_
      refine EL.call (cl_34 rfl rfl) rfl (part_any b _ x _ B (hrb.below (hbw.mono hB)) hnb) ?_
      rintro e w18 ⟨rfl, hc18⟩
      refine ⟨_, rfl, ?_⟩
      replace q2x := q2x.below hc18 q2x.lt
      replace q5x := q5x.below hc18 q5x.lt
      replace hbw := Below.on hbw hc18 hbw.size
      replace hbT := Below.on hbT hc18 hbT.size
      replace hbX := Below.on hbX hc18 hbX.size
      clear hc18
      refine EL.val (cv_5_3 rfl (IntWalk.i64_in _ ⟨by omega, by omega⟩)) rfl ?_
      refine EL.val (x_move rfl) rfl ?_
      refine EL.val (ln_22 rfl) rfl ?_
      refine EL.val (x_rem rfl rfl (c := ((K : Nat) : Int)) (by omega) eK2) rfl ?_
      refine EL.val (x_assign rfl) rfl ?_
      refine EL.nil ?_
      refine EX.seq ?_
      refine EC.seq ?_
      refine EC.region ?_
      refine EL.val (ld_25 rfl (q5x.at (j := 0) rfl) (q5x.at (j := 1) rfl) (q5x.at (j := 2) rfl)) rfl ?_
      refine EL.call (cl_14 rfl) rfl (copied_any (toldC c b M FL) _ _ ws _ _ (hRD.below hbT) hbT.size hn1D hn2D smD) ?_
      rintro e w20 ⟨⟨vaq19, vbq19, wsq19, rfl, hoq19⟩, hc20⟩
      refine ⟨_, rfl, ?_⟩
      replace q2x := q2x.below hc20 q2x.lt
      replace q5x := q5x.below hc20 q5x.lt
      replace hbw := Below.on hbw hc20 hbw.size
      replace hbT := Below.on hbT hc20 hbT.size
      replace hbX := Below.on hbX hc20 hbX.size
      clear hc20
      have hrq19 := hoq19.rd
      obtain ⟨Adq19, cdq19, rfl, _⟩ := hrq19.clocks.shape
      obtain ⟨Amq19, cmq19, rfl, _⟩ := hrq19.clues.rd.shape
      have hbq19 := Below.refl w20.heap.size w20
      refine EL.val (x_move rfl) rfl ?_
      refine EL.call (cl_15 rfl) rfl (ints_any (crsBy c b c.clues.length) _ _ wT.heap.size (hr3.below hbT) hbT.size (by omega)) ?_
      rintro e w22 ⟨⟨vlq21, rfl, holq21⟩, hc22⟩
      refine ⟨_, rfl, ?_⟩
      replace q2x := q2x.below hc22 q2x.lt
      replace q5x := q5x.below hc22 q5x.lt
      replace hbw := Below.on hbw hc22 hbw.size
      replace hbT := Below.on hbT hc22 hbT.size
      replace hbX := Below.on hbX hc22 hbX.size
      replace hbq19 := Below.on hbq19 hc22 hbq19.size
      clear hc22
      have hlq21 := Rd.of_own holq21
      obtain ⟨Aiq21, ciq21, rfl, _⟩ := hlq21.shape
      have hzq21 := hbq19.size
      have hbq21 := Below.refl w22.heap.size w22
      refine EL.val (x_move rfl) rfl ?_
      refine EL.val (x_move rfl) rfl ?_
      have hin : (inB 0 ((toldC c b M FL).events - 1) ((x : Nat) : Int) && inB 0 ((toldC c b M FL).events - 1) ((K : Nat) : Int)) = true := by rw [Bool.and_eq_true, inB_iff, inB_iff]; show (0 ≤ ((x : Nat) : Int) ∧ ((x : Nat) : Int) ≤ c.events - 1) ∧ (0 ≤ ((K : Nat) : Int) ∧ ((K : Nat) : Int) ≤ c.events - 1); omega
      refine EL.call (cl_28 rfl rfl rfl rfl) rfl (between_to (btw_ok hst hin hfit).1 (show _ = (⟨-dkx, dxk⟩ : Bd) by rw [(btw_ok hst hin hfit).2, apart_dist hcd hcr hok (by omega) (by omega), edxk, edkx]) _ _ wsq19 _ _ ((hrq19.below hbq19).more hzq21) hbq21.size hn1D hn2D _ (hlq21.below hbq21) hLn) ?_
      rintro e w23 ⟨rfl, hc23⟩
      refine ⟨_, rfl, ?_⟩
      replace q2x := q2x.below hc23 q2x.lt
      replace q5x := q5x.below hc23 q5x.lt
      replace hbw := Below.on hbw hc23 hbw.size
      replace hbT := Below.on hbT hc23 hbT.size
      replace hbX := Below.on hbX hc23 hbX.size
      replace hbq19 := Below.on hbq19 hc23 hbq19.size
      replace hbq21 := Below.on hbq21 hc23 hbq21.size
      clear hc23
      refine EL.val (x_move rfl) rfl ?_
      refine EL.val (x_extract rfl rfl) rfl ?_
      refine EL.val (x_extract rfl rfl) rfl ?_
      refine EL.newP al_54 rfl ?_
      intro g24 w24 q24 hb24 hg24 hl24
      have n1_24 : g1 ≠ g24 := Nat.ne_of_lt (Nat.lt_of_lt_of_le q2x.lt hg24)
      have n5_24 : g5 ≠ g24 := Nat.ne_of_lt (Nat.lt_of_lt_of_le q5x.lt hg24)
      have bhbw_24 := Nat.le_trans hbw.size hg24
      have bhbT_24 := Nat.le_trans hbT.size hg24
      have bhbX_24 := Nat.le_trans hbX.size hg24
      have bhbq19_24 := Nat.le_trans hbq19.size hg24
      have bhbq21_24 := Nat.le_trans hbq21.size hg24
      replace q2x := q2x.below hb24 q2x.lt
      replace q5x := q5x.below hb24 q5x.lt
      replace hbw := Below.on hbw hb24 hbw.size
      replace hbT := Below.on hbT hb24 hbT.size
      replace hbX := Below.on hbX hb24 hbX.size
      replace hbq19 := Below.on hbq19 hb24 hbq19.size
      replace hbq21 := Below.on hbq21 hb24 hbq21.size
      clear hb24 hg24 hl24
      refine EL.store rfl rfl q24 sz_54 rfl rfl rfl rfl ?_
      intro w25 hq25 hg25
      replace q2x := q2x.grown hg25 (fun h => n1_24 (Option.some.inj h))
      replace q5x := q5x.grown hg25 (fun h => n5_24 (Option.some.inj h))
      replace hbw := below_store hbw hg25 bhbw_24
      replace hbT := below_store hbT hg25 bhbT_24
      replace hbX := below_store hbX hg25 bhbX_24
      replace hbq19 := below_store hbq19 hg25 bhbq19_24
      replace hbq21 := below_store hbq21 hg25 bhbq21_24
      replace q24 := hq25
      clear hg25 hq25
      refine EL.val (x_assign rfl) rfl ?_
      refine EL.nil ?_
      refine EX.seq ?_
      refine EC.seq ?_
      refine EC.region ?_
      refine EL.val (ld_25 rfl (q5x.at (j := 0) rfl) (q5x.at (j := 1) rfl) (q5x.at (j := 2) rfl)) rfl ?_
      refine EL.call (cl_14 rfl) rfl (copied_any (toldC c b M FL) _ _ ws _ _ (hRD.below hbT) hbT.size hn1D hn2D smD) ?_
      rintro e w27 ⟨⟨vaq26, vbq26, wsq26, rfl, hoq26⟩, hc27⟩
      refine ⟨_, rfl, ?_⟩
      replace q2x := q2x.below hc27 q2x.lt
      replace q5x := q5x.below hc27 q5x.lt
      replace q24 := q24.below hc27 q24.lt
      replace hbw := Below.on hbw hc27 hbw.size
      replace hbT := Below.on hbT hc27 hbT.size
      replace hbX := Below.on hbX hc27 hbX.size
      replace hbq19 := Below.on hbq19 hc27 hbq19.size
      replace hbq21 := Below.on hbq21 hc27 hbq21.size
      clear hc27
      have hrq26 := hoq26.rd
      obtain ⟨Adq26, cdq26, rfl, _⟩ := hrq26.clocks.shape
      obtain ⟨Amq26, cmq26, rfl, _⟩ := hrq26.clues.rd.shape
      have hbq26 := Below.refl w27.heap.size w27
      refine EL.val (x_move rfl) rfl ?_
      refine EL.call (cl_15 rfl) rfl (ints_any (crsBy c b c.clues.length) _ _ wT.heap.size (hr3.below hbT) hbT.size (by omega)) ?_
      rintro e w29 ⟨⟨vlq28, rfl, holq28⟩, hc29⟩
      refine ⟨_, rfl, ?_⟩
      replace q2x := q2x.below hc29 q2x.lt
      replace q5x := q5x.below hc29 q5x.lt
      replace q24 := q24.below hc29 q24.lt
      replace hbw := Below.on hbw hc29 hbw.size
      replace hbT := Below.on hbT hc29 hbT.size
      replace hbX := Below.on hbX hc29 hbX.size
      replace hbq19 := Below.on hbq19 hc29 hbq19.size
      replace hbq21 := Below.on hbq21 hc29 hbq21.size
      replace hbq26 := Below.on hbq26 hc29 hbq26.size
      clear hc29
      have hlq28 := Rd.of_own holq28
      obtain ⟨Aiq28, ciq28, rfl, _⟩ := hlq28.shape
      have hzq28 := hbq26.size
      have hbq28 := Below.refl w29.heap.size w29
      refine EL.val (x_move rfl) rfl ?_
      refine EL.val (x_move rfl) rfl ?_
      have hin : (inB 0 ((toldC c b M FL).events - 1) ((K : Nat) : Int) && inB 0 ((toldC c b M FL).events - 1) ((x : Nat) : Int)) = true := by rw [Bool.and_eq_true, inB_iff, inB_iff]; show (0 ≤ ((K : Nat) : Int) ∧ ((K : Nat) : Int) ≤ c.events - 1) ∧ (0 ≤ ((x : Nat) : Int) ∧ ((x : Nat) : Int) ≤ c.events - 1); omega
      refine EL.call (cl_28 rfl rfl rfl rfl) rfl (between_to (btw_ok hst hin hfit).1 (show _ = (⟨-dxk, dkx⟩ : Bd) by rw [(btw_ok hst hin hfit).2, apart_dist hcd hcr hok (by omega) (by omega), edxk, edkx]) _ _ wsq26 _ _ ((hrq26.below hbq26).more hzq28) hbq28.size hn1D hn2D _ (hlq28.below hbq28) hLn) ?_
      rintro e w30 ⟨rfl, hc30⟩
      refine ⟨_, rfl, ?_⟩
      replace q2x := q2x.below hc30 q2x.lt
      replace q5x := q5x.below hc30 q5x.lt
      replace q24 := q24.below hc30 q24.lt
      replace hbw := Below.on hbw hc30 hbw.size
      replace hbT := Below.on hbT hc30 hbT.size
      replace hbX := Below.on hbX hc30 hbX.size
      replace hbq19 := Below.on hbq19 hc30 hbq19.size
      replace hbq21 := Below.on hbq21 hc30 hbq21.size
      replace hbq26 := Below.on hbq26 hc30 hbq26.size
      replace hbq28 := Below.on hbq28 hc30 hbq28.size
      clear hc30
      refine EL.val (x_move rfl) rfl ?_
      refine EL.val (x_extract rfl rfl) rfl ?_
      refine EL.val (x_extract rfl rfl) rfl ?_
      refine EL.newP al_54 rfl ?_
      intro g31 w31 q31 hb31 hg31 hl31
      have n1_31 : g1 ≠ g31 := Nat.ne_of_lt (Nat.lt_of_lt_of_le q2x.lt hg31)
      have n5_31 : g5 ≠ g31 := Nat.ne_of_lt (Nat.lt_of_lt_of_le q5x.lt hg31)
      have n24_31 : g24 ≠ g31 := Nat.ne_of_lt (Nat.lt_of_lt_of_le q24.lt hg31)
      have bhbw_31 := Nat.le_trans hbw.size hg31
      have bhbT_31 := Nat.le_trans hbT.size hg31
      have bhbX_31 := Nat.le_trans hbX.size hg31
      have bhbq19_31 := Nat.le_trans hbq19.size hg31
      have bhbq21_31 := Nat.le_trans hbq21.size hg31
      have bhbq26_31 := Nat.le_trans hbq26.size hg31
      have bhbq28_31 := Nat.le_trans hbq28.size hg31
      replace q2x := q2x.below hb31 q2x.lt
      replace q5x := q5x.below hb31 q5x.lt
      replace q24 := q24.below hb31 q24.lt
      replace hbw := Below.on hbw hb31 hbw.size
      replace hbT := Below.on hbT hb31 hbT.size
      replace hbX := Below.on hbX hb31 hbX.size
      replace hbq19 := Below.on hbq19 hb31 hbq19.size
      replace hbq21 := Below.on hbq21 hb31 hbq21.size
      replace hbq26 := Below.on hbq26 hb31 hbq26.size
      replace hbq28 := Below.on hbq28 hb31 hbq28.size
      clear hb31 hg31 hl31
      refine EL.store rfl rfl q31 sz_54 rfl rfl rfl rfl ?_
      intro w32 hq32 hg32
      replace q2x := q2x.grown hg32 (fun h => n1_31 (Option.some.inj h))
      replace q5x := q5x.grown hg32 (fun h => n5_31 (Option.some.inj h))
      replace q24 := q24.grown hg32 (fun h => n24_31 (Option.some.inj h))
      replace hbw := below_store hbw hg32 bhbw_31
      replace hbT := below_store hbT hg32 bhbT_31
      replace hbX := below_store hbX hg32 bhbX_31
      replace hbq19 := below_store hbq19 hg32 bhbq19_31
      replace hbq21 := below_store hbq21 hg32 bhbq21_31
      replace hbq26 := below_store hbq26 hg32 bhbq26_31
      replace hbq28 := below_store hbq28 hg32 bhbq28_31
      replace q31 := hq32
      clear hg32 hq32
      refine EL.val (x_assign rfl) rfl ?_
      refine EL.nil ?_
      refine EX.seq ?_
      refine EC.seq ?_
      refine EC.regionQ (by kernel_rfl) (by kernel_rfl) ?_
      refine EQ.val (fun _ hw => (x_move rfl)) rfl ?_
      refine EQ.val (fun _ hw => (x_move rfl)) rfl ?_
      refine EQ.val (fun _ hw => (ix_26 rfl rfl hKn)) rfl ?_
      refine EQ.val (fun _ hw => (ld_3 rfl (below_load hw (below_load hbT ck)))) rfl ?_
      refine EQ.val (fun _ hw => (x_move rfl)) rfl ?_
      refine EQ.val (fun _ hw => (x_move rfl)) rfl ?_
      refine EQ.val (fun _ hw => (ix_26 rfl rfl hlt)) rfl ?_
      refine EQ.val (fun _ hw => (ld_3 rfl (below_load hw (below_load hbT cx)))) rfl ?_
      refine EQ.val (fun _ hw => (x_sub rfl rfl (c := pk - px) (IntWalk.i64_in _ ⟨by omega, by omega⟩))) rfl ?_
      refine EQ.val (fun _ hw => (x_assign rfl)) rfl ?_
      refine EQ.fin (fun w33 hw_ => ?_)
      replace q2x := q2x.below hw_ q2x.lt
      replace q5x := q5x.below hw_ q5x.lt
      replace q24 := q24.below hw_ q24.lt
      replace q31 := q31.below hw_ q31.lt
      replace hbw := Below.on hbw hw_ hbw.size
      replace hbT := Below.on hbT hw_ hbT.size
      replace hbX := Below.on hbX hw_ hbX.size
      replace hbq19 := Below.on hbq19 hw_ hbq19.size
      replace hbq21 := Below.on hbq21 hw_ hbq21.size
      replace hbq26 := Below.on hbq26 hw_ hbq26.size
      replace hbq28 := Below.on hbq28 hw_ hbq28.size
      clear hw_
      refine EX.seq ?_
      refine EC.seq ?_
      have q24 : Blk w33 g24 54 #[.int .i64 (-dkx), .int .i64 (dxk)] := q24
      have q31 : Blk w33 g31 54 #[.int .i64 (-dxk), .int .i64 (dkx)] := q31
      refine EC.regionQ (by kernel_rfl) (by kernel_rfl) ?_
      refine EQ.val (fun _ hw => (x_move rfl)) rfl ?_
      refine EQ.val (fun _ hw => (x_neq (r := false) rfl rfl (by decide))) rfl ?_
      refine EQ.val (fun _ hw => (x_move rfl)) rfl ?_
      refine EQ.valg rfl rfl (fun _ hw => (x_move rfl)) rfl ?_
      refine EQ.valg rfl rfl (fun _ hw => (x_neq (r := false) rfl rfl (by decide))) rfl ?_
      refine EQ.val (fun _ hw => (x_pick_f rfl rfl)) rfl ?_
      refine EQ.val (fun _ hw => (x_move rfl)) rfl ?_
      refine EQ.valg rfl rfl (fun _ hw => (x_move rfl)) rfl ?_
      refine EQ.valg rfl rfl (fun _ hw => (fa_54_0 rfl)) rfl ?_
      refine EQ.valg rfl rfl (fun _ hw => (ld_3 rfl (below_load hw (q24.at (j := 0) rfl)))) rfl ?_
      refine EQ.valg rfl rfl (fun _ hw => (x_lss (r := false) rfl rfl (decide_eq_false (by omega)))) rfl ?_
      refine EQ.val (fun _ hw => (x_pick_f rfl rfl)) rfl ?_
      refine EQ.val (fun _ hw => (x_move rfl)) rfl ?_
      refine EQ.valg rfl rfl (fun _ hw => (x_move rfl)) rfl ?_
      refine EQ.valg rfl rfl (fun _ hw => (fa_54_1 rfl)) rfl ?_
      refine EQ.valg rfl rfl (fun _ hw => (ld_3 rfl (below_load hw (q24.at (j := 1) rfl)))) rfl ?_
      refine EQ.valg rfl rfl (fun _ hw => (x_gtr (r := false) rfl rfl (decide_eq_false (by omega)))) rfl ?_
      refine EQ.val (fun _ hw => (x_pick_f rfl rfl)) rfl ?_
      refine EQ.val (fun _ hw => (x_move rfl)) rfl ?_
      refine EQ.valg rfl rfl (fun _ hw => (ld_54 rfl (below_load hw (q31.at (j := 0) rfl)) (below_load hw (q31.at (j := 1) rfl)))) rfl ?_
      refine EQ.valg rfl rfl (fun _ hw => (fa_54_1 rfl)) rfl ?_
      refine EQ.valg rfl rfl (fun _ hw => (ld_3 rfl (below_load hw (q24.at (j := 1) rfl)))) rfl ?_
      refine EQ.valg rfl rfl (fun _ hw => (x_neg rfl (c := -dxk) (IntWalk.i64_in _ ⟨by omega, by omega⟩))) rfl ?_
      refine EQ.valg rfl rfl (fun _ hw => (fa_54_0 rfl)) rfl ?_
      refine EQ.valg rfl rfl (fun _ hw => (ld_3 rfl (below_load hw (q24.at (j := 0) rfl)))) rfl ?_
      refine EQ.valg rfl rfl (fun _ hw => (x_neg rfl (c := dkx) ((IntWalk.i64_in _ ⟨by omega, by omega⟩).trans (by omega)))) rfl ?_
      refine EQ.valg rfl rfl (fun _ hw => (bd_54_0_1 rfl rfl)) rfl ?_
      refine EQ.valg rfl rfl (fun _ hw => (neq_54 (r := false) rfl rfl (by simp))) rfl ?_
      refine EQ.val (fun _ hw => (x_pick_f rfl rfl)) rfl ?_
      refine EQ.val (fun _ hw => (x_move rfl)) rfl ?_
      refine EQ.valg rfl rfl (fun _ hw => (fa_54_0 rfl)) rfl ?_
      refine EQ.valg rfl rfl (fun _ hw => (ld_3 rfl (below_load hw (q24.at (j := 0) rfl)))) rfl ?_
      refine EQ.valg rfl rfl (fun _ hw => (x_move rfl)) rfl ?_
      refine EQ.valg rfl rfl (fun _ hw => (x_move rfl)) rfl ?_
      refine EQ.valg rfl rfl (fun _ hw => (ix_22 rfl rfl hKn)) rfl ?_
      refine EQ.valg rfl rfl (fun _ hw => (fa_54_0 rfl)) rfl ?_
      refine EQ.valg rfl rfl (fun _ hw => (ld_3 rfl (below_load hw (below_load hbX tk0)))) rfl ?_
      refine EQ.valg rfl rfl (fun _ hw => (x_move rfl)) rfl ?_
      refine EQ.valg rfl rfl (fun _ hw => (x_move rfl)) rfl ?_
      refine EQ.valg rfl rfl (fun _ hw => (ix_22 rfl rfl hlt)) rfl ?_
      refine EQ.valg rfl rfl (fun _ hw => (fa_54_1 rfl)) rfl ?_
      refine EQ.valg rfl rfl (fun _ hw => (ld_3 rfl (below_load hw (below_load hbX tx1)))) rfl ?_
      refine EQ.valg rfl rfl (fun _ hw => (x_sub rfl rfl (c := -dk0 - d0x) (IntWalk.i64_in _ ⟨by omega, by omega⟩))) rfl ?_
      refine EQ.valg rfl rfl (fun _ hw => (x_lss (r := false) rfl rfl (decide_eq_false (by omega)))) rfl ?_
      refine EQ.val (fun _ hw => (x_pick_f rfl rfl)) rfl ?_
      refine EQ.val (fun _ hw => (x_move rfl)) rfl ?_
      refine EQ.valg rfl rfl (fun _ hw => (fa_54_1 rfl)) rfl ?_
      refine EQ.valg rfl rfl (fun _ hw => (ld_3 rfl (below_load hw (q24.at (j := 1) rfl)))) rfl ?_
      refine EQ.valg rfl rfl (fun _ hw => (x_move rfl)) rfl ?_
      refine EQ.valg rfl rfl (fun _ hw => (x_move rfl)) rfl ?_
      refine EQ.valg rfl rfl (fun _ hw => (ix_22 rfl rfl hKn)) rfl ?_
      refine EQ.valg rfl rfl (fun _ hw => (fa_54_1 rfl)) rfl ?_
      refine EQ.valg rfl rfl (fun _ hw => (ld_3 rfl (below_load hw (below_load hbX tk1)))) rfl ?_
      refine EQ.valg rfl rfl (fun _ hw => (x_move rfl)) rfl ?_
      refine EQ.valg rfl rfl (fun _ hw => (x_move rfl)) rfl ?_
      refine EQ.valg rfl rfl (fun _ hw => (ix_22 rfl rfl hlt)) rfl ?_
      refine EQ.valg rfl rfl (fun _ hw => (fa_54_0 rfl)) rfl ?_
      refine EQ.valg rfl rfl (fun _ hw => (ld_3 rfl (below_load hw (below_load hbX tx0)))) rfl ?_
      refine EQ.valg rfl rfl (fun _ hw => (x_sub rfl rfl (c := d0k - -dx0) (IntWalk.i64_in _ ⟨by omega, by omega⟩))) rfl ?_
      refine EQ.valg rfl rfl (fun _ hw => (x_gtr (r := false) rfl rfl (decide_eq_false (by omega)))) rfl ?_
      refine EQ.val (fun _ hw => (x_pick_f rfl rfl)) rfl ?_
      refine EQ.fin (fun w34 hw_ => ?_)
      replace q2x := q2x.below hw_ q2x.lt
      replace q5x := q5x.below hw_ q5x.lt
      replace q24 := q24.below hw_ q24.lt
      replace q31 := q31.below hw_ q31.lt
      replace hbw := Below.on hbw hw_ hbw.size
      replace hbT := Below.on hbT hw_ hbT.size
      replace hbX := Below.on hbX hw_ hbX.size
      replace hbq19 := Below.on hbq19 hw_ hbq19.size
      replace hbq21 := Below.on hbq21 hw_ hbq21.size
      replace hbq26 := Below.on hbq26 hw_ hbq26.size
      replace hbq28 := Below.on hbq28 hw_ hbq28.size
      clear hw_
      refine EX.seq ?_
      refine EC.no rfl ?_
      refine EC.skip ?_
      refine EX.blk ?_
      refine EX.seq ?_
      refine EC.region ?_
      refine EL.val (x_move rfl) rfl ?_
      refine EL.val (x_add rfl rfl (c := ((x + 1 : Nat) : Int)) ((IntWalk.i64_in _ ⟨by first | omega | (simp only; omega), by first | omega | (simp only; omega)⟩).trans (by first | omega | (simp only; omega)))) rfl ?_
      refine EL.val (x_assign rfl) rfl ?_
      refine EL.nil ?_
      refine EX.roundD (x + 1) ⟨rfl, trivial⟩ (by repeat first | with_reducible exact Sub.refl _ | refine sub_past rfl ?_ | exact Sub.refl _ | refine sub_del rfl ?_ | refine sub_insL_nil ?_) ⟨hlt, q2x, q5x, hbw, hbT, hbX⟩ (by omega)
    ·
      have hxe : x = Ne := by omega
      refine EC.seq ?_
      refine EC.seq ?_
      refine EC.region ?_
      refine EL.val (x_move rfl) rfl ?_
      refine EL.val (x_move rfl) rfl ?_
      refine EL.val (ln_22 rfl) rfl ?_
      refine EL.val (x_lss rfl rfl (decide_eq_false (show ¬(((x : Nat) : Int) < ((Ne : Nat) : Int)) by omega))) rfl ?_
      refine EL.nil ?_
      refine EX.seq ?_
      refine EC.no rfl ?_
      refine EC.exit ?_
      refine EX.seq_exit ?_
      refine EX.seq_exit ?_
      refine EX.blk_here ?_
      refine EX.seq ?_
      refine EC.seq ?_
      refine EC.region ?_
      refine EL.val (ld_25 rfl (q5x.at (j := 0) rfl) (q5x.at (j := 1) rfl) (q5x.at (j := 2) rfl)) rfl ?_
      refine EL.call (cl_14 rfl) rfl (copied_any (toldC c b M FL) _ _ ws _ _ (hRD.below hbT) hbT.size hn1D hn2D smD) ?_
      rintro e w36 ⟨⟨vaq35, vbq35, wsq35, rfl, hoq35⟩, hc36⟩
      refine ⟨_, rfl, ?_⟩
      replace q2x := q2x.below hc36 q2x.lt
      replace q5x := q5x.below hc36 q5x.lt
      replace hbw := Below.on hbw hc36 hbw.size
      replace hbT := Below.on hbT hc36 hbT.size
      replace hbX := Below.on hbX hc36 hbX.size
      clear hc36
      have hrq35 := hoq35.rd
      obtain ⟨Adq35, cdq35, rfl, _⟩ := hrq35.clocks.shape
      obtain ⟨Amq35, cmq35, rfl, _⟩ := hrq35.clues.rd.shape
      have hbq35 := Below.refl w36.heap.size w36
      by_cases hmn : 512 < manyC (toldC c b M FL)
      ·
        refine EL.call (cl_21 rfl) rfl (courses_to (crs_many hcd hmn) (crsRes_no (by rw [crs_many hcd hmn]; decide)) _ _ wsq35 _ _ (hrq35.below hbq35) hbq35.size hn1D hn2D) ?_
        rintro e w37 ⟨⟨vQ, us, rfl, hrQ⟩, hc37⟩
        refine ⟨_, rfl, ?_⟩
        replace q2x := q2x.below hc37 q2x.lt
        replace q5x := q5x.below hc37 q5x.lt
        replace hbw := Below.on hbw hc37 hbw.size
        replace hbT := Below.on hbT hc37 hbT.size
        replace hbX := Below.on hbX hc37 hbX.size
        replace hbq35 := Below.on hbq35 hc37 hbq35.size
        clear hc37
        obtain ⟨AQ, cQ, rfl, _⟩ := hrQ.rd.shape
        have hsTQ := hbT.size
        have hbQ := Below.refl w37.heap.size w37
        refine EL.val (x_move rfl) rfl ?_
        refine EL.val (x_extract rfl rfl) rfl ?_
        refine EL.val (x_extract rfl rfl) rfl ?_
        refine EL.val (x_assign rfl) rfl ?_
        refine EL.val (x_assign rfl) rfl ?_
        refine EL.nil ?_
        refine EX.seq ?_
        refine EC.seq ?_
        refine EC.seq ?_
        refine EC.region ?_
        refine EL.val (x_move rfl) rfl ?_
        refine EL.val (x_neq (r := true) rfl rfl (by decide)) rfl ?_
        refine EL.nil ?_
        refine EX.seq ?_
        refine EC.yes rfl ?_
        refine EC.seq ?_
        refine EC.region ?_
        refine EL.val (x_move rfl) rfl ?_
        refine EL.val (x_eql (r := true) rfl rfl (decide_eq_true rfl)) rfl ?_
        refine EL.val (x_move rfl) rfl ?_
        refine EL.valg rfl rfl (x_move rfl) rfl ?_
        refine EL.valg rfl rfl (ln_41 rfl) rfl ?_
        refine EL.valg rfl rfl (x_eql (r := true) rfl rfl (decide_eq_true rfl)) rfl ?_
        refine EL.val (x_pick_t rfl rfl) rfl ?_
        refine EL.val (x_move rfl) rfl ?_
        refine EL.callg rfl rfl cl_12 rfl (known_any _) ?_
        rintro e w38 ⟨rfl, hc38⟩
        refine ⟨_, rfl, ?_⟩
        replace q2x := q2x.below hc38 q2x.lt
        replace q5x := q5x.below hc38 q5x.lt
        replace hbw := Below.on hbw hc38 hbw.size
        replace hbT := Below.on hbT hc38 hbT.size
        replace hbX := Below.on hbX hc38 hbX.size
        replace hbq35 := Below.on hbq35 hc38 hbq35.size
        replace hbQ := Below.on hbQ hc38 hbQ.size
        clear hc38
        refine EL.val (x_pick_t rfl rfl) rfl ?_
        refine EL.val (x_assign rfl) rfl ?_
        refine EL.nil ?_
        refine EX.seq ?_
        refine EC.ret ?_
        refine EX.seq_ret ?_
        exact EX.done (res1 rfl rfl) ⟨rfl, hbw⟩
      ·
        refine EL.call (cl_21 rfl) rfl (courses_to (crs_ok hcd hmn) (crsRes_ok (crs_ok hcd hmn)) _ _ wsq35 _ _ (hrq35.below hbq35) hbq35.size hn1D hn2D) ?_
        rintro e w39 ⟨⟨vQ, us, rfl, hrQ⟩, hc39⟩
        refine ⟨_, rfl, ?_⟩
        replace q2x := q2x.below hc39 q2x.lt
        replace q5x := q5x.below hc39 q5x.lt
        replace hbw := Below.on hbw hc39 hbw.size
        replace hbT := Below.on hbT hc39 hbT.size
        replace hbX := Below.on hbX hc39 hbX.size
        replace hbq35 := Below.on hbq35 hc39 hbq35.size
        clear hc39
        obtain ⟨QL, eQ⟩ : ∃ z, z = coursesL (toldC c b M FL) := ⟨_, rfl⟩
        rw [← eQ] at hrQ
        obtain ⟨AQ, cQ, rfl, _⟩ := hrQ.rd.shape
        have hsTQ := hbT.size
        have hbQ := Below.refl w39.heap.size w39
        refine EL.val (x_move rfl) rfl ?_
        refine EL.val (x_extract rfl rfl) rfl ?_
        refine EL.val (x_extract rfl rfl) rfl ?_
        refine EL.val (x_assign rfl) rfl ?_
        refine EL.val (x_assign rfl) rfl ?_
        refine EL.nil ?_
        refine EX.seq ?_
        refine EC.seq ?_
        refine EC.seq ?_
        refine EC.region ?_
        refine EL.val (x_move rfl) rfl ?_
        refine EL.val (x_neq (r := false) rfl rfl (by decide)) rfl ?_
        refine EL.nil ?_
        refine EX.seq ?_
        refine EC.no rfl ?_
        refine EC.skip ?_
        refine EX.seq ?_
        refine EC.seq ?_
        refine EC.region ?_
        refine EL.val (x_assign rfl) rfl ?_
        refine EL.nil ?_
        refine EX.seq ?_
        refine EC.seq ?_
        refine EC.seq ?_
        refine EC.region ?_
        refine EL.val (x_assign rfl) rfl ?_
        refine EL.nil ?_
        refine EX.seq ?_
        refine EC.block ?_
        have hin := mem_courses hcd hcr (by rw [hlD, hLl]) hok
        have hne : coursesL (toldC c b M FL) ≠ [] := fun e => by rw [e] at hin; cases hin
        have hQe : ∀ i, i < QL.length → (QL.getD i []).length = c.clues.length := fun i hi => by rw [eQ] at hi ⊢; rw [courses_each hi, hlD]
        have hQ512 : QL.length ≤ 1048576 := by have := courses_len (c := (toldC c b M FL)); rw [eQ]; omega
        rw [← eQ] at hin
        refine EC.loopD [22, 23, 229, 230, 231, 232, 233, 234, 235, 236, 237, 238, 239, 240, 241, 242, 243] (fun x : Nat × Bool => [(22, .bool x.2), (23, .int .i64 (x.1 : Nat))]) (fun x W => x.1 ≤ QL.length ∧ (x.2 = true ↔ ∃ j, j < x.1 ∧ QL.getD j [] = (crsBy c b c.clues.length)) ∧ Blk W g1 65 #[.int .i64 c.events, .slice Ac c.clocks.length cc_, .slice Al c.clues.length cl_, .slice Am xm.length cm_, .slice Af xf.length cf_] ∧ Blk W g5 25 #[.int .i64 c.events, .slice AA (toldC c b M FL).clocks.length cA, .slice AL (toldC c b M FL).clues.length cL] ∧ Below w.heap.size w W ∧ Below wT.heap.size wT W ∧ Below w39.heap.size w39 W) (fun x => QL.length - x.1) (0, false) ⟨Nat.zero_le _, ⟨fun h => (by cases h), fun ⟨j, hj, _⟩ => absurd hj (by omega)⟩, q2x, q5x, hbw, hbT, hbQ⟩ ⟨rfl, rfl, trivial⟩ ?_
        clear q2x q5x hbw hbT hbQ
        rintro ⟨x, tb⟩ wx ⟨hx, htb, q2x, q5x, hbw, hbT, hbQ⟩
        dsimp only at hx htb
        by_cases hlt : x < QL.length
        ·
          obtain ⟨bq, oq, e_, _, cq⟩ := rdll_cell hrQ x hlt
          subst e_
          have rq := hrQ.row x hlt
          obtain ⟨A1, c1, f1, _⟩ := rq.shape
          rw [f1] at cq rq
          rw [← ints_flat] at rq
          have hlq := hQe x hlt
          rw [hlq] at cq rq
          cases tb
          ·
            refine EC.seq ?_
            refine EC.seq ?_
            refine EC.region ?_
            refine EL.val (x_move rfl) rfl ?_
            refine EL.val (x_move rfl) rfl ?_
            refine EL.val (ln_41 rfl) rfl ?_
            refine EL.val (x_lss rfl rfl (decide_eq_true (show (((x : Nat) : Int) < ((QL.length : Nat) : Int)) by omega))) rfl ?_
            refine EL.nil ?_
            refine EX.seq ?_
            refine EC.yes rfl ?_
            refine EC.skip ?_
            refine EX.seq ?_
            refine EC.seq ?_
            refine EC.block ?_
            refine EC.region ?_
            refine EL.val (x_move rfl) rfl ?_
            refine EL.val (x_move rfl) rfl ?_
            refine EL.valg rfl rfl (x_move rfl) rfl ?_
            refine EL.valg rfl rfl (x_move rfl) rfl ?_
            refine EL.valg rfl rfl (ix_41 rfl rfl hlt) rfl ?_
            refine EL.valg rfl rfl (ld_26 rfl (below_load hbQ cq)) rfl ?_
            refine EL.valg rfl rfl (x_move rfl) rfl ?_
            cases heq : decide (QL.getD x [] = (crsBy c b c.clues.length))
            ·
              refine EL.callg rfl rfl (cl_29 rfl rfl) rfl (equal_to heq (n := c.clues.length) (rq.below hbQ) (by have h9 := (hr3.below hbT).more hsTQ; rw [hLl] at h9; exact h9) hlq hLl hbQ.size (by have := hsm.clues; omega)) ?_
              rintro e w40 ⟨rfl, hc40⟩
              refine ⟨_, rfl, ?_⟩
              replace q2x := q2x.below hc40 q2x.lt
              replace q5x := q5x.below hc40 q5x.lt
              replace hbw := Below.on hbw hc40 hbw.size
              replace hbT := Below.on hbT hc40 hbT.size
              replace hbQ := Below.on hbQ hc40 hbQ.size
              clear hc40
              refine EL.val (x_pick_f rfl rfl) rfl ?_
              refine EL.val (x_assign rfl) rfl ?_
              refine EL.nil ?_
              refine EX.blk ?_
              refine EX.seq ?_
              refine EC.region ?_
              refine EL.val (x_move rfl) rfl ?_
              refine EL.val (x_add rfl rfl (c := ((x + 1 : Nat) : Int)) ((IntWalk.i64_in _ ⟨by first | omega | (simp only; omega), by first | omega | (simp only; omega)⟩).trans (by first | omega | (simp only; omega)))) rfl ?_
              refine EL.val (x_assign rfl) rfl ?_
              refine EL.nil ?_
              refine EX.roundD (x + 1, false) ⟨rfl, rfl, trivial⟩ (by repeat first | with_reducible exact Sub.refl _ | refine sub_past rfl ?_ | exact Sub.refl _ | refine sub_del rfl ?_ | refine sub_insL_nil ?_) ⟨hlt, ⟨fun h => (by cases h), fun ⟨j, h1, h2⟩ => by by_cases e : j < x; (exact htb.2 ⟨j, e, h2⟩); (rw [show j = x by omega] at h2; exact absurd h2 (of_decide_eq_false heq))⟩, q2x, q5x, hbw, hbT, hbQ⟩ (by simp only; omega)
            ·
              refine EL.callg rfl rfl (cl_29 rfl rfl) rfl (equal_to heq (n := c.clues.length) (rq.below hbQ) (by have h9 := (hr3.below hbT).more hsTQ; rw [hLl] at h9; exact h9) hlq hLl hbQ.size (by have := hsm.clues; omega)) ?_
              rintro e w41 ⟨rfl, hc41⟩
              refine ⟨_, rfl, ?_⟩
              replace q2x := q2x.below hc41 q2x.lt
              replace q5x := q5x.below hc41 q5x.lt
              replace hbw := Below.on hbw hc41 hbw.size
              replace hbT := Below.on hbT hc41 hbT.size
              replace hbQ := Below.on hbQ hc41 hbQ.size
              clear hc41
              refine EL.val (x_pick_f rfl rfl) rfl ?_
              refine EL.val (x_assign rfl) rfl ?_
              refine EL.nil ?_
              refine EX.blk ?_
              refine EX.seq ?_
              refine EC.region ?_
              refine EL.val (x_move rfl) rfl ?_
              refine EL.val (x_add rfl rfl (c := ((x + 1 : Nat) : Int)) ((IntWalk.i64_in _ ⟨by first | omega | (simp only; omega), by first | omega | (simp only; omega)⟩).trans (by first | omega | (simp only; omega)))) rfl ?_
              refine EL.val (x_assign rfl) rfl ?_
              refine EL.nil ?_
              refine EX.roundD (x + 1, true) ⟨rfl, rfl, trivial⟩ (by repeat first | with_reducible exact Sub.refl _ | refine sub_past rfl ?_ | exact Sub.refl _ | refine sub_del rfl ?_ | refine sub_insL_nil ?_) ⟨hlt, ⟨fun _ => ⟨x, by omega, of_decide_eq_true heq⟩, fun _ => rfl⟩, q2x, q5x, hbw, hbT, hbQ⟩ (by simp only; omega)
          ·
            refine EC.seq ?_
            refine EC.seq ?_
            refine EC.region ?_
            refine EL.val (x_move rfl) rfl ?_
            refine EL.val (x_move rfl) rfl ?_
            refine EL.val (ln_41 rfl) rfl ?_
            refine EL.val (x_lss rfl rfl (decide_eq_true (show (((x : Nat) : Int) < ((QL.length : Nat) : Int)) by omega))) rfl ?_
            refine EL.nil ?_
            refine EX.seq ?_
            refine EC.yes rfl ?_
            refine EC.skip ?_
            refine EX.seq ?_
            refine EC.seq ?_
            refine EC.block ?_
            refine EC.region ?_
            refine EL.val (x_move rfl) rfl ?_
            refine EL.val (x_move rfl) rfl ?_
            refine EL.skip rfl rfl rfl rfl ?_
            refine EL.skip rfl rfl rfl rfl ?_
            refine EL.skip rfl rfl rfl rfl ?_
            refine EL.skip rfl rfl rfl rfl ?_
            refine EL.skip rfl rfl rfl rfl ?_
            refine EL.skip rfl rfl rfl rfl ?_
            refine EL.val (x_pick_t rfl rfl) rfl ?_
            refine EL.val (x_assign rfl) rfl ?_
            refine EL.nil ?_
            refine EX.blk ?_
            refine EX.seq ?_
            refine EC.region ?_
            refine EL.val (x_move rfl) rfl ?_
            refine EL.val (x_add rfl rfl (c := ((x + 1 : Nat) : Int)) ((IntWalk.i64_in _ ⟨by first | omega | (simp only; omega), by first | omega | (simp only; omega)⟩).trans (by first | omega | (simp only; omega)))) rfl ?_
            refine EL.val (x_assign rfl) rfl ?_
            refine EL.nil ?_
            refine EX.roundD (x + 1, true) ⟨rfl, rfl, trivial⟩ (by repeat first | with_reducible exact Sub.refl _ | refine sub_past rfl ?_ | exact Sub.refl _ | refine sub_del rfl ?_ | refine sub_insL_nil ?_) ⟨hlt, ⟨fun _ => by obtain ⟨j, h1, h2⟩ := htb.1 rfl; exact ⟨j, by omega, h2⟩, fun _ => rfl⟩, q2x, q5x, hbw, hbT, hbQ⟩ (by simp only; omega)
        ·
          have hxe : x = QL.length := by omega
          obtain rfl : tb = true := htb.2 (by obtain ⟨j, hj, e⟩ := List.mem_iff_getElem.1 hin; exact ⟨j, by omega, by rw [getD_lt hj]; exact e⟩)
          refine EC.seq ?_
          refine EC.seq ?_
          refine EC.region ?_
          refine EL.val (x_move rfl) rfl ?_
          refine EL.val (x_move rfl) rfl ?_
          refine EL.val (ln_41 rfl) rfl ?_
          refine EL.val (x_lss rfl rfl (decide_eq_false (show ¬(((x : Nat) : Int) < ((QL.length : Nat) : Int)) by omega))) rfl ?_
          refine EL.nil ?_
          refine EX.seq ?_
          refine EC.no rfl ?_
          refine EC.exit ?_
          refine EX.seq_exit ?_
          refine EX.seq_exit ?_
          refine EX.blk_here ?_
          refine EX.seq ?_
          refine EC.seq ?_
          refine EC.region ?_
          refine EL.val (ld_25 rfl (q5x.at (j := 0) rfl) (q5x.at (j := 1) rfl) (q5x.at (j := 2) rfl)) rfl ?_
          refine EL.call (cl_14 rfl) rfl (copied_any (toldC c b M FL) _ _ ws _ _ (hRD.below hbT) hbT.size hn1D hn2D smD) ?_
          rintro e w43 ⟨⟨vaq42, vbq42, wsq42, rfl, hoq42⟩, hc43⟩
          refine ⟨_, rfl, ?_⟩
          replace q2x := q2x.below hc43 q2x.lt
          replace q5x := q5x.below hc43 q5x.lt
          replace hbw := Below.on hbw hc43 hbw.size
          replace hbT := Below.on hbT hc43 hbT.size
          replace hbQ := Below.on hbQ hc43 hbQ.size
          clear hc43
          have hrq42 := hoq42.rd
          obtain ⟨Adq42, cdq42, rfl, _⟩ := hrq42.clocks.shape
          obtain ⟨Amq42, cmq42, rfl, _⟩ := hrq42.clues.rd.shape
          have hbq42 := Below.refl w43.heap.size w43
          by_cases h10 : 10 < (toldC c b M FL).clues.length
          ·
            refine EL.call (cl_35 rfl) rfl (wrong_to (wrg_long hcd (.inl h10)) (wrgRes_no (by rw [wrg_long hcd (.inl h10)]; decide)) _ _ wsq42 _ _ (hrq42.below hbq42) hbq42.size hn1D hn2D) ?_
            rintro e w44 ⟨⟨vW, uw, rfl, hrW⟩, hc44⟩
            refine ⟨_, rfl, ?_⟩
            replace q2x := q2x.below hc44 q2x.lt
            replace q5x := q5x.below hc44 q5x.lt
            replace hbw := Below.on hbw hc44 hbw.size
            replace hbT := Below.on hbT hc44 hbT.size
            replace hbQ := Below.on hbQ hc44 hbQ.size
            replace hbq42 := Below.on hbq42 hc44 hbq42.size
            clear hc44
            obtain ⟨AW, cW, rfl, _⟩ := hrW.rd.shape
            have hbW := Below.refl w44.heap.size w44
            refine EL.val (x_move rfl) rfl ?_
            refine EL.val (x_extract rfl rfl) rfl ?_
            refine EL.val (x_extract rfl rfl) rfl ?_
            refine EL.val (x_assign rfl) rfl ?_
            refine EL.val (x_assign rfl) rfl ?_
            refine EL.nil ?_
            refine EX.seq ?_
            refine EC.seq ?_
            refine EC.region ?_
            refine EL.val (x_move rfl) rfl ?_
            refine EL.val (x_move rfl) rfl ?_
            refine EL.valg rfl rfl (x_move rfl) rfl ?_
            refine EL.valg rfl rfl (x_eql (r := true) rfl rfl (decide_eq_true rfl)) rfl ?_
            refine EL.valg rfl rfl (x_move rfl) rfl ?_
            refine EL.skip rfl rfl rfl rfl ?_
            refine EL.skip rfl rfl rfl rfl ?_
            refine EL.skip rfl rfl rfl rfl ?_
            refine EL.skip rfl rfl rfl rfl ?_
            refine EL.skip rfl rfl rfl rfl ?_
            refine EL.skip rfl rfl rfl rfl ?_
            refine EL.skip rfl rfl rfl rfl ?_
            refine EL.skip rfl rfl rfl rfl ?_
            refine EL.skip rfl rfl rfl rfl ?_
            refine EL.skip rfl rfl rfl rfl ?_
            refine EL.skip rfl rfl rfl rfl ?_
            refine EL.skip rfl rfl rfl rfl ?_
            refine EL.skip rfl rfl rfl rfl ?_
            refine EL.skip rfl rfl rfl rfl ?_
            refine EL.valg rfl rfl (x_pick_t rfl rfl) rfl ?_
            refine EL.val (x_pick_t rfl rfl) rfl ?_
            refine EL.val (x_move rfl) rfl ?_
            refine EL.callg rfl rfl cl_12 rfl (known_any _) ?_
            rintro e w45 ⟨rfl, hc45⟩
            refine ⟨_, rfl, ?_⟩
            replace q2x := q2x.below hc45 q2x.lt
            replace q5x := q5x.below hc45 q5x.lt
            replace hbw := Below.on hbw hc45 hbw.size
            replace hbT := Below.on hbT hc45 hbT.size
            replace hbQ := Below.on hbQ hc45 hbQ.size
            replace hbq42 := Below.on hbq42 hc45 hbq42.size
            replace hbW := Below.on hbW hc45 hbW.size
            clear hc45
            refine EL.val (x_pick_t rfl rfl) rfl ?_
            refine EL.val (x_assign rfl) rfl ?_
            refine EL.nil ?_
            refine EX.seq ?_
            refine EC.ret ?_
            exact EX.done (res1 rfl rfl) ⟨rfl, hbw⟩
          ·
            refine EL.call (cl_35 rfl) rfl (wrong_to (wrg_ok hcd h10 hmn) ((wrgRes_ok (wrg_ok hcd h10 hmn)).trans (wrong_none hcd hne)) _ _ wsq42 _ _ (hrq42.below hbq42) hbq42.size hn1D hn2D) ?_
            rintro e w46 ⟨⟨vW, uw, rfl, hrW⟩, hc46⟩
            refine ⟨_, rfl, ?_⟩
            replace q2x := q2x.below hc46 q2x.lt
            replace q5x := q5x.below hc46 q5x.lt
            replace hbw := Below.on hbw hc46 hbw.size
            replace hbT := Below.on hbT hc46 hbT.size
            replace hbQ := Below.on hbQ hc46 hbQ.size
            replace hbq42 := Below.on hbq42 hc46 hbq42.size
            clear hc46
            obtain ⟨AW, cW, rfl, _⟩ := hrW.rd.shape
            have hbW := Below.refl w46.heap.size w46
            refine EL.val (x_move rfl) rfl ?_
            refine EL.val (x_extract rfl rfl) rfl ?_
            refine EL.val (x_extract rfl rfl) rfl ?_
            refine EL.val (x_assign rfl) rfl ?_
            refine EL.val (x_assign rfl) rfl ?_
            refine EL.nil ?_
            refine EX.seq ?_
            refine EC.seq ?_
            refine EC.region ?_
            refine EL.val (x_move rfl) rfl ?_
            refine EL.val (x_move rfl) rfl ?_
            refine EL.valg rfl rfl (x_move rfl) rfl ?_
            refine EL.valg rfl rfl (x_eql (r := false) rfl rfl (by decide)) rfl ?_
            refine EL.valg rfl rfl (x_move rfl) rfl ?_
            refine EL.valg rfl rfl (x_move rfl) rfl ?_
            refine EL.valg rfl rfl (x_eql (r := true) rfl rfl (decide_eq_true rfl)) rfl ?_
            refine EL.valg rfl rfl (x_move rfl) rfl ?_
            refine EL.valg rfl rfl (x_move rfl) rfl ?_
            refine EL.valg rfl rfl (ln_41 rfl) rfl ?_
            refine EL.valg rfl rfl (x_eql (r := true) rfl rfl (decide_eq_true rfl)) rfl ?_
            refine EL.valg rfl rfl (x_pick_t rfl rfl) rfl ?_
            refine EL.valg rfl rfl (x_move rfl) rfl ?_
            refine EL.valg rfl rfl (x_move rfl) rfl ?_
            obtain ⟨bC, oC, e7_, _, hc0⟩ := rdll_cell hrW 0 (Nat.zero_lt_one)
            subst e7_
            have hr0 := hrW.row 0 (Nat.zero_lt_one)
            obtain ⟨A0, c0, e8_, _⟩ := hr0.shape
            rw [e8_] at hc0 hr0
            ·
              refine EL.valg rfl rfl (ix_41 (k := 0) rfl rfl Nat.zero_lt_one) rfl ?_
              refine EL.valg rfl rfl (ld_26 rfl (below_load hbW hc0)) rfl ?_
              refine EL.valg rfl rfl (ln_26 rfl) rfl ?_
              refine EL.valg rfl rfl (x_eql (r := true) rfl rfl (decide_eq_true rfl)) rfl ?_
              refine EL.valg rfl rfl (x_pick_t rfl rfl) rfl ?_
              refine EL.valg rfl rfl (x_pick_f rfl rfl) rfl ?_
              refine EL.val (x_pick_t rfl rfl) rfl ?_
              refine EL.val (x_move rfl) rfl ?_
              refine EL.callg rfl rfl cl_12 rfl (known_any _) ?_
              rintro e w47 ⟨rfl, hc47⟩
              refine ⟨_, rfl, ?_⟩
              replace q2x := q2x.below hc47 q2x.lt
              replace q5x := q5x.below hc47 q5x.lt
              replace hbw := Below.on hbw hc47 hbw.size
              replace hbT := Below.on hbT hc47 hbT.size
              replace hbQ := Below.on hbQ hc47 hbQ.size
              replace hbq42 := Below.on hbq42 hc47 hbq42.size
              replace hbW := Below.on hbW hc47 hbW.size
              clear hc47
              refine EL.val (x_pick_t rfl rfl) rfl ?_
              refine EL.val (x_assign rfl) rfl ?_
              refine EL.nil ?_
              refine EX.seq ?_
              refine EC.ret ?_
              exact EX.done (res1 rfl rfl) ⟨rfl, hbw⟩
end Go.Proofs.Ytmaiiigijjfjfaa
