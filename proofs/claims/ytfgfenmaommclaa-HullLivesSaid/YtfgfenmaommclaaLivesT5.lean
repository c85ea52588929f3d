/- X13, HuKnown, ExX14, X14, ExX15, X15, ExX16, X16, ExX17, X17: what HullLivesProof needs of them (merged by trimpack.py). -/
import Derived.Test.YtfgfenmaommclaaLivesT4
set_option linter.unusedVariables false
set_option linter.unusedSimpArgs false
set_option linter.constructorNameAsVariable false
namespace Go.Proofs.Ytfgfenmaommclaa
open Go Go.RowKit
theorem OwnShip.c {w : World} {base g j : Nat} {h : Hul} {v hv u : Value} (hs : OwnShip w base g h v hv) (hj : (QGf h v hv)[j]? = some u) : w.cell? ⟨g, j, none⟩ = some u := (hs.box.cell j).trans hj
theorem OwnShip.typeN {w w' : World} {base g k T : Nat} {h : Hul} {v hv : Value} {cs : Array Value} (hs : OwnShip w base g h v hv) (hq : Blk w k T cs) (h1 : Nat.beq T 125 = false) (hn : hv.ownBlock ≠ some k) (hg : w.grownBy w' (some k)) : OwnShip w' base g h v hv :=
 ⟨hs.box.grown hg (fun e => by
  have e := Option.some.inj e;subst e;have h3 := hs.box
  unfold Blk at h3 hq
  rw [hq] at h3
  injection h3 with h3
  injection h3 with _ h4
  rw [h4] at h1
  simp at h1), hs.ge, YD hs.holds hn hg⟩
theorem QKy {p : Pas} (h : sndE p = 0) : 0 ≤ (sndR p).lo ∧ (sndR p).lo ≤ 1000000 := by
 have h1 := QET h;have e : sndR p = shUp p.rv p.sides p.way p.way.length := by
  have h0 : inB 0 500 p.keel = true := inB_iff.2 h1.keel;rw [sndE, if_pos h0] at h;rw [sndR, if_pos h0, Y3, if_pos h]
 rw [e]
 exact (QCh (startErr_ok h1.start).2 h1.pass (Nat.le_refl _)).1
set_option maxRecDepth 100000 in
set_option maxHeartbeats 1000000 in
theorem QGX (h : Hul) (hvv : Value) (hvs : List (Value × Value)) (w : World) (B : Nat) (hr : RdSecs w B hvv h.secs hvs) (hB : B ≤ w.heap.size) (hl : h.secs.length ≤ 1048576) (hfew : Zq h.secs) (d : Bd) (p : Pas) (q : PasV) (hp : RdPas w B p q) (hf : PasFew p) :
  Calls Try.prog 16 #[.agg #[.int .i64 h.lot, hvv], .agg #[.int .i64 d.lo, .int .i64 d.hi], pasA p q] w fun e w' => (∃ v_, e = .returned (.tuple #[.agg #[v_, .int .i64 (advR h d p).lots, .int .i64 (advR h d p).cause, .int .i64 (advR h d p).pass, .int .i64 (advR h d p).hour], .int .i64 (advE h d p)]) ∧ w'.ownsRow w.heap.size 3 1 v_ (advR h d p).load.length (ints (advR h d p).load)) ∧ Below w.heap.size w w' := by
 obtain ⟨Ahh, chh, rfl⟩ := hr.shape;obtain ⟨v, u, s, vl, vs_, ss⟩ := q;obtain ⟨Av, cv, ev_, _⟩ := hp.river.reaches.shape;obtain ⟨Au, cu, eu_, _⟩ := hp.river.shoals.shape;obtain ⟨As, cs, es_, _⟩ := hp.sides.rd.shape;obtain ⟨Al, cl, el_, _⟩ := hp.way.shape
 dsimp only at ev_ eu_ es_ el_
 subst ev_ eu_ es_ el_
 unfold pasA
 dsimp only
 have hbw := Below.refl w.heap.size w;refine EC.enter 94 Try.func16 rfl rfl rfl (EC.seq (EC.region (EL.newP (QCY rfl) rfl ?_)));intro g1 w1 q1 hb1 hg1 hl1;have bhbw_1 := Nat.le_trans hbw.size hg1;replace hbw := bo_ hbw hb1;clear hb1 hg1 hl1;refine EL.newP (QB6 rfl) rfl ?_;intro g2 w2 q2 hb2 hg2 hl2;have n1_2 := q1.na hg2;have bhbw_2 := Nat.le_trans hbw.size hg2;replace q1 := q1.bl hb2;replace hbw := bo_ hbw hb2;clear hb2 hg2 hl2;refine EL.newP (QHB rfl) rfl ?_;intro g3 w3 q3 hb3 hg3 hl3;have n1_3 := q1.na hg3;have n2_3 := q2.na hg3;have bhbw_3 := Nat.le_trans hbw.size hg3;replace q1 := q1.bl hb3;replace q2 := q2.bl hb3;replace hbw := bo_ hbw hb3;clear hb3 hg3 hl3;refine EL.newP QKp rfl ?_;intro g4 w4 q4 hb4 hg4 hl4;have n1_4 := q1.na hg4;have n2_4 := q2.na hg4;have n3_4 := q3.na hg4;have bhbw_4 := Nat.le_trans hbw.size hg4;replace q1 := q1.bl hb4;replace q2 := q2.bl hb4;replace q3 := q3.bl hb4;replace hbw := bo_ hbw hb4;clear hb4 hg4 hl4;refine EL.as rfl rfl (EL.nil (EX.seq (EC.seq (EC.region (EL.val (QBr rfl (q1.at (j := 0) rfl) (q1.at (j := 1) rfl)) rfl ?_)))))
 cases hhul : hulB h
 ·
  refine EL.call (cA1 cF39 rfl) rfl (QBu hhul _ _ _ B (hr.below (hbw.mono hB)) (Nat.le_trans hB hbw.size) hl hfew) ?_
  rintro e w5 ⟨rfl, hc5⟩
  refine ⟨_, rfl, ?_⟩;replace q1 := q1.bl hc5;replace q2 := q2.bl hc5;replace q3 := q3.bl hc5;replace q4 := q4.bl hc5;replace hbw := bo_ hbw hc5;clear hc5;refine EL.mv rfl rfl (EL.xt rfl rfl rfl (EL.xt rfl rfl rfl (EL.as rfl rfl (EL.as rfl rfl (EL.nil (EX.seq (EC.seq (EC.block (EC.seq ?_)))))))));refine EC.region (EL.mv rfl rfl ?_);refine EL.val (Zl (r := true) rfl rfl (decide_eq_true (by decide))) rfl ?_
  refine EL.as rfl rfl (EL.nil (EX.seq (EC.yes rfl (EC.seq (EC.region (EL.val (QFU rfl (q4.at (j := 0) rfl) (q4.at (j := 1) rfl) (q4.at (j := 2) rfl) (q4.at (j := 3) rfl) (q4.at (j := 4) rfl)) rfl (EL.mv rfl rfl (EL.store rfl rfl q4 QCy rfl rfl rfl rfl ?_))))))));intro w6 hq6 hg6;replace q1 := q1.gr hg6 n1_4;replace q2 := q2.gr hg6 n2_4;replace q3 := q3.gr hg6 n3_4;replace hbw := ZC hbw hg6 bhbw_4;replace q4 := hq6;clear hg6 hq6;refine EL.as rfl rfl (EL.nil (EX.seq (EC.ret (EX.blk_ret (EX.seq_ret ?_)))))
  exact EX.done (Zz rfl rfl rfl (QD6 (q4.at (j := 0) rfl) (q4.at (j := 1) rfl) (q4.at (j := 2) rfl) (q4.at (j := 3) rfl) (q4.at (j := 4) rfl))) ⟨by rw [(QKs hhul).1, (QKs hhul).2]; exact ⟨_, rfl, own_nil _ _ _ _⟩, hbw⟩
 ·
  refine EL.call (cA1 cF39 rfl) rfl (QHx hhul _ _ _ B (hr.below (hbw.mono hB)) (Nat.le_trans hB hbw.size) hl hfew) ?_
  rintro e w7 ⟨⟨g, hv, rfl, hs⟩, hc7⟩
  refine ⟨_, rfl, ?_⟩;replace q1 := q1.bl hc7;replace q2 := q2.bl hc7;replace q3 := q3.bl hc7;replace q4 := q4.bl hc7;replace hbw := bo_ hbw hc7;clear hc7;have hH := QBb hhul;obtain ⟨Ah, ch, rfl, _⟩ := (rd_of_own hs.holds).shape;have hmn := hH.arms.many;refine EL.mv rfl rfl (EL.xt rfl rfl rfl (EL.xt rfl rfl rfl (EL.as rfl rfl (EL.as rfl rfl (EL.nil (EX.seq (EC.seq (EC.block (EC.seq ?_)))))))));refine EC.region (EL.mv rfl rfl ?_);refine EL.val (Zl (r := false) rfl rfl (decide_eq_false (by decide))) rfl ?_
  refine EL.as rfl rfl (EL.nil (EX.seq (EC.no rfl (EC.seq (EC.region (EL.val (Zh rfl (q2.at (j := 0) rfl) (q2.at (j := 1) rfl)) rfl ?_))))))
  cases hden : denB d
  ·
   refine EL.call (cA1 cF40 rfl) rfl (QBs hden _) ?_
   rintro e w8 ⟨rfl, hc8⟩
   refine ⟨_, rfl, ?_⟩;replace q1 := q1.bl hc8;replace q2 := q2.bl hc8;replace q3 := q3.bl hc8;replace q4 := q4.bl hc8;replace hs := hs.below hc8;replace hbw := bo_ hbw hc8;clear hc8;refine EL.val (ZZ rfl) rfl (EL.as rfl rfl (EL.nil (EX.seq (EC.yes rfl (EC.seq (EC.region (EL.val (QFU rfl (q4.at (j := 0) rfl) (q4.at (j := 1) rfl) (q4.at (j := 2) rfl) (q4.at (j := 3) rfl) (q4.at (j := 4) rfl)) rfl (EL.store rfl rfl q4 QCy rfl rfl rfl rfl ?_))))))));intro w9 hq9 hg9;replace q1 := q1.gr hg9 n1_4;replace q2 := q2.gr hg9 n2_4;replace q3 := q3.gr hg9 n3_4;replace hs := hs.type q4 rfl rfl hg9;replace hbw := ZC hbw hg9 bhbw_4;replace q4 := hq9;clear hg9 hq9;refine EL.as rfl rfl (EL.nil (EX.seq (EC.ret (EX.blk_ret (EX.seq_ret ?_)))))
   exact EX.done (Zz rfl rfl rfl (QD6 (q4.at (j := 0) rfl) (q4.at (j := 1) rfl) (q4.at (j := 2) rfl) (q4.at (j := 3) rfl) (q4.at (j := 4) rfl))) ⟨by rw [(QJg hhul hden).1, (QJg hhul hden).2]; exact ⟨_, rfl, own_nil _ _ _ _⟩, hbw⟩
  ·
   refine EL.call (cA1 cF40 rfl) rfl (QBs hden _) ?_
   rintro e w10 ⟨rfl, hc10⟩
   refine ⟨_, rfl, ?_⟩;replace q1 := q1.bl hc10;replace q2 := q2.bl hc10;replace q3 := q3.bl hc10;replace q4 := q4.bl hc10;replace hs := hs.below hc10;replace hbw := bo_ hbw hc10;clear hc10;refine EL.val (ZZ rfl) rfl (EL.as rfl rfl (EL.nil (EX.seq (EC.no rfl (EC.skip (EX.blk (EX.seq (EC.seq (EC.region ?_)))))))));refine EL.val (QG0 rfl (q3.at (j := 0) rfl) (q3.at (j := 1) rfl) (q3.at (j := 2) rfl) (q3.at (j := 3) rfl) (q3.at (j := 4) rfl)) rfl (EL.call (cA1 cF41 rfl) rfl (QBA p ⟨_, _, _, _, vs_, ss⟩ _ B (hp.below (hbw.mono hB)) (Nat.le_trans hB hbw.size) hf) ?_)
   rintro e w11 ⟨rfl, hc11⟩
   refine ⟨_, rfl, ?_⟩;replace q1 := q1.bl hc11;replace q2 := q2.bl hc11;replace q3 := q3.bl hc11;replace q4 := q4.bl hc11;replace hs := hs.below hc11;replace hbw := bo_ hbw hc11;clear hc11;refine EL.mv rfl rfl (EL.xt rfl rfl rfl (EL.xt rfl rfl rfl (EL.newP QDp rfl ?_)));intro g12 w12 q12 hb12 hg12 hl12;have n1_12 := q1.na hg12;have n2_12 := q2.na hg12;have n3_12 := q3.na hg12;have n4_12 := q4.na hg12;have bhbw_12 := Nat.le_trans hbw.size hg12;replace q1 := q1.bl hb12;replace q2 := q2.bl hb12;replace q3 := q3.bl hb12;replace q4 := q4.bl hb12;replace hs := hs.below hb12;replace hbw := bo_ hbw hb12;clear hb12 hg12 hl12;refine EL.store rfl rfl q12 QCB rfl rfl rfl rfl ?_;intro w13 hq13 hg13;replace q1 := q1.gr hg13 n1_12;replace q2 := q2.gr hg13 n2_12;replace q3 := q3.gr hg13 n3_12;replace q4 := q4.gr hg13 n4_12;replace hs := hs.type q12 rfl rfl hg13;replace hbw := ZC hbw hg13 bhbw_12;replace q12 := hq13;clear hg13 hq13;refine EL.as rfl rfl (EL.nil (EX.seq (EC.seq (EC.seq (EC.region (EL.mv rfl rfl ?_))))))
   by_cases hS : sndE p ≠ 0
   ·
    refine EL.val (Zl (r := true) rfl rfl (decide_eq_true hS)) rfl (EL.nil (EX.seq (EC.yes rfl (EC.seq (EC.region (EL.val (QFU rfl (q4.at (j := 0) rfl) (q4.at (j := 1) rfl) (q4.at (j := 2) rfl) (q4.at (j := 3) rfl) (q4.at (j := 4) rfl)) rfl (EL.mv rfl rfl (EL.store rfl rfl q4 QCy rfl rfl rfl rfl ?_))))))));intro w14 hq14 hg14;replace q1 := q1.gr hg14 n1_4;replace q2 := q2.gr hg14 n2_4;replace q3 := q3.gr hg14 n3_4;replace q12 := q12.gr hg14 n4_12.symm;replace hs := hs.type q4 rfl rfl hg14;replace hbw := ZC hbw hg14 bhbw_4;replace q4 := hq14;clear hg14 hq14;refine EL.as rfl rfl (EL.nil (EX.seq (EC.ret (EX.seq_ret ?_))))
    exact EX.done (Zz rfl rfl rfl (QD6 (q4.at (j := 0) rfl) (q4.at (j := 1) rfl) (q4.at (j := 2) rfl) (q4.at (j := 3) rfl) (q4.at (j := 4) rfl))) ⟨by rw [(QKq hhul hden hS).1, (QKq hhul hden hS).2]; exact ⟨_, rfl, own_nil _ _ _ _⟩, hbw⟩
   ·
    have hS := Classical.not_not.1 hS;have hkb := QE9 hS;have hlb := QKy hS;refine EL.val (Zl (r := false) rfl rfl (decide_eq_false (fun h => h hS))) rfl ?_
    refine EL.nil (EX.seq (EC.no rfl (EC.skip (EX.seq (EC.seq (EC.seq (EC.region (EL.mv rfl rfl (EL.val (ZN rfl) rfl ?_)))))))));refine EL.val (QAG rfl) rfl (EL.val (QAP rfl (hs.c (j := 2) rfl)) rfl (EL.val (QDP rfl) rfl (EL.mv rfl rfl (EL.nil (EX.seq (EC.block ?_))))));refine EC.loopD [11, 44, 45, 46, 47, 48, 49, 50, 51, 52, 53, 54] (fun k : Nat => [(44, .int .i64 (k : Nat))]) (fun k W => k ≤ (ZQ h).length ∧ Blk W g2 25 #[.int .i64 d.lo, .int .i64 d.hi] ∧ Blk W g3 53 #[.slice Av p.rv.reaches.length cv, .slice Au p.rv.shoals.length cu, .slice As p.sides.length cs, .slice Al p.way.length cl, .int .i64 p.keel] ∧ Blk W g4 59 #[.slice none 0 0, .int .i64 (QBo h k), .int .i64 0, .int .i64 0, .int .i64 0] ∧ Blk W g12 120 #[.int .i64 (sndR p).lo, .int .i64 (sndR p).hi, .int .i64 (sndR p).pass, .int .i64 (sndR p).hour] ∧ OwnShip W w4.heap.size g h (.slice Ahh h.secs.length chh) (.slice Ah (ZQ h).length ch) ∧ Below w.heap.size w W) (fun k => (ZQ h).length - k) 0 ⟨Nat.zero_le _, q2, q3, q4, q12, hs, hbw⟩ ⟨rfl, trivial⟩ ?_
    clear q2 q3 q4 q12 hs hbw
    rintro k wk ⟨hk, q2, q3, q4, q12, hs, hbw⟩
    by_cases hltk : k < (ZQ h).length
    ·
     obtain ⟨ba, oa, rfl, _, ca⟩ := Yd (ZQ h) k hltk _ _ _ _ _ (rd_of_own hs.holds);have hsu := QDK hltk;have hlk := QDL hH.arms k hk;have hxa := hH.arms.at_ _ (getD_mem (d := YE) hltk);obtain ⟨x, ex⟩ : ∃ z, z = (ZQ h).getD k YE := ⟨_, rfl⟩;rw [← ex] at ca hsu hxa;refine EC.seq (EC.region ?_);refine EL.val (ZL rfl rfl (decide_eq_true (show (((k : Nat) : Int) < (((ZQ h).length : Nat) : Int)) by omega))) rfl ?_
     refine EL.nil (EX.seq (EC.seq (EC.yes rfl (EC.skip (EX.seq (EC.seq (EC.block (EC.seq (EC.region ?_)))))))));refine EL.val (QEh rfl rfl hltk) rfl (EL.val (QI5 rfl ca.c0 ca.c1) rfl (EL.newP QJf rfl ?_));intro g15 w15 q15 hb15 hg15 hl15;have n2_15 := q2.na hg15;have n3_15 := q3.na hg15;have n4_15 := q4.na hg15;have n12_15 := q12.na hg15;have bhbw_15 := Nat.le_trans hbw.size hg15;have hn15 := own_ne hs.holds hg15;replace q2 := q2.bl hb15;replace q3 := q3.bl hb15;replace q4 := q4.bl hb15;replace q12 := q12.bl hb15;replace hs := hs.below hb15;replace hbw := bo_ hbw hb15;clear hb15 hg15 hl15;refine EL.store rfl rfl q15 QIH rfl rfl rfl rfl ?_;intro w16 hq16 hg16;replace q2 := q2.gr hg16 n2_15;replace q3 := q3.gr hg16 n3_15;replace q4 := q4.gr hg16 n4_15;replace q12 := q12.gr hg16 n12_15;replace hs := hs.typeN q15 rfl hn15 hg16;replace hbw := ZC hbw hg16 bhbw_15;replace q15 := hq16;clear hg16 hq16;refine EL.nil (EX.seq (EC.region (EL.val (Yu rfl) rfl (EL.val (ld_3 rfl (q4.at (j := 1) rfl)) rfl (EL.val (QBz rfl) rfl (EL.val (ld_3 rfl (q15.at (j := 1) rfl)) rfl ?_))))));refine EL.val (ZM rfl rfl (IntWalk.i64_in _ ⟨by omega, by omega⟩)) rfl ?_
     refine EL.val (Yu rfl) rfl (EL.store rfl rfl q4 sz_3 rfl rfl rfl rfl ?_);intro w17 hq17 hg17;replace q2 := q2.gr hg17 n2_4;replace q3 := q3.gr hg17 n3_4;replace q12 := q12.gr hg17 n4_12.symm;replace q15 := q15.gr hg17 n4_15.symm;replace hs := hs.type q4 rfl rfl hg17;replace hbw := ZC hbw hg17 bhbw_4;replace q4 := hq17;clear hg17 hq17;refine EL.nil (EX.blk (EX.seq (EC.region ?_)));refine EL.val (ZM rfl rfl (c := ((k + 1 : Nat) : Int)) ((IntWalk.i64_in _ ⟨by first | omega | (simp only; omega), by first | omega | (simp only; omega)⟩).trans (by first | omega | (simp only; omega)))) rfl ?_
     refine EL.mv rfl rfl (EL.nil ?_);refine EX.roundD (k + 1) ⟨rfl, trivial⟩ (by repeat first | with_reducible exact .refl _ | refine sp_ rfl ?_ | exact .refl _ | refine sd_ rfl ?_ | refine sn_ ?_) ⟨by omega, q2, q3, by rw [hsu]; exact q4, q12, hs, hbw⟩ (by omega)
    ·
     obtain rfl : k = (ZQ h).length := by omega
     refine EC.seq (EC.region ?_);refine EL.val (ZL rfl rfl (decide_eq_false (show ¬((((ZQ h).length : Nat) : Int) < (((ZQ h).length : Nat) : Int)) by omega))) rfl ?_
     refine EL.nil (EX.seq (EC.seq (EC.no rfl (EC.exit (EX.seq_exit (EX.seq_exit (EX.blk_here (EX.seq (EC.seq ?_)))))))));refine EC.block ?_;have hlA := QDL hH.arms _ (Nat.le_refl (ZQ h).length);have hLA : QBo h (ZQ h).length = QDM h := rfl;rw [hLA] at hlA;have q6s : Blk wk g4 59 #[.slice none 0 0, .int .i64 ((((QDM h + 1).toNat : Nat) : Int) - 1), .int .i64 0, .int .i64 0, .int .i64 0] := by rw [show ((((QDM h + 1).toNat : Nat) : Int) - 1) = QDM h by omega]; exact q4
     refine EC.loopD [7, 12, 13, 14, 55, 56, 57, 58, 59, 60, 61, 62, 63, 64, 65, 66, 67, 68, 69, 70, 71, 72, 73, 74, 75, 76, 77, 78, 79, 80, 81, 82, 83, 84, 85, 86, 87, 88, 89, 90, 91, 92] (fun x : Nat × Int => []) (fun x W => x.1 ≤ 81 ∧ advB h d p = advJ h d ((sndR p).lo - p.keel) x.1 x.2 ∧ Blk W g2 25 #[.int .i64 d.lo, .int .i64 d.hi] ∧ Blk W g3 53 #[.slice Av p.rv.reaches.length cv, .slice Au p.rv.shoals.length cu, .slice As p.sides.length cs, .slice Al p.way.length cl, .int .i64 p.keel] ∧ Blk W g4 59 #[.slice none 0 0, .int .i64 (((x.1 : Nat) : Int) - 1), .int .i64 x.2, .int .i64 0, .int .i64 0] ∧ Blk W g12 120 #[.int .i64 (sndR p).lo, .int .i64 (sndR p).hi, .int .i64 (sndR p).pass, .int .i64 (sndR p).hour] ∧ OwnShip W w4.heap.size g h (.slice Ahh h.secs.length chh) (.slice Ah (ZQ h).length ch) ∧ Below w.heap.size w W) (fun x => x.1) ((QDM h + 1).toNat, 0) ⟨by omega, rfl, q2, q3, q6s, q12, hs, hbw⟩ trivial ?_
     clear q6s q2 q3 q4 q12 hs hbw
     rintro ⟨j, ca⟩ wj ⟨hj, hadv, qD, qP, qA, qW, hs, hbw⟩
     dsimp only at hj hadv qA
     by_cases hlt : 0 < j
     ·
      obtain ⟨m, rfl⟩ : ∃ m, j = m + 1 := ⟨j - 1, by omega⟩
      have em : (((m + 1 : Nat) : Int) - 1) = ((m : Nat) : Int) := by omega
      rw [em] at qA;refine EC.seq (EC.seq (EC.region (EL.val (Yu rfl) rfl (EL.val (ld_3 rfl (qA.at (j := 1) rfl)) rfl ?_))));refine EL.val (QAl (r := true) rfl rfl (decide_eq_true (by omega))) rfl ?_
      refine EL.nil (EX.seq (EC.yes rfl (EC.skip (EX.seq (EC.seq (EC.block (EC.seq (EC.region (EL.mv rfl rfl ?_)))))))));refine EL.val (Yu rfl) rfl (EL.val (ld_3 rfl (qA.at (j := 1) rfl)) rfl (EL.val (Zh rfl (qD.at (j := 0) rfl) (qD.at (j := 1) rfl)) rfl (EL.val (QA4 rfl) rfl (EL.val (ZS rfl) rfl (EL.val (ld_3 rfl (qW.at (j := 0) rfl)) rfl (EL.val (QBy rfl) rfl (EL.val (ld_3 rfl (qP.at (j := 4) rfl)) rfl ?_)))))));refine EL.val (YR rfl rfl (IntWalk.i64_in _ ⟨by omega, by omega⟩)) rfl ?_
      refine EL.call (cA4 cF42 rfl rfl rfl rfl) rfl (QJU hH _ _ hvs g _ _ (hs.rd (hr.below (hbw.mono hB)) (Nat.le_trans hB hbw.size)) (Nat.le_refl _) ((m : Nat) : Int) (by omega) d hden ((sndR p).lo - p.keel)) ?_
      rintro e w18 ⟨⟨vb, rfl, hob⟩, hc18⟩
      refine ⟨_, rfl, ?_⟩;replace hob := own_less hob hbw.size;obtain ⟨Ab, cb_, rfl, _⟩ := (Rd.of_own hob).shape;replace qD := qD.bl hc18;replace qP := qP.bl hc18;replace qA := qA.bl hc18;replace qW := qW.bl hc18;replace hs := hs.below hc18;replace hbw := bo_ hbw hc18;clear hc18;refine EL.mv rfl rfl (EL.xt rfl rfl rfl (EL.xt rfl rfl rfl (EL.xt rfl rfl rfl (EL.as rfl rfl (EL.as rfl rfl (EL.as rfl rfl (EL.nil (EX.seq (EC.seq ?_)))))))));refine EC.seq ?_
      cases hhas : (Zs h d ((sndR p).lo - p.keel) ((m : Nat) : Int)).has
      ·
       refine EC.region (EL.mv rfl rfl (EL.nil (EX.seq (EC.no rfl (EC.skip (EX.seq (EC.seq (EC.region (EL.val (QCo rfl) rfl ?_)))))))));refine EL.store rfl rfl qA QKe rfl rfl rfl rfl ?_;intro w19 hq19 hg19;replace qD := qD.gr hg19 n2_4;replace qP := qP.gr hg19 n3_4;replace qW := qW.gr hg19 n4_12.symm;replace hs := hs.type qA rfl rfl hg19;replace hob := ZF hob qA rfl hg19;replace hbw := ZC hbw hg19 bhbw_4;replace qA := hq19;clear hg19 hq19;refine EL.nil (EX.seq (EC.seq ?_))
       cases hflo : (Zs h d ((sndR p).lo - p.keel) ((m : Nat) : Int)).flo
       ·
        refine EC.region (EL.mv rfl rfl (EL.nil (EX.seq (EC.no rfl (EC.skip (EX.blk (EX.seq (EC.region (EL.val (Yu rfl) rfl ?_)))))))));refine EL.val (ld_3 rfl (qA.at (j := 1) rfl)) rfl ?_;refine EL.val (YR rfl rfl (c := ((m : Nat) : Int) - 1) (IntWalk.i64_in _ ⟨by omega, by omega⟩)) rfl ?_
        refine EL.val (Yu rfl) rfl (EL.store rfl rfl qA sz_3 rfl rfl rfl rfl ?_);intro w20 hq20 hg20;replace qD := qD.gr hg20 n2_4;replace qP := qP.gr hg20 n3_4;replace qW := qW.gr hg20 n4_12.symm;replace hs := hs.type qA rfl rfl hg20;replace hob := ZF hob qA rfl hg20;replace hbw := ZC hbw hg20 bhbw_4;replace qA := hq20;clear hg20 hq20;refine EL.nil ?_;refine EX.roundD (m, 2) trivial (by repeat first | with_reducible exact .refl _ | refine sp_ rfl ?_ | exact .refl _ | refine sd_ rfl ?_ | refine sn_ ?_) ⟨by omega, by rw [hadv, Yl hhas, hflo]; rfl, qD, qP, qA, qW, hs, hbw⟩ (by simp only; omega)
       ·
        refine EC.region (EL.mv rfl rfl (EL.nil (EX.seq (EC.yes rfl (EC.region (EL.val (QCo rfl) rfl (EL.store rfl rfl qA QKe rfl rfl rfl rfl ?_)))))));intro w21 hq21 hg21;replace qD := qD.gr hg21 n2_4;replace qP := qP.gr hg21 n3_4;replace qW := qW.gr hg21 n4_12.symm;replace hs := hs.type qA rfl rfl hg21;replace hob := ZF hob qA rfl hg21;replace hbw := ZC hbw hg21 bhbw_4;replace qA := hq21;clear hg21 hq21;refine EL.nil (EX.blk (EX.seq (EC.region (EL.val (Yu rfl) rfl (EL.val (ld_3 rfl (qA.at (j := 1) rfl)) rfl ?_)))));refine EL.val (YR rfl rfl (c := ((m : Nat) : Int) - 1) (IntWalk.i64_in _ ⟨by omega, by omega⟩)) rfl ?_
        refine EL.val (Yu rfl) rfl (EL.store rfl rfl qA sz_3 rfl rfl rfl rfl ?_);intro w22 hq22 hg22;replace qD := qD.gr hg22 n2_4;replace qP := qP.gr hg22 n3_4;replace qW := qW.gr hg22 n4_12.symm;replace hs := hs.type qA rfl rfl hg22;replace hob := ZF hob qA rfl hg22;replace hbw := ZC hbw hg22 bhbw_4;replace qA := hq22;clear hg22 hq22;refine EL.nil ?_;refine EX.roundD (m, 1) trivial (by repeat first | with_reducible exact .refl _ | refine sp_ rfl ?_ | exact .refl _ | refine sd_ rfl ?_ | refine sn_ ?_) ⟨by omega, by rw [hadv, Yl hhas, hflo]; rfl, qD, qP, qA, qW, hs, hbw⟩ (by simp only; omega)
      ·
       refine EC.region (EL.mv rfl rfl (EL.nil (EX.seq (EC.yes rfl (EC.seq (EC.region (EL.mv rfl rfl (EL.val (QEn rfl) rfl (EL.store rfl rfl qA QD1 rfl rfl rfl rfl ?_)))))))));intro w23 hq23 hg23;replace qD := qD.gr hg23 n2_4;replace qP := qP.gr hg23 n3_4;replace qW := qW.gr hg23 n4_12.symm;replace hs := hs.type qA rfl rfl hg23;replace hob := ZF hob qA rfl hg23;replace hbw := ZC hbw hg23 bhbw_4;replace qA := hq23;clear hg23 hq23;refine EL.nil (EX.seq (EC.seq (EC.seq (EC.region (EL.val (QCo rfl) rfl (EL.val (QKh rfl (qA.at (j := 2) rfl)) rfl ?_))))))
       by_cases hca : ca = 1
       ·
        refine EL.val (ZV (r := true) rfl rfl (decide_eq_true hca)) rfl (EL.nil (EX.seq (EC.yes rfl ?_)));refine EC.regionS [[], [0], [], [2], [0, 1], [0, 1, 4], [0, 1, 2, 3, 4, 5], [0, 1, 2, 3, 4, 5, 6]] 8 [] [5, 7] (fun fl w_ => w23.grownBy w_ (some g4) ∧ (fl 5 = false → Blk w_ g4 59 #[.slice Ab (Zs h d ((sndR p).lo - p.keel) ((m : Nat) : Int)).best.length cb_, .int .i64 ((m : Nat) : Int), .int .i64 ca, .int .i64 0, .int .i64 0])) (phiS (fun i_ r => match i_ with | 0 => r 0 = .pointer (some ⟨g12, 2, none⟩) | 1 => r 1 = .int .i64 (sndR p).pass | 2 => r 2 = .pointer (some ⟨g12, 3, none⟩) | 3 => r 3 = .int .i64 (sndR p).hour | 4 => r 4 = .pointer (some ⟨g4, 3, none⟩) | 6 => r 6 = .pointer (some ⟨g4, 4, none⟩) | _ => True) [(5, fun fl _ w_ => fl 5 = true ∧ (fl 7 = false → Blk w_ g4 59 #[.slice Ab (Zs h d ((sndR p).lo - p.keel) ((m : Nat) : Int)).best.length cb_, .int .i64 ((m : Nat) : Int), .int .i64 ca, .int .i64 (sndR p).pass, .int .i64 0])), (7, fun fl _ w_ => fl 7 = true ∧ Blk w_ g4 59 #[.slice Ab (Zs h d ((sndR p).lo - p.keel) ((m : Nat) : Int)).best.length cb_, .int .i64 ((m : Nat) : Int), .int .i64 ca, .int .i64 (sndR p).pass, .int .i64 (sndR p).hour])]) (by kernel_rfl) rfl rfl (by intro i hi; simp at hi; rcases hi with rfl | rfl <;> exact ⟨by simp, by omega⟩) (QB9 qA) (ZY (fun _ _ _ _ hb ⟨h1, h2⟩ => ⟨h1, fun h => (h2 h).below hb (h2 h).lt⟩) (ZY (fun _ _ _ _ hb ⟨h1, h2⟩ => ⟨h1, h2.below hb h2.lt⟩) (Yf))) (fun i_ hi_ hs_ => ?_) (fun i_ hi_ => ?_) ?_
        ·match i_, hi_ with
         | 0, _ =>
          intro val fl w1 a hb ha hd hfl;obtain ⟨hgb, hz0_⟩ := hb;have ha := ha.s0 (d := 9) rfl
          exact ZK ha rfl rfl (QDe rfl) rfl rfl
         | 1, _ =>
          intro val fl w1 a hb ha hd hfl;obtain ⟨hgb, hz0_⟩ := hb;have e0 : val 0 = _ := hd 0 (ZA.1 rfl);have ha := ha.s1 (d := 83) rfl e0
          exact ZK ha rfl rfl (ld_3 rfl ((qW.grown hgb (fun h => n4_12.symm (Option.some.inj h))).at (j := 2) rfl)) rfl rfl
         | 2, _ =>
          intro val fl w1 a hb ha hd hfl;obtain ⟨hgb, hz0_⟩ := hb;have ha := ha.s0 (d := 9) rfl
          exact ZK ha rfl rfl (QDd rfl) rfl rfl
         | 3, _ =>
          intro val fl w1 a hb ha hd hfl;obtain ⟨hgb, hz0_⟩ := hb;have e2 : val 2 = _ := hd 2 (ZA.1 rfl);have ha := ha.s1 (d := 85) rfl e2
          exact ZK ha rfl rfl (ld_3 rfl ((qW.grown hgb (fun h => n4_12.symm (Option.some.inj h))).at (j := 3) rfl)) rfl rfl
         | 4, _ =>
          intro val fl w1 a hb ha hd hfl;obtain ⟨hgb, hz0_⟩ := hb;have ha := ha.s0 (d := 6) rfl
          exact ZK ha rfl rfl (QKC rfl) rfl rfl
         | 5, _ =>
          exact absurd (by simp) hs_
         | 6, _ =>
          intro val fl w1 a hb ha hd hfl;obtain ⟨hgb, hz0_⟩ := hb;have ha := ha.s0 (d := 6) rfl
          exact ZK ha rfl rfl (QKB rfl) rfl rfl
         | 7, _ =>
          exact absurd (by simp) hs_
         | k + 8, h => exact absurd h (by omega)
        ·simp only [List.mem_cons, List.not_mem_nil, or_false] at hi_
         rcases hi_ with rfl | rfl
         ·
          intro val fl w1 a hb hfi ha hd hfl;obtain ⟨hgb, hz0_⟩ := hb;have e4 : val 4 = _ := hd 4 (ZA.1 rfl);have e1 : val 1 = _ := hd 1 (ZA.1 rfl);have ha := ha.s2 (d := 84) (e := 87) rfl e1 rfl e4;refine YK ha rfl rfl rfl (hz0_ hfi) sz_3 rfl rfl rfl rfl ?_;intro w' hq hgr;refine ⟨undef, rfl, hgr.size, ⟨QAU hgb hgr, fun h => by rw [Zx] at h; cases h⟩, ⟨Zx, fun _ => hq⟩, fun j _ hj hn hA => ?_⟩
          exact ZH (C := fun j => j ≠ 5 ∧ 5 ∉ clsAt [[], [0], [], [2], [0, 1], [0, 1, 4], [0, 1, 2, 3, 4, 5], [0, 1, 2, 3, 4, 5, 6]] j) (fun hc => absurd rfl hc.1) (ZH (fun hc => absurd (ZA.1 rfl) hc.2) (fun _ _ h => h)) j ⟨hj, hn⟩
         ·
          intro val fl w1 a hb hfi ha hd hfl;obtain ⟨hgb, hz0_⟩ := hb;have e6 : val 6 = _ := hd 6 (ZA.1 rfl);have e3 : val 3 = _ := hd 3 (ZA.1 rfl);have ha := ha.s2 (d := 86) (e := 88) rfl e3 rfl e6;obtain ⟨ht0_, hp0_⟩ := hd 5 (ZA.1 rfl);refine YK ha rfl rfl rfl (hp0_ hfi) sz_3 rfl rfl rfl rfl ?_;intro w' hq hgr;refine ⟨undef, rfl, hgr.size, ⟨QAU hgb hgr, fun h => by rw [Ys rfl, ht0_] at h; cases h⟩, ⟨Zx, hq⟩, fun j _ hj hn hA => ?_⟩
          exact ZH (C := fun j => j ≠ 7 ∧ 7 ∉ clsAt [[], [0], [], [2], [0, 1], [0, 1, 4], [0, 1, 2, 3, 4, 5], [0, 1, 2, 3, 4, 5, 6]] j) (fun _ ⟨h1, _⟩ => ⟨by rw [Ys rfl]; exact h1, fun h => by rw [Zx] at h; cases h⟩) (ZH (fun hc => absurd rfl hc.1) (fun _ _ h => h)) j ⟨hj, hn⟩
        ·intro val fl wR20 hfl hb halc hd
         obtain ⟨hgb, _⟩ := hb;have hz_ := (hd 7 (by omega)).2
         change Blk wR20 g4 59 #[.slice Ab (Zs h d ((sndR p).lo - p.keel) ((m : Nat) : Int)).best.length cb_, .int .i64 ((m : Nat) : Int), .int .i64 ca, .int .i64 (sndR p).pass, .int .i64 (sndR p).hour] at hz_;have e0 : val 0 = _ := hd 0 (by omega)
         have e1 : val 1 = _ := hd 1 (by omega)
         have e2 : val 2 = _ := hd 2 (by omega)
         have e3 : val 3 = _ := hd 3 (by omega)
         have e4 : val 4 = _ := hd 4 (by omega)
         have e6 : val 6 = _ := hd 6 (by omega)
         refine EL.ends (cs := [_, _, _, _, _, val 5, _, val 7]) ⟨e0, e1, e2, e3, e4, rfl, e6, rfl, trivial⟩ rfl ?_;replace qD := qD.gr hgb n2_4;replace qP := qP.gr hgb n3_4;replace qW := qW.gr hgb n4_12.symm;replace hs := hs.type qA rfl rfl hgb;replace hob := ZF hob qA rfl hgb;replace hbw := ZC hbw hgb bhbw_4;replace qA := hz_;clear hgb hz_;refine EL.nil (EX.seq (EC.seq (EC.region (EL.val (QFU rfl (qA.at (j := 0) rfl) (qA.at (j := 1) rfl) (qA.at (j := 2) rfl) (qA.at (j := 3) rfl) (qA.at (j := 4) rfl)) rfl (EL.store rfl rfl qA QCy rfl rfl rfl rfl ?_)))));intro w24 hq24 hg24;replace qD := qD.gr hg24 n2_4;replace qP := qP.gr hg24 n3_4;replace qW := qW.gr hg24 n4_12.symm;replace hs := hs.type qA rfl rfl hg24;replace hob := ZF hob qA rfl hg24;replace hbw := ZC hbw hg24 bhbw_4;replace qA := hq24;clear hg24 hq24;refine EL.as rfl rfl (EL.nil (EX.seq (EC.ret (EX.seq_ret (EX.blk_ret (EX.seq_ret (EX.seq_ret (EX.blk_ret (EX.seq_ret ?_)))))))))
         exact EX.done (Zz rfl rfl rfl (QD6 (qA.at (j := 0) rfl) (qA.at (j := 1) rfl) (qA.at (j := 2) rfl) (qA.at (j := 3) rfl) (qA.at (j := 4) rfl))) ⟨by rw [(QFv hhul hden hS (hadv.trans (QA7 hhas))).1, (QFv hhul hden hS (hadv.trans (QA7 hhas))).2]; rw [if_pos hca, if_pos hca]; exact ⟨_, rfl, hob⟩, hbw⟩
       ·
        refine EL.val (ZV (r := false) rfl rfl (decide_eq_false hca)) rfl (EL.nil (EX.seq (EC.no rfl (EC.skip (EX.seq (EC.seq (EC.region (EL.val (QFU rfl (qA.at (j := 0) rfl) (qA.at (j := 1) rfl) (qA.at (j := 2) rfl) (qA.at (j := 3) rfl) (qA.at (j := 4) rfl)) rfl (EL.store rfl rfl qA QCy rfl rfl rfl rfl ?_)))))))));intro w25 hq25 hg25;replace qD := qD.gr hg25 n2_4;replace qP := qP.gr hg25 n3_4;replace qW := qW.gr hg25 n4_12.symm;replace hs := hs.type qA rfl rfl hg25;replace hob := ZF hob qA rfl hg25;replace hbw := ZC hbw hg25 bhbw_4;replace qA := hq25;clear hg25 hq25;refine EL.as rfl rfl (EL.nil (EX.seq (EC.ret (EX.seq_ret (EX.blk_ret (EX.seq_ret (EX.seq_ret (EX.blk_ret (EX.seq_ret ?_)))))))))
        exact EX.done (Zz rfl rfl rfl (QD6 (qA.at (j := 0) rfl) (qA.at (j := 1) rfl) (qA.at (j := 2) rfl) (qA.at (j := 3) rfl) (qA.at (j := 4) rfl))) ⟨by rw [(QFv hhul hden hS (hadv.trans (QA7 hhas))).1, (QFv hhul hden hS (hadv.trans (QA7 hhas))).2]; rw [if_neg hca, if_neg hca]; exact ⟨_, rfl, hob⟩, hbw⟩
     ·
      obtain rfl : j = 0 := by omega
      refine EC.seq (EC.seq (EC.region (EL.val (Yu rfl) rfl (EL.val (ld_3 rfl (qA.at (j := 1) rfl)) rfl ?_))));refine EL.val (QAl (r := false) rfl rfl (decide_eq_false (by omega))) rfl ?_
      refine EL.nil (EX.seq (EC.no rfl (EC.exit (EX.seq_exit (EX.seq_exit (EX.blk_here (EX.seq (EC.seq (EC.region ?_)))))))));refine EL.val (QLG) rfl (EL.store rfl rfl qA QCy rfl rfl rfl rfl ?_);intro w26 hq26 hg26;replace qD := qD.gr hg26 n2_4;replace qP := qP.gr hg26 n3_4;replace qW := qW.gr hg26 n4_12.symm;replace hs := hs.type qA rfl rfl hg26;replace hbw := ZC hbw hg26 bhbw_4;replace qA := hq26;clear hg26 hq26;refine EL.as rfl rfl (EL.nil (EX.seq (EC.ret ?_)))
      exact EX.done (Zz rfl rfl rfl (QD6 (qA.at (j := 0) rfl) (qA.at (j := 1) rfl) (qA.at (j := 2) rfl) (qA.at (j := 3) rfl) (qA.at (j := 4) rfl))) ⟨by rw [(QKr hhul hden hS hadv).1, (QKr hhul hden hS hadv).2]; exact ⟨_, rfl, own_nil _ _ _ _⟩, hbw⟩
def sTwo : Sec := ⟨30, 100, 50, [⟨0, 0⟩, ⟨100, 300⟩, ⟨300, 900⟩], [⟨15, 4⟩]⟩
def hTwo : Hul := ⟨100, [sTwo, sTwo]⟩
def still : Bd := ⟨1000, 1000⟩
def rPas : River := ⟨[⟨100, 2, ⟨1000, 1000⟩, [⟨0, 100⟩, ⟨10000, 300⟩], 0, ⟨50, 60⟩, 400⟩, ⟨50, 1, ⟨2000, 2000⟩, [⟨0, 0⟩, ⟨20000, 400⟩], 150, ⟨20, 20⟩, 160⟩], [⟨120, ⟨40, 50⟩, 0, ⟨0, 12⟩⟩]⟩
def pPas : Pas := ⟨rPas, [[⟨2000, 3000⟩, ⟨2000, 3000⟩, ⟨2000, 3000⟩, ⟨2000, 3000⟩], [⟨500, 500⟩, ⟨500, 500⟩, ⟨500, 500⟩, ⟨500, 500⟩]], [⟨10, ⟨0, 1⟩⟩, ⟨120, ⟨2, 3⟩⟩], 20⟩
theorem QJ7 {p : Nat → Bool} {n r : Nat} (hu : UpB p n) (hr : r < n) (h1 : p r = true) (h2 : r = 0 ∨ p (r - 1) = false) : fstN p n = r := by
 refine (QJ8 (by omega) (fun i hi => ?_) fun _ => h1).symm
 cases e : p i with
 | false => rfl
 | true =>
  rcases h2 with h2 | h2
  ·omega
  ·rw [hu i (r - 1) (by omega) (by omega) e] at h2; cases h2
theorem QA8 : hulB hTwo = true := by decide
theorem QEO : HulOk hTwo := QBb QA8
theorem QEP : limH hTwo = 300 := by decide
theorem QE5 : ZQ hTwo = [⟨-30, 4⟩, ⟨30, 4⟩] := rfl
theorem Yv {n need : Int} {r : Nat} (hn : QBP hTwo n 1000 = need) (hr : r < 301) (h1 : decide (need ≤ volH hTwo r) = true) (h2 : r = 0 ∨ decide (need ≤ volH hTwo ((r - 1 : Nat) : Int)) = false) : meanN hTwo n 1000 = r := by
 unfold meanN
 rw [hn];have e : (limH hTwo + 1).toNat = 301 := by rw [QEP]; rfl
 exact QJ7 (up_vol QEO need) (by omega) h1 h2
theorem QIr : meanN hTwo 1 1000 = 50 := Yv (need := 300) (by decide) (by omega) (by decide) (.inr (by decide))
theorem QIq : meanN hTwo 2 1000 = 67 := Yv (need := 400) (by decide) (by omega) (by decide) (.inr (by decide))
theorem QK7 : meanN hTwo 3 1000 = 84 := Yv (need := 500) (by decide) (by omega) (by decide) (.inr (by decide))
theorem QIp : meanN hTwo 4 1000 = 100 := Yv (need := 600) (by decide) (by omega) (by decide) (.inr (by decide))
theorem QK6 : meanN hTwo 5 1000 = 117 := Yv (need := 700) (by decide) (by omega) (by decide) (.inr (by decide))
theorem QK5 : meanN hTwo 6 1000 = 134 := Yv (need := 800) (by decide) (by omega) (by decide) (.inr (by decide))
theorem QK4 : meanN hTwo 7 1000 = 150 := Yv (need := 900) (by decide) (by omega) (by decide) (.inr (by decide))
theorem QK3 : meanN hTwo 8 1000 = 167 := Yv (need := 1000) (by decide) (by omega) (by decide) (.inr (by decide))
theorem QCe {l : List Int} {m : Nat} {t hd : Int} (hm : meanN hTwo (sumI l) 1000 = m) (ht : Zr hTwo l = t) (hh : Y0 (momT hTwo l) = hd) : fltT hTwo l still = ⟨⟨m, m⟩, ⟨m + t, m + t⟩, hd⟩ := by
 unfold fltT
 rw [show still.hi = 1000 from rfl, show still.lo = 1000 from rfl, hm, ht, hh]
theorem QJF : fltT hTwo [3, 1] still = ⟨⟨100, 100⟩, ⟨115, 115⟩, -1⟩ := QCe (m := 100) (t := 15) QIp (by decide) (by decide)
theorem QDZ : fltT hTwo [1, 1] still = ⟨⟨67, 67⟩, ⟨67, 67⟩, 0⟩ := QCe (m := 67) (t := 0) QIq (by decide) (by decide)
theorem QJH : fltT hTwo [0, 1] still = ⟨⟨50, 50⟩, ⟨58, 58⟩, 1⟩ := QCe (m := 50) (t := 8) QIr (by decide) (by decide)
theorem QJG : fltT hTwo [1, 0] still = ⟨⟨50, 50⟩, ⟨58, 58⟩, -1⟩ := QCe (m := 50) (t := 8) QIr (by decide) (by decide)
theorem QDC {l : List Int} {f : Flt} (hf : fltT hTwo l still = f) (h : decide (f.deep.hi ≤ 300) = true) : Yn hTwo l still = true := by
 unfold Yn
 rw [hf, QEP]
 exact h
theorem QGv : LoadIs hTwo [3, 1] still := ⟨QA8, by decide, by decide, by decide, QDC QJF (by decide)⟩
theorem QJ2 : LoadIs hTwo [1, 1] still := ⟨QA8, by decide, by decide, by decide, QDC QDZ (by decide)⟩
theorem LoadIs.e {h : Hul} {l : List Int} {d : Bd} (h0 : LoadIs h l d) : YF h l d = 0 := (QEb h0.hul h0.len h0.fits h0.den h0.ok).1
theorem QGa : volE hTwo 150 = 0 ∧ volF hTwo 150 = 900 := by
 have h1 := QIC (h := hTwo) (d := 150) QA8 (by rw [QEP]; decide)
 exact ⟨h1.1, h1.2.trans (by decide)⟩
theorem QDz : YF hTwo [3, 1] still = 0 ∧ YO hTwo [3, 1] still = ⟨⟨100, 100⟩, ⟨115, 115⟩, -1⟩ := ⟨QGv.e, QGv.f.trans QJF⟩
theorem QAK : sndE pPas = 0 ∧ sndR pPas = ⟨80, 110, 0, 0⟩ := by
 constructor <;> kernel_rfl
theorem QAS : safE hTwo [1, 1] still pPas = 0 ∧ safS hTwo [1, 1] still pPas = false ∧ safP hTwo [1, 1] still pPas = true ∧ safA hTwo [1, 1] still pPas = 0 ∧ safH hTwo [1, 1] still pPas = 0 := by
 have h0 : safE hTwo [1, 1] still pPas = 0 := by rw [safE, if_pos QJ2.e]; exact QAK.1
 refine ⟨h0, ?_, ?_, ?_, ?_⟩
 ·rw [safS, h0, QAK.2, QDZ]; rfl
 ·rw [safP, h0, QAK.2, QDZ]; rfl
 ·rw [safA, if_pos h0, QAK.2]
 ·rw [safH, if_pos h0, QAK.2]
theorem QEQ : cutE hTwo 0 1 = 0 ∧ (cutH hTwo 0 1).secs.length = 1 ∧ (cutH hTwo 0 1).lot = 100 := by
 have h := QJM (h := hTwo) (p := 0) (q := 1) QA8 (by decide) (by decide)
 exact ⟨h.1, by rw [h.2]; decide, by rw [h.2]; rfl⟩
def QGo : List Plate := [⟨⟨800, 820⟩, ⟨10, 15⟩⟩, ⟨⟨700, 700⟩, ⟨0, 4⟩⟩]
theorem QHN {r e : Int} (h : QAd hTwo [1, 1] still pPas r e) : r = 0 ∧ e = 7 := by
 rw [QAd, if_pos QAS.1] at h;obtain ⟨k, h1, h2⟩ := h;have hn : (fltT hTwo [1, 1] still).deep.hi + pPas.keel = 87 := by rw [QDZ]; rfl
 rw [hn] at h1 h2;have z0 : sndE (pPas.later ((0 : Nat) : Int)) = 0 := by kernel_rfl
 have z1 : (sndR (pPas.later ((0 : Nat) : Int))).lo = 80 := by kernel_rfl
 have z2 : sndE (pPas.later ((1 : Nat) : Int)) = 3 := by kernel_rfl
 rcases k with _ | _ | k
 ·rcases h2 with ⟨h3, _⟩ | ⟨_, h3, _⟩
  ·exact absurd z0 h3
  ·rw [z1] at h3; omega
 ·rcases h2 with ⟨_, h3⟩ | ⟨h3, _⟩
  ·exact h3
  ·rw [z2] at h3; omega
 ·have := (h1 1 (by omega)).1
  rw [z2] at this
  omega
/-! ### What is advised -/
theorem QHM {n : Int} {l : List Int} (hn : 0 ≤ n) (hl : l ∈ loadsL (ZQ hTwo) n) : (l.length = (ZQ hTwo).length ∧ Z9 (ZQ hTwo) l = true) ∧ sumI l = n :=
 (QBG hn fun x hx => (QEO.arms.at_ x hx).2.1).1 hl
theorem QIG {n : Int} {m : Nat} {l : List Int} (hn : 0 ≤ n) (hm : meanN hTwo n 1000 = m) (hl : l ∈ loadsL (ZQ hTwo) n) : (m : Int) ≤ (fltT hTwo l still).deep.hi := by
 have h1 := QHM hn hl;have h2 := QER QEO ⟨QEO.arms, h1.1.1, h1.1.2⟩;have e : (fltT hTwo l still).deep.hi = (meanN hTwo (sumI l) 1000 : Nat) + Zr hTwo l := rfl;rw [e, h1.2, hm]
 omega
theorem QAA {n : Nat} {m : Nat} (hm : meanN hTwo ((n : Nat) : Int) 1000 = m) (h60 : 60 < m) : (Zs hTwo still 60 ((n : Nat) : Int)).has = false := by
 cases e : (Zs hTwo still 60 ((n : Nat) : Int)).has with
 | false => rfl
 | true =>
  obtain ⟨l, hl, hok⟩ := (QHD hTwo still 60 ((n : Nat) : Int)).has.1 e;have h1 := QIG (by omega) hm hl
  unfold okL at hok
  simp only [Bool.and_eq_true, decide_eq_true_eq] at hok
  omega
theorem QJk : (Zs hTwo still 60 2).flo = true := (QHD hTwo still 60 2).flo.2 ⟨[1, 1], by rw [QE5]; decide, QDC QDZ (by decide)⟩
theorem QE4 : (Zs hTwo still 60 1).has = true ∧ (Zs hTwo still 60 1).best = [0, 1] := by
 have e : loadsL (ZQ hTwo) 1 = [[0, 1], [1, 0]] := by rw [QE5]; decide
 have o1 : okL hTwo still 60 [0, 1] = true := by unfold okL; rw [QDC QJH (by decide), QJH]; rfl
 have o2 : okL hTwo still 60 [1, 0] = true := by unfold okL; rw [QDC QJG (by decide), QJG]; rfl
 have m1 : absI (momT hTwo [0, 1]) = 3000 := by decide
 have m2 : absI (momT hTwo [1, 0]) = 3000 := by decide
 have b1 : YH hTwo still 60 bst0 [0, 1] = ⟨[0, 1], true, true, 3000⟩ := by
  unfold YH
  rw [o1, if_neg (by decide), if_pos (.inl rfl), m1]
 have b2 : YH hTwo still 60 ⟨[0, 1], true, true, 3000⟩ [1, 0] = ⟨[0, 1], true, true, 3000⟩ := by
  unfold YH
  rw [o2, if_neg (by decide), m2, if_neg (by simp)]
 have b : Zs hTwo still 60 1 = ⟨[0, 1], true, true, 3000⟩ := by
  unfold Zs
  rw [e, List.foldl_cons, List.foldl_cons, List.foldl_nil, b1, b2]
 rw [b]
 exact ⟨rfl, rfl⟩
theorem QGb : advE hTwo still pPas = 0 ∧ advR hTwo still pPas = ⟨[0, 1], 1, 1, 0, 0⟩ := by
 have hb : advB hTwo still pPas = some ([0, 1], 1, 1) := by
  unfold advB
  rw [QAK.2, show (80 : Int) - pPas.keel = 60 from rfl, show (QDM hTwo + 1).toNat = 9 by decide]
  rw [Yl (j := 8) (QAA (m := 167) QK3 (by omega)), Yl (j := 7) (QAA (m := 150) QK4 (by omega)), Yl (j := 6) (QAA (m := 134) QK5 (by omega)), Yl (j := 5) (QAA (m := 117) QK6 (by omega)), Yl (j := 4) (QAA (m := 100) QIp (by omega)), Yl (j := 3) (QAA (m := 84) QK7 (by omega)), Yl (j := 2) (QAA (m := 67) QIq (by omega))]
  rw [show (Zs hTwo still 60 ((2 : Nat) : Int)).flo = true from QJk, if_pos rfl, QA7 (j := 1) (c := 1) QE4.1];rw [show (Zs hTwo still 60 ((1 : Nat) : Int)).best = [0, 1] from QE4.2]
  rfl
 have h := QFv (d := still) QA8 (by decide) QAK.1 hb
 refine ⟨h.1, h.2.trans ?_⟩;rw [if_pos rfl, if_pos rfl, QAK.2]
section
variable {n : Nat} {σ : Sg} {w : World} {dst : Option Tmp} {ty : TypeId} {pos : String} {af : Array Edge} {g : Option (Nat × Bool)} {x y z : Operand} {at' : Array TypeId}
theorem QDi {x0 x1 : Operand} {z0 : Int} {z1 : Int} (h0 : evS σ x0 = some (.int .i64 z0)) (h1 : evS σ x1 = some (.int .i64 z1)) : ZE Try.prog n σ w ⟨dst, .build 111 #[(0, x0), (1, x1)], ty, pos, af, g⟩ (.agg #[.int .i64 z0, .int .i64 z1]) := fun a ha => by
 simp only [execOp, List.map_toArray, List.map_cons, List.map_nil, ha.eval h0, ha.eval h1]
 go_simp
theorem QKK {x0 x1 x2 : Operand} {v0_0 v0_1 v1_0 v1_1 v2_0 v2_1 : Value} (h0 : evS σ x0 = some (.agg #[v0_0, v0_1])) (h1 : evS σ x1 = some (.agg #[v1_0, v1_1])) (h2 : evS σ x2 = some (.agg #[v2_0, v2_1]))  (a : Act) (ha : Env n σ a) : (execOp a.eval ⟨dst, .buildSlice 67 3 #[(0, x0), (1, x1), (2, x2)], ty, pos, af, g⟩).run Try.prog w = .ok (.value (.slice (some ⟨w.heap.size, 0, none⟩) 3 3)) (w.alloc (.cells #[v0_0, v0_1, v1_0, v1_1, v2_0, v2_1] 111)) := by
 simp only [execOp, List.map_toArray, List.map_cons, List.map_nil, ha.eval h0, ha.eval h1, ha.eval h2]
 go_simp
theorem QH5 {x0 x1 : Operand} {z0 : Int} {z1 : Int} (h0 : evS σ x0 = some (.int .i64 z0)) (h1 : evS σ x1 = some (.int .i64 z1)) : ZE Try.prog n σ w ⟨dst, .build 66 #[(0, x0), (1, x1)], ty, pos, af, g⟩ (.agg #[.int .i64 z0, .int .i64 z1]) := fun a ha => by
 simp only [execOp, List.map_toArray, List.map_cons, List.map_nil, ha.eval h0, ha.eval h1]
 go_simp
theorem QKI {x0 : Operand} {v0_0 v0_1 : Value} (h0 : evS σ x0 = some (.agg #[v0_0, v0_1]))  (a : Act) (ha : Env n σ a) : (execOp a.eval ⟨dst, .buildSlice 68 1 #[(0, x0)], ty, pos, af, g⟩).run Try.prog w = .ok (.value (.slice (some ⟨w.heap.size, 0, none⟩) 1 1)) (w.alloc (.cells #[v0_0, v0_1] 66)) := by
 simp only [execOp, List.map_toArray, List.map_cons, List.map_nil, ha.eval h0]
 go_simp
theorem QCd {x0 x1 x2 x3 x4 : Operand} {z0 : Int} {z1 : Int} {z2 : Int} {A3 : Option Addr} {m3 : Nat} {c3 : Nat} {A4 : Option Addr} {m4 : Nat} {c4 : Nat} (h0 : evS σ x0 = some (.int .i64 z0)) (h1 : evS σ x1 = some (.int .i64 z1)) (h2 : evS σ x2 = some (.int .i64 z2)) (h3 : evS σ x3 = some (.slice A3 m3 c3)) (h4 : evS σ x4 = some (.slice A4 m4 c4)) : ZE Try.prog n σ w ⟨dst, .build 70 #[(0, x0), (1, x1), (2, x2), (3, x3), (4, x4)], ty, pos, af, g⟩ (.agg #[.int .i64 z0, .int .i64 z1, .int .i64 z2, .slice A3 m3 c3, .slice A4 m4 c4]) := fun a ha => by
 simp only [execOp, List.map_toArray, List.map_cons, List.map_nil, ha.eval h0, ha.eval h1, ha.eval h2, ha.eval h3, ha.eval h4]
 go_simp
theorem QKR {x0 x1 : Operand} {v0_0 v0_1 v0_2 v0_3 v0_4 v1_0 v1_1 v1_2 v1_3 v1_4 : Value} (h0 : evS σ x0 = some (.agg #[v0_0, v0_1, v0_2, v0_3, v0_4])) (h1 : evS σ x1 = some (.agg #[v1_0, v1_1, v1_2, v1_3, v1_4]))  (a : Act) (ha : Env n σ a) : (execOp a.eval ⟨dst, .buildSlice 42 2 #[(0, x0), (1, x1)], ty, pos, af, g⟩).run Try.prog w = .ok (.value (.slice (some ⟨w.heap.size, 0, none⟩) 2 2)) (w.alloc (.cells #[v0_0, v0_1, v0_2, v0_3, v0_4, v1_0, v1_1, v1_2, v1_3, v1_4] 70)) := by
 simp only [execOp, List.map_toArray, List.map_cons, List.map_nil, ha.eval h0, ha.eval h1]
 go_simp
theorem QH7 {x0 x1 : Operand} {z0 : Int} {A1 : Option Addr} {m1 : Nat} {c1 : Nat} (h0 : evS σ x0 = some (.int .i64 z0)) (h1 : evS σ x1 = some (.slice A1 m1 c1)) : ZE Try.prog n σ w ⟨dst, .build 44 #[(0, x0), (1, x1)], ty, pos, af, g⟩ (.agg #[.int .i64 z0, .slice A1 m1 c1]) := fun a ha => by
 simp only [execOp, List.map_toArray, List.map_cons, List.map_nil, ha.eval h0, ha.eval h1]
 go_simp
theorem QLc (a : Act) (_ : Env n σ a) : (execOp a.eval ⟨dst, .alloc 53, ty, pos, af, g⟩).run Try.prog w = .ok (.value (.pointer (some ⟨w.heap.size, 0, none⟩))) (w.alloc (.cells #[.slice none 0 0, .slice none 0 0, .slice none 0 0, .slice none 0 0, .int .i64 0] 53)) := by
 simp only [execOp]
 simp [go_sem]
theorem Zw {xf x0 x1 : Operand} {v0 v1 : Value} (hf : evS σ xf = some (.func (.func 51) #[] #[])) (h0 : evS σ x0 = some v0) (h1 : evS σ x1 = some v1) (a : Act) (ha : Env n σ a) : (execOp a.eval ⟨dst, .call { callee := .value xf, args := #[x0, x1], argTypes := at' }, ty, pos, af, g⟩).run Try.prog w = .ok (.enter 51 #[v0, v1]) w := by
 simp only [execOp, resolve, List.map_toArray, List.map_cons, List.map_nil, ha.eval hf, ha.eval h0, ha.eval h1]
 simp [go_sem, Deferred.ofValue]
theorem QJV {x0 : Operand} {z0 : Int} (h0 : evS σ x0 = some (.int .i64 z0)) : ZE Try.prog n σ w ⟨dst, .build 113 #[(1, x0)], ty, pos, af, g⟩ (.agg #[.int .i64 0, .int .i64 z0]) := fun a ha => by
 simp only [execOp, List.map_toArray, List.map_cons, List.map_nil, ha.eval h0]
 go_simp
theorem QDh {x0 x1 : Operand} {z0 : Int} {z1 : Int} (h0 : evS σ x0 = some (.int .i64 z0)) (h1 : evS σ x1 = some (.int .i64 z1)) : ZE Try.prog n σ w ⟨dst, .build 113 #[(0, x0), (1, x1)], ty, pos, af, g⟩ (.agg #[.int .i64 z0, .int .i64 z1]) := fun a ha => by
 simp only [execOp, List.map_toArray, List.map_cons, List.map_nil, ha.eval h0, ha.eval h1]
 go_simp
theorem QHC {x0 x1 : Operand} {v0_0 v0_1 v1_0 v1_1 : Value} (h0 : evS σ x0 = some (.agg #[v0_0, v0_1])) (h1 : evS σ x1 = some (.agg #[v1_0, v1_1]))  (a : Act) (ha : Env n σ a) : (execOp a.eval ⟨dst, .buildSlice 96 2 #[(0, x0), (1, x1)], ty, pos, af, g⟩).run Try.prog w = .ok (.value (.slice (some ⟨w.heap.size, 0, none⟩) 2 2)) (w.alloc (.cells #[v0_0, v0_1, v1_0, v1_1] 113)) := by
 simp only [execOp, List.map_toArray, List.map_cons, List.map_nil, ha.eval h0, ha.eval h1]
 go_simp
theorem QB8 {x0 x1 x2 x3 x4 x5 : Operand} {z0 : Int} {z1 : Int} {v2_0 : Value} {v2_1 : Value} {A3 : Option Addr} {m3 : Nat} {c3 : Nat} {v4_0 : Value} {v4_1 : Value} {z5 : Int} (h0 : evS σ x0 = some (.int .i64 z0)) (h1 : evS σ x1 = some (.int .i64 z1)) (h2 : evS σ x2 = some (.agg #[v2_0, v2_1])) (h3 : evS σ x3 = some (.slice A3 m3 c3)) (h4 : evS σ x4 = some (.agg #[v4_0, v4_1])) (h5 : evS σ x5 = some (.int .i64 z5)) : ZE Try.prog n σ w ⟨dst, .build 98 #[(0, x0), (1, x1), (2, x2), (3, x3), (5, x4), (6, x5)], ty, pos, af, g⟩ (.agg #[.int .i64 z0, .int .i64 z1, v2_0, v2_1, .slice A3 m3 c3, .int .i64 0, v4_0, v4_1, .int .i64 z5]) := fun a ha => by
 simp only [execOp, List.map_toArray, List.map_cons, List.map_nil, ha.eval h0, ha.eval h1, ha.eval h2, ha.eval h3, ha.eval h4, ha.eval h5]
 go_simp
theorem QKX    : ZE Try.prog n σ w ⟨dst, .build 113 #[], ty, pos, af, g⟩ (.agg #[.int .i64 0, .int .i64 0]) := fun a _ => by
 simp only [execOp, List.map_toArray, List.map_nil]
 go_simp
theorem QBO {x0 x1 x2 x3 x4 x5 x6 : Operand} {z0 : Int} {z1 : Int} {v2_0 : Value} {v2_1 : Value} {A3 : Option Addr} {m3 : Nat} {c3 : Nat} {z4 : Int} {v5_0 : Value} {v5_1 : Value} {z6 : Int} (h0 : evS σ x0 = some (.int .i64 z0)) (h1 : evS σ x1 = some (.int .i64 z1)) (h2 : evS σ x2 = some (.agg #[v2_0, v2_1])) (h3 : evS σ x3 = some (.slice A3 m3 c3)) (h4 : evS σ x4 = some (.int .i64 z4)) (h5 : evS σ x5 = some (.agg #[v5_0, v5_1])) (h6 : evS σ x6 = some (.int .i64 z6)) : ZE Try.prog n σ w ⟨dst, .build 98 #[(0, x0), (1, x1), (2, x2), (3, x3), (4, x4), (5, x5), (6, x6)], ty, pos, af, g⟩ (.agg #[.int .i64 z0, .int .i64 z1, v2_0, v2_1, .slice A3 m3 c3, .int .i64 z4, v5_0, v5_1, .int .i64 z6]) := fun a ha => by
 simp only [execOp, List.map_toArray, List.map_cons, List.map_nil, ha.eval h0, ha.eval h1, ha.eval h2, ha.eval h3, ha.eval h4, ha.eval h5, ha.eval h6]
 go_simp
theorem QKQ {x0 x1 : Operand} {v0_0 v0_1 v0_2 v0_3 v0_4 v0_5 v0_6 v0_7 v0_8 v1_0 v1_1 v1_2 v1_3 v1_4 v1_5 v1_6 v1_7 v1_8 : Value} (h0 : evS σ x0 = some (.agg #[v0_0, v0_1, v0_2, v0_3, v0_4, v0_5, v0_6, v0_7, v0_8])) (h1 : evS σ x1 = some (.agg #[v1_0, v1_1, v1_2, v1_3, v1_4, v1_5, v1_6, v1_7, v1_8]))  (a : Act) (ha : Env n σ a) : (execOp a.eval ⟨dst, .buildSlice 46 2 #[(0, x0), (1, x1)], ty, pos, af, g⟩).run Try.prog w = .ok (.value (.slice (some ⟨w.heap.size, 0, none⟩) 2 2)) (w.alloc (.cells #[v0_0, v0_1, v0_2, v0_3, v0_4, v0_5, v0_6, v0_7, v0_8, v1_0, v1_1, v1_2, v1_3, v1_4, v1_5, v1_6, v1_7, v1_8] 98)) := by
 simp only [execOp, List.map_toArray, List.map_cons, List.map_nil, ha.eval h0, ha.eval h1]
 go_simp
theorem QEv {x0 x1 x2 : Operand} {z0 : Int} {v1_0 : Value} {v1_1 : Value} {v2_0 : Value} {v2_1 : Value} (h0 : evS σ x0 = some (.int .i64 z0)) (h1 : evS σ x1 = some (.agg #[v1_0, v1_1])) (h2 : evS σ x2 = some (.agg #[v2_0, v2_1])) : ZE Try.prog n σ w ⟨dst, .build 100 #[(0, x0), (1, x1), (3, x2)], ty, pos, af, g⟩ (.agg #[.int .i64 z0, v1_0, v1_1, .int .i64 0, v2_0, v2_1]) := fun a ha => by
 simp only [execOp, List.map_toArray, List.map_cons, List.map_nil, ha.eval h0, ha.eval h1, ha.eval h2]
 go_simp
theorem QKP {x0 : Operand} {v0_0 v0_1 v0_2 v0_3 v0_4 v0_5 : Value} (h0 : evS σ x0 = some (.agg #[v0_0, v0_1, v0_2, v0_3, v0_4, v0_5]))  (a : Act) (ha : Env n σ a) : (execOp a.eval ⟨dst, .buildSlice 47 1 #[(0, x0)], ty, pos, af, g⟩).run Try.prog w = .ok (.value (.slice (some ⟨w.heap.size, 0, none⟩) 1 1)) (w.alloc (.cells #[v0_0, v0_1, v0_2, v0_3, v0_4, v0_5] 100)) := by
 simp only [execOp, List.map_toArray, List.map_cons, List.map_nil, ha.eval h0]
 go_simp
theorem QH6 {x0 x1 : Operand} {A0 : Option Addr} {m0 : Nat} {c0 : Nat} {A1 : Option Addr} {m1 : Nat} {c1 : Nat} (h0 : evS σ x0 = some (.slice A0 m0 c0)) (h1 : evS σ x1 = some (.slice A1 m1 c1)) : ZE Try.prog n σ w ⟨dst, .build 49 #[(0, x0), (1, x1)], ty, pos, af, g⟩ (.agg #[.slice A0 m0 c0, .slice A1 m1 c1]) := fun a ha => by
 simp only [execOp, List.map_toArray, List.map_cons, List.map_nil, ha.eval h0, ha.eval h1]
 go_simp
theorem QLd (a : Act) (_ : Env n σ a) : (execOp a.eval ⟨dst, .alloc 49, ty, pos, af, g⟩).run Try.prog w = .ok (.value (.pointer (some ⟨w.heap.size, 0, none⟩))) (w.alloc (.cells #[.slice none 0 0, .slice none 0 0] 49)) := by
 simp only [execOp]
 simp [go_sem]
theorem QLP : (Try.prog.info? 49).map (·.size) = some 2 := by kernel_rfl
theorem QFo {x0 x1 x2 x3 : Operand} {v0_0 v0_1 v1_0 v1_1 v2_0 v2_1 v3_0 v3_1 : Value} (h0 : evS σ x0 = some (.agg #[v0_0, v0_1])) (h1 : evS σ x1 = some (.agg #[v1_0, v1_1])) (h2 : evS σ x2 = some (.agg #[v2_0, v2_1])) (h3 : evS σ x3 = some (.agg #[v3_0, v3_1]))  (a : Act) (ha : Env n σ a) : (execOp a.eval ⟨dst, .buildSlice 101 4 #[(0, x0), (1, x1), (2, x2), (3, x3)], ty, pos, af, g⟩).run Try.prog w = .ok (.value (.slice (some ⟨w.heap.size, 0, none⟩) 4 4)) (w.alloc (.cells #[v0_0, v0_1, v1_0, v1_1, v2_0, v2_1, v3_0, v3_1] 25)) := by
 simp only [execOp, List.map_toArray, List.map_cons, List.map_nil, ha.eval h0, ha.eval h1, ha.eval h2, ha.eval h3]
 go_simp
theorem QKO {x0 x1 : Operand} {A0 A1 : Option Addr} {m0 c0 m1 c1 : Nat} (h0 : evS σ x0 = some (.slice A0 m0 c0)) (h1 : evS σ x1 = some (.slice A1 m1 c1)) (a : Act) (ha : Env n σ a) : (execOp a.eval ⟨dst, .buildSlice 50 2 #[(0, x0), (1, x1)], ty, pos, af, g⟩).run Try.prog w = .ok (.value (.slice (some ⟨w.heap.size, 0, none⟩) 2 2)) (w.alloc (.cells #[.slice A0 m0 c0, .slice A1 m1 c1] 101)) := by
 simp only [execOp, List.map_toArray, List.map_cons, List.map_nil, ha.eval h0, ha.eval h1]
 go_simp
theorem QKM {x0 x1 : Operand} {v0_0 v0_1 v0_2 v1_0 v1_1 v1_2 : Value} (h0 : evS σ x0 = some (.agg #[v0_0, v0_1, v0_2])) (h1 : evS σ x1 = some (.agg #[v1_0, v1_1, v1_2]))  (a : Act) (ha : Env n σ a) : (execOp a.eval ⟨dst, .buildSlice 51 2 #[(0, x0), (1, x1)], ty, pos, af, g⟩).run Try.prog w = .ok (.value (.slice (some ⟨w.heap.size, 0, none⟩) 2 2)) (w.alloc (.cells #[v0_0, v0_1, v0_2, v1_0, v1_1, v1_2] 85)) := by
 simp only [execOp, List.map_toArray, List.map_cons, List.map_nil, ha.eval h0, ha.eval h1]
 go_simp
theorem QEF {x0 x1 : Operand} {z0 : Int} {v1_0 : Value} {v1_1 : Value} (h0 : evS σ x0 = some (.int .i64 z0)) (h1 : evS σ x1 = some (.agg #[v1_0, v1_1])) : ZE Try.prog n σ w ⟨dst, .build 85 #[(0, x0), (1, x1)], ty, pos, af, g⟩ (.agg #[.int .i64 z0, v1_0, v1_1]) := fun a ha => by
 simp only [execOp, List.map_toArray, List.map_cons, List.map_nil, ha.eval h0, ha.eval h1]
 go_simp
theorem QDv {x0 x1 x2 x3 : Operand} {v0_0 : Value} {v0_1 : Value} {A1 : Option Addr} {m1 : Nat} {c1 : Nat} {A2 : Option Addr} {m2 : Nat} {c2 : Nat} {z3 : Int} (h0 : evS σ x0 = some (.agg #[v0_0, v0_1])) (h1 : evS σ x1 = some (.slice A1 m1 c1)) (h2 : evS σ x2 = some (.slice A2 m2 c2)) (h3 : evS σ x3 = some (.int .i64 z3)) : ZE Try.prog n σ w ⟨dst, .build 53 #[(0, x0), (1, x1), (2, x2), (3, x3)], ty, pos, af, g⟩ (.agg #[v0_0, v0_1, .slice A1 m1 c1, .slice A2 m2 c2, .int .i64 z3]) := fun a ha => by
 simp only [execOp, List.map_toArray, List.map_cons, List.map_nil, ha.eval h0, ha.eval h1, ha.eval h2, ha.eval h3]
 go_simp
theorem QLN : (Try.prog.info? 53).map (·.size) = some 5 := by kernel_rfl
theorem QLU {b o : Nat} {v0 v1 v2 v3 v4 : Value} (c0 : w.cell? ⟨b, o, none⟩ = some v0) (c1 : w.cell? ⟨b, o + 1, none⟩ = some v1) (c2 : w.cell? ⟨b, o + 2, none⟩ = some v2) (c3 : w.cell? ⟨b, o + 3, none⟩ = some v3) (c4 : w.cell? ⟨b, o + 4, none⟩ = some v4) : (loadVar 53 ⟨b, o, none⟩).run Try.prog w = .ok (.agg #[v0, v1, v2, v3, v4]) w := by
 simp [go_sem, loadVar, c0, c1, c2, c3, c4]
end
theorem QA9 : Zq hTwo.secs := fun s hs => by
 have : s = sTwo := by simpa [hTwo] using hs
 subst this
 decide
theorem QEX : PasFew pPas := ⟨by decide, by decide, fun i hi => by
  have h2 : i < 2 := hi
  match i, h2 with
  | 0, _ => decide
  | 1, _ => decide, by decide, fun i hi => by
  have h2 : i < 2 := hi
  match i, h2 with
  | 0, _ => decide
  | 1, _ => decide⟩
theorem QE2 : YS QGo 600 = 0 ∧ YZ QGo 600 = ⟨13, 22, 0⟩ := by
 constructor <;> rfl
theorem QBn {i : Nat} : Mono fun r w => ∃ v vs, r i = .agg #[.int .i64 100, v] ∧ RdSecs w w.heap.size v hTwo.secs vs := fun _ _ _ hb ⟨v, vs, h1, h2⟩ => ⟨v, vs, h1, h2.go hb⟩
theorem QDE {i : Nat} : Mono fun r w => ∃ q : PasV, r i = pasA pPas q ∧ RdPas w w.heap.size pPas q := fun _ _ _ hb ⟨q, h1, h2⟩ => ⟨q, h1, (h2.below hb).more hb.size⟩
theorem QA_ (w : World) : Calls Try.prog 30 #[] w fun e w' => (∃ v vs, e = .returned (.agg #[.int .i64 100, v]) ∧ RdSecs w' w'.heap.size v hTwo.secs vs) ∧ Below w.heap.size w w' := by
 have hbw := Below.refl w.heap.size w;refine EC.enter 13 Try.func30 rfl rfl rfl (EC.seq (EC.region (EL.newP QFu rfl ?_)));intro g1 w1 q1 hb1 hg1 hl1;have bhbw_1 := Nat.le_trans hbw.size hg1;replace hbw := bo_ hbw hb1;clear hb1 hg1 hl1;refine EL.nil (EX.seq (EC.seq (EC.region (EL.val (QHE) rfl (EL.val (QDi rfl rfl) rfl (EL.val (QDi rfl rfl) rfl (EL.newS (QKK rfl rfl rfl) rfl ?_)))))));intro g2 w2 q2 hb2 hg2 hl2;have n1_2 := q1.na hg2;have bhbw_2 := Nat.le_trans hbw.size hg2;replace q1 := q1.bl hb2;replace hbw := bo_ hbw hb2;clear hb2 hg2 hl2;refine EL.val (QH5 rfl rfl) rfl (EL.newS (QKI rfl) rfl ?_);intro g3 w3 q3 hb3 hg3 hl3;have n1_3 := q1.na hg3;have n2_3 := q2.na hg3;have bhbw_3 := Nat.le_trans hbw.size hg3;replace q1 := q1.bl hb3;replace q2 := q2.bl hb3;replace hbw := bo_ hbw hb3;clear hb3 hg3 hl3;refine EL.val (QCd rfl rfl rfl rfl rfl) rfl (EL.newP QEI rfl ?_);intro g4 w4 q4 hb4 hg4 hl4;have n1_4 := q1.na hg4;have n2_4 := q2.na hg4;have n3_4 := q3.na hg4;have bhbw_4 := Nat.le_trans hbw.size hg4;replace q1 := q1.bl hb4;replace q2 := q2.bl hb4;replace q3 := q3.bl hb4;replace hbw := bo_ hbw hb4;clear hb4 hg4 hl4;refine EL.store rfl rfl q4 QD0 rfl rfl rfl rfl ?_;intro w5 hq5 hg5;replace q1 := q1.gr hg5 n1_4;replace q2 := q2.gr hg5 n2_4;replace q3 := q3.gr hg5 n3_4;replace hbw := ZC hbw hg5 bhbw_4;replace q4 := hq5;clear hg5 hq5;refine EL.nil (EX.seq (EC.seq (EC.region (EL.val (QAz rfl (q4.at (j := 0) rfl) (q4.at (j := 1) rfl) (q4.at (j := 2) rfl) (q4.at (j := 3) rfl) (q4.at (j := 4) rfl)) rfl (EL.val (QAz rfl (q4.at (j := 0) rfl) (q4.at (j := 1) rfl) (q4.at (j := 2) rfl) (q4.at (j := 3) rfl) (q4.at (j := 4) rfl)) rfl (EL.newS (QKR rfl rfl) rfl ?_))))));intro g6 w6 q6 hb6 hg6 hl6;have n1_6 := q1.na hg6;have n2_6 := q2.na hg6;have n3_6 := q3.na hg6;have n4_6 := q4.na hg6;have bhbw_6 := Nat.le_trans hbw.size hg6;replace q1 := q1.bl hb6;replace q2 := q2.bl hb6;replace q3 := q3.bl hb6;replace q4 := q4.bl hb6;replace hbw := bo_ hbw hb6;clear hb6 hg6 hl6;refine EL.val (QH7 rfl rfl) rfl (EL.store rfl rfl q1 QBh rfl rfl rfl rfl ?_);intro w7 hq7 hg7;replace q2 := q2.gr hg7 n1_2.symm;replace q3 := q3.gr hg7 n1_3.symm;replace q4 := q4.gr hg7 n1_4.symm;replace q6 := q6.gr hg7 n1_6.symm;replace hbw := ZC hbw hg7 bhbw_1;replace q1 := hq7;clear hg7 hq7;refine EL.nil (EX.seq (EC.ret ?_));have hRS : RdSecs w7 w7.heap.size (.slice (some ⟨g6, 0, none⟩) 2 2) hTwo.secs [(.slice (some ⟨g2, 0, none⟩) 3 3, .slice (some ⟨g3, 0, none⟩) 1 1), (.slice (some ⟨g2, 0, none⟩) 3 3, .slice (some ⟨g3, 0, none⟩) 1 1)] := by
  have hc : Rd w7 w7.heap.size 2 (.slice (some ⟨g2, 0, none⟩) 3 3) 3 (hrowsC sTwo.curve) := YN (k := 3) (l := hrowsC sTwo.curve) q2 rfl;have hh : Rd w7 w7.heap.size 2 (.slice (some ⟨g3, 0, none⟩) 1 1) 1 (holdsC sTwo.holds) := YN (k := 1) (l := holdsC sTwo.holds) q3 rfl;refine ⟨rfl, YN (k := 2) (l := [.int .i64 30, .int .i64 100, .int .i64 50, .slice (some ⟨g2, 0, none⟩) 3 3, .slice (some ⟨g3, 0, none⟩) 1 1, .int .i64 30, .int .i64 100, .int .i64 50, .slice (some ⟨g2, 0, none⟩) 3 3, .slice (some ⟨g3, 0, none⟩) 1 1]) q6 rfl, fun i hi => ?_, fun i hi => ?_⟩
  ·have h2 : i < 2 := hi
   match i, h2 with
   | 0, _ => exact hc
   | 1, _ => exact hc
  ·have h2 : i < 2 := hi
   match i, h2 with
   | 0, _ => exact hh
   | 1, _ => exact hh
 exact EX.done (QGj rfl rfl (QDJ (q1.at (j := 0) rfl) (q1.at (j := 1) rfl))) ⟨⟨_, _, rfl, hRS⟩, hbw⟩
theorem YY (a b : Int) (w : World) : Calls Try.prog 51 #[.int .i64 a, .int .i64 b] w fun e w' => e = .returned (.agg #[.int .i64 a, .int .i64 b]) ∧ Below w.heap.size w w' := by
 have hbw := Below.refl w.heap.size w;refine EC.enter 8 Try.func51 rfl rfl rfl (EC.seq (EC.region (EL.newP Y1 rfl ?_)));intro g1 w1 q1 hb1 hg1 hl1;have bhbw_1 := Nat.le_trans hbw.size hg1;replace hbw := bo_ hbw hb1;clear hb1 hg1 hl1;refine EL.nil (EX.seq (EC.seq (EC.region (EL.mv rfl rfl (EL.mv rfl rfl (EL.val (Z6 rfl rfl) rfl (EL.store rfl rfl q1 Z8 rfl rfl rfl rfl ?_)))))));intro w2 hq2 hg2;replace hbw := ZC hbw hg2 bhbw_1;replace q1 := hq2;clear hg2 hq2;refine EL.nil (EX.seq (EC.ret ?_))
 exact EX.done (QGj rfl rfl (QAM (q1.at (j := 0) rfl) (q1.at (j := 1) rfl))) ⟨rfl, hbw⟩
theorem QCr {w : World} {g k T U : Nat} {cs ds : Array Value} (h : Blk w g T cs) (hq : Blk w k U ds) (hT : Nat.beq T U = false) : g ≠ k := fun e => by
 subst e
 unfold Blk at h hq
 rw [h] at hq
 injection hq with hq
 injection hq with _ h2
 rw [h2] at hT
 simp at hT
set_option maxRecDepth 100000 in
theorem QAt (w : World) : Calls Try.prog 31 #[] w fun e w' => (∃ q : PasV, e = .returned (pasA pPas q) ∧ RdPas w' w'.heap.size pPas q) ∧ Below w.heap.size w w' := by
 have hbw := Below.refl w.heap.size w;refine EC.enter 53 Try.func31 rfl rfl rfl (EC.seq (EC.region (EL.newP QLc rfl ?_)));intro g1 w1 q1 hb1 hg1 hl1;have bhbw_1 := Nat.le_trans hbw.size hg1;replace hbw := bo_ hbw hb1;clear hb1 hg1 hl1;refine EL.nil (EX.seq (EC.seq (EC.region (EL.as rfl rfl (EL.nil (EX.seq (EC.seq (EC.region (EL.mv rfl rfl ?_)))))))));refine EL.call (Zw rfl rfl rfl) rfl (YY _ _ _) ?_
 rintro e w2 ⟨rfl, hc2⟩
 refine ⟨_, rfl, ?_⟩;replace q1 := q1.bl hc2;replace hbw := bo_ hbw hc2;clear hc2;refine EL.val (QJV rfl) rfl (EL.val (QDh rfl rfl) rfl (EL.newS (QHC rfl rfl) rfl ?_));intro g3 w3 q3 hb3 hg3 hl3;have n1_3 := q1.na hg3;have bhbw_3 := Nat.le_trans hbw.size hg3;replace q1 := q1.bl hb3;replace hbw := bo_ hbw hb3;clear hb3 hg3 hl3;refine EL.mv rfl rfl (EL.call (Zw rfl rfl rfl) rfl (YY _ _ _) ?_)
 rintro e w4 ⟨rfl, hc4⟩
 refine ⟨_, rfl, ?_⟩;replace q1 := q1.bl hc4;replace q3 := q3.bl hc4;replace hbw := bo_ hbw hc4;clear hc4;refine EL.val (QB8 rfl rfl rfl rfl rfl rfl) rfl (EL.mv rfl rfl (EL.call (Zw rfl rfl rfl) rfl (YY _ _ _) ?_))
 rintro e w5 ⟨rfl, hc5⟩
 refine ⟨_, rfl, ?_⟩;replace q1 := q1.bl hc5;replace q3 := q3.bl hc5;replace hbw := bo_ hbw hc5;clear hc5;refine EL.val (QKX) rfl (EL.val (QDh rfl rfl) rfl (EL.newS (QHC rfl rfl) rfl ?_));intro g6 w6 q6 hb6 hg6 hl6;have n1_6 := q1.na hg6;have n3_6 := q3.na hg6;have bhbw_6 := Nat.le_trans hbw.size hg6;replace q1 := q1.bl hb6;replace q3 := q3.bl hb6;replace hbw := bo_ hbw hb6;clear hb6 hg6 hl6;refine EL.mv rfl rfl (EL.call (Zw rfl rfl rfl) rfl (YY _ _ _) ?_)
 rintro e w7 ⟨rfl, hc7⟩
 refine ⟨_, rfl, ?_⟩;replace q1 := q1.bl hc7;replace q3 := q3.bl hc7;replace q6 := q6.bl hc7;replace hbw := bo_ hbw hc7;clear hc7;refine EL.val (QBO rfl rfl rfl rfl rfl rfl rfl) rfl (EL.newS (QKQ rfl rfl) rfl ?_);intro g8 w8 q8 hb8 hg8 hl8;have n1_8 := q1.na hg8;have n3_8 := q3.na hg8;have n6_8 := q6.na hg8;have bhbw_8 := Nat.le_trans hbw.size hg8;replace q1 := q1.bl hb8;replace q3 := q3.bl hb8;replace q6 := q6.bl hb8;replace hbw := bo_ hbw hb8;clear hb8 hg8 hl8;refine EL.mv rfl rfl (EL.call (Zw rfl rfl rfl) rfl (YY _ _ _) ?_)
 rintro e w9 ⟨rfl, hc9⟩
 refine ⟨_, rfl, ?_⟩;replace q1 := q1.bl hc9;replace q3 := q3.bl hc9;replace q6 := q6.bl hc9;replace q8 := q8.bl hc9;replace hbw := bo_ hbw hc9;clear hc9;refine EL.mv rfl rfl (EL.call (Zw rfl rfl rfl) rfl (YY _ _ _) ?_)
 rintro e w10 ⟨rfl, hc10⟩
 refine ⟨_, rfl, ?_⟩;replace q1 := q1.bl hc10;replace q3 := q3.bl hc10;replace q6 := q6.bl hc10;replace q8 := q8.bl hc10;replace hbw := bo_ hbw hc10;clear hc10;refine EL.val (QEv rfl rfl rfl) rfl (EL.newS (QKP rfl) rfl ?_);intro g11 w11 q11 hb11 hg11 hl11;have n1_11 := q1.na hg11;have n3_11 := q3.na hg11;have n6_11 := q6.na hg11;have n8_11 := q8.na hg11;have bhbw_11 := Nat.le_trans hbw.size hg11;replace q1 := q1.bl hb11;replace q3 := q3.bl hb11;replace q6 := q6.bl hb11;replace q8 := q8.bl hb11;replace hbw := bo_ hbw hb11;clear hb11 hg11 hl11;refine EL.val (QH6 rfl rfl) rfl (EL.newP QLd rfl ?_);intro g12 w12 q12 hb12 hg12 hl12;have n1_12 := q1.na hg12;have n3_12 := q3.na hg12;have n6_12 := q6.na hg12;have n8_12 := q8.na hg12;have n11_12 := q11.na hg12;have bhbw_12 := Nat.le_trans hbw.size hg12;replace q1 := q1.bl hb12;replace q3 := q3.bl hb12;replace q6 := q6.bl hb12;replace q8 := q8.bl hb12;replace q11 := q11.bl hb12;replace hbw := bo_ hbw hb12;clear hb12 hg12 hl12;refine EL.store rfl rfl q12 QLP rfl rfl rfl rfl ?_;intro w13 hq13 hg13;replace q1 := q1.gr hg13 n1_12;replace q3 := q3.gr hg13 n3_12;replace q6 := q6.gr hg13 n6_12;replace q8 := q8.gr hg13 n8_12;replace q11 := q11.gr hg13 n11_12;replace hbw := ZC hbw hg13 bhbw_12;replace q12 := hq13;clear hg13 hq13;refine EL.nil (EX.seq (EC.seq (EC.region (EL.mv rfl rfl (EL.call (Zw rfl rfl rfl) rfl (YY _ _ _) ?_)))))
 rintro e w14 ⟨rfl, hc14⟩
 refine ⟨_, rfl, ?_⟩;replace q1 := q1.bl hc14;replace q3 := q3.bl hc14;replace q6 := q6.bl hc14;replace q8 := q8.bl hc14;replace q11 := q11.bl hc14;replace q12 := q12.bl hc14;replace hbw := bo_ hbw hc14;clear hc14;refine EL.mv rfl rfl (EL.call (Zw rfl rfl rfl) rfl (YY _ _ _) ?_)
 rintro e w15 ⟨rfl, hc15⟩
 refine ⟨_, rfl, ?_⟩;replace q1 := q1.bl hc15;replace q3 := q3.bl hc15;replace q6 := q6.bl hc15;replace q8 := q8.bl hc15;replace q11 := q11.bl hc15;replace q12 := q12.bl hc15;replace hbw := bo_ hbw hc15;clear hc15;refine EL.newP Y1 rfl ?_;intro g16 w16 q16 hb16 hg16 hl16;have n1_16 := q1.na hg16;have n3_16 := q3.na hg16;have n6_16 := q6.na hg16;have n8_16 := q8.na hg16;have n11_16 := q11.na hg16;have n12_16 := q12.na hg16;have bhbw_16 := Nat.le_trans hbw.size hg16;replace q1 := q1.bl hb16;replace q3 := q3.bl hb16;replace q6 := q6.bl hb16;replace q8 := q8.bl hb16;replace q11 := q11.bl hb16;replace q12 := q12.bl hb16;replace hbw := bo_ hbw hb16;clear hb16 hg16 hl16;refine EL.newP Y1 rfl ?_;intro g17 w17 q17 hb17 hg17 hl17;have n1_17 := q1.na hg17;have n3_17 := q3.na hg17;have n6_17 := q6.na hg17;have n8_17 := q8.na hg17;have n11_17 := q11.na hg17;have n12_17 := q12.na hg17;have n16_17 := q16.na hg17;have bhbw_17 := Nat.le_trans hbw.size hg17;replace q1 := q1.bl hb17;replace q3 := q3.bl hb17;replace q6 := q6.bl hb17;replace q8 := q8.bl hb17;replace q11 := q11.bl hb17;replace q12 := q12.bl hb17;replace q16 := q16.bl hb17;replace hbw := bo_ hbw hb17;clear hb17 hg17 hl17;refine EL.store rfl rfl q16 Z8 rfl rfl rfl rfl ?_;intro w18 hq18 hg18;replace q1 := q1.gr hg18 n1_16;replace q3 := q3.gr hg18 n3_16;replace q6 := q6.gr hg18 n6_16;replace q8 := q8.gr hg18 n8_16;replace q11 := q11.gr hg18 n11_16;replace q12 := q12.gr hg18 n12_16;replace q17 := q17.gr hg18 n16_17.symm;replace hbw := ZC hbw hg18 bhbw_16;replace q16 := hq18;clear hg18 hq18;refine EL.store rfl rfl q17 Z8 rfl rfl rfl rfl ?_;intro w19 hq19 hg19;replace q1 := q1.gr hg19 n1_17;replace q3 := q3.gr hg19 n3_17;replace q6 := q6.gr hg19 n6_17;replace q8 := q8.gr hg19 n8_17;replace q11 := q11.gr hg19 n11_17;replace q12 := q12.gr hg19 n12_17;replace q16 := q16.gr hg19 n16_17;replace hbw := ZC hbw hg19 bhbw_17;replace q17 := hq19;clear hg19 hq19;refine EL.nil (EX.seq (EC.seq ?_));have lt_1 := q1.lt;have lt_3 := q3.lt;have lt_6 := q6.lt;have lt_8 := q8.lt;have lt_11 := q11.lt;have lt_12 := q12.lt;have lt_16 := q16.lt;have lt_17 := q17.lt;refine EC.regionP [[], [], [], [], [], [1, 2, 3, 4], [], [], [], [], [6, 7, 8, 9], [1, 2, 3, 4, 5, 6, 7, 8, 9, 10], [], [12], [12, 13], [], [12, 13, 15], [12, 13, 15, 16], [12, 13, 14, 15, 16, 17], [0, 1, 2, 3, 4, 5, 6, 7, 8, 9, 10, 11, 12, 13, 14, 15, 16, 17, 18], [0, 1, 2, 3, 4, 5, 6, 7, 8, 9, 10, 11, 12, 13, 14, 15, 16, 17, 18, 19]] 20 [] (phi (fun i_ r => match i_ with | 0 => r 0 = .agg #[.slice (some ⟨g8, 0, none⟩) 2 2, .slice (some ⟨g11, 0, none⟩) 1 1] | 1 => r 1 = .agg #[.int .i64 2000, .int .i64 3000] | 2 => r 2 = .agg #[.int .i64 2000, .int .i64 3000] | 3 => r 3 = .agg #[.int .i64 2000, .int .i64 3000] | 4 => r 4 = .agg #[.int .i64 2000, .int .i64 3000] | 6 => r 6 = .agg #[.int .i64 500, .int .i64 500] | 7 => r 7 = .agg #[.int .i64 500, .int .i64 500] | 8 => r 8 = .agg #[.int .i64 500, .int .i64 500] | 9 => r 9 = .agg #[.int .i64 500, .int .i64 500] | 12 => r 12 = .func (.func 51) #[] #[] | 13 => r 13 = .agg #[.int .i64 0, .int .i64 1] | 14 => r 14 = .agg #[.int .i64 10, .int .i64 0, .int .i64 1] | 15 => r 15 = .func (.func 51) #[] #[] | 16 => r 16 = .agg #[.int .i64 2, .int .i64 3] | 17 => r 17 = .agg #[.int .i64 120, .int .i64 2, .int .i64 3] | _ => True) [(5, fun r w_ => ∃ g_, r 5 = .slice (some ⟨g_, 0, none⟩) 4 4 ∧ Blk w_ g_ 25 #[.int .i64 2000, .int .i64 3000, .int .i64 2000, .int .i64 3000, .int .i64 2000, .int .i64 3000, .int .i64 2000, .int .i64 3000] ∧ w19.heap.size ≤ g_), (10, fun r w_ => ∃ g_, r 10 = .slice (some ⟨g_, 0, none⟩) 4 4 ∧ Blk w_ g_ 25 #[.int .i64 500, .int .i64 500, .int .i64 500, .int .i64 500, .int .i64 500, .int .i64 500, .int .i64 500, .int .i64 500] ∧ w19.heap.size ≤ g_), (11, fun r w_ => ∃ g_, r 11 = .slice (some ⟨g_, 0, none⟩) 2 2 ∧ Blk w_ g_ 101 #[r 5, r 10] ∧ w19.heap.size ≤ g_), (18, fun r w_ => ∃ g_, r 18 = .slice (some ⟨g_, 0, none⟩) 2 2 ∧ Blk w_ g_ 85 #[.int .i64 10, .int .i64 0, .int .i64 1, .int .i64 120, .int .i64 2, .int .i64 3] ∧ w19.heap.size ≤ g_), (19, fun r w_ => ∃ z5 z10 z11 z18, r 19 = .agg #[.slice (some ⟨g8, 0, none⟩) 2 2, .slice (some ⟨g11, 0, none⟩) 1 1, .slice (some ⟨z11, 0, none⟩) 2 2, .slice (some ⟨z18, 0, none⟩) 2 2, .int .i64 20] ∧ Blk w_ z5 25 #[.int .i64 2000, .int .i64 3000, .int .i64 2000, .int .i64 3000, .int .i64 2000, .int .i64 3000, .int .i64 2000, .int .i64 3000] ∧ Blk w_ z10 25 #[.int .i64 500, .int .i64 500, .int .i64 500, .int .i64 500, .int .i64 500, .int .i64 500, .int .i64 500, .int .i64 500] ∧ Blk w_ z11 101 #[.slice (some ⟨z5, 0, none⟩) 4 4, .slice (some ⟨z10, 0, none⟩) 4 4] ∧ Blk w_ z18 85 #[.int .i64 10, .int .i64 0, .int .i64 1, .int .i64 120, .int .i64 2, .int .i64 3])]) (by kernel_rfl) rfl rfl (ZX Z1 (ZX Z1 (ZX Z1 (ZX Z1 (ZX (fun _ _ _ hb ⟨g5, g10, g11, g18, h1, h2, h3, h4, h5⟩ => ⟨g5, g10, g11, g18, h1, h2.below hb h2.lt, h3.below hb h3.lt, h4.below hb h4.lt, h5.below hb h5.lt⟩) (Zd)))))) (fun i_ hi_ => ?_) ?_
 ·match i_, hi_ with
  | 0, _ =>
   intro val w1 a hb ha hd;have ha := ha.s0 (d := 2) rfl
   exact ZB ha rfl rfl (QFW rfl ((q12.below hb q12.lt).at (j := 0) rfl) ((q12.below hb q12.lt).at (j := 1) rfl)) rfl rfl
  | 1, _ =>
   intro val w1 a hb ha hd;have ha := ha.s0 (d := 3) rfl
   exact ZB ha rfl rfl (Zh rfl ((q16.below hb q16.lt).at (j := 0) rfl) ((q16.below hb q16.lt).at (j := 1) rfl)) rfl rfl
  | 2, _ =>
   intro val w1 a hb ha hd;have ha := ha.s0 (d := 3) rfl
   exact ZB ha rfl rfl (Zh rfl ((q16.below hb q16.lt).at (j := 0) rfl) ((q16.below hb q16.lt).at (j := 1) rfl)) rfl rfl
  | 3, _ =>
   intro val w1 a hb ha hd;have ha := ha.s0 (d := 3) rfl
   exact ZB ha rfl rfl (Zh rfl ((q16.below hb q16.lt).at (j := 0) rfl) ((q16.below hb q16.lt).at (j := 1) rfl)) rfl rfl
  | 4, _ =>
   intro val w1 a hb ha hd;have ha := ha.s0 (d := 3) rfl
   exact ZB ha rfl rfl (Zh rfl ((q16.below hb q16.lt).at (j := 0) rfl) ((q16.below hb q16.lt).at (j := 1) rfl)) rfl rfl
  | 5, _ =>
   intro val w1 a hb ha hd;have e1 : val 1 = _ := hd 1 (ZA.1 rfl);have e2 : val 2 = _ := hd 2 (ZA.1 rfl);have e3 : val 3 = _ := hd 3 (ZA.1 rfl);have e4 : val 4 = _ := hd 4 (ZA.1 rfl);have ha := ha.sub (Sub.ins (d := 37) (Sub.ins (d := 36) (Sub.ins (d := 35) (Sub.ins (d := 34) (Sub.nil _) (ZG rfl e1)) (ZG rfl e2)) (ZG rfl e3)) (ZG rfl e4))
   exact YJ ha rfl rfl (QFo rfl rfl rfl rfl) rfl (fun g w' hq _ hge => ⟨g, rfl, hq, Nat.le_trans hb.size hge⟩)
  | 6, _ =>
   intro val w1 a hb ha hd;have ha := ha.s0 (d := 4) rfl
   exact ZB ha rfl rfl (Zh rfl ((q17.below hb q17.lt).at (j := 0) rfl) ((q17.below hb q17.lt).at (j := 1) rfl)) rfl rfl
  | 7, _ =>
   intro val w1 a hb ha hd;have ha := ha.s0 (d := 4) rfl
   exact ZB ha rfl rfl (Zh rfl ((q17.below hb q17.lt).at (j := 0) rfl) ((q17.below hb q17.lt).at (j := 1) rfl)) rfl rfl
  | 8, _ =>
   intro val w1 a hb ha hd;have ha := ha.s0 (d := 4) rfl
   exact ZB ha rfl rfl (Zh rfl ((q17.below hb q17.lt).at (j := 0) rfl) ((q17.below hb q17.lt).at (j := 1) rfl)) rfl rfl
  | 9, _ =>
   intro val w1 a hb ha hd;have ha := ha.s0 (d := 4) rfl
   exact ZB ha rfl rfl (Zh rfl ((q17.below hb q17.lt).at (j := 0) rfl) ((q17.below hb q17.lt).at (j := 1) rfl)) rfl rfl
  | 10, _ =>
   intro val w1 a hb ha hd;have e6 : val 6 = _ := hd 6 (ZA.1 rfl);have e7 : val 7 = _ := hd 7 (ZA.1 rfl);have e8 : val 8 = _ := hd 8 (ZA.1 rfl);have e9 : val 9 = _ := hd 9 (ZA.1 rfl);have ha := ha.sub (Sub.ins (d := 42) (Sub.ins (d := 41) (Sub.ins (d := 40) (Sub.ins (d := 39) (Sub.nil _) (ZG rfl e6)) (ZG rfl e7)) (ZG rfl e8)) (ZG rfl e9))
   exact YJ ha rfl rfl (QFo rfl rfl rfl rfl) rfl (fun g w' hq _ hge => ⟨g, rfl, hq, Nat.le_trans hb.size hge⟩)
  | 11, _ =>
   intro val w1 a hb ha hd;obtain ⟨g5_, e5, q5_, h5_⟩ := hd 5 (ZA.1 rfl);change val 5 = _ at e5;obtain ⟨g10_, e10, q10_, h10_⟩ := hd 10 (ZA.1 rfl);change val 10 = _ at e10;have ha := ha.s2 (d := 43) (e := 38) rfl e10 rfl e5
   exact YJ ha rfl rfl (QKO rfl rfl) rfl (fun g w' hq _ hge => ⟨g, rfl, (by show Blk _ _ _ #[val 5, val 10]; rw [e5, e10]; exact hq), Nat.le_trans hb.size hge⟩)
  | 12, _ =>
   intro val w1 a hb ha hd;have ha := ha.s0 (d := 1) rfl
   exact ZB ha rfl rfl (ZI rfl) rfl rfl
  | 13, _ =>
   intro val w1 a hb ha hd;have e12 : val 12 = _ := hd 12 (ZA.1 rfl);have ha := ha.s1 (d := 45) rfl e12;refine Zf ha rfl rfl (Zw rfl rfl rfl) (YY 0 1 _) rfl ?_
   rintro e w' ⟨rfl, hb'⟩
   exact ⟨_, rfl, hb', rfl⟩
  | 14, _ =>
   intro val w1 a hb ha hd;have e13 : val 13 = _ := hd 13 (ZA.1 rfl);have ha := ha.s1 (d := 46) rfl e13
   exact ZB ha rfl rfl (QEF rfl rfl) rfl rfl
  | 15, _ =>
   intro val w1 a hb ha hd;have ha := ha.s0 (d := 1) rfl
   exact ZB ha rfl rfl (ZI rfl) rfl rfl
  | 16, _ =>
   intro val w1 a hb ha hd;have e15 : val 15 = _ := hd 15 (ZA.1 rfl);have ha := ha.s1 (d := 48) rfl e15;refine Zf ha rfl rfl (Zw rfl rfl rfl) (YY 2 3 _) rfl ?_
   rintro e w' ⟨rfl, hb'⟩
   exact ⟨_, rfl, hb', rfl⟩
  | 17, _ =>
   intro val w1 a hb ha hd;have e16 : val 16 = _ := hd 16 (ZA.1 rfl);have ha := ha.s1 (d := 49) rfl e16
   exact ZB ha rfl rfl (QEF rfl rfl) rfl rfl
  | 18, _ =>
   intro val w1 a hb ha hd;have e14 : val 14 = _ := hd 14 (ZA.1 rfl);have e17 : val 17 = _ := hd 17 (ZA.1 rfl);have ha := ha.s2 (d := 50) (e := 47) rfl e17 rfl e14
   exact YJ ha rfl rfl (QKM rfl rfl) rfl (fun g w' hq _ hge => ⟨g, rfl, hq, Nat.le_trans hb.size hge⟩)
  | 19, _ =>
   intro val w1 a hb ha hd;have e0 : val 0 = _ := hd 0 (ZA.1 rfl);obtain ⟨g11_, e11, q11_, h11_⟩ := hd 11 (ZA.1 rfl);change val 11 = _ at e11;obtain ⟨g18_, e18, q18_, h18_⟩ := hd 18 (ZA.1 rfl);change val 18 = _ at e18;obtain ⟨g5_, e5, q5_, h5_⟩ := hd 5 (ZA.1 rfl);change val 5 = _ at e5;obtain ⟨g10_, e10, q10_, h10_⟩ := hd 10 (ZA.1 rfl);change val 10 = _ at e10;have ha := ha.sub (Sub.ins (d := 51) (Sub.ins (d := 44) (Sub.ins (d := 33) (Sub.nil _) (ZG rfl e0)) (ZG rfl e11)) (ZG rfl e18));change Blk w1 g11_ _ #[val 5, val 10] at q11_;rw [e5, e10] at q11_
   exact ZB ha rfl rfl (QDv rfl rfl rfl rfl) ⟨g5_, g10_, g11_, g18_, rfl, q5_, q10_, q11_, q18_⟩ rfl
  | k + 20, h => exact absurd h (by omega)
 ·intro val wR4 hb halc hd
  have e0 : val 0 = _ := hd 0 (by omega)
  have e1 : val 1 = _ := hd 1 (by omega)
  have e2 : val 2 = _ := hd 2 (by omega)
  have e3 : val 3 = _ := hd 3 (by omega)
  have e4 : val 4 = _ := hd 4 (by omega)
  obtain ⟨ga5_4, e5, qa5_4, hga5_4⟩ := hd 5 (by omega)
  change val 5 = _ at e5;change Blk wR4 ga5_4 25 #[.int .i64 2000, .int .i64 3000, .int .i64 2000, .int .i64 3000, .int .i64 2000, .int .i64 3000, .int .i64 2000, .int .i64 3000] at qa5_4;have e6 : val 6 = _ := hd 6 (by omega)
  have e7 : val 7 = _ := hd 7 (by omega)
  have e8 : val 8 = _ := hd 8 (by omega)
  have e9 : val 9 = _ := hd 9 (by omega)
  obtain ⟨ga10_4, e10, qa10_4, hga10_4⟩ := hd 10 (by omega)
  change val 10 = _ at e10;change Blk wR4 ga10_4 25 #[.int .i64 500, .int .i64 500, .int .i64 500, .int .i64 500, .int .i64 500, .int .i64 500, .int .i64 500, .int .i64 500] at qa10_4;obtain ⟨ga11_4, e11, qa11_4, hga11_4⟩ := hd 11 (by omega)
  change val 11 = _ at e11;change Blk wR4 ga11_4 101 #[val 5, val 10] at qa11_4;rw [e5, e10] at qa11_4;have e12 : val 12 = _ := hd 12 (by omega)
  have e13 : val 13 = _ := hd 13 (by omega)
  have e14 : val 14 = _ := hd 14 (by omega)
  have e15 : val 15 = _ := hd 15 (by omega)
  have e16 : val 16 = _ := hd 16 (by omega)
  have e17 : val 17 = _ := hd 17 (by omega)
  obtain ⟨ga18_4, e18, qa18_4, hga18_4⟩ := hd 18 (by omega)
  change val 18 = _ at e18;change Blk wR4 ga18_4 85 #[.int .i64 10, .int .i64 0, .int .i64 1, .int .i64 120, .int .i64 2, .int .i64 3] at qa18_4;obtain ⟨h5_, h10_, h11_, h18_, e19, qh5, qh10, qh11, qh18⟩ := hd 19 (by omega)
  refine EL.ends (cs := [_, _, _, _, _, _, _, _, _, _, _, _, _, _, _, _, _, _, _, _]) ⟨e0, e1, e2, e3, e4, e5, e6, e7, e8, e9, e10, e11, e12, e13, e14, e15, e16, e17, e18, e19, trivial⟩ rfl ?_;replace q1 := q1.bl hb;replace q3 := q3.bl hb;replace q6 := q6.bl hb;replace q8 := q8.bl hb;replace q11 := q11.bl hb;replace q12 := q12.bl hb;replace q16 := q16.bl hb;replace q17 := q17.bl hb;have n1_20 : g1 ≠ ga5_4 := Nat.ne_of_lt (Nat.lt_of_lt_of_le lt_1 hga5_4);have n3_20 : g3 ≠ ga5_4 := Nat.ne_of_lt (Nat.lt_of_lt_of_le lt_3 hga5_4);have n6_20 : g6 ≠ ga5_4 := Nat.ne_of_lt (Nat.lt_of_lt_of_le lt_6 hga5_4);have n8_20 : g8 ≠ ga5_4 := Nat.ne_of_lt (Nat.lt_of_lt_of_le lt_8 hga5_4);have n11_20 : g11 ≠ ga5_4 := Nat.ne_of_lt (Nat.lt_of_lt_of_le lt_11 hga5_4);have n12_20 : g12 ≠ ga5_4 := Nat.ne_of_lt (Nat.lt_of_lt_of_le lt_12 hga5_4);have n16_20 : g16 ≠ ga5_4 := Nat.ne_of_lt (Nat.lt_of_lt_of_le lt_16 hga5_4);have n17_20 : g17 ≠ ga5_4 := Nat.ne_of_lt (Nat.lt_of_lt_of_le lt_17 hga5_4);have bhbw_20 := Nat.le_trans hbw.size hga5_4;have n1_21 : g1 ≠ ga10_4 := Nat.ne_of_lt (Nat.lt_of_lt_of_le lt_1 hga10_4);have n3_21 : g3 ≠ ga10_4 := Nat.ne_of_lt (Nat.lt_of_lt_of_le lt_3 hga10_4);have n6_21 : g6 ≠ ga10_4 := Nat.ne_of_lt (Nat.lt_of_lt_of_le lt_6 hga10_4);have n8_21 : g8 ≠ ga10_4 := Nat.ne_of_lt (Nat.lt_of_lt_of_le lt_8 hga10_4);have n11_21 : g11 ≠ ga10_4 := Nat.ne_of_lt (Nat.lt_of_lt_of_le lt_11 hga10_4);have n12_21 : g12 ≠ ga10_4 := Nat.ne_of_lt (Nat.lt_of_lt_of_le lt_12 hga10_4);have n16_21 : g16 ≠ ga10_4 := Nat.ne_of_lt (Nat.lt_of_lt_of_le lt_16 hga10_4);have n17_21 : g17 ≠ ga10_4 := Nat.ne_of_lt (Nat.lt_of_lt_of_le lt_17 hga10_4);have bhbw_21 := Nat.le_trans hbw.size hga10_4;have n1_22 : g1 ≠ ga11_4 := Nat.ne_of_lt (Nat.lt_of_lt_of_le lt_1 hga11_4);have n3_22 : g3 ≠ ga11_4 := Nat.ne_of_lt (Nat.lt_of_lt_of_le lt_3 hga11_4);have n6_22 : g6 ≠ ga11_4 := Nat.ne_of_lt (Nat.lt_of_lt_of_le lt_6 hga11_4);have n8_22 : g8 ≠ ga11_4 := Nat.ne_of_lt (Nat.lt_of_lt_of_le lt_8 hga11_4);have n11_22 : g11 ≠ ga11_4 := Nat.ne_of_lt (Nat.lt_of_lt_of_le lt_11 hga11_4);have n12_22 : g12 ≠ ga11_4 := Nat.ne_of_lt (Nat.lt_of_lt_of_le lt_12 hga11_4);have n16_22 : g16 ≠ ga11_4 := Nat.ne_of_lt (Nat.lt_of_lt_of_le lt_16 hga11_4);have n17_22 : g17 ≠ ga11_4 := Nat.ne_of_lt (Nat.lt_of_lt_of_le lt_17 hga11_4);have bhbw_22 := Nat.le_trans hbw.size hga11_4;have n1_23 : g1 ≠ ga18_4 := Nat.ne_of_lt (Nat.lt_of_lt_of_le lt_1 hga18_4);have n3_23 : g3 ≠ ga18_4 := Nat.ne_of_lt (Nat.lt_of_lt_of_le lt_3 hga18_4);have n6_23 : g6 ≠ ga18_4 := Nat.ne_of_lt (Nat.lt_of_lt_of_le lt_6 hga18_4);have n8_23 : g8 ≠ ga18_4 := Nat.ne_of_lt (Nat.lt_of_lt_of_le lt_8 hga18_4);have n11_23 : g11 ≠ ga18_4 := Nat.ne_of_lt (Nat.lt_of_lt_of_le lt_11 hga18_4);have n12_23 : g12 ≠ ga18_4 := Nat.ne_of_lt (Nat.lt_of_lt_of_le lt_12 hga18_4);have n16_23 : g16 ≠ ga18_4 := Nat.ne_of_lt (Nat.lt_of_lt_of_le lt_16 hga18_4);have n17_23 : g17 ≠ ga18_4 := Nat.ne_of_lt (Nat.lt_of_lt_of_le lt_17 hga18_4);have bhbw_23 := Nat.le_trans hbw.size hga18_4;replace hbw := bo_ hbw hb;clear hb;have hne_qh5 : _ ≠ g1 := QCr qh5 q1 rfl;have hne_qh10 : _ ≠ g1 := QCr qh10 q1 rfl;have hne_qh11 : _ ≠ g1 := QCr qh11 q1 rfl;have hne_qh18 : _ ≠ g1 := QCr qh18 q1 rfl;refine EL.store rfl rfl q1 QLN rfl rfl rfl rfl ?_;intro w24 hq24 hg24;replace q3 := q3.gr hg24 n1_3.symm;replace q6 := q6.gr hg24 n1_6.symm;replace q8 := q8.gr hg24 n1_8.symm;replace q11 := q11.gr hg24 n1_11.symm;replace q12 := q12.gr hg24 n1_12.symm;replace q16 := q16.gr hg24 n1_16.symm;replace q17 := q17.gr hg24 n1_17.symm;replace qa5_4 := qa5_4.gr hg24 n1_20.symm;replace qa10_4 := qa10_4.gr hg24 n1_21.symm;replace qa11_4 := qa11_4.gr hg24 n1_22.symm;replace qa18_4 := qa18_4.gr hg24 n1_23.symm;replace qh5 := qh5.gr hg24 hne_qh5;replace qh10 := qh10.gr hg24 hne_qh10;replace qh11 := qh11.gr hg24 hne_qh11;replace qh18 := qh18.gr hg24 hne_qh18;replace hbw := ZC hbw hg24 bhbw_1;replace q1 := hq24;clear hg24 hq24;refine EL.nil (EX.seq (EC.ret ?_));have hR : RdRiver w24 w24.heap.size (.slice (some ⟨g8, 0, none⟩) 2 2) (.slice (some ⟨g11, 0, none⟩) 1 1) pPas.rv [.slice (some ⟨g3, 0, none⟩) 2 2, .slice (some ⟨g6, 0, none⟩) 2 2] := by
   refine ⟨⟨rfl, YN (k := 2) (l := [.int .i64 100, .int .i64 2, .int .i64 1000, .int .i64 1000, .slice (some ⟨g3, 0, none⟩) 2 2, .int .i64 0, .int .i64 50, .int .i64 60, .int .i64 400, .int .i64 50, .int .i64 1, .int .i64 2000, .int .i64 2000, .slice (some ⟨g6, 0, none⟩) 2 2, .int .i64 150, .int .i64 20, .int .i64 20, .int .i64 160]) q8 rfl, fun i hi => ?_⟩, YN (k := 1) (l := shoalsC pPas.rv.shoals) q11 rfl⟩
   have h2 : i < 2 := hi
   match i, h2 with
   | 0, _ => exact YN (k := 2) (l := rowsC [⟨0, 100⟩, ⟨10000, 300⟩]) q3 rfl
   | 1, _ => exact YN (k := 2) (l := rowsC [⟨0, 0⟩, ⟨20000, 400⟩]) q6 rfl
  have hS : RdSides w24 w24.heap.size (.slice (some ⟨h11_, 0, none⟩) 2 2) pPas.sides [.slice (some ⟨h5_, 0, none⟩) 4 4, .slice (some ⟨h10_, 0, none⟩) 4 4] := by
   refine ⟨rfl, YN (k := 2) (l := [.slice (some ⟨h5_, 0, none⟩) 4 4, .slice (some ⟨h10_, 0, none⟩) 4 4]) qh11 rfl, fun i hi => ?_⟩
   have h2 : i < 2 := hi
   match i, h2 with
   | 0, _ => exact YN (k := 4) (l := bdsC [⟨2000, 3000⟩, ⟨2000, 3000⟩, ⟨2000, 3000⟩, ⟨2000, 3000⟩]) qh5 rfl
   | 1, _ => exact YN (k := 4) (l := bdsC [⟨500, 500⟩, ⟨500, 500⟩, ⟨500, 500⟩, ⟨500, 500⟩]) qh10 rfl
  have hW : Rd w24 w24.heap.size 3 (.slice (some ⟨h18_, 0, none⟩) 2 2) pPas.way.length (passesC pPas.way) := YN (k := 2) (l := passesC pPas.way) qh18 rfl
  exact EX.done (QGj rfl rfl (QLU (q1.at (j := 0) rfl) (q1.at (j := 1) rfl) (q1.at (j := 2) rfl) (q1.at (j := 3) rfl) (q1.at (j := 4) rfl))) ⟨⟨⟨_, _, _, _, _, _⟩, rfl, ⟨hR, hS, hW⟩⟩, hbw⟩
theorem QE1 {v : Value} {vs : List (Value × Value)} {w : World} (hr : RdSecs w w.heap.size v hTwo.secs vs) : Calls Try.prog 23 #[.agg #[.int .i64 100, v], .int .i64 150] w fun e w' => e = .returned (.tuple #[.int .i64 900, .int .i64 0]) ∧ Below w.heap.size w w' := by
 have key := QFa hTwo v vs w _ hr (Nat.le_refl _) (by decide) QA9 150
 rw [QGa.1, QGa.2] at key
 exact key
theorem QDt {v : Value} {vs : List (Value × Value)} {w : World} (hr : RdSecs w w.heap.size v hTwo.secs vs) {vl : Value} (hi : Rd w w.heap.size 1 vl 2 (ints [3, 1])) : Calls Try.prog 22 #[.agg #[.int .i64 100, v], vl, .agg #[.int .i64 1000, .int .i64 1000]] w fun e w' => e = .returned (.tuple #[.agg #[.int .i64 100, .int .i64 100, .int .i64 115, .int .i64 115, .int .i64 (-1)], .int .i64 0]) ∧ Below w.heap.size w w' := by
 have key := QGH hTwo v vs w _ hr (Nat.le_refl _) (by decide) QA9 [3, 1] vl hi still
 rw [QDz.1, QDz.2] at key
 exact key
theorem QEN {v : Value} {vs : List (Value × Value)} {w : World} (hr : RdSecs w w.heap.size v hTwo.secs vs) {vl : Value} (hi : Rd w w.heap.size 1 vl 2 (ints [1, 1])) {q : PasV} (hp : RdPas w w.heap.size pPas q) : Calls Try.prog 20 #[.agg #[.int .i64 100, v], vl, .agg #[.int .i64 1000, .int .i64 1000], pasA pPas q] w fun e w' => e = .returned (.tuple #[.bool false, .bool true, .int .i64 0, .int .i64 0, .int .i64 0]) ∧ Below w.heap.size w w' := by
 have key := QIV hTwo v vs w _ hr (Nat.le_refl _) (by decide) QA9 [1, 1] vl hi still pPas q hp QEX
 rw [QAS.1, QAS.2.1, QAS.2.2.1, QAS.2.2.2.1, QAS.2.2.2.2] at key
 exact key
set_option maxRecDepth 100000 in
theorem QDs {v : Value} {vs : List (Value × Value)} {w : World} (hr : RdSecs w w.heap.size v hTwo.secs vs) {vl : Value} (hi : Rd w w.heap.size 1 vl 2 (ints [1, 1])) {q : PasV} (hp : RdPas w w.heap.size pPas q) : Calls Try.prog 24 #[.agg #[.int .i64 100, v], vl, .agg #[.int .i64 1000, .int .i64 1000], pasA pPas q] w fun e w' => e = .returned (.tuple #[.int .i64 0, .int .i64 7]) ∧ Below w.heap.size w w' :=
 (QHq hTwo v vs w _ hr (Nat.le_refl _) (by decide) QA9 [1, 1] vl hi still pPas q hp QEX).mono fun e w' h => by
  obtain ⟨⟨k, e2, h1, h2⟩, hb⟩ := h;have h3 := QHN h2;rw [h3.1, h3.2] at h1
  exact ⟨h1, hb⟩
theorem QE6 {v : Value} {vs : List (Value × Value)} {w : World} (hr : RdSecs w w.heap.size v hTwo.secs vs) {q : PasV} (hp : RdPas w w.heap.size pPas q) : Calls Try.prog 16 #[.agg #[.int .i64 100, v], .agg #[.int .i64 1000, .int .i64 1000], pasA pPas q] w fun e w' => (∃ A c, e = .returned (.tuple #[.agg #[.slice A 2 c, .int .i64 1, .int .i64 1, .int .i64 0, .int .i64 0], .int .i64 0]) ∧ w'.ownsRow w.heap.size 3 1 (.slice A 2 c) 2 (ints [0, 1])) ∧ Below w.heap.size w w' := by
 have key := QGX hTwo v vs w _ hr (Nat.le_refl _) (by decide) QA9 still pPas q hp QEX
 rw [QGb.1, QGb.2] at key;refine key.mono fun e w' h => ⟨?_, h.2⟩
 obtain ⟨v_, h1, h2⟩ := h.1;obtain ⟨A, c, rfl, _⟩ := (Rd.of_own h2).shape
 exact ⟨A, c, h1, h2⟩
theorem QE3 {v : Value} {vs : List (Value × Value)} {w : World} (hr : RdSecs w w.heap.size v hTwo.secs vs) : Calls Try.prog 25 #[.agg #[.int .i64 100, v], .int .i64 0, .int .i64 1] w fun e w' => (∃ A c, e = .returned (.tuple #[.agg #[.int .i64 100, .slice A 1 c], .int .i64 0])) ∧ Below w.heap.size w w' := by
 have key := QKG hTwo v vs w _ hr (Nat.le_refl _) (by decide) QA9 0 1
 rw [QEQ.1, QEQ.2.2] at key;refine key.mono fun e w' h => ⟨?_, h.2⟩
 obtain ⟨v_, us, h1, h2⟩ := h.1;obtain ⟨A, c, rfl, _⟩ := (Rd.of_own h2.row).shape;rw [QEQ.2.1] at h1
 exact ⟨A, c, h1⟩
section
variable {n : Nat} {σ : Sg} {w : World} {dst : Option Tmp} {ty : TypeId} {pos : String} {af : Array Edge} {g : Option (Nat × Bool)} {x y z : Operand} {at' : Array TypeId}
theorem QLB {a0 a1 a2 a3 a4 b0 b1 b2 b3 b4 : Int} {r : Bool} (hx : evS σ x = some (.agg #[.int .i64 a0, .int .i64 a1, .int .i64 a2, .int .i64 a3, .int .i64 a4])) (hy : evS σ y = some (.agg #[.int .i64 b0, .int .i64 b1, .int .i64 b2, .int .i64 b3, .int .i64 b4])) (hc : decide (a0 = b0 ∧ a1 = b1 ∧ a2 = b2 ∧ a3 = b3 ∧ a4 = b4) = r) : ZE Try.prog n σ w ⟨dst, .binOp .eql 76 x y 76, ty, pos, af, g⟩ (.bool r) := fun a ha => by
 subst hc
 simp only [execOp, ha.eval hx, ha.eval hy]
 go_simp
 repeat' split
 all_goals simp_all
theorem Yr {a0 a1 b0 b1 : Int} {r : Bool} (hx : evS σ x = some (.agg #[.int .i64 a0, .int .i64 a1])) (hy : evS σ y = some (.agg #[.int .i64 b0, .int .i64 b1])) (hc : decide (a0 = b0 ∧ a1 = b1) = r) : ZE Try.prog n σ w ⟨dst, .binOp .eql 25 x y 25, ty, pos, af, g⟩ (.bool r) := fun a ha => by
 subst hc
 simp only [execOp, ha.eval hx, ha.eval hy]
 go_simp
 repeat' split
 all_goals simp_all
theorem cA0 {F : FuncId} (hF : cF F)  (a : Act) (_ : Env n σ a) : (execOp a.eval ⟨dst, .call { callee := .value (.func F), args := #[], argTypes := at' }, ty, pos, af, g⟩).run Try.prog w = .ok (.enter F #[]) w := by
 simp only [execOp, resolve, List.map_toArray, List.map_nil]
 simp [go_sem, Act.eval, hF _ _]
theorem cF30 : cF 30 := fun _ _ => by simp [go_sem]
theorem cF23 : cF 23 := fun _ _ => by simp [go_sem]
theorem cF22 : cF 22 := fun _ _ => by simp [go_sem]
theorem cF31 : cF 31 := fun _ _ => by simp [go_sem]
theorem cF20 : cF 20 := fun _ _ => by simp [go_sem]
theorem cF16 : cF 16 := fun _ _ => by simp [go_sem]
theorem cF25 : cF 25 := fun _ _ => by simp [go_sem]
theorem QEG {x0 x1 : Operand} {v0_0 : Value} {v0_1 : Value} {v1_0 : Value} {v1_1 : Value} (h0 : evS σ x0 = some (.agg #[v0_0, v0_1])) (h1 : evS σ x1 = some (.agg #[v1_0, v1_1])) : ZE Try.prog n σ w ⟨dst, .build 30 #[(0, x0), (1, x1)], ty, pos, af, g⟩ (.agg #[v0_0, v0_1, v1_0, v1_1]) := fun a ha => by
 simp only [execOp, List.map_toArray, List.map_cons, List.map_nil, ha.eval h0, ha.eval h1]
 go_simp
theorem QKW {x0 : Operand} {z0 : Int} (h0 : evS σ x0 = some (.int .i64 z0)) : ZE Try.prog n σ w ⟨dst, .build 25 #[(1, x0)], ty, pos, af, g⟩ (.agg #[.int .i64 0, .int .i64 z0]) := fun a ha => by
 simp only [execOp, List.map_toArray, List.map_cons, List.map_nil, ha.eval h0]
 go_simp
theorem QKT {x0 x1 : Operand} {v0_0 v0_1 v0_2 v0_3 v1_0 v1_1 v1_2 v1_3 : Value} (h0 : evS σ x0 = some (.agg #[v0_0, v0_1, v0_2, v0_3])) (h1 : evS σ x1 = some (.agg #[v1_0, v1_1, v1_2, v1_3]))  (a : Act) (ha : Env n σ a) : (execOp a.eval ⟨dst, .buildSlice 22 2 #[(0, x0), (1, x1)], ty, pos, af, g⟩).run Try.prog w = .ok (.value (.slice (some ⟨w.heap.size, 0, none⟩) 2 2)) (w.alloc (.cells #[v0_0, v0_1, v0_2, v0_3, v1_0, v1_1, v1_2, v1_3] 30)) := by
 simp only [execOp, List.map_toArray, List.map_cons, List.map_nil, ha.eval h0, ha.eval h1]
 go_simp
theorem cF11 : cF 11 := fun _ _ => by simp [go_sem]
theorem cF24 : cF 24 := fun _ _ => by simp [go_sem]
theorem QFq {x0 x1 x2 : Operand} {v0_0 : Value} {v0_1 : Value} {v1_0 : Value} {v1_1 : Value} {z2 : Int} (h0 : evS σ x0 = some (.agg #[v0_0, v0_1])) (h1 : evS σ x1 = some (.agg #[v1_0, v1_1])) (h2 : evS σ x2 = some (.int .i64 z2)) : ZE Try.prog n σ w ⟨dst, .build 76 #[(0, x0), (1, x1), (2, x2)], ty, pos, af, g⟩ (.agg #[v0_0, v0_1, v1_0, v1_1, .int .i64 z2]) := fun a ha => by
 simp only [execOp, List.map_toArray, List.map_cons, List.map_nil, ha.eval h0, ha.eval h1, ha.eval h2]
 go_simp
end
set_option maxRecDepth 100000 in
set_option maxHeartbeats 1000000 in
theorem Z5 (w : World) : Calls Try.prog 10 #[] w fun e w' => e = .returned (.bool true) ∧ Below w.heap.size w w' := by
 have hbw := Below.refl w.heap.size w;refine EC.enter 164 Try.func10 rfl rfl rfl (EC.seq (EC.region (EL.as rfl rfl (EL.nil (EX.seq (EC.seq (EC.region (EL.val (Z6 rfl rfl) rfl (EL.newP Y1 rfl ?_)))))))));intro g1 w1 q1 hb1 hg1 hl1;have bhbw_1 := Nat.le_trans hbw.size hg1;replace hbw := bo_ hbw hb1;clear hb1 hg1 hl1;refine EL.store rfl rfl q1 Z8 rfl rfl rfl rfl ?_;intro w2 hq2 hg2;replace hbw := ZC hbw hg2 bhbw_1;replace q1 := hq2;clear hg2 hq2;refine EL.nil (EX.seq (EC.seq (EC.region (EL.call (cA0 cF30) rfl (QA_ _) ?_))))
 rintro e w3 ⟨⟨vt, us, rfl, hT⟩, hc3⟩
 refine ⟨_, rfl, ?_⟩;replace q1 := q1.bl hc3;replace hbw := bo_ hbw hc3;clear hc3;refine EL.call (cA2 cF23 rfl rfl) rfl (QE1 hT) ?_
 rintro e w4 ⟨rfl, hc4⟩
 refine ⟨_, rfl, ?_⟩;replace q1 := q1.bl hc4;replace hbw := bo_ hbw hc4;clear hc4;refine EL.mv rfl rfl (EL.xt rfl rfl rfl (EL.xt rfl rfl rfl (EL.as rfl rfl (EL.as rfl rfl (EL.nil (EX.seq (EC.seq ?_)))))));have lt_1 := q1.lt;refine EC.regionS [[], [], [], [0, 1, 2], [0, 1, 2, 3], [0, 1, 2, 3, 4], [0, 1, 2, 3, 4], [], [0, 1, 2, 3, 4, 5, 7], [0, 1, 2, 3, 4, 5, 6, 7, 8]] 10 [7] [8] (fun _ w_ => Below w4.heap.size w4 w_) (phiS (fun i_ r => match i_ with | 2 => r 2 = .agg #[.int .i64 1000, .int .i64 1000] | 3 => r 3 = .tuple #[.agg #[.int .i64 100, .int .i64 100, .int .i64 115, .int .i64 115, .int .i64 (-1)], .int .i64 0] | 4 => r 4 = .tuple #[.agg #[.int .i64 100, .int .i64 100, .int .i64 115, .int .i64 115, .int .i64 (-1)], .int .i64 0] | 5 => r 5 = .agg #[.int .i64 100, .int .i64 100, .int .i64 115, .int .i64 115, .int .i64 (-1)] | 6 => r 6 = .int .i64 0 | 9 => r 9 = .int .i64 0 | _ => True) [(0, fun fl r w_ => fl 8 = false → (∃ v us, r 0 = .agg #[.int .i64 100, v] ∧ RdSecs w_ w_.heap.size v hTwo.secs us)), (1, fun fl r w_ => fl 8 = false → (∃ g_, r 1 = .slice (some ⟨g_, 0, none⟩) 2 2 ∧ Blk w_ g_ 3 #[.int .i64 3, .int .i64 1] ∧ w4.heap.size ≤ g_)), (7, fun fl r w_ => ∃ g_, r 7 = .pointer (some ⟨g_, 0, none⟩) ∧ w4.heap.size ≤ g_ ∧ (fl 8 = false → Blk w_ g_ 76 #[.int .i64 0, .int .i64 0, .int .i64 0, .int .i64 0, .int .i64 0])), (8, fun _ r w_ => ∃ g_, r 7 = .pointer (some ⟨g_, 0, none⟩) ∧ Blk w_ g_ 76 #[.int .i64 100, .int .i64 100, .int .i64 115, .int .i64 115, .int .i64 (-1)])]) (by kernel_rfl) rfl rfl (by intro i hi; simp at hi; first | (subst hi; exact ⟨by simp, by omega⟩) | (rcases hi with rfl | rfl | rfl <;> exact ⟨by simp, by omega⟩) | (rcases hi with rfl | rfl <;> exact ⟨by simp, by omega⟩)) (QBc w4) (ZY (QAD QBn) (ZY (QAD Z1) (ZY QAL (ZY QAu (Yf))))) (fun i_ hi_ hs_ => ?_) (fun i_ hi_ => ?_) ?_
 ·match i_, hi_ with
  | 0, _ =>
   intro val fl w1 a hb ha hd hfl;have ha := ha.sub (Sub.nil _);refine QBi ha rfl rfl (cA0 cF30) (QA_ _) rfl ?_
   rintro e w' ⟨⟨v1, us1, rfl, hT1⟩, hb'⟩
   exact ⟨_, rfl, hb', fun _ => ⟨v1, us1, rfl, hT1⟩⟩
  | 1, _ =>
   intro val fl w1 a hb ha hd hfl;have ha := ha.sub (Sub.nil _)
   exact QGd ha rfl rfl (QB7 rfl rfl) rfl (fun g w' hq _ hge => fun _ => ⟨g, rfl, hq, Nat.le_trans hb.size hge⟩)
  | 2, _ =>
   intro val fl w1 a hb ha hd hfl;have ha := ha.s0 (d := 1) rfl
   exact ZK ha rfl rfl (Zh rfl ((q1.below hb q1.lt).at (j := 0) rfl) ((q1.below hb q1.lt).at (j := 1) rfl)) rfl rfl
  | 3, _ =>
   intro val fl w1 a hb ha hd hfl;obtain ⟨v0_, us0_, e0, hT0_⟩ := hd 0 (ZA.1 rfl) (hfl 8 (by simp) (ZA.1 rfl))
   obtain ⟨g1_, e1, q1_, h1_⟩ := hd 1 (ZA.1 rfl) (hfl 8 (by simp) (ZA.1 rfl))
   change val 1 = _ at e1;have e2 : val 2 = _ := hd 2 (ZA.1 rfl);have ha := ha.sub (Sub.ins (d := 29) (Sub.ins (d := 28) (Sub.ins (d := 27) (Sub.nil _) (ZG rfl e0)) (ZG rfl e1)) (ZG rfl e2));refine QBi ha rfl rfl (cA3 cF22 rfl rfl rfl) (QDt hT0_ (YN (k := 2) (l := ints [3, 1]) q1_ rfl)) rfl ?_
   rintro e w' ⟨rfl, hb'⟩
   exact ⟨_, rfl, hb', rfl⟩
  | 4, _ =>
   intro val fl w1 a hb ha hd hfl;have e3 : val 3 = _ := hd 3 (ZA.1 rfl);have ha := ha.s1 (d := 30) rfl e3
   exact ZK ha rfl rfl (ZI rfl) rfl rfl
  | 5, _ =>
   intro val fl w1 a hb ha hd hfl;have e4 : val 4 = _ := hd 4 (ZA.1 rfl);have ha := ha.s1 (d := 26) rfl e4
   exact ZK ha rfl rfl (Z_ rfl rfl) rfl rfl
  | 6, _ =>
   intro val fl w1 a hb ha hd hfl;have e4 : val 4 = _ := hd 4 (ZA.1 rfl);have ha := ha.s1 (d := 26) rfl e4
   exact ZK ha rfl rfl (Z_ rfl rfl) rfl rfl
  | 7, _ =>
   intro val fl w1 a hb ha hd hfl;have ha := ha.sub (Sub.nil _)
   exact QCf ha rfl rfl QCb (fun g w' hq _ hge => ⟨g, rfl, Nat.le_trans hb.size hge, fun _ => hq⟩)
  | 8, _ =>
   exact absurd (by simp) hs_
  | 9, _ =>
   intro val fl w1 a hb ha hd hfl;have e6 : val 6 = _ := hd 6 (ZA.1 rfl);have ha := ha.s1 (d := 32) rfl e6
   exact ZK ha rfl rfl (Zu rfl) rfl rfl
  | k + 10, h => exact absurd h (by omega)
 ·simp only [List.mem_singleton] at hi_; subst hi_
  intro val fl w1 a hb hfi ha hd hfl;obtain ⟨g7_, e7, hg7_, q7_⟩ := hd 7 (ZA.1 rfl);change val 7 = _ at e7;have e5 : val 5 = _ := hd 5 (ZA.1 rfl);have ha := ha.s2 (d := 31) (e := 4) rfl e5 rfl e7;refine YK ha rfl rfl rfl (q7_ hfi) Yw rfl rfl rfl rfl ?_;intro w' hq hgr;refine ⟨undef, rfl, hgr.size, ZC hb hgr hg7_, ⟨g7_, e7, hq⟩, fun j _ hj hn hA => ?_⟩
  exact ZH (C := fun j => j ≠ 8 ∧ 8 ∉ clsAt [[], [], [], [0, 1, 2], [0, 1, 2, 3], [0, 1, 2, 3, 4], [0, 1, 2, 3, 4], [], [0, 1, 2, 3, 4, 5, 7], [0, 1, 2, 3, 4, 5, 6, 7, 8]] j ∧ ∀ p ∈ [7], (p = j ∨ p ∈ clsAt [[], [], [], [0, 1, 2], [0, 1, 2, 3], [0, 1, 2, 3, 4], [0, 1, 2, 3, 4], [], [0, 1, 2, 3, 4, 5, 7], [0, 1, 2, 3, 4, 5, 6, 7, 8]] j) → ∀ q ∈ [7], (q = 8 ∨ q ∈ clsAt [[], [], [], [0, 1, 2], [0, 1, 2, 3], [0, 1, 2, 3, 4], [0, 1, 2, 3, 4], [], [0, 1, 2, 3, 4, 5, 7], [0, 1, 2, 3, 4, 5, 6, 7, 8]] 8) → p ≠ q → val p ≠ val q) (fun _ _ h => by rw [Zx] at h; cases h) (ZH (fun _ _ h => by rw [Zx] at h; cases h) (ZH (fun _ ⟨g, h1, h2, _⟩ => ⟨g, h1, h2, fun h => by rw [Zx] at h; cases h⟩) (ZH (fun hc => absurd rfl hc.1) (fun _ _ h => h)))) j ⟨hj, hn, hA⟩
 ·intro val fl wR3 hfl hb halc hd
  have e2 : val 2 = _ := hd 2 (by omega)
  have e3 : val 3 = _ := hd 3 (by omega)
  have e4 : val 4 = _ := hd 4 (by omega)
  have e5 : val 5 = _ := hd 5 (by omega)
  have e6 : val 6 = _ := hd 6 (by omega)
  obtain ⟨ga7_3, e7, qa7_3⟩ := hd 8 (by omega)
  change val 7 = _ at e7;have e9 : val 9 = _ := hd 9 (by omega)
  refine EL.ends (cs := [val 0, val 1, _, _, _, _, _, _, val 8, _]) ⟨rfl, rfl, e2, e3, e4, e5, e6, e7, rfl, e9, trivial⟩ rfl ?_;replace q1 := q1.bl hb;have bge5 := QCP halc (i := 7) rfl rfl e7;have n1_5 : g1 ≠ ga7_3 := Nat.ne_of_lt (Nat.lt_of_lt_of_le lt_1 bge5);have bhbw_5 := Nat.le_trans hbw.size bge5;replace hbw := bo_ hbw hb;refine EL.nil (EX.seq (EC.seq ?_));have lt_1 := q1.lt;have lt_5 := qa7_3.lt;refine EC.regionP [[], [], [], [0], [0, 1, 2, 3], [0, 1, 2, 3, 4], [0, 1, 2, 3, 4, 5], [0, 1, 2, 3, 4, 5], [0, 1, 2, 3, 4, 5], [0, 1, 2, 3, 4, 5], [0, 1, 2, 3, 4, 5], [0, 1, 2, 3, 4, 5, 6], [0, 1, 2, 3, 4, 5, 6, 7, 11], [0, 1, 2, 3, 4, 5, 6, 7, 8, 11, 12], [0, 1, 2, 3, 4, 5, 6, 7, 8, 9, 11, 12, 13], [0, 1, 2, 3, 4, 5, 6, 7, 8, 9, 10, 11, 12, 13, 14]] 16 [] (phi (fun i_ r => match i_ with | 2 => r 2 = .agg #[.int .i64 1000, .int .i64 1000] | 4 => r 4 = .tuple #[.bool false, .bool true, .int .i64 0, .int .i64 0, .int .i64 0] | 5 => r 5 = .tuple #[.bool false, .bool true, .int .i64 0, .int .i64 0, .int .i64 0] | 6 => r 6 = .bool false | 7 => r 7 = .bool true | 8 => r 8 = .int .i64 0 | 9 => r 9 = .int .i64 0 | 10 => r 10 = .int .i64 0 | 11 => r 11 = .bool false | 12 => r 12 = .bool true | 13 => r 13 = .int .i64 0 | 14 => r 14 = .int .i64 0 | 15 => r 15 = .int .i64 0 | _ => True) [(0, fun r w_ => ∃ v us, r 0 = .agg #[.int .i64 100, v] ∧ RdSecs w_ w_.heap.size v hTwo.secs us), (1, fun r w_ => ∃ g_, r 1 = .slice (some ⟨g_, 0, none⟩) 2 2 ∧ Blk w_ g_ 3 #[.int .i64 1, .int .i64 1] ∧ wR3.heap.size ≤ g_), (3, fun r w_ => ∃ q : PasV, r 3 = pasA pPas q ∧ RdPas w_ w_.heap.size pPas q)]) (by kernel_rfl) rfl rfl (ZX QBn (ZX Z1 (ZX QDE (Zd)))) (fun i_ hi_ => ?_) ?_
  ·match i_, hi_ with
   | 0, _ =>
    intro val w1 a hb ha hd;have ha := ha.sub (Sub.nil _);refine Zf ha rfl rfl (cA0 cF30) (QA_ _) rfl ?_
    rintro e w' ⟨⟨v1, us1, rfl, hT1⟩, hb'⟩
    exact ⟨_, rfl, hb', ⟨v1, us1, rfl, hT1⟩⟩
   | 1, _ =>
    intro val w1 a hb ha hd;have ha := ha.sub (Sub.nil _)
    exact YJ ha rfl rfl (QB7 rfl rfl) rfl (fun g w' hq _ hge => ⟨g, rfl, hq, Nat.le_trans hb.size hge⟩)
   | 2, _ =>
    intro val w1 a hb ha hd;have ha := ha.s0 (d := 1) rfl
    exact ZB ha rfl rfl (Zh rfl ((q1.below hb q1.lt).at (j := 0) rfl) ((q1.below hb q1.lt).at (j := 1) rfl)) rfl rfl
   | 3, _ =>
    intro val w1 a hb ha hd;have ha := ha.sub (Sub.nil _);refine Zf ha rfl rfl (cA0 cF31) (QAt _) rfl ?_
    rintro e w' ⟨⟨q1, rfl, hp1⟩, hb'⟩
    exact ⟨_, rfl, hb', ⟨q1, rfl, hp1⟩⟩
   | 4, _ =>
    intro val w1 a hb ha hd;obtain ⟨v0_, us0_, e0, hT0_⟩ := hd 0 (ZA.1 rfl);obtain ⟨g1_, e1, q1_, h1_⟩ := hd 1 (ZA.1 rfl);change val 1 = _ at e1;have e2 : val 2 = _ := hd 2 (ZA.1 rfl);obtain ⟨q3_, e3, hp3_⟩ := hd 3 (ZA.1 rfl);have ha := ha.sub (Sub.ins (d := 37) (Sub.ins (d := 36) (Sub.ins (d := 35) (Sub.ins (d := 34) (Sub.nil _) (ZG rfl e0)) (ZG rfl e1)) (ZG rfl e2)) (ZG rfl e3));refine Zf ha rfl rfl (cA4 cF20 rfl rfl rfl rfl) (QEN hT0_ (YN (k := 2) (l := ints [1, 1]) q1_ rfl) hp3_) rfl ?_
    rintro e w' ⟨rfl, hb'⟩
    exact ⟨_, rfl, hb', rfl⟩
   | 5, _ =>
    intro val w1 a hb ha hd;have e4 : val 4 = _ := hd 4 (ZA.1 rfl);have ha := ha.s1 (d := 38) rfl e4
    exact ZB ha rfl rfl (ZI rfl) rfl rfl
   | 6, _ =>
    intro val w1 a hb ha hd;have e5 : val 5 = _ := hd 5 (ZA.1 rfl);have ha := ha.s1 (d := 33) rfl e5
    exact ZB ha rfl rfl (Z_ rfl rfl) rfl rfl
   | 7, _ =>
    intro val w1 a hb ha hd;have e5 : val 5 = _ := hd 5 (ZA.1 rfl);have ha := ha.s1 (d := 33) rfl e5
    exact ZB ha rfl rfl (Z_ rfl rfl) rfl rfl
   | 8, _ =>
    intro val w1 a hb ha hd;have e5 : val 5 = _ := hd 5 (ZA.1 rfl);have ha := ha.s1 (d := 33) rfl e5
    exact ZB ha rfl rfl (Z_ rfl rfl) rfl rfl
   | 9, _ =>
    intro val w1 a hb ha hd;have e5 : val 5 = _ := hd 5 (ZA.1 rfl);have ha := ha.s1 (d := 33) rfl e5
    exact ZB ha rfl rfl (Z_ rfl rfl) rfl rfl
   | 10, _ =>
    intro val w1 a hb ha hd;have e5 : val 5 = _ := hd 5 (ZA.1 rfl);have ha := ha.s1 (d := 33) rfl e5
    exact ZB ha rfl rfl (Z_ rfl rfl) rfl rfl
   | 11, _ =>
    intro val w1 a hb ha hd;have e6 : val 6 = _ := hd 6 (ZA.1 rfl);have ha := ha.s1 (d := 39) rfl e6
    exact ZB ha rfl rfl (Zu rfl) rfl rfl
   | 12, _ =>
    intro val w1 a hb ha hd;have e7 : val 7 = _ := hd 7 (ZA.1 rfl);have ha := ha.s1 (d := 40) rfl e7
    exact ZB ha rfl rfl (Zu rfl) rfl rfl
   | 13, _ =>
    intro val w1 a hb ha hd;have e8 : val 8 = _ := hd 8 (ZA.1 rfl);have ha := ha.s1 (d := 41) rfl e8
    exact ZB ha rfl rfl (Zu rfl) rfl rfl
   | 14, _ =>
    intro val w1 a hb ha hd;have e9 : val 9 = _ := hd 9 (ZA.1 rfl);have ha := ha.s1 (d := 42) rfl e9
    exact ZB ha rfl rfl (Zu rfl) rfl rfl
   | 15, _ =>
    intro val w1 a hb ha hd;have e10 : val 10 = _ := hd 10 (ZA.1 rfl);have ha := ha.s1 (d := 43) rfl e10
    exact ZB ha rfl rfl (Zu rfl) rfl rfl
   | k + 16, h => exact absurd h (by omega)
  ·intro val wR4 hb halc hd
   obtain ⟨v0_, us0_, e0, hT0_⟩ := hd 0 (by omega)
   obtain ⟨ga1_4, e1, qa1_4, hga1_4⟩ := hd 1 (by omega)
   change val 1 = _ at e1;change Blk wR4 ga1_4 3 #[.int .i64 1, .int .i64 1] at qa1_4;have e2 : val 2 = _ := hd 2 (by omega)
   obtain ⟨q3_, e3, hp3_⟩ := hd 3 (by omega)
   have e4 : val 4 = _ := hd 4 (by omega)
   have e5 : val 5 = _ := hd 5 (by omega)
   have e6 : val 6 = _ := hd 6 (by omega)
   have e7 : val 7 = _ := hd 7 (by omega)
   have e8 : val 8 = _ := hd 8 (by omega)
   have e9 : val 9 = _ := hd 9 (by omega)
   have e10 : val 10 = _ := hd 10 (by omega)
   have e11 : val 11 = _ := hd 11 (by omega)
   have e12 : val 12 = _ := hd 12 (by omega)
   have e13 : val 13 = _ := hd 13 (by omega)
   have e14 : val 14 = _ := hd 14 (by omega)
   have e15 : val 15 = _ := hd 15 (by omega)
   refine EL.ends (cs := [_, _, _, _, _, _, _, _, _, _, _, _, _, _, _, _]) ⟨e0, e1, e2, e3, e4, e5, e6, e7, e8, e9, e10, e11, e12, e13, e14, e15, trivial⟩ rfl ?_;replace q1 := q1.bl hb;replace qa7_3 := qa7_3.bl hb;have n1_6 : g1 ≠ ga1_4 := Nat.ne_of_lt (Nat.lt_of_lt_of_le lt_1 hga1_4);have n5_6 : ga7_3 ≠ ga1_4 := Nat.ne_of_lt (Nat.lt_of_lt_of_le lt_5 hga1_4);have bhbw_6 := Nat.le_trans hbw.size hga1_4;replace hbw := bo_ hbw hb;clear hb;refine EL.nil (EX.seq (EC.seq ?_));have lt_1 := q1.lt;have lt_5 := qa7_3.lt;refine EC.regionS [[], [], [0], [0, 1, 2], [0, 1, 2, 3], [0, 1, 2, 3, 4], [0, 1, 2, 3, 4], [], [0, 1, 2, 3, 4, 5, 7], [0, 1, 2, 3, 4, 5, 6, 7, 8]] 10 [7] [8] (fun _ w_ => Below wR4.heap.size wR4 w_) (phiS (fun i_ r => match i_ with | 1 => r 1 = .agg #[.int .i64 1000, .int .i64 1000] | 6 => r 6 = .int .i64 0 | 9 => r 9 = .int .i64 0 | _ => True) [(0, fun fl r w_ => fl 8 = false → (∃ v us, r 0 = .agg #[.int .i64 100, v] ∧ RdSecs w_ w_.heap.size v hTwo.secs us)), (2, fun fl r w_ => fl 8 = false → (∃ q : PasV, r 2 = pasA pPas q ∧ RdPas w_ w_.heap.size pPas q)), (3, fun _ r w_ => ∃ A_ c_, r 3 = .tuple #[.agg #[.slice A_ 2 c_, .int .i64 1, .int .i64 1, .int .i64 0, .int .i64 0], .int .i64 0] ∧ w_.ownsRow wR4.heap.size 3 1 (.slice A_ 2 c_) 2 (ints [0, 1])), (4, fun _ r w_ => ∃ A_ c_, r 4 = .tuple #[.agg #[.slice A_ 2 c_, .int .i64 1, .int .i64 1, .int .i64 0, .int .i64 0], .int .i64 0] ∧ w_.ownsRow wR4.heap.size 3 1 (.slice A_ 2 c_) 2 (ints [0, 1])), (5, fun _ r w_ => ∃ A_ c_, r 5 = .agg #[.slice A_ 2 c_, .int .i64 1, .int .i64 1, .int .i64 0, .int .i64 0] ∧ w_.ownsRow wR4.heap.size 3 1 (.slice A_ 2 c_) 2 (ints [0, 1])), (7, fun fl r w_ => ∃ g_, r 7 = .pointer (some ⟨g_, 0, none⟩) ∧ wR4.heap.size ≤ g_ ∧ (fl 8 = false → Blk w_ g_ 59 #[.slice none 0 0, .int .i64 0, .int .i64 0, .int .i64 0, .int .i64 0])), (8, fun _ r w_ => ∃ z_ A_ c_, r 7 = .pointer (some ⟨z_, 0, none⟩) ∧ Blk w_ z_ 59 #[.slice A_ 2 c_, .int .i64 1, .int .i64 1, .int .i64 0, .int .i64 0] ∧ w_.ownsRow wR4.heap.size 3 1 (.slice A_ 2 c_) 2 (ints [0, 1]) ∧ wR4.heap.size ≤ z_)]) (by kernel_rfl) rfl rfl (by intro i hi; simp at hi; first | (subst hi; exact ⟨by simp, by omega⟩) | (rcases hi with rfl | rfl | rfl <;> exact ⟨by simp, by omega⟩) | (rcases hi with rfl | rfl <;> exact ⟨by simp, by omega⟩)) (QBc wR4) (ZY (QAD QBn) (ZY (QAD QDE) (ZY QDG (ZY QDG (ZY QDG (ZY QAL (ZY (fun _ _ _ _ hb ⟨g, A, c9, h1, h2, h3, h4⟩ => ⟨g, A, c9, h1, h2.below hb h2.lt, own_below h3 hb (Nat.le_refl _), h4⟩) (Yf)))))))) (fun i_ hi_ hs_ => ?_) (fun i_ hi_ => ?_) ?_
   ·match i_, hi_ with
    | 0, _ =>
     intro val fl w1 a hb ha hd hfl;have ha := ha.sub (Sub.nil _);refine QBi ha rfl rfl (cA0 cF30) (QA_ _) rfl ?_
     rintro e w' ⟨⟨v1, us1, rfl, hT1⟩, hb'⟩
     exact ⟨_, rfl, hb', fun _ => ⟨v1, us1, rfl, hT1⟩⟩
    | 1, _ =>
     intro val fl w1 a hb ha hd hfl;have ha := ha.s0 (d := 1) rfl
     exact ZK ha rfl rfl (Zh rfl ((q1.below hb q1.lt).at (j := 0) rfl) ((q1.below hb q1.lt).at (j := 1) rfl)) rfl rfl
    | 2, _ =>
     intro val fl w1 a hb ha hd hfl;have ha := ha.sub (Sub.nil _);refine QBi ha rfl rfl (cA0 cF31) (QAt _) rfl ?_
     rintro e w' ⟨⟨q1, rfl, hp1⟩, hb'⟩
     exact ⟨_, rfl, hb', fun _ => ⟨q1, rfl, hp1⟩⟩
    | 3, _ =>
     intro val fl w1 a hb ha hd hfl;obtain ⟨v0_, us0_, e0, hT0_⟩ := hd 0 (ZA.1 rfl) (hfl 8 (by simp) (ZA.1 rfl))
     have e1 : val 1 = _ := hd 1 (ZA.1 rfl);obtain ⟨q2_, e2, hp2_⟩ := hd 2 (ZA.1 rfl) (hfl 8 (by simp) (ZA.1 rfl))
     have ha := ha.sub (Sub.ins (d := 47) (Sub.ins (d := 46) (Sub.ins (d := 45) (Sub.nil _) (ZG rfl e0)) (ZG rfl e1)) (ZG rfl e2));refine QBi ha rfl rfl (cA3 cF16 rfl rfl rfl) (QE6 hT0_ hp2_) rfl ?_
     rintro e w' ⟨⟨A1, c1, rfl, ho1⟩, hb'⟩
     exact ⟨_, rfl, hb', ⟨A1, c1, rfl, own_less ho1 hb.size⟩⟩
    | 4, _ =>
     intro val fl w1 a hb ha hd hfl;obtain ⟨A3_, c3_, e3, o3_⟩ := hd 3 (ZA.1 rfl);have ha := ha.s1 (d := 48) rfl e3
     exact ZK ha rfl rfl (ZI rfl) ⟨A3_, c3_, rfl, o3_⟩ rfl
    | 5, _ =>
     intro val fl w1 a hb ha hd hfl;obtain ⟨A4_, c4_, e4, o4_⟩ := hd 4 (ZA.1 rfl);have ha := ha.s1 (d := 44) rfl e4
     exact ZK ha rfl rfl (Z_ rfl rfl) ⟨A4_, c4_, rfl, o4_⟩ rfl
    | 6, _ =>
     intro val fl w1 a hb ha hd hfl;obtain ⟨A4_, c4_, e4, o4_⟩ := hd 4 (ZA.1 rfl);have ha := ha.s1 (d := 44) rfl e4
     exact ZK ha rfl rfl (Z_ rfl rfl) rfl rfl
    | 7, _ =>
     intro val fl w1 a hb ha hd hfl;have ha := ha.sub (Sub.nil _)
     exact QCf ha rfl rfl QKp (fun g w' hq _ hge => ⟨g, rfl, Nat.le_trans hb.size hge, fun _ => hq⟩)
    | 8, _ =>
     exact absurd (by simp) hs_
    | 9, _ =>
     intro val fl w1 a hb ha hd hfl;have e6 : val 6 = _ := hd 6 (ZA.1 rfl);have ha := ha.s1 (d := 50) rfl e6
     exact ZK ha rfl rfl (Zu rfl) rfl rfl
    | k + 10, h => exact absurd h (by omega)
   ·simp only [List.mem_singleton] at hi_; subst hi_
    intro val fl w1 a hb hfi ha hd hfl;obtain ⟨g7_, e7, hg7_, q7_⟩ := hd 7 (ZA.1 rfl);change val 7 = _ at e7;obtain ⟨A5_, c5_, e5, o5_⟩ := hd 5 (ZA.1 rfl);have ha := ha.s2 (d := 49) (e := 11) rfl e5 rfl e7;refine YK ha rfl rfl rfl (q7_ hfi) QCy rfl rfl rfl rfl ?_;intro w' hq hgr;refine ⟨undef, rfl, hgr.size, ZC hb hgr hg7_, ⟨g7_, A5_, c5_, e7, hq, ZF o5_ (q7_ hfi) rfl hgr, hg7_⟩, fun j _ hj hn hA => ?_⟩
    exact ZH (C := fun j => j ≠ 8 ∧ 8 ∉ clsAt [[], [], [0], [0, 1, 2], [0, 1, 2, 3], [0, 1, 2, 3, 4], [0, 1, 2, 3, 4], [], [0, 1, 2, 3, 4, 5, 7], [0, 1, 2, 3, 4, 5, 6, 7, 8]] j ∧ ∀ p ∈ [7], (p = j ∨ p ∈ clsAt [[], [], [0], [0, 1, 2], [0, 1, 2, 3], [0, 1, 2, 3, 4], [0, 1, 2, 3, 4], [], [0, 1, 2, 3, 4, 5, 7], [0, 1, 2, 3, 4, 5, 6, 7, 8]] j) → ∀ q ∈ [7], (q = 8 ∨ q ∈ clsAt [[], [], [0], [0, 1, 2], [0, 1, 2, 3], [0, 1, 2, 3, 4], [0, 1, 2, 3, 4], [], [0, 1, 2, 3, 4, 5, 7], [0, 1, 2, 3, 4, 5, 6, 7, 8]] 8) → p ≠ q → val p ≠ val q) (fun _ _ h => by rw [Zx] at h; cases h) (ZH (fun _ _ h => by rw [Zx] at h; cases h) (ZH (fun _ ⟨A, c9, h1, h2⟩ => ⟨A, c9, h1, ZF h2 (q7_ hfi) rfl hgr⟩) (ZH (fun _ ⟨A, c9, h1, h2⟩ => ⟨A, c9, h1, ZF h2 (q7_ hfi) rfl hgr⟩) (ZH (fun _ ⟨A, c9, h1, h2⟩ => ⟨A, c9, h1, ZF h2 (q7_ hfi) rfl hgr⟩) (ZH (fun _ ⟨g, h1, h2, _⟩ => ⟨g, h1, h2, fun h => by rw [Zx] at h; cases h⟩) (ZH (fun hc => absurd rfl hc.1) (fun _ _ h => h))))))) j ⟨hj, hn, hA⟩
   ·intro val fl wR5 hfl hb halc hd
    have e1 : val 1 = _ := hd 1 (by omega)
    obtain ⟨A3_, c3_, e3, o3_⟩ := hd 3 (by omega)
    change val 3 = _ at e3;obtain ⟨A4_, c4_, e4, o4_⟩ := hd 4 (by omega)
    change val 4 = _ at e4;obtain ⟨A5_, c5_, e5, o5_⟩ := hd 5 (by omega)
    change val 5 = _ at e5;have e6 : val 6 = _ := hd 6 (by omega)
    obtain ⟨ga7_5, A8_, c8_, e7, qa7_5, oa8, hga7_5⟩ := hd 8 (by omega)
    change val 7 = _ at e7;have e9 : val 9 = _ := hd 9 (by omega)
    refine EL.ends (cs := [val 0, _, val 2, _, _, _, _, _, val 8, _]) ⟨rfl, e1, rfl, e3, e4, e5, e6, e7, rfl, e9, trivial⟩ rfl ?_;replace q1 := q1.bl hb;replace qa7_3 := qa7_3.bl hb;have bge7 := QCP halc (i := 7) rfl rfl e7;have n1_7 : g1 ≠ ga7_5 := Nat.ne_of_lt (Nat.lt_of_lt_of_le lt_1 bge7);have n5_7 : ga7_3 ≠ ga7_5 := Nat.ne_of_lt (Nat.lt_of_lt_of_le lt_5 bge7);have bhbw_7 := Nat.le_trans hbw.size bge7;replace hbw := bo_ hbw hb;obtain ⟨ga_, ca_, eA_⟩ := QGp oa8 (by omega)
    injection eA_ with eA_ _ eC_
    subst eA_ eC_;refine EL.nil (EX.seq (EC.seq (EC.region (EL.call (cA0 cF30) rfl (QA_ _) ?_))))
    rintro e w8 ⟨⟨vt, us, rfl, hT⟩, hc8⟩
    refine ⟨_, rfl, ?_⟩;replace q1 := q1.bl hc8;replace qa7_3 := qa7_3.bl hc8;replace qa7_5 := qa7_5.bl hc8;replace oa8 := own_below oa8 hc8 (Nat.le_refl _);replace hbw := bo_ hbw hc8;clear hc8;refine EL.call (cA3 cF25 rfl rfl rfl) rfl (QE3 hT) ?_
    rintro e w9 ⟨⟨Ac, cc, rfl⟩, hc9⟩
    refine ⟨_, rfl, ?_⟩;replace q1 := q1.bl hc9;replace qa7_3 := qa7_3.bl hc9;replace qa7_5 := qa7_5.bl hc9;replace oa8 := own_below oa8 hc9 (Nat.le_refl _);replace hbw := bo_ hbw hc9;clear hc9;refine EL.mv rfl rfl (EL.xt rfl rfl rfl (EL.xt rfl rfl rfl (EL.newP QFu rfl ?_)));intro g10 w10 q10 hb10 hg10 hl10;have n1_10 := q1.na hg10;have n5_10 := qa7_3.na hg10;have n7_10 := qa7_5.na hg10;have bhbw_10 := Nat.le_trans hbw.size hg10;replace q1 := q1.bl hb10;replace qa7_3 := qa7_3.bl hb10;replace qa7_5 := qa7_5.bl hb10;replace oa8 := own_below oa8 hb10 (Nat.le_refl _);replace hbw := bo_ hbw hb10;clear hb10 hg10 hl10;refine EL.store rfl rfl q10 QBh rfl rfl rfl rfl ?_;intro w11 hq11 hg11;replace q1 := q1.gr hg11 n1_10;replace qa7_3 := qa7_3.gr hg11 n5_10;replace qa7_5 := qa7_5.gr hg11 n7_10;replace oa8 := ZF oa8 q10 rfl hg11;replace hbw := ZC hbw hg11 bhbw_10;replace q10 := hq11;clear hg11 hq11;refine EL.as rfl rfl (EL.nil (EX.seq (EC.seq (EC.region (EL.val (Z6 rfl rfl) rfl (EL.val (Z6 rfl rfl) rfl (EL.val (QEG rfl rfl) rfl (EL.val (Z6 rfl rfl) rfl (EL.val (QKW rfl) rfl ?_)))))))));refine EL.val (QEG rfl rfl) rfl (EL.newS (QKT rfl rfl) rfl ?_);intro g12 w12 q12 hb12 hg12 hl12;have n1_12 := q1.na hg12;have n5_12 := qa7_3.na hg12;have n7_12 := qa7_5.na hg12;have n10_12 := q10.na hg12;have bhbw_12 := Nat.le_trans hbw.size hg12;replace q1 := q1.bl hb12;replace qa7_3 := qa7_3.bl hb12;replace qa7_5 := qa7_5.bl hb12;replace q10 := q10.bl hb12;replace oa8 := own_below oa8 hb12 (Nat.le_refl _);replace hbw := bo_ hbw hb12;clear hb12 hg12 hl12;refine EL.call (cA2 cF11 rfl rfl) rfl (by have key := QFS QGo _ 600 w12 _ (YN (k := 2) (l := platesC QGo) q12 rfl) (Nat.le_refl _) (by decide); rw [QE2.1, QE2.2] at key; exact key) ?_
    rintro e w13 ⟨rfl, hc13⟩
    refine ⟨_, rfl, ?_⟩;replace q1 := q1.bl hc13;replace qa7_3 := qa7_3.bl hc13;replace qa7_5 := qa7_5.bl hc13;replace q10 := q10.bl hc13;replace q12 := q12.bl hc13;replace oa8 := own_below oa8 hc13 (Nat.le_refl _);replace hbw := bo_ hbw hc13;clear hc13;refine EL.mv rfl rfl (EL.xt rfl rfl rfl (EL.xt rfl rfl rfl (EL.xt rfl rfl rfl (EL.newP Y1 rfl ?_))));intro g14 w14 q14 hb14 hg14 hl14;have n1_14 := q1.na hg14;have n5_14 := qa7_3.na hg14;have n7_14 := qa7_5.na hg14;have n10_14 := q10.na hg14;have n12_14 := q12.na hg14;have bhbw_14 := Nat.le_trans hbw.size hg14;replace q1 := q1.bl hb14;replace qa7_3 := qa7_3.bl hb14;replace qa7_5 := qa7_5.bl hb14;replace q10 := q10.bl hb14;replace q12 := q12.bl hb14;replace oa8 := own_below oa8 hb14 (Nat.le_refl _);replace hbw := bo_ hbw hb14;clear hb14 hg14 hl14;refine EL.store rfl rfl q14 Z8 rfl rfl rfl rfl ?_;intro w15 hq15 hg15;replace q1 := q1.gr hg15 n1_14;replace qa7_3 := qa7_3.gr hg15 n5_14;replace qa7_5 := qa7_5.gr hg15 n7_14;replace q10 := q10.gr hg15 n10_14;replace q12 := q12.gr hg15 n12_14;replace oa8 := ZF oa8 q14 rfl hg15;replace hbw := ZC hbw hg15 bhbw_14;replace q14 := hq15;clear hg15 hq15;refine EL.as rfl rfl (EL.as rfl rfl (EL.nil (EX.seq (EC.seq ?_))));have lt_1 := q1.lt;have lt_5 := qa7_3.lt;have lt_7 := qa7_5.lt;have lt_10 := q10.lt;have lt_12 := q12.lt;have lt_14 := q14.lt;refine EC.regionP [[], [], [], [0], [0, 1, 2, 3], [0, 1, 2, 3, 4], [0, 1, 2, 3, 4, 5], [0, 1, 2, 3, 4, 5], [0, 1, 2, 3, 4, 5, 6], [0, 1, 2, 3, 4, 5, 6, 7, 8]] 10 [] (phi (fun i_ r => match i_ with | 2 => r 2 = .agg #[.int .i64 1000, .int .i64 1000] | 4 => r 4 = .tuple #[.int .i64 0, .int .i64 7] | 5 => r 5 = .tuple #[.int .i64 0, .int .i64 7] | 6 => r 6 = .int .i64 0 | 7 => r 7 = .int .i64 7 | 8 => r 8 = .int .i64 0 | 9 => r 9 = .int .i64 7 | _ => True) [(0, fun r w_ => ∃ v us, r 0 = .agg #[.int .i64 100, v] ∧ RdSecs w_ w_.heap.size v hTwo.secs us), (1, fun r w_ => ∃ g_, r 1 = .slice (some ⟨g_, 0, none⟩) 2 2 ∧ Blk w_ g_ 3 #[.int .i64 1, .int .i64 1] ∧ w15.heap.size ≤ g_), (3, fun r w_ => ∃ q : PasV, r 3 = pasA pPas q ∧ RdPas w_ w_.heap.size pPas q)]) (by kernel_rfl) rfl rfl (ZX QBn (ZX Z1 (ZX QDE (Zd)))) (fun i_ hi_ => ?_) ?_
    ·match i_, hi_ with
     | 0, _ =>
      intro val w1 a hb ha hd;have ha := ha.sub (Sub.nil _);refine Zf ha rfl rfl (cA0 cF30) (QA_ _) rfl ?_
      rintro e w' ⟨⟨v1, us1, rfl, hT1⟩, hb'⟩
      exact ⟨_, rfl, hb', ⟨v1, us1, rfl, hT1⟩⟩
     | 1, _ =>
      intro val w1 a hb ha hd;have ha := ha.sub (Sub.nil _)
      exact YJ ha rfl rfl (QB7 rfl rfl) rfl (fun g w' hq _ hge => ⟨g, rfl, hq, Nat.le_trans hb.size hge⟩)
     | 2, _ =>
      intro val w1 a hb ha hd;have ha := ha.s0 (d := 1) rfl
      exact ZB ha rfl rfl (Zh rfl ((q1.below hb q1.lt).at (j := 0) rfl) ((q1.below hb q1.lt).at (j := 1) rfl)) rfl rfl
     | 3, _ =>
      intro val w1 a hb ha hd;have ha := ha.sub (Sub.nil _);refine Zf ha rfl rfl (cA0 cF31) (QAt _) rfl ?_
      rintro e w' ⟨⟨q1, rfl, hp1⟩, hb'⟩
      exact ⟨_, rfl, hb', ⟨q1, rfl, hp1⟩⟩
     | 4, _ =>
      intro val w1 a hb ha hd;obtain ⟨v0_, us0_, e0, hT0_⟩ := hd 0 (ZA.1 rfl);obtain ⟨g1_, e1, q1_, h1_⟩ := hd 1 (ZA.1 rfl);change val 1 = _ at e1;have e2 : val 2 = _ := hd 2 (ZA.1 rfl);obtain ⟨q3_, e3, hp3_⟩ := hd 3 (ZA.1 rfl);have ha := ha.sub (Sub.ins (d := 72) (Sub.ins (d := 71) (Sub.ins (d := 70) (Sub.ins (d := 69) (Sub.nil _) (ZG rfl e0)) (ZG rfl e1)) (ZG rfl e2)) (ZG rfl e3));refine Zf ha rfl rfl (cA4 cF24 rfl rfl rfl rfl) (QDs hT0_ (YN (k := 2) (l := ints [1, 1]) q1_ rfl) hp3_) rfl ?_
      rintro e w' ⟨rfl, hb'⟩
      exact ⟨_, rfl, hb', rfl⟩
     | 5, _ =>
      intro val w1 a hb ha hd;have e4 : val 4 = _ := hd 4 (ZA.1 rfl);have ha := ha.s1 (d := 73) rfl e4
      exact ZB ha rfl rfl (ZI rfl) rfl rfl
     | 6, _ =>
      intro val w1 a hb ha hd;have e5 : val 5 = _ := hd 5 (ZA.1 rfl);have ha := ha.s1 (d := 68) rfl e5
      exact ZB ha rfl rfl (Z_ rfl rfl) rfl rfl
     | 7, _ =>
      intro val w1 a hb ha hd;have e5 : val 5 = _ := hd 5 (ZA.1 rfl);have ha := ha.s1 (d := 68) rfl e5
      exact ZB ha rfl rfl (Z_ rfl rfl) rfl rfl
     | 8, _ =>
      intro val w1 a hb ha hd;have e6 : val 6 = _ := hd 6 (ZA.1 rfl);have ha := ha.s1 (d := 74) rfl e6
      exact ZB ha rfl rfl (Zu rfl) rfl rfl
     | 9, _ =>
      intro val w1 a hb ha hd;have e7 : val 7 = _ := hd 7 (ZA.1 rfl);have ha := ha.s1 (d := 75) rfl e7
      exact ZB ha rfl rfl (Zu rfl) rfl rfl
     | k + 10, h => exact absurd h (by omega)
    ·intro val wR8 hb halc hd
     obtain ⟨v0_, us0_, e0, hT0_⟩ := hd 0 (by omega)
     obtain ⟨ga1_8, e1, qa1_8, hga1_8⟩ := hd 1 (by omega)
     change val 1 = _ at e1;change Blk wR8 ga1_8 3 #[.int .i64 1, .int .i64 1] at qa1_8;have e2 : val 2 = _ := hd 2 (by omega)
     obtain ⟨q3_, e3, hp3_⟩ := hd 3 (by omega)
     have e4 : val 4 = _ := hd 4 (by omega)
     have e5 : val 5 = _ := hd 5 (by omega)
     have e6 : val 6 = _ := hd 6 (by omega)
     have e7 : val 7 = _ := hd 7 (by omega)
     have e8 : val 8 = _ := hd 8 (by omega)
     have e9 : val 9 = _ := hd 9 (by omega)
     refine EL.ends (cs := [_, _, _, _, _, _, _, _, _, _]) ⟨e0, e1, e2, e3, e4, e5, e6, e7, e8, e9, trivial⟩ rfl ?_;replace q1 := q1.bl hb;replace qa7_3 := qa7_3.bl hb;replace qa7_5 := qa7_5.bl hb;replace q10 := q10.bl hb;replace q12 := q12.bl hb;replace q14 := q14.bl hb;replace oa8 := own_below oa8 hb (Nat.le_refl _);have n1_16 : g1 ≠ ga1_8 := Nat.ne_of_lt (Nat.lt_of_lt_of_le lt_1 hga1_8);have n5_16 : ga7_3 ≠ ga1_8 := Nat.ne_of_lt (Nat.lt_of_lt_of_le lt_5 hga1_8);have n7_16 : ga7_5 ≠ ga1_8 := Nat.ne_of_lt (Nat.lt_of_lt_of_le lt_7 hga1_8);have n10_16 : g10 ≠ ga1_8 := Nat.ne_of_lt (Nat.lt_of_lt_of_le lt_10 hga1_8);have n12_16 : g12 ≠ ga1_8 := Nat.ne_of_lt (Nat.lt_of_lt_of_le lt_12 hga1_8);have n14_16 : g14 ≠ ga1_8 := Nat.ne_of_lt (Nat.lt_of_lt_of_le lt_14 hga1_8);have bhbw_16 := Nat.le_trans hbw.size hga1_8;replace hbw := bo_ hbw hb;clear hb;refine EL.nil (EX.seq (EC.seq (EC.seq (EC.region (EL.mv rfl rfl ?_)))));refine EL.val (Zl (r := false) rfl rfl (decide_eq_false (by decide))) rfl ?_
     refine EL.mv rfl rfl (EL.mg rfl rfl rfl rfl ?_);refine EL.valg rfl rfl (Zl (r := false) rfl rfl (decide_eq_false (by decide))) rfl ?_
     refine EL.pf rfl rfl rfl (EL.mv rfl rfl (EL.mg rfl rfl rfl rfl ?_));refine EL.valg rfl rfl (Zl (r := false) rfl rfl (decide_eq_false (by decide))) rfl ?_
     refine EL.pf rfl rfl rfl (EL.mv rfl rfl (EL.mg rfl rfl rfl rfl ?_));refine EL.valg rfl rfl (Zl (r := false) rfl rfl (decide_eq_false (by decide))) rfl ?_
     refine EL.pf rfl rfl rfl (EL.mv rfl rfl (EL.mg rfl rfl rfl rfl ?_));refine EL.valg rfl rfl (Zl (r := false) rfl rfl (decide_eq_false (by decide))) rfl ?_
     refine EL.pf rfl rfl rfl (EL.mv rfl rfl (EL.mg rfl rfl rfl rfl ?_));refine EL.valg rfl rfl (Zl (r := false) rfl rfl (decide_eq_false (by decide))) rfl ?_
     refine EL.pf rfl rfl rfl (EL.mv rfl rfl (EL.mg rfl rfl rfl rfl ?_));refine EL.valg rfl rfl (Zl (r := false) rfl rfl (decide_eq_false (by decide))) rfl ?_
     refine EL.pf rfl rfl rfl (EL.mv rfl rfl (EL.valg rfl rfl (QEn rfl) rfl (EL.valg rfl rfl (QI3 rfl (qa7_5.at (j := 0) rfl)) rfl (EL.valg rfl rfl (QFP rfl) rfl ?_))));refine EL.valg rfl rfl (Zl (r := false) rfl rfl (decide_eq_false (by decide))) rfl ?_
     refine EL.pf rfl rfl rfl (EL.mv rfl rfl (EL.valg rfl rfl (Yk rfl) rfl (EL.valg rfl rfl (QAi rfl (q10.at (j := 1) rfl)) rfl (EL.valg rfl rfl (QAx rfl) rfl ?_))));refine EL.valg rfl rfl (Zl (r := false) rfl rfl (decide_eq_false (by decide))) rfl ?_
     refine EL.pf rfl rfl rfl (EL.nil (EX.seq (EC.no rfl (EC.skip (EX.seq (EC.seq (EC.region (EL.mv rfl rfl ?_))))))));refine EL.val (ZV (r := true) rfl rfl (decide_eq_true (by decide))) rfl ?_
     refine EL.mv rfl rfl (EL.valg rfl rfl (QBq rfl (qa7_3.at (j := 0) rfl) (qa7_3.at (j := 1) rfl) (qa7_3.at (j := 2) rfl) (qa7_3.at (j := 3) rfl) (qa7_3.at (j := 4) rfl)) rfl (EL.valg rfl rfl (Z6 rfl rfl) rfl (EL.valg rfl rfl (Z6 rfl rfl) rfl (EL.valg rfl rfl (QFq rfl rfl rfl) rfl ?_))));refine EL.valg rfl rfl (QLB rfl rfl (decide_eq_true (by decide))) rfl ?_
     refine EL.pt rfl rfl rfl (EL.mv rfl rfl (EL.mg rfl rfl rfl rfl (EL.valg rfl rfl (ZZ rfl) rfl (EL.pt rfl rfl rfl (EL.mv rfl rfl (EL.mg rfl rfl rfl rfl (EL.pt rfl rfl rfl (EL.mv rfl rfl (EL.mg rfl rfl rfl rfl ?_)))))))));refine EL.valg rfl rfl (ZV (r := true) rfl rfl (decide_eq_true (by decide))) rfl ?_
     refine EL.pt rfl rfl rfl (EL.mv rfl rfl (EL.mg rfl rfl rfl rfl ?_));refine EL.valg rfl rfl (ZV (r := true) rfl rfl (decide_eq_true (by decide))) rfl ?_
     refine EL.pt rfl rfl rfl (EL.mv rfl rfl (EL.valg rfl rfl (QEn rfl) rfl (EL.valg rfl rfl (QI3 rfl (qa7_5.at (j := 0) rfl)) rfl ?_)));refine EL.valg rfl rfl (QD9 (k := 1) rfl rfl (by omega)) rfl ?_
     obtain ⟨b_, o_, eb_, _, cell1⟩ := Yz [0, 1] 1 (by decide) _ _ _ _ _ (rd_of_own oa8)
     injection eb_ with eb_
     injection eb_ with e1_ e2_
     subst e1_ e2_;refine EL.valg rfl rfl (ld_3 rfl cell1) rfl ?_;refine EL.valg rfl rfl (ZV (r := true) rfl rfl (decide_eq_true (by decide))) rfl ?_
     refine EL.pt rfl rfl rfl (EL.mv rfl rfl (EL.valg rfl rfl (Yu rfl) rfl (EL.valg rfl rfl (ld_3 rfl (qa7_5.at (j := 1) rfl)) rfl ?_)));refine EL.valg rfl rfl (ZV (r := true) rfl rfl (decide_eq_true (by decide))) rfl ?_
     refine EL.pt rfl rfl rfl (EL.mv rfl rfl (EL.valg rfl rfl (QCo rfl) rfl (EL.valg rfl rfl (QKh rfl (qa7_5.at (j := 2) rfl)) rfl ?_)));refine EL.valg rfl rfl (ZV (r := true) rfl rfl (decide_eq_true (by decide))) rfl ?_
     refine EL.pt rfl rfl rfl (EL.mv rfl rfl (EL.valg rfl rfl (Zh rfl (q14.at (j := 0) rfl) (q14.at (j := 1) rfl)) rfl (EL.valg rfl rfl (Z6 rfl rfl) rfl ?_)));refine EL.valg rfl rfl (Yr rfl rfl (decide_eq_true (by decide))) rfl ?_
     refine EL.pt rfl rfl rfl (EL.mv rfl rfl (EL.mg rfl rfl rfl rfl ?_));refine EL.valg rfl rfl (ZV (r := true) rfl rfl (decide_eq_true (by decide))) rfl ?_
     refine EL.pt rfl rfl rfl (EL.as rfl rfl (EL.nil (EX.seq (EC.ret ?_))))
     exact EX.done (res1 rfl rfl) ⟨rfl, hbw⟩
section
variable {n : Nat} {σ : Sg} {w : World} {dst : Option Tmp} {ty : TypeId} {pos : String} {af : Array Edge} {g : Option (Nat × Bool)} {x y z : Operand} {at' : Array TypeId}
theorem cF37 : cF 37 := fun _ _ => by simp [go_sem]
end
theorem QBV (th we m : Int) (hth : 0 ≤ th ∧ th ≤ 100000) (hw : 0 ≤ we ∧ we ≤ 1000) (hm : 0 ≤ m ∧ m ≤ 100000) (w : World) : Calls Try.prog 37 #[.int .i64 th, .int .i64 we, .int .i64 m] w fun e w' => e = .returned (.int .i64 (Yo th we m)) ∧ Below w.heap.size w w' := by
 have hwle : we ≤ 1000 * 1 := by omega
 have hmulb : ∀ z : Int, 0 ≤ z → z ≤ 1001 → z * we ≤ 1001 * 1000 := fun z h0 h1 => Int.mul_le_mul h1 hw.2 hw.1 (by omega)
 have hbw := Below.refl w.heap.size w;refine EC.enter 26 Try.func37 rfl rfl rfl (EC.seq (EC.region (EL.as rfl rfl (EL.nil (EX.seq (EC.seq (EC.seq (EC.region (EL.mv rfl rfl ?_)))))))));refine EL.mv rfl rfl ?_
 by_cases h1 : th < m
 ·
  refine EL.val (ZL (r := true) rfl rfl (decide_eq_true h1)) rfl (EL.nil (EX.seq (EC.yes rfl (EC.seq (EC.region (EL.as rfl rfl (EL.nil (EX.seq (EC.ret ?_)))))))));refine EX.seq_ret ?_
  exact EX.done (res1 rfl rfl) ⟨by rw [Yo, if_pos h1], hbw⟩
 ·
  refine EL.val (ZL (r := false) rfl rfl (decide_eq_false h1)) rfl (EL.nil (EX.seq (EC.no rfl (EC.skip (EX.seq (EC.seq (EC.region (EL.as rfl rfl (EL.nil ?_)))))))));refine EX.seq (EC.seq (EC.block ?_));refine EC.loopD [7, 11, 12, 13, 14, 15, 16, 17, 18, 19, 20, 21, 22, 23, 24] (fun x : Nat => [(7, .int .i64 (x : Nat))]) (fun x W => x ≤ 1000 ∧ m ≤ th - (x : Int) * we ∧ Below w.heap.size w W) (fun x => 1000 - x) 0 ⟨Nat.zero_le _, by rw [Int.natCast_zero, Int.zero_mul]; omega, hbw⟩ ⟨rfl, trivial⟩ ?_
  clear hbw
  rintro y wk ⟨hy, hm2, hbw⟩
  have hyw : 0 ≤ (y : Int) * we := Int.mul_nonneg (by omega) hw.1
  have hyx : ((y : Int) + 1) * we = (y : Int) * we + we := by rw [Int.add_mul, Int.one_mul]
  refine EC.seq (EC.seq (EC.region (EL.mv rfl rfl ?_)))
  by_cases hlt : (y : Int) < 1000
  ·
   refine EL.val (ZL (r := true) rfl rfl (decide_eq_true hlt)) rfl (EL.mv rfl rfl (EL.mg rfl rfl rfl rfl (EL.mg rfl rfl rfl rfl ?_)));refine EL.valg rfl rfl (ZM rfl rfl (IntWalk.i64_in _ ⟨by omega, by omega⟩)) rfl ?_
   refine EL.mg rfl rfl rfl rfl ?_;refine EL.valg rfl rfl (QAj rfl rfl (IntWalk.i64_in _ ⟨by omega, by omega⟩)) rfl ?_
   refine EL.valg rfl rfl (YR rfl rfl (IntWalk.i64_in _ ⟨by omega, by omega⟩)) rfl ?_
   refine EL.mg rfl rfl rfl rfl ?_
   by_cases hge : m ≤ th - ((y : Int) + 1) * we
   ·
    refine EL.valg rfl rfl (QAl (r := true) rfl rfl (decide_eq_true hge)) rfl (EL.pt rfl rfl rfl (EL.nil (EX.seq (EC.yes rfl (EC.skip (EX.seq (EC.block (EC.region (EL.mv rfl rfl ?_)))))))));refine EL.val (ZM rfl rfl (c := ((y + 1 : Nat) : Int)) ((IntWalk.i64_in _ ⟨by first | omega | (simp only; omega), by first | omega | (simp only; omega)⟩).trans (by first | omega | (simp only; omega)))) rfl ?_
    refine EL.as rfl rfl (EL.nil (EX.blk ?_));refine EX.roundD (y + 1) ⟨rfl, trivial⟩ (by repeat first | with_reducible exact .refl _ | refine sp_ rfl ?_ | exact .refl _ | refine sd_ rfl ?_ | refine sn_ ?_) ⟨by omega, by rw [show (((y + 1 : Nat) : Int)) = (y : Int) + 1 by omega]; exact hge, hbw⟩ (by omega)
   ·
    refine EL.valg rfl rfl (QAl (r := false) rfl rfl (decide_eq_false hge)) rfl (EL.pt rfl rfl rfl (EL.nil (EX.seq (EC.no rfl (EC.exit (EX.seq_exit (EX.seq_exit (EX.blk_here (EX.seq ?_)))))))));refine EC.seq (EC.region (EL.mv rfl rfl (EL.as rfl rfl (EL.nil (EX.seq (EC.ret ?_))))))
    exact EX.done (res1 rfl rfl) ⟨by rw [QCt hw.1 (by omega) (by omega) (.inr hm2) (.inr (by omega))], hbw⟩
  ·
   refine EL.val (ZL (r := false) rfl rfl (decide_eq_false hlt)) rfl (EL.mv rfl rfl (EL.skip rfl rfl rfl rfl (EL.skip rfl rfl rfl rfl (EL.skip rfl rfl rfl rfl (EL.skip rfl rfl rfl rfl (EL.skip rfl rfl rfl rfl (EL.skip rfl rfl rfl rfl (EL.skip rfl rfl rfl rfl (EL.skip rfl rfl rfl rfl ?_)))))))));refine EL.pf rfl rfl rfl (EL.nil (EX.seq (EC.no rfl (EC.exit (EX.seq_exit (EX.seq_exit (EX.blk_here (EX.seq (EC.seq ?_)))))))));refine EC.region (EL.mv rfl rfl (EL.as rfl rfl (EL.nil (EX.seq (EC.ret ?_)))))
   exact EX.done (res1 rfl rfl) ⟨by rw [QCt hw.1 (by omega) (by omega) (.inr hm2) (.inl (by omega))], hbw⟩
set_option maxRecDepth 100000 in
theorem QCH (l : List Plate) (v : Value) (least : Int) (hle : 0 ≤ least ∧ least ≤ 100000) (hpl : ∀ p ∈ l, Zk p = true) (h0 : 0 < l.length) (w : World) (B : Nat) (hr : Rd w B 4 v l.length (platesC l)) (hB : B ≤ w.heap.size) (hn : l.length ≤ 1048576) :
  Calls Try.prog 12 #[v, .int .i64 least] w fun e w' => e = .returned (.tuple #[.agg #[.int .i64 (Z4 1001 least l l.length).lo, .int .i64 (Z4 1001 least l l.length).hi], .int .i64 (Z4 1001 least l l.length).plate]) ∧ Below w.heap.size w w' := by
 have hsame : Z4 1001 least l l.length = Z4 1000000 least l l.length := by
  have := QD7 (b0 := 1001) (b1 := 1000000) (least := least) (l := l) (by omega) (by omega) hpl (l.length - 1) (by omega)
  rwa [show l.length - 1 + 1 = l.length by omega] at this
 obtain ⟨A, c, rfl, _⟩ := hr.shape;have hbw := Below.refl w.heap.size w;refine EC.enter 58 Try.func12 rfl rfl rfl (EC.seq (EC.region (EL.newP Y1 rfl ?_)));intro g1 w1 q1 hb1 hg1 hl1;have bhbw_1 := Nat.le_trans hbw.size hg1;replace hbw := bo_ hbw hb1;clear hb1 hg1 hl1;refine EL.as rfl rfl (EL.nil (EX.seq (EC.seq (EC.region (EL.val (Z6 rfl rfl) rfl (EL.newP Y1 rfl ?_))))));intro g2 w2 q2 hb2 hg2 hl2;have n1_2 := q1.na hg2;have bhbw_2 := Nat.le_trans hbw.size hg2;replace q1 := q1.bl hb2;replace hbw := bo_ hbw hb2;clear hb2 hg2 hl2;refine EL.store rfl rfl q2 Z8 rfl rfl rfl rfl ?_;intro w3 hq3 hg3;replace q1 := q1.gr hg3 n1_2;replace hbw := ZC hbw hg3 bhbw_2;replace q2 := hq3;clear hg3 hq3;refine EL.as rfl rfl (EL.nil (EX.seq (EC.seq (EC.seq (EC.region (EL.as rfl rfl (EL.nil (EX.seq (EC.block ?_)))))))));refine EC.loopD [7, 8, 9, 11, 12, 13, 14, 15, 16, 17, 18, 19, 20, 21, 22, 23, 24, 25, 26, 27, 28, 29, 30, 31, 32, 33, 34, 35, 36, 37, 38, 39, 40, 41, 42, 43, 44, 45, 46, 47, 48, 49, 50, 51, 52, 53, 54, 55] (fun k : Nat => [(7, .int .i64 (Z4 1000000 least l k).plate), (8, .int .i64 (k : Nat))]) (fun k W => k ≤ l.length ∧ Blk W g1 25 #[.int .i64 0, .int .i64 0] ∧ Blk W g2 25 #[.int .i64 (Z4 1000000 least l k).lo, .int .i64 (Z4 1000000 least l k).hi] ∧ Below w.heap.size w W) (fun k => l.length - k) 0 ⟨Nat.zero_le _, q1, q2, hbw⟩ ⟨rfl, rfl, trivial⟩ ?_
 clear q1 q2 hbw
 rintro k wk ⟨hk, q1, q2, hbw⟩
 by_cases hltk : k < l.length
 ·
  obtain ⟨b, o, rfl, _, cc⟩ := Z0 l k hltk w B _ _ _ hr;have hp := hpl _ (getD_mem (d := Zp) hltk);have hkb := QDR (b0 := 1000000) (least := least) (l := l) (by omega) hpl k hk
  have hst : Z4 1000000 least l (k + 1) = Yh least (Z4 1000000 least l k) (l.getD k Zp) k := rfl;obtain ⟨x, ex⟩ : ∃ z, z = l.getD k Zp := ⟨_, rfl⟩;rw [← ex] at cc hp hst;have hy := QEW hp least
  simp only [Zk, bdOk, Bool.and_eq_true, inB_iff, decide_eq_true_eq] at hp
  obtain ⟨S, eS⟩ : ∃ z, z = Z4 1000000 least l k := ⟨_, rfl⟩;rw [← eS] at hkb hst q2 ⊢;refine EC.seq (EC.seq (EC.region (EL.mv rfl rfl (EL.mv rfl rfl (EL.val (Y5 rfl) rfl ?_)))));refine EL.val (ZL rfl rfl (decide_eq_true (show (((k : Nat) : Int) < ((l.length : Nat) : Int)) by omega))) rfl ?_
  refine EL.nil (EX.seq (EC.yes rfl (EC.skip (EX.seq (EC.seq (EC.block (EC.seq ?_)))))));have lt_1 := q1.lt;have lt_2 := q2.lt;refine EC.regionP [[], [], [0, 1], [0, 1, 2], [0, 1, 2, 3], [0, 1, 2, 3, 4], [], [], [6, 7], [6, 7, 8], [6, 7, 8, 9], [6, 7, 8, 9, 10], [], [0, 1, 2, 3, 4, 5, 6, 7, 8, 9, 10, 11, 12], [0, 1, 2, 3, 4, 5, 6, 7, 8, 9, 10, 11, 12, 13]] 15 [] (phi (fun i_ r => match i_ with | 0 => r 0 = .slice (some ⟨b, o, none⟩) l.length c | 1 => r 1 = .int .i64 (k : Nat) | 2 => r 2 = .pointer (some ⟨b, o + k * 4, none⟩) | 3 => r 3 = .pointer (some ⟨b, o + k * 4, none⟩) | 4 => r 4 = .pointer (some ⟨b, o + k * 4, none⟩) | 5 => r 5 = .int .i64 x.thick.lo | 6 => r 6 = .slice (some ⟨b, o, none⟩) l.length c | 7 => r 7 = .int .i64 (k : Nat) | 8 => r 8 = .pointer (some ⟨b, o + k * 4, none⟩) | 9 => r 9 = .pointer (some ⟨b, o + k * 4 + 2, none⟩) | 10 => r 10 = .pointer (some ⟨b, o + k * 4 + 2 + 1, none⟩) | 11 => r 11 = .int .i64 x.wear.hi | 12 => r 12 = .int .i64 least | 13 => r 13 = .int .i64 (yLo least x) | 14 => r 14 = .int .i64 (yLo least x) | _ => True) []) (by kernel_rfl) rfl rfl (Zd) (fun i_ hi_ => ?_) ?_
  ·match i_, hi_ with
   | 0, _ =>
    intro val w1 a hb ha hd;have ha := ha.s0 (d := 0) rfl
    exact ZB ha rfl rfl (ZI rfl) rfl rfl
   | 1, _ =>
    intro val w1 a hb ha hd;have ha := ha.s0 (d := 8) rfl
    exact ZB ha rfl rfl (ZI rfl) rfl rfl
   | 2, _ =>
    intro val w1 a hb ha hd;have e0 : val 0 = _ := hd 0 (ZA.1 rfl);have e1 : val 1 = _ := hd 1 (ZA.1 rfl);have ha := ha.s2 (d := 18) (e := 17) rfl e1 rfl e0
    exact ZB ha rfl rfl (Yy rfl rfl hltk) rfl rfl
   | 3, _ =>
    intro val w1 a hb ha hd;have e2 : val 2 = _ := hd 2 (ZA.1 rfl);have ha := ha.s1 (d := 19) rfl e2
    exact ZB ha rfl rfl (Z3 rfl) rfl rfl
   | 4, _ =>
    intro val w1 a hb ha hd;have e3 : val 3 = _ := hd 3 (ZA.1 rfl);have ha := ha.s1 (d := 20) rfl e3
    exact ZB ha rfl rfl (ZS rfl) rfl rfl
   | 5, _ =>
    intro val w1 a hb ha hd;have e4 : val 4 = _ := hd 4 (ZA.1 rfl);have ha := ha.s1 (d := 21) rfl e4
    exact ZB ha rfl rfl (ld_3 rfl (ZD (hbw.trans (hb.mono hbw.size)) cc.c0)) rfl rfl
   | 6, _ =>
    intro val w1 a hb ha hd;have ha := ha.s0 (d := 0) rfl
    exact ZB ha rfl rfl (ZI rfl) rfl rfl
   | 7, _ =>
    intro val w1 a hb ha hd;have ha := ha.s0 (d := 8) rfl
    exact ZB ha rfl rfl (ZI rfl) rfl rfl
   | 8, _ =>
    intro val w1 a hb ha hd;have e6 : val 6 = _ := hd 6 (ZA.1 rfl);have e7 : val 7 = _ := hd 7 (ZA.1 rfl);have ha := ha.s2 (d := 24) (e := 23) rfl e7 rfl e6
    exact ZB ha rfl rfl (Yy rfl rfl hltk) rfl rfl
   | 9, _ =>
    intro val w1 a hb ha hd;have e8 : val 8 = _ := hd 8 (ZA.1 rfl);have ha := ha.s1 (d := 25) rfl e8
    exact ZB ha rfl rfl (Z2 rfl) rfl rfl
   | 10, _ =>
    intro val w1 a hb ha hd;have e9 : val 9 = _ := hd 9 (ZA.1 rfl);have ha := ha.s1 (d := 26) rfl e9
    exact ZB ha rfl rfl (ZO rfl) rfl rfl
   | 11, _ =>
    intro val w1 a hb ha hd;have e10 : val 10 = _ := hd 10 (ZA.1 rfl);have ha := ha.s1 (d := 27) rfl e10
    exact ZB ha rfl rfl (ld_3 rfl (ZD (hbw.trans (hb.mono hbw.size)) cc.c3)) rfl rfl
   | 12, _ =>
    intro val w1 a hb ha hd;have ha := ha.s0 (d := 1) rfl
    exact ZB ha rfl rfl (ZI rfl) rfl rfl
   | 13, _ =>
    intro val w1 a hb ha hd;have e5 : val 5 = _ := hd 5 (ZA.1 rfl);have e11 : val 11 = _ := hd 11 (ZA.1 rfl);have e12 : val 12 = _ := hd 12 (ZA.1 rfl);have ha := ha.sub (Sub.ins (d := 29) (Sub.ins (d := 28) (Sub.ins (d := 22) (Sub.nil _) (ZG rfl e5)) (ZG rfl e11)) (ZG rfl e12));refine Zf ha rfl rfl (cA3 cF37 rfl rfl rfl) (QBV x.thick.lo x.wear.hi least (by omega) (by omega) (by omega) _) rfl ?_
    rintro e w' ⟨rfl, hb'⟩
    exact ⟨_, rfl, hb', rfl⟩
   | 14, _ =>
    intro val w1 a hb ha hd;have e13 : val 13 = _ := hd 13 (ZA.1 rfl);have ha := ha.s1 (d := 30) rfl e13
    exact ZB ha rfl rfl (Zu rfl) rfl rfl
   | k + 15, h => exact absurd h (by omega)
  ·intro val wR5 hb halc hd
   have e0 : val 0 = _ := hd 0 (by omega)
   have e1 : val 1 = _ := hd 1 (by omega)
   have e2 : val 2 = _ := hd 2 (by omega)
   have e3 : val 3 = _ := hd 3 (by omega)
   have e4 : val 4 = _ := hd 4 (by omega)
   have e5 : val 5 = _ := hd 5 (by omega)
   have e6 : val 6 = _ := hd 6 (by omega)
   have e7 : val 7 = _ := hd 7 (by omega)
   have e8 : val 8 = _ := hd 8 (by omega)
   have e9 : val 9 = _ := hd 9 (by omega)
   have e10 : val 10 = _ := hd 10 (by omega)
   have e11 : val 11 = _ := hd 11 (by omega)
   have e12 : val 12 = _ := hd 12 (by omega)
   have e13 : val 13 = _ := hd 13 (by omega)
   have e14 : val 14 = _ := hd 14 (by omega)
   refine EL.ends (cs := [_, _, _, _, _, _, _, _, _, _, _, _, _, _, _]) ⟨e0, e1, e2, e3, e4, e5, e6, e7, e8, e9, e10, e11, e12, e13, e14, trivial⟩ rfl ?_;replace q1 := q1.bl hb;replace q2 := q2.bl hb;replace hbw := bo_ hbw hb;clear hb;refine EL.nil (EX.seq (EC.seq (EC.seq (EC.region (EL.mv rfl rfl (EL.val (ZS rfl) rfl (EL.val (ld_3 rfl (q2.at (j := 0) rfl)) rfl ?_)))))))
   by_cases hlt : yLo least x < S.lo
   ·
    refine EL.val (ZL (r := true) rfl rfl (decide_eq_true hlt)) rfl (EL.nil (EX.seq (EC.yes rfl (EC.region (EL.mv rfl rfl (EL.mv rfl rfl (EL.val (ZS rfl) rfl (EL.store rfl rfl q2 sz_3 rfl rfl rfl rfl ?_))))))));intro w4 hq4 hg4;replace q1 := q1.gr hg4 n1_2;replace hbw := ZC hbw hg4 bhbw_2;replace q2 := hq4;clear hg4 hq4;refine EL.as rfl rfl (EL.nil (EX.seq ?_));have lt_1 := q1.lt;have lt_2 := q2.lt;refine EC.regionP [[], [0], [], [], [2, 3], [2, 3, 4], [2, 3, 4, 5], [2, 3, 4, 5, 6], [], [], [8, 9], [8, 9, 10], [8, 9, 10, 11], [8, 9, 10, 11, 12], [], [2, 3, 4, 5, 6, 7, 8, 9, 10, 11, 12, 13, 14], [0, 1, 2, 3, 4, 5, 6, 7, 8, 9, 10, 11, 12, 13, 14, 15], [0, 1, 2, 3, 4, 5, 6, 7, 8, 9, 10, 11, 12, 13, 14, 15, 16], [0, 1, 2, 3, 4, 5, 6, 7, 8, 9, 10, 11, 12, 13, 14, 15, 16, 17]] 17 [] (phi (fun i_ r => match i_ with | 0 => r 0 = .pointer (some ⟨g2, 1, none⟩) | 1 => r 1 = .int .i64 S.hi | 2 => r 2 = .slice (some ⟨b, o, none⟩) l.length c | 3 => r 3 = .int .i64 (k : Nat) | 4 => r 4 = .pointer (some ⟨b, o + k * 4, none⟩) | 5 => r 5 = .pointer (some ⟨b, o + k * 4, none⟩) | 6 => r 6 = .pointer (some ⟨b, o + k * 4 + 1, none⟩) | 7 => r 7 = .int .i64 x.thick.hi | 8 => r 8 = .slice (some ⟨b, o, none⟩) l.length c | 9 => r 9 = .int .i64 (k : Nat) | 10 => r 10 = .pointer (some ⟨b, o + k * 4, none⟩) | 11 => r 11 = .pointer (some ⟨b, o + k * 4 + 2, none⟩) | 12 => r 12 = .pointer (some ⟨b, o + k * 4 + 2, none⟩) | 13 => r 13 = .int .i64 x.wear.lo | 14 => r 14 = .int .i64 least | 15 => r 15 = .int .i64 (yHi least x) | 16 => r 16 = .int .i64 (min S.hi (yHi least x)) | _ => True) []) (by kernel_rfl) rfl rfl (Zd) (fun i_ hi_ => ?_) ?_
    ·match i_, hi_ with
     | 0, _ =>
      intro val w1 a hb ha hd;have ha := ha.s0 (d := 6) rfl
      exact ZB ha rfl rfl (ZO rfl) rfl rfl
     | 1, _ =>
      intro val w1 a hb ha hd;have e0 : val 0 = _ := hd 0 (ZA.1 rfl);have ha := ha.s1 (d := 38) rfl e0
      exact ZB ha rfl rfl (ld_3 rfl ((q2.below hb q2.lt).at (j := 1) rfl)) rfl rfl
     | 2, _ =>
      intro val w1 a hb ha hd;have ha := ha.s0 (d := 0) rfl
      exact ZB ha rfl rfl (ZI rfl) rfl rfl
     | 3, _ =>
      intro val w1 a hb ha hd;have ha := ha.s0 (d := 8) rfl
      exact ZB ha rfl rfl (ZI rfl) rfl rfl
     | 4, _ =>
      intro val w1 a hb ha hd;have e2 : val 2 = _ := hd 2 (ZA.1 rfl);have e3 : val 3 = _ := hd 3 (ZA.1 rfl);have ha := ha.s2 (d := 41) (e := 40) rfl e3 rfl e2
      exact ZB ha rfl rfl (Yy rfl rfl hltk) rfl rfl
     | 5, _ =>
      intro val w1 a hb ha hd;have e4 : val 4 = _ := hd 4 (ZA.1 rfl);have ha := ha.s1 (d := 42) rfl e4
      exact ZB ha rfl rfl (Z3 rfl) rfl rfl
     | 6, _ =>
      intro val w1 a hb ha hd;have e5 : val 5 = _ := hd 5 (ZA.1 rfl);have ha := ha.s1 (d := 43) rfl e5
      exact ZB ha rfl rfl (ZO rfl) rfl rfl
     | 7, _ =>
      intro val w1 a hb ha hd;have e6 : val 6 = _ := hd 6 (ZA.1 rfl);have ha := ha.s1 (d := 44) rfl e6
      exact ZB ha rfl rfl (ld_3 rfl (ZD (hbw.trans (hb.mono hbw.size)) cc.c1)) rfl rfl
     | 8, _ =>
      intro val w1 a hb ha hd;have ha := ha.s0 (d := 0) rfl
      exact ZB ha rfl rfl (ZI rfl) rfl rfl
     | 9, _ =>
      intro val w1 a hb ha hd;have ha := ha.s0 (d := 8) rfl
      exact ZB ha rfl rfl (ZI rfl) rfl rfl
     | 10, _ =>
      intro val w1 a hb ha hd;have e8 : val 8 = _ := hd 8 (ZA.1 rfl);have e9 : val 9 = _ := hd 9 (ZA.1 rfl);have ha := ha.s2 (d := 47) (e := 46) rfl e9 rfl e8
      exact ZB ha rfl rfl (Yy rfl rfl hltk) rfl rfl
     | 11, _ =>
      intro val w1 a hb ha hd;have e10 : val 10 = _ := hd 10 (ZA.1 rfl);have ha := ha.s1 (d := 48) rfl e10
      exact ZB ha rfl rfl (Z2 rfl) rfl rfl
     | 12, _ =>
      intro val w1 a hb ha hd;have e11 : val 11 = _ := hd 11 (ZA.1 rfl);have ha := ha.s1 (d := 49) rfl e11
      exact ZB ha rfl rfl (ZS rfl) rfl rfl
     | 13, _ =>
      intro val w1 a hb ha hd;have e12 : val 12 = _ := hd 12 (ZA.1 rfl);have ha := ha.s1 (d := 50) rfl e12
      exact ZB ha rfl rfl (ld_3 rfl (ZD (hbw.trans (hb.mono hbw.size)) cc.c2)) rfl rfl
     | 14, _ =>
      intro val w1 a hb ha hd;have ha := ha.s0 (d := 1) rfl
      exact ZB ha rfl rfl (ZI rfl) rfl rfl
     | 15, _ =>
      intro val w1 a hb ha hd;have e7 : val 7 = _ := hd 7 (ZA.1 rfl);have e13 : val 13 = _ := hd 13 (ZA.1 rfl);have e14 : val 14 = _ := hd 14 (ZA.1 rfl);have ha := ha.sub (Sub.ins (d := 52) (Sub.ins (d := 51) (Sub.ins (d := 45) (Sub.nil _) (ZG rfl e7)) (ZG rfl e13)) (ZG rfl e14));refine Zf ha rfl rfl (cA3 cF37 rfl rfl rfl) (QBV x.thick.hi x.wear.lo least (by omega) (by omega) (by omega) _) rfl ?_
      rintro e w' ⟨rfl, hb'⟩
      exact ⟨_, rfl, hb', rfl⟩
     | 16, _ =>
      intro val w1 a hb ha hd;have e1 : val 1 = _ := hd 1 (ZA.1 rfl);have e15 : val 15 = _ := hd 15 (ZA.1 rfl);have ha := ha.s2 (d := 53) (e := 39) rfl e15 rfl e1
      exact ZB ha rfl rfl (QBX rfl rfl rfl) rfl rfl
     | k + 17, h => exact absurd h (by omega)
    ·intro val wR8 hb halc hd
     have e0 : val 0 = _ := hd 0 (by omega)
     have e1 : val 1 = _ := hd 1 (by omega)
     have e2 : val 2 = _ := hd 2 (by omega)
     have e3 : val 3 = _ := hd 3 (by omega)
     have e4 : val 4 = _ := hd 4 (by omega)
     have e5 : val 5 = _ := hd 5 (by omega)
     have e6 : val 6 = _ := hd 6 (by omega)
     have e7 : val 7 = _ := hd 7 (by omega)
     have e8 : val 8 = _ := hd 8 (by omega)
     have e9 : val 9 = _ := hd 9 (by omega)
     have e10 : val 10 = _ := hd 10 (by omega)
     have e11 : val 11 = _ := hd 11 (by omega)
     have e12 : val 12 = _ := hd 12 (by omega)
     have e13 : val 13 = _ := hd 13 (by omega)
     have e14 : val 14 = _ := hd 14 (by omega)
     have e15 : val 15 = _ := hd 15 (by omega)
     have e16 : val 16 = _ := hd 16 (by omega)
     refine EL.ends (cs := [_, _, _, _, _, _, _, _, _, _, _, _, _, _, _, _, _]) ⟨e0, e1, e2, e3, e4, e5, e6, e7, e8, e9, e10, e11, e12, e13, e14, e15, e16, trivial⟩ rfl ?_;replace q1 := q1.bl hb;replace q2 := q2.bl hb;replace hbw := bo_ hbw hb;clear hb;refine EL.val (ZO rfl) rfl (EL.store rfl rfl q2 sz_3 rfl rfl rfl rfl ?_);intro w5 hq5 hg5;replace q1 := q1.gr hg5 n1_2;replace hbw := ZC hbw hg5 bhbw_2;replace q2 := hq5;clear hg5 hq5;refine EL.nil (EX.blk (EX.seq (EC.region (EL.mv rfl rfl ?_))));refine EL.val (ZM rfl rfl (c := ((k + 1 : Nat) : Int)) ((IntWalk.i64_in _ ⟨by first | omega | (simp only; omega), by first | omega | (simp only; omega)⟩).trans (by first | omega | (simp only; omega)))) rfl ?_
     refine EL.as rfl rfl (EL.nil ?_);refine EX.roundD (k + 1) ⟨by rw [hst, Yx hlt]; rfl, rfl, trivial⟩ (by repeat first | with_reducible exact .refl _ | refine sp_ rfl ?_ | exact .refl _ | refine sd_ rfl ?_ | refine sn_ ?_) ⟨by omega, q1, by rw [hst, Yx hlt]; exact q2, hbw⟩ (by omega)
   ·
    refine EL.val (ZL (r := false) rfl rfl (decide_eq_false hlt)) rfl (EL.nil (EX.seq (EC.no rfl (EC.skip (EX.seq ?_)))));have lt_1 := q1.lt;have lt_2 := q2.lt;refine EC.regionP [[], [0], [], [], [2, 3], [2, 3, 4], [2, 3, 4, 5], [2, 3, 4, 5, 6], [], [], [8, 9], [8, 9, 10], [8, 9, 10, 11], [8, 9, 10, 11, 12], [], [2, 3, 4, 5, 6, 7, 8, 9, 10, 11, 12, 13, 14], [0, 1, 2, 3, 4, 5, 6, 7, 8, 9, 10, 11, 12, 13, 14, 15], [0, 1, 2, 3, 4, 5, 6, 7, 8, 9, 10, 11, 12, 13, 14, 15, 16], [0, 1, 2, 3, 4, 5, 6, 7, 8, 9, 10, 11, 12, 13, 14, 15, 16, 17]] 17 [] (phi (fun i_ r => match i_ with | 0 => r 0 = .pointer (some ⟨g2, 1, none⟩) | 1 => r 1 = .int .i64 S.hi | 2 => r 2 = .slice (some ⟨b, o, none⟩) l.length c | 3 => r 3 = .int .i64 (k : Nat) | 4 => r 4 = .pointer (some ⟨b, o + k * 4, none⟩) | 5 => r 5 = .pointer (some ⟨b, o + k * 4, none⟩) | 6 => r 6 = .pointer (some ⟨b, o + k * 4 + 1, none⟩) | 7 => r 7 = .int .i64 x.thick.hi | 8 => r 8 = .slice (some ⟨b, o, none⟩) l.length c | 9 => r 9 = .int .i64 (k : Nat) | 10 => r 10 = .pointer (some ⟨b, o + k * 4, none⟩) | 11 => r 11 = .pointer (some ⟨b, o + k * 4 + 2, none⟩) | 12 => r 12 = .pointer (some ⟨b, o + k * 4 + 2, none⟩) | 13 => r 13 = .int .i64 x.wear.lo | 14 => r 14 = .int .i64 least | 15 => r 15 = .int .i64 (yHi least x) | 16 => r 16 = .int .i64 (min S.hi (yHi least x)) | _ => True) []) (by kernel_rfl) rfl rfl (Zd) (fun i_ hi_ => ?_) ?_
    ·match i_, hi_ with
     | 0, _ =>
      intro val w1 a hb ha hd;have ha := ha.s0 (d := 6) rfl
      exact ZB ha rfl rfl (ZO rfl) rfl rfl
     | 1, _ =>
      intro val w1 a hb ha hd;have e0 : val 0 = _ := hd 0 (ZA.1 rfl);have ha := ha.s1 (d := 38) rfl e0
      exact ZB ha rfl rfl (ld_3 rfl ((q2.below hb q2.lt).at (j := 1) rfl)) rfl rfl
     | 2, _ =>
      intro val w1 a hb ha hd;have ha := ha.s0 (d := 0) rfl
      exact ZB ha rfl rfl (ZI rfl) rfl rfl
     | 3, _ =>
      intro val w1 a hb ha hd;have ha := ha.s0 (d := 8) rfl
      exact ZB ha rfl rfl (ZI rfl) rfl rfl
     | 4, _ =>
      intro val w1 a hb ha hd;have e2 : val 2 = _ := hd 2 (ZA.1 rfl);have e3 : val 3 = _ := hd 3 (ZA.1 rfl);have ha := ha.s2 (d := 41) (e := 40) rfl e3 rfl e2
      exact ZB ha rfl rfl (Yy rfl rfl hltk) rfl rfl
     | 5, _ =>
      intro val w1 a hb ha hd;have e4 : val 4 = _ := hd 4 (ZA.1 rfl);have ha := ha.s1 (d := 42) rfl e4
      exact ZB ha rfl rfl (Z3 rfl) rfl rfl
     | 6, _ =>
      intro val w1 a hb ha hd;have e5 : val 5 = _ := hd 5 (ZA.1 rfl);have ha := ha.s1 (d := 43) rfl e5
      exact ZB ha rfl rfl (ZO rfl) rfl rfl
     | 7, _ =>
      intro val w1 a hb ha hd;have e6 : val 6 = _ := hd 6 (ZA.1 rfl);have ha := ha.s1 (d := 44) rfl e6
      exact ZB ha rfl rfl (ld_3 rfl (ZD (hbw.trans (hb.mono hbw.size)) cc.c1)) rfl rfl
     | 8, _ =>
      intro val w1 a hb ha hd;have ha := ha.s0 (d := 0) rfl
      exact ZB ha rfl rfl (ZI rfl) rfl rfl
     | 9, _ =>
      intro val w1 a hb ha hd;have ha := ha.s0 (d := 8) rfl
      exact ZB ha rfl rfl (ZI rfl) rfl rfl
     | 10, _ =>
      intro val w1 a hb ha hd;have e8 : val 8 = _ := hd 8 (ZA.1 rfl);have e9 : val 9 = _ := hd 9 (ZA.1 rfl);have ha := ha.s2 (d := 47) (e := 46) rfl e9 rfl e8
      exact ZB ha rfl rfl (Yy rfl rfl hltk) rfl rfl
     | 11, _ =>
      intro val w1 a hb ha hd;have e10 : val 10 = _ := hd 10 (ZA.1 rfl);have ha := ha.s1 (d := 48) rfl e10
      exact ZB ha rfl rfl (Z2 rfl) rfl rfl
     | 12, _ =>
      intro val w1 a hb ha hd;have e11 : val 11 = _ := hd 11 (ZA.1 rfl);have ha := ha.s1 (d := 49) rfl e11
      exact ZB ha rfl rfl (ZS rfl) rfl rfl
     | 13, _ =>
      intro val w1 a hb ha hd;have e12 : val 12 = _ := hd 12 (ZA.1 rfl);have ha := ha.s1 (d := 50) rfl e12
      exact ZB ha rfl rfl (ld_3 rfl (ZD (hbw.trans (hb.mono hbw.size)) cc.c2)) rfl rfl
     | 14, _ =>
      intro val w1 a hb ha hd;have ha := ha.s0 (d := 1) rfl
      exact ZB ha rfl rfl (ZI rfl) rfl rfl
     | 15, _ =>
      intro val w1 a hb ha hd;have e7 : val 7 = _ := hd 7 (ZA.1 rfl);have e13 : val 13 = _ := hd 13 (ZA.1 rfl);have e14 : val 14 = _ := hd 14 (ZA.1 rfl);have ha := ha.sub (Sub.ins (d := 52) (Sub.ins (d := 51) (Sub.ins (d := 45) (Sub.nil _) (ZG rfl e7)) (ZG rfl e13)) (ZG rfl e14));refine Zf ha rfl rfl (cA3 cF37 rfl rfl rfl) (QBV x.thick.hi x.wear.lo least (by omega) (by omega) (by omega) _) rfl ?_
      rintro e w' ⟨rfl, hb'⟩
      exact ⟨_, rfl, hb', rfl⟩
     | 16, _ =>
      intro val w1 a hb ha hd;have e1 : val 1 = _ := hd 1 (ZA.1 rfl);have e15 : val 15 = _ := hd 15 (ZA.1 rfl);have ha := ha.s2 (d := 53) (e := 39) rfl e15 rfl e1
      exact ZB ha rfl rfl (QBX rfl rfl rfl) rfl rfl
     | k + 17, h => exact absurd h (by omega)
    ·intro val wR8 hb halc hd
     have e0 : val 0 = _ := hd 0 (by omega)
     have e1 : val 1 = _ := hd 1 (by omega)
     have e2 : val 2 = _ := hd 2 (by omega)
     have e3 : val 3 = _ := hd 3 (by omega)
     have e4 : val 4 = _ := hd 4 (by omega)
     have e5 : val 5 = _ := hd 5 (by omega)
     have e6 : val 6 = _ := hd 6 (by omega)
     have e7 : val 7 = _ := hd 7 (by omega)
     have e8 : val 8 = _ := hd 8 (by omega)
     have e9 : val 9 = _ := hd 9 (by omega)
     have e10 : val 10 = _ := hd 10 (by omega)
     have e11 : val 11 = _ := hd 11 (by omega)
     have e12 : val 12 = _ := hd 12 (by omega)
     have e13 : val 13 = _ := hd 13 (by omega)
     have e14 : val 14 = _ := hd 14 (by omega)
     have e15 : val 15 = _ := hd 15 (by omega)
     have e16 : val 16 = _ := hd 16 (by omega)
     refine EL.ends (cs := [_, _, _, _, _, _, _, _, _, _, _, _, _, _, _, _, _]) ⟨e0, e1, e2, e3, e4, e5, e6, e7, e8, e9, e10, e11, e12, e13, e14, e15, e16, trivial⟩ rfl ?_;replace q1 := q1.bl hb;replace q2 := q2.bl hb;replace hbw := bo_ hbw hb;clear hb;refine EL.val (ZO rfl) rfl (EL.store rfl rfl q2 sz_3 rfl rfl rfl rfl ?_);intro w6 hq6 hg6;replace q1 := q1.gr hg6 n1_2;replace hbw := ZC hbw hg6 bhbw_2;replace q2 := hq6;clear hg6 hq6;refine EL.nil (EX.blk (EX.seq (EC.region (EL.mv rfl rfl ?_))));refine EL.val (ZM rfl rfl (c := ((k + 1 : Nat) : Int)) ((IntWalk.i64_in _ ⟨by first | omega | (simp only; omega), by first | omega | (simp only; omega)⟩).trans (by first | omega | (simp only; omega)))) rfl ?_
     refine EL.as rfl rfl (EL.nil ?_);refine EX.roundD (k + 1) ⟨by rw [hst, QAN hlt]; rfl, rfl, trivial⟩ (by repeat first | with_reducible exact .refl _ | refine sp_ rfl ?_ | exact .refl _ | refine sd_ rfl ?_ | refine sn_ ?_) ⟨by omega, q1, by rw [hst, QAN hlt]; exact q2, hbw⟩ (by omega)
 ·
  obtain rfl : k = l.length := by omega
  refine EC.seq (EC.seq (EC.region (EL.mv rfl rfl (EL.mv rfl rfl (EL.val (Y5 rfl) rfl ?_)))));refine EL.val (ZL rfl rfl (decide_eq_false (show ¬(((l.length : Nat) : Int) < ((l.length : Nat) : Int)) by omega))) rfl ?_
  refine EL.nil (EX.seq (EC.no rfl (EC.exit (EX.seq_exit (EX.seq_exit (EX.blk_here (EX.seq (EC.seq (EC.region ?_)))))))));refine EL.val (Zh rfl (q2.at (j := 0) rfl) (q2.at (j := 1) rfl)) rfl (EL.mv rfl rfl (EL.store rfl rfl q1 Z8 rfl rfl rfl rfl ?_));intro w7 hq7 hg7;replace q2 := q2.gr hg7 n1_2.symm;replace hbw := ZC hbw hg7 bhbw_1;replace q1 := hq7;clear hg7 hq7;refine EL.as rfl rfl (EL.nil (EX.seq (EC.ret ?_)))
  exact EX.done (Zz rfl rfl rfl (QAM (q1.at (j := 0) rfl) (q1.at (j := 1) rfl))) ⟨by rw [hsame], hbw⟩
section
variable {n : Nat} {σ : Sg} {w : World} {dst : Option Tmp} {ty : TypeId} {pos : String} {af : Array Edge} {g : Option (Nat × Bool)} {x y z : Operand} {at' : Array TypeId}
theorem cF10 : cF 10 := fun _ _ => by simp [go_sem]
theorem QKU (a : Act) (_ : Env n σ a) : (execOp a.eval ⟨dst, .buildSlice 22 0 #[], ty, pos, af, g⟩).run Try.prog w = .ok (.value (.slice (some ⟨w.heap.size, 0, none⟩) 0 0)) (w.alloc (.cells #[] 30)) := by
 simp only [execOp]
 go_simp
theorem QGA {a0 a1 a2 a3 b0 b1 b2 b3 : Int} {r : Bool} (hx : evS σ x = some (.agg #[.int .i64 a0, .int .i64 a1, .int .i64 a2, .int .i64 a3])) (hy : evS σ y = some (.agg #[.int .i64 b0, .int .i64 b1, .int .i64 b2, .int .i64 b3])) (hc : decide (¬ (a0 = b0 ∧ a1 = b1 ∧ a2 = b2 ∧ a3 = b3)) = r) : ZE Try.prog n σ w ⟨dst, .binOp .neq 30 x y 30, ty, pos, af, g⟩ (.bool r) := fun a ha => by
 subst hc
 simp only [execOp, ha.eval hx, ha.eval hy]
 go_simp
 repeat' split
 all_goals simp_all
theorem cF12 : cF 12 := fun _ _ => by simp [go_sem]
end
theorem QF6 : (Try.prog.info? 30).map (fun i => (i.zero, i.size, i.bytes)) = some (some (.agg #[.int .i64 0, .int .i64 0, .int .i64 0, .int .i64 0]), 4, 32) := by kernel_rfl
theorem QF7 : Elem Try.prog 22 30 4 32 := Elem.mk' Try.underlying22 QF6 rfl (by omega)
/-- what the law wants, after k plates -/
def YC (l : List Plate) (k : Nat) : Int := if 50 < l.length then 5 else if l.length = 0 then 4 else if (l.take k).all Zk = false then 2 else 0
theorem QBU {l : List Plate} {k : Nat} (hk : k < l.length) : YC l (k + 1) = if YC l k = 0 ∧ Zk (l.getD k Zp) = false then 2 else YC l k := by
 have e : (l.take (k + 1)).all Zk = ((l.take k).all Zk && Zk (l.getD k Zp)) := by
  rw [YA (d := Zp) hk, List.all_append]
  simp
 unfold YC
 rw [e]
 by_cases h1 : 50 < l.length
 ·simp [h1]
 ·by_cases h2 : l.length = 0
  ·omega
  ·rw [if_neg h1, if_neg h2, if_neg h1, if_neg h2]
   cases (l.take k).all Zk <;> cases Zk (l.getD k Zp) <;> simp
theorem QAR (l : List Plate) (k : Nat) : 0 ≤ YC l k ∧ YC l k ≤ 5 := by
 unfold YC
 split
 ·omega
 ·split
  ·omega
  ·split <;> omega
theorem QEL {l : List Plate} {least : Int} (h : YC l l.length ≠ 0) : YS l least = YC l l.length := by
 unfold YC at h ⊢
 unfold YS
 rw [List.take_length] at h ⊢
 by_cases h1 : 50 < l.length
 ·have h2 : ¬ l.length = 0 := by omega
  simp only [h1, h2, if_true, if_false]
 ·by_cases h2 : l.length = 0
  ·simp only [h1, h2, if_true, if_false]
   simp
  ·simp only [h1, h2, if_false] at h ⊢
   cases h3 : l.all Zk with
   | false => rfl
   | true => rw [h3] at h; simp at h
theorem QCv {l : List Plate} (h : YC l l.length = 0) : ¬ l.length = 0 ∧ ¬ 50 < l.length ∧ l.all Zk = true := by
 unfold YC at h
 rw [List.take_length] at h
 by_cases h1 : 50 < l.length
 ·rw [if_pos h1] at h; omega
 ·rw [if_neg h1] at h
  by_cases h2 : l.length = 0
  ·rw [if_pos h2] at h; omega
  ·rw [if_neg h2] at h
   cases h3 : l.all Zk with
   | false => rw [h3] at h; simp at h
   | true => exact ⟨h2, h1, rfl⟩
theorem QDQ {l : List Plate} {least : Int} (h : YS l least ≠ 0) : YZ l least = ⟨0, 0, 0⟩ := if_neg h
theorem Zv {p : Plate} (h : p.thick.lo < 0 ∨ p.thick.hi < p.thick.lo ∨ 100000 < p.thick.hi ∨ p.wear.lo < 0 ∨ p.wear.hi < p.wear.lo ∨ 1000 < p.wear.hi) : Zk p = false := by
 cases e : Zk p with
 | false => rfl
 | true =>
  unfold Zk at e
  simp only [Bool.and_eq_true, bdOk_iff] at e
  omega
theorem QCI {p : Plate} (h1 : ¬ p.thick.lo < 0) (h2 : ¬ p.thick.hi < p.thick.lo) (h3 : ¬ 100000 < p.thick.hi) (h4 : ¬ p.wear.lo < 0) (h5 : ¬ p.wear.hi < p.wear.lo) (h6 : ¬ 1000 < p.wear.hi) : Zk p = true := by
 unfold Zk
 simp only [Bool.and_eq_true, bdOk_iff]
 omega
theorem Y4 {n : Int} (h : n < 0 ∨ 100000 < n) : inB 0 100000 n = false := by
 cases e : inB 0 100000 n with
 | false => rfl
 | true => have := inB_iff.1 e; omega
set_option maxRecDepth 100000 in
set_option maxHeartbeats 2000000 in
theorem lives_law (l : List Plate) (v : Value) (least : Int) (w : World) (B : Nat) (hr : Rd w B 4 v l.length (platesC l)) (hB : B ≤ w.heap.size) :
  Calls Try.prog 3 #[v, .int .i64 least] w fun e w' => e = .returned (.bool true) ∧ Below w.heap.size w w' := by
 obtain ⟨A, c, rfl, _⟩ := hr.shape;have hbw := Below.refl w.heap.size w;refine EC.enter 145 Try.func3 rfl rfl rfl (EC.seq (EC.region (EL.as rfl rfl (EL.nil (EX.seq (EC.seq (EC.seq (EC.region (EL.mv rfl rfl ?_)))))))));refine EL.val (Y5 rfl) rfl ?_
 by_cases hbig : 60 < l.length
 ·
  refine EL.val (Zi (r := true) rfl rfl (decide_eq_true (by omega))) rfl ?_
  refine EL.nil (EX.seq (EC.yes rfl (EC.seq (EC.region (EL.call (cA0 cF10) rfl (Z5 _) ?_)))))
  rintro e w1 ⟨rfl, hc1⟩
  refine ⟨_, rfl, ?_⟩;replace hbw := bo_ hbw hc1;clear hc1;refine EL.as rfl rfl (EL.nil (EX.seq (EC.ret (EX.seq_ret ?_))))
  exact EX.done (res1 rfl rfl) ⟨rfl, hbw⟩
 ·
  refine EL.val (Zi (r := false) rfl rfl (decide_eq_false (by omega))) rfl ?_
  refine EL.nil (EX.seq (EC.no rfl (EC.skip (EX.seq (EC.seq (EC.region ?_))))));have hsz := hbw.size;refine EL.newS QKU rfl ?_;intro g2 w2 q2 hb2 hg2 hl2;have bhbw_2 := Nat.le_trans hbw.size hg2;replace hbw := bo_ hbw hb2;clear hb2 hl2;have hsz2 := hbw.size;refine EL.mv rfl rfl ?_;refine EL.copy QF7 rfl rfl (base := w.heap.size) q2 (Nat.le_trans hsz hg2) (hr.below (hbw.mono hB)) (QFE l) (by omega) (by omega) hbw.size rfl ?_
  intro v3 w3 hin hb3;replace hbw := bo_ hbw hb3;clear hb3;obtain ⟨Ai, ci, rfl, _⟩ := (Rd.of_own hin).shape;refine EL.as rfl rfl (EL.nil (EX.seq (EC.seq (EC.region (EL.mv rfl rfl (EL.mv rfl rfl ?_))))));refine EL.call (cA2 cF11 rfl rfl) rfl (QFS l _ least _ _ (rd_of_own hin) (Nat.le_refl _) (by omega)) ?_
  rintro e w4 ⟨rfl, hc4⟩
  refine ⟨_, rfl, ?_⟩;replace hin := own_below hin hc4 (Nat.le_refl _);replace hbw := bo_ hbw hc4;clear hc4;refine EL.mv rfl rfl (EL.xt rfl rfl rfl (EL.xt rfl rfl rfl (EL.xt rfl rfl rfl (EL.newP Y1 rfl ?_))));intro g5 w5 q5 hb5 hg5 hl5;have bhbw_5 := Nat.le_trans hbw.size hg5;replace hin := own_below hin hb5 (Nat.le_refl _);replace hbw := bo_ hbw hb5;clear hb5 hg5 hl5;refine EL.store rfl rfl q5 Z8 rfl rfl rfl rfl ?_;intro w6 hq6 hg6;replace hin := ZF hin q5 rfl hg6;replace hbw := ZC hbw hg6 bhbw_5;replace q5 := hq6;clear hg6 hq6;refine EL.as rfl rfl (EL.as rfl rfl (EL.nil (EX.seq (EC.seq (EC.region (EL.as rfl rfl (EL.nil (EX.seq (EC.seq ?_)))))))));refine EC.seq (EC.region (EL.mv rfl rfl (EL.val (Y5 rfl) rfl ?_)))
  by_cases h0 : l.length = 0
  ·
   refine EL.val (ZV (r := true) rfl rfl (decide_eq_true (by omega))) rfl ?_
   refine EL.nil (EX.seq (EC.yes rfl (EC.region (EL.as rfl rfl (EL.nil (EX.seq (EC.seq (EC.seq (EC.region ?_)))))))));refine EL.mv rfl rfl (EL.val (Y5 rfl) rfl ?_);have h50 : ¬ 50 < l.length := by omega
   refine EL.val (Zi (r := false) rfl rfl (decide_eq_false (by omega))) rfl ?_
   refine EL.nil (EX.seq (EC.no rfl (EC.skip (EX.seq (EC.seq (EC.seq (EC.region (EL.as rfl rfl (EL.nil ?_)))))))));refine EX.seq (EC.block ?_);have hw0 : YC l 0 = 4 := by rw [YC, if_neg h50, if_pos h0]
   refine EC.loopD [4, 9, 10, 11, 34, 35, 36, 37, 38, 39, 40, 41, 42, 43, 44, 45, 46, 47, 48, 49, 50, 51, 52, 53, 54, 55, 56, 57, 58, 59, 60, 61, 62, 63, 64, 65, 66, 67, 68, 69, 70, 71, 72, 73, 74, 75, 76, 77, 78, 79, 80, 81, 82, 83, 84, 85, 86, 87, 88, 89, 90, 91, 92, 93, 94, 95, 96] (fun k : Nat => [(9, .int .i64 (YC l k)), (10, .int .i64 (k : Nat))]) (fun k W => k ≤ l.length ∧ Blk W g5 25 #[.int .i64 (YZ l least).lo, .int .i64 (YZ l least).hi] ∧ W.ownsRow w.heap.size 30 4 (.slice Ai l.length ci) l.length (platesC l) ∧ Below w.heap.size w W) (fun k => l.length - k) 0 ⟨Nat.zero_le _, q5, hin, hbw⟩ ⟨by rw [hw0]; rfl, rfl, trivial⟩ ?_
   clear q5 hin hbw
   rintro k wk ⟨hk, q5, hin, hbw⟩
   by_cases hltk : k < l.length
   ·
    obtain ⟨b, o, rfl, _, cc⟩ := Z0 l k hltk w B _ _ _ hr;obtain ⟨b2, o2, rfl, _, c2⟩ := Z0 l k hltk _ _ _ _ _ (rd_of_own hin);have hws := QBU hltk;have hwb := QAR l k;obtain ⟨x, ex⟩ : ∃ z, z = l.getD k Zp := ⟨_, rfl⟩;rw [← ex] at cc c2 hws;obtain ⟨wt, ewt⟩ : ∃ z, z = YC l k := ⟨_, rfl⟩;rw [← ewt] at hws hwb ⊢;refine EC.seq (EC.seq (EC.region (EL.mv rfl rfl (EL.mv rfl rfl (EL.val (Y5 rfl) rfl ?_)))));refine EL.val (ZL rfl rfl (decide_eq_true (show (((k : Nat) : Int) < ((l.length : Nat) : Int)) by omega))) rfl ?_
    refine EL.nil (EX.seq (EC.yes rfl (EC.skip (EX.seq (EC.seq (EC.block (EC.seq (EC.seq ?_))))))));refine EC.regionQ (by kernel_rfl) (by kernel_rfl) ?_
    refine EQ.mv rfl rfl (EQ.mv rfl rfl ?_);refine EQ.val (fun _ hw => (Yy rfl rfl hltk)) rfl ?_
    refine EQ.val (fun _ hw => (QA0 rfl (ZD hw c2.c0) (ZD hw c2.c1) (ZD hw c2.c2) (ZD hw c2.c3))) rfl ?_
    refine EQ.mv rfl rfl (EQ.mv rfl rfl ?_);refine EQ.val (fun _ hw => (Yy rfl rfl hltk)) rfl ?_
    refine EQ.val (fun _ hw => (QA0 rfl (ZD hw (ZD hbw cc.c0)) (ZD hw (ZD hbw cc.c1)) (ZD hw (ZD hbw cc.c2)) (ZD hw (ZD hbw cc.c3)))) rfl ?_
    refine EQ.val (fun _ hw => (QGA rfl rfl (decide_eq_false (fun h => h ⟨rfl, rfl, rfl, rfl⟩)))) rfl ?_
    refine EQ.fin (fun w7 hw_ => ?_)
    replace q5 := q5.bl hw_;replace hin := own_below hin hw_ (Nat.le_refl _);replace hbw := bo_ hbw hw_;clear hw_;refine EX.seq (EC.no rfl (EC.skip (EX.seq (EC.seq (EC.region (EL.mv rfl rfl (EL.mv rfl rfl (EL.val (Yy rfl rfl hltk) rfl (EL.val (QA0 rfl (ZD hbw cc.c0) (ZD hbw cc.c1) (ZD hbw cc.c2) (ZD hbw cc.c3)) rfl ?_)))))))));refine EL.newP QHF rfl ?_;intro g8 w8 q8 hb8 hg8 hl8;have n5_8 := q5.na hg8;have bhbw_8 := Nat.le_trans hbw.size hg8;have hn8 := own_ne hin hg8;replace q5 := q5.bl hb8;replace hin := own_below hin hb8 (Nat.le_refl _);replace hbw := bo_ hbw hb8;clear hb8 hg8 hl8;refine EL.store rfl rfl q8 QGc rfl rfl rfl rfl ?_;intro w9 hq9 hg9;replace q5 := q5.gr hg9 n5_8;replace hin := YD hin hn8 hg9;replace hbw := ZC hbw hg9 bhbw_8;replace q8 := hq9;clear hg9 hq9;refine EL.nil (EX.seq (EC.seq (EC.region (EL.mv rfl rfl ?_))))
    by_cases hw0_ : wt = 0
    ·
     refine EL.val (ZV (r := true) rfl rfl (decide_eq_true hw0_)) rfl (EL.mv rfl rfl (EL.valg rfl rfl (Z3 rfl) rfl (EL.valg rfl rfl (ZS rfl) rfl (EL.valg rfl rfl (ld_3 rfl (q8.at (j := 0) rfl)) rfl ?_))))
     by_cases p1 : x.thick.lo < 0
     ·
      refine EL.valg rfl rfl (ZL (r := true) rfl rfl (decide_eq_true p1)) rfl (EL.mg rfl rfl rfl rfl (EL.skip rfl rfl rfl rfl (EL.skip rfl rfl rfl rfl (EL.skip rfl rfl rfl rfl (EL.skip rfl rfl rfl rfl (EL.skip rfl rfl rfl rfl (EL.skip rfl rfl rfl rfl (EL.skip rfl rfl rfl rfl (EL.valg rfl rfl (ZJ rfl rfl) rfl ?_)))))))));refine EL.mg rfl rfl rfl rfl (EL.skip rfl rfl rfl rfl (EL.skip rfl rfl rfl rfl (EL.skip rfl rfl rfl rfl (EL.skip rfl rfl rfl rfl (EL.valg rfl rfl (ZJ rfl rfl) rfl (EL.mg rfl rfl rfl rfl (EL.skip rfl rfl rfl rfl (EL.skip rfl rfl rfl rfl (EL.skip rfl rfl rfl rfl ?_)))))))));refine EL.skip rfl rfl rfl rfl (EL.valg rfl rfl (ZJ rfl rfl) rfl (EL.mg rfl rfl rfl rfl (EL.skip rfl rfl rfl rfl (EL.skip rfl rfl rfl rfl (EL.skip rfl rfl rfl rfl (EL.skip rfl rfl rfl rfl (EL.skip rfl rfl rfl rfl (EL.skip rfl rfl rfl rfl (EL.skip rfl rfl rfl rfl ?_)))))))));refine EL.valg rfl rfl (ZJ rfl rfl) rfl (EL.mg rfl rfl rfl rfl (EL.skip rfl rfl rfl rfl (EL.skip rfl rfl rfl rfl (EL.skip rfl rfl rfl rfl (EL.skip rfl rfl rfl rfl (EL.valg rfl rfl (ZJ rfl rfl) rfl (EL.pt rfl rfl rfl (EL.nil (EX.seq ?_)))))))));refine EC.yes rfl (EC.region (EL.as rfl rfl (EL.nil (EX.blk (EX.seq (EC.region (EL.mv rfl rfl ?_)))))));refine EL.val (ZM rfl rfl (c := ((k + 1 : Nat) : Int)) ((IntWalk.i64_in _ ⟨by first | omega | (simp only; omega), by first | omega | (simp only; omega)⟩).trans (by first | omega | (simp only; omega)))) rfl ?_
      refine EL.as rfl rfl (EL.nil ?_);refine EX.roundD (k + 1) ⟨by rw [hws, if_pos ⟨hw0_, Zv (by omega)⟩]; rfl, rfl, trivial⟩ (by repeat first | with_reducible exact .refl _ | refine sp_ rfl ?_ | exact .refl _ | refine sd_ rfl ?_ | refine sn_ ?_) ⟨by omega, q5, hin, hbw⟩ (by omega)
     ·
      refine EL.valg rfl rfl (ZL (r := false) rfl rfl (decide_eq_false p1)) rfl (EL.mg rfl rfl rfl rfl (EL.valg rfl rfl (Z3 rfl) rfl (EL.valg rfl rfl (ZS rfl) rfl (EL.valg rfl rfl (ld_3 rfl (q8.at (j := 0) rfl)) rfl (EL.valg rfl rfl (Z3 rfl) rfl (EL.valg rfl rfl (ZO rfl) rfl (EL.valg rfl rfl (ld_3 rfl (q8.at (j := 1) rfl)) rfl ?_)))))))
      by_cases p2 : x.thick.hi < x.thick.lo
      ·
       refine EL.valg rfl rfl (Zi (r := true) rfl rfl (decide_eq_true p2)) rfl (EL.valg rfl rfl (ZR rfl rfl) rfl (EL.mg rfl rfl rfl rfl (EL.skip rfl rfl rfl rfl (EL.skip rfl rfl rfl rfl (EL.skip rfl rfl rfl rfl (EL.skip rfl rfl rfl rfl (EL.valg rfl rfl (ZJ rfl rfl) rfl (EL.mg rfl rfl rfl rfl (EL.skip rfl rfl rfl rfl ?_)))))))));refine EL.skip rfl rfl rfl rfl (EL.skip rfl rfl rfl rfl (EL.skip rfl rfl rfl rfl (EL.valg rfl rfl (ZJ rfl rfl) rfl (EL.mg rfl rfl rfl rfl (EL.skip rfl rfl rfl rfl (EL.skip rfl rfl rfl rfl (EL.skip rfl rfl rfl rfl (EL.skip rfl rfl rfl rfl (EL.skip rfl rfl rfl rfl ?_)))))))));refine EL.skip rfl rfl rfl rfl (EL.skip rfl rfl rfl rfl (EL.valg rfl rfl (ZJ rfl rfl) rfl (EL.mg rfl rfl rfl rfl (EL.skip rfl rfl rfl rfl (EL.skip rfl rfl rfl rfl (EL.skip rfl rfl rfl rfl (EL.skip rfl rfl rfl rfl (EL.valg rfl rfl (ZJ rfl rfl) rfl (EL.pt rfl rfl rfl ?_)))))))));refine EL.nil (EX.seq (EC.yes rfl (EC.region (EL.as rfl rfl (EL.nil (EX.blk (EX.seq (EC.region (EL.mv rfl rfl ?_)))))))));refine EL.val (ZM rfl rfl (c := ((k + 1 : Nat) : Int)) ((IntWalk.i64_in _ ⟨by first | omega | (simp only; omega), by first | omega | (simp only; omega)⟩).trans (by first | omega | (simp only; omega)))) rfl ?_
       refine EL.as rfl rfl (EL.nil ?_);refine EX.roundD (k + 1) ⟨by rw [hws, if_pos ⟨hw0_, Zv (by omega)⟩]; rfl, rfl, trivial⟩ (by repeat first | with_reducible exact .refl _ | refine sp_ rfl ?_ | exact .refl _ | refine sd_ rfl ?_ | refine sn_ ?_) ⟨by omega, q5, hin, hbw⟩ (by omega)
      ·
       refine EL.valg rfl rfl (Zi (r := false) rfl rfl (decide_eq_false p2)) rfl (EL.valg rfl rfl (ZR rfl rfl) rfl (EL.mg rfl rfl rfl rfl (EL.valg rfl rfl (Z3 rfl) rfl (EL.valg rfl rfl (ZO rfl) rfl (EL.valg rfl rfl (ld_3 rfl (q8.at (j := 1) rfl)) rfl ?_)))))
       by_cases p3 : 100000 < x.thick.hi
       ·
        refine EL.valg rfl rfl (Zi (r := true) rfl rfl (decide_eq_true p3)) rfl (EL.valg rfl rfl (ZR rfl rfl) rfl (EL.mg rfl rfl rfl rfl (EL.skip rfl rfl rfl rfl (EL.skip rfl rfl rfl rfl (EL.skip rfl rfl rfl rfl (EL.skip rfl rfl rfl rfl (EL.valg rfl rfl (ZJ rfl rfl) rfl (EL.mg rfl rfl rfl rfl (EL.skip rfl rfl rfl rfl ?_)))))))));refine EL.skip rfl rfl rfl rfl (EL.skip rfl rfl rfl rfl (EL.skip rfl rfl rfl rfl (EL.skip rfl rfl rfl rfl (EL.skip rfl rfl rfl rfl (EL.skip rfl rfl rfl rfl (EL.valg rfl rfl (ZJ rfl rfl) rfl (EL.mg rfl rfl rfl rfl (EL.skip rfl rfl rfl rfl (EL.skip rfl rfl rfl rfl ?_)))))))));refine EL.skip rfl rfl rfl rfl (EL.skip rfl rfl rfl rfl (EL.valg rfl rfl (ZJ rfl rfl) rfl (EL.pt rfl rfl rfl (EL.nil (EX.seq (EC.yes rfl (EC.region (EL.as rfl rfl (EL.nil ?_)))))))));refine EX.blk (EX.seq (EC.region (EL.mv rfl rfl ?_)));refine EL.val (ZM rfl rfl (c := ((k + 1 : Nat) : Int)) ((IntWalk.i64_in _ ⟨by first | omega | (simp only; omega), by first | omega | (simp only; omega)⟩).trans (by first | omega | (simp only; omega)))) rfl ?_
        refine EL.as rfl rfl (EL.nil ?_);refine EX.roundD (k + 1) ⟨by rw [hws, if_pos ⟨hw0_, Zv (by omega)⟩]; rfl, rfl, trivial⟩ (by repeat first | with_reducible exact .refl _ | refine sp_ rfl ?_ | exact .refl _ | refine sd_ rfl ?_ | refine sn_ ?_) ⟨by omega, q5, hin, hbw⟩ (by omega)
       ·
        refine EL.valg rfl rfl (Zi (r := false) rfl rfl (decide_eq_false p3)) rfl (EL.valg rfl rfl (ZR rfl rfl) rfl (EL.mg rfl rfl rfl rfl (EL.valg rfl rfl (Z2 rfl) rfl (EL.valg rfl rfl (ZS rfl) rfl (EL.valg rfl rfl (ld_3 rfl (q8.at (j := 2) rfl)) rfl ?_)))))
        by_cases p4 : x.wear.lo < 0
        ·
         refine EL.valg rfl rfl (ZL (r := true) rfl rfl (decide_eq_true p4)) rfl (EL.valg rfl rfl (ZR rfl rfl) rfl (EL.mg rfl rfl rfl rfl (EL.skip rfl rfl rfl rfl (EL.skip rfl rfl rfl rfl (EL.skip rfl rfl rfl rfl (EL.skip rfl rfl rfl rfl (EL.skip rfl rfl rfl rfl (EL.skip rfl rfl rfl rfl (EL.skip rfl rfl rfl rfl ?_)))))))));refine EL.valg rfl rfl (ZJ rfl rfl) rfl (EL.mg rfl rfl rfl rfl (EL.skip rfl rfl rfl rfl (EL.skip rfl rfl rfl rfl (EL.skip rfl rfl rfl rfl (EL.skip rfl rfl rfl rfl (EL.valg rfl rfl (ZJ rfl rfl) rfl (EL.pt rfl rfl rfl (EL.nil (EX.seq ?_)))))))));refine EC.yes rfl (EC.region (EL.as rfl rfl (EL.nil (EX.blk (EX.seq (EC.region (EL.mv rfl rfl ?_)))))));refine EL.val (ZM rfl rfl (c := ((k + 1 : Nat) : Int)) ((IntWalk.i64_in _ ⟨by first | omega | (simp only; omega), by first | omega | (simp only; omega)⟩).trans (by first | omega | (simp only; omega)))) rfl ?_
         refine EL.as rfl rfl (EL.nil ?_);refine EX.roundD (k + 1) ⟨by rw [hws, if_pos ⟨hw0_, Zv (by omega)⟩]; rfl, rfl, trivial⟩ (by repeat first | with_reducible exact .refl _ | refine sp_ rfl ?_ | exact .refl _ | refine sd_ rfl ?_ | refine sn_ ?_) ⟨by omega, q5, hin, hbw⟩ (by omega)
        ·
         refine EL.valg rfl rfl (ZL (r := false) rfl rfl (decide_eq_false p4)) rfl (EL.valg rfl rfl (ZR rfl rfl) rfl (EL.mg rfl rfl rfl rfl (EL.valg rfl rfl (Z2 rfl) rfl (EL.valg rfl rfl (ZS rfl) rfl (EL.valg rfl rfl (ld_3 rfl (q8.at (j := 2) rfl)) rfl (EL.valg rfl rfl (Z2 rfl) rfl (EL.valg rfl rfl (ZO rfl) rfl (EL.valg rfl rfl (ld_3 rfl (q8.at (j := 3) rfl)) rfl ?_))))))))
         by_cases p5 : x.wear.hi < x.wear.lo
         ·
          refine EL.valg rfl rfl (Zi (r := true) rfl rfl (decide_eq_true p5)) rfl (EL.valg rfl rfl (ZR rfl rfl) rfl (EL.mg rfl rfl rfl rfl (EL.skip rfl rfl rfl rfl (EL.skip rfl rfl rfl rfl (EL.skip rfl rfl rfl rfl (EL.skip rfl rfl rfl rfl (EL.valg rfl rfl (ZJ rfl rfl) rfl (EL.pt rfl rfl rfl (EL.nil ?_)))))))));refine EX.seq (EC.yes rfl (EC.region (EL.as rfl rfl (EL.nil (EX.blk (EX.seq (EC.region (EL.mv rfl rfl ?_))))))));refine EL.val (ZM rfl rfl (c := ((k + 1 : Nat) : Int)) ((IntWalk.i64_in _ ⟨by first | omega | (simp only; omega), by first | omega | (simp only; omega)⟩).trans (by first | omega | (simp only; omega)))) rfl ?_
          refine EL.as rfl rfl (EL.nil ?_);refine EX.roundD (k + 1) ⟨by rw [hws, if_pos ⟨hw0_, Zv (by omega)⟩]; rfl, rfl, trivial⟩ (by repeat first | with_reducible exact .refl _ | refine sp_ rfl ?_ | exact .refl _ | refine sd_ rfl ?_ | refine sn_ ?_) ⟨by omega, q5, hin, hbw⟩ (by omega)
         ·
          refine EL.valg rfl rfl (Zi (r := false) rfl rfl (decide_eq_false p5)) rfl (EL.valg rfl rfl (ZR rfl rfl) rfl (EL.mg rfl rfl rfl rfl (EL.valg rfl rfl (Z2 rfl) rfl (EL.valg rfl rfl (ZO rfl) rfl (EL.valg rfl rfl (ld_3 rfl (q8.at (j := 3) rfl)) rfl ?_)))))
          by_cases p6 : 1000 < x.wear.hi
          ·
           refine EL.valg rfl rfl (Zi (r := true) rfl rfl (decide_eq_true p6)) rfl (EL.valg rfl rfl (ZR rfl rfl) rfl (EL.pt rfl rfl rfl (EL.nil (EX.seq (EC.yes rfl (EC.region (EL.as rfl rfl (EL.nil (EX.blk ?_)))))))));refine EX.seq (EC.region (EL.mv rfl rfl ?_));refine EL.val (ZM rfl rfl (c := ((k + 1 : Nat) : Int)) ((IntWalk.i64_in _ ⟨by first | omega | (simp only; omega), by first | omega | (simp only; omega)⟩).trans (by first | omega | (simp only; omega)))) rfl ?_
           refine EL.as rfl rfl (EL.nil ?_);refine EX.roundD (k + 1) ⟨by rw [hws, if_pos ⟨hw0_, Zv (by omega)⟩]; rfl, rfl, trivial⟩ (by repeat first | with_reducible exact .refl _ | refine sp_ rfl ?_ | exact .refl _ | refine sd_ rfl ?_ | refine sn_ ?_) ⟨by omega, q5, hin, hbw⟩ (by omega)
          ·
           refine EL.valg rfl rfl (Zi (r := false) rfl rfl (decide_eq_false p6)) rfl (EL.valg rfl rfl (ZR rfl rfl) rfl (EL.pt rfl rfl rfl (EL.nil (EX.seq (EC.no rfl (EC.skip (EX.blk (EX.seq (EC.region ?_)))))))));refine EL.mv rfl rfl ?_;refine EL.val (ZM rfl rfl (c := ((k + 1 : Nat) : Int)) ((IntWalk.i64_in _ ⟨by first | omega | (simp only; omega), by first | omega | (simp only; omega)⟩).trans (by first | omega | (simp only; omega)))) rfl ?_
           refine EL.as rfl rfl (EL.nil ?_);refine EX.roundD (k + 1) ⟨by rw [hws, if_neg (fun h => by rw [QCI p1 p2 p3 p4 p5 p6] at h; cases h.2)]; rfl, rfl, trivial⟩ (by repeat first | with_reducible exact .refl _ | refine sp_ rfl ?_ | exact .refl _ | refine sd_ rfl ?_ | refine sn_ ?_) ⟨by omega, q5, hin, hbw⟩ (by omega)
    ·
     refine EL.val (ZV (r := false) rfl rfl (decide_eq_false hw0_)) rfl (EL.mv rfl rfl (EL.skip rfl rfl rfl rfl (EL.skip rfl rfl rfl rfl (EL.skip rfl rfl rfl rfl (EL.skip rfl rfl rfl rfl (EL.skip rfl rfl rfl rfl (EL.skip rfl rfl rfl rfl (EL.skip rfl rfl rfl rfl (EL.skip rfl rfl rfl rfl ?_)))))))));refine EL.skip rfl rfl rfl rfl (EL.skip rfl rfl rfl rfl (EL.skip rfl rfl rfl rfl (EL.skip rfl rfl rfl rfl (EL.skip rfl rfl rfl rfl (EL.skip rfl rfl rfl rfl (EL.skip rfl rfl rfl rfl (EL.skip rfl rfl rfl rfl (EL.skip rfl rfl rfl rfl (EL.skip rfl rfl rfl rfl ?_)))))))));refine EL.skip rfl rfl rfl rfl (EL.skip rfl rfl rfl rfl (EL.skip rfl rfl rfl rfl (EL.skip rfl rfl rfl rfl (EL.skip rfl rfl rfl rfl (EL.skip rfl rfl rfl rfl (EL.skip rfl rfl rfl rfl (EL.skip rfl rfl rfl rfl (EL.skip rfl rfl rfl rfl (EL.skip rfl rfl rfl rfl ?_)))))))));refine EL.skip rfl rfl rfl rfl (EL.skip rfl rfl rfl rfl (EL.skip rfl rfl rfl rfl (EL.skip rfl rfl rfl rfl (EL.skip rfl rfl rfl rfl (EL.skip rfl rfl rfl rfl (EL.skip rfl rfl rfl rfl (EL.skip rfl rfl rfl rfl (EL.skip rfl rfl rfl rfl (EL.skip rfl rfl rfl rfl ?_)))))))));refine EL.skip rfl rfl rfl rfl (EL.skip rfl rfl rfl rfl (EL.pf rfl rfl rfl (EL.nil (EX.seq (EC.no rfl (EC.skip (EX.blk (EX.seq (EC.region ?_)))))))));refine EL.mv rfl rfl ?_;refine EL.val (ZM rfl rfl (c := ((k + 1 : Nat) : Int)) ((IntWalk.i64_in _ ⟨by first | omega | (simp only; omega), by first | omega | (simp only; omega)⟩).trans (by first | omega | (simp only; omega)))) rfl ?_
     refine EL.as rfl rfl (EL.nil ?_);refine EX.roundD (k + 1) ⟨by rw [hws, if_neg (fun h => hw0_ h.1)]; rfl, rfl, trivial⟩ (by repeat first | with_reducible exact .refl _ | refine sp_ rfl ?_ | exact .refl _ | refine sd_ rfl ?_ | refine sn_ ?_) ⟨by omega, q5, hin, hbw⟩ (by omega)
   ·
    obtain rfl : k = l.length := by omega
    have hwb := QAR l l.length;refine EC.seq (EC.seq (EC.region (EL.mv rfl rfl (EL.mv rfl rfl (EL.val (Y5 rfl) rfl ?_)))));refine EL.val (ZL rfl rfl (decide_eq_false (show ¬(((l.length : Nat) : Int) < ((l.length : Nat) : Int)) by omega))) rfl ?_
    refine EL.nil (EX.seq (EC.no rfl (EC.exit (EX.seq_exit (EX.seq_exit (EX.blk_here (EX.seq (EC.seq (EC.seq ?_)))))))));refine EC.region (EL.mv rfl rfl ?_)
    by_cases hwn : YC l l.length = 0
    ·
     obtain ⟨z0_, z5_, zp_⟩ := QCv hwn;refine EL.val (ZV (r := true) rfl rfl (decide_eq_true hwn)) rfl (EL.mv rfl rfl (EL.mg rfl rfl rfl rfl ?_))
     by_cases hl0 : least < 0
     ·
      have hlo : least < 0 ∨ 100000 < least := .inl hl0;have hE := (Yg z0_ z5_ zp_ (Y4 hlo)).1;have hR := (Yg z0_ z5_ zp_ (Y4 hlo)).2;refine EL.valg rfl rfl (ZL (r := true) rfl rfl (decide_eq_true hl0)) rfl (EL.mg rfl rfl rfl rfl (EL.skip rfl rfl rfl rfl (EL.skip rfl rfl rfl rfl (EL.valg rfl rfl (ZJ rfl rfl) rfl (EL.pt rfl rfl rfl (EL.nil (EX.seq (EC.yes rfl (EC.region ?_)))))))));refine EL.as rfl rfl (EL.nil (EX.seq (EC.seq (EC.seq (EC.region (EL.mv rfl rfl ?_))))));refine EL.val (Zl (r := true) rfl rfl (decide_eq_true (by decide))) rfl ?_
      refine EL.nil (EX.seq (EC.yes rfl (EC.seq (EC.region (EL.mv rfl rfl (EL.mv rfl rfl (EL.val (ZV (r := true) rfl rfl (decide_eq_true hE)) rfl (EL.mv rfl rfl (EL.valg rfl rfl (Zh rfl (q5.at (j := 0) rfl) (q5.at (j := 1) rfl)) rfl ?_)))))))));refine EL.valg rfl rfl (QAg) rfl ?_;refine EL.valg rfl rfl (Yr rfl rfl (decide_eq_true ⟨by rw [hR], by rw [hR]⟩)) rfl ?_
      refine EL.pt rfl rfl rfl (EL.mv rfl rfl (EL.mg rfl rfl rfl rfl ?_));refine EL.valg rfl rfl (ZV (r := true) rfl rfl (decide_eq_true (by rw [hR]))) rfl ?_
      refine EL.pt rfl rfl rfl (EL.mv rfl rfl (EL.callg rfl rfl (cA0 cF10) rfl (Z5 _) ?_))
      rintro e w10 ⟨rfl, hc10⟩
      refine ⟨_, rfl, ?_⟩;replace q5 := q5.bl hc10;replace hin := own_below hin hc10 (Nat.le_refl _);replace hbw := bo_ hbw hc10;clear hc10;refine EL.pt rfl rfl rfl (EL.as rfl rfl (EL.nil (EX.seq (EC.ret (EX.seq_ret ?_)))))
      exact EX.done (res1 rfl rfl) ⟨rfl, hbw⟩
     ·
      refine EL.valg rfl rfl (ZL (r := false) rfl rfl (decide_eq_false hl0)) rfl (EL.mg rfl rfl rfl rfl (EL.mg rfl rfl rfl rfl ?_))
      by_cases hl1 : 100000 < least
      ·
       have hlo : least < 0 ∨ 100000 < least := .inr hl1;have hE := (Yg z0_ z5_ zp_ (Y4 hlo)).1;have hR := (Yg z0_ z5_ zp_ (Y4 hlo)).2;refine EL.valg rfl rfl (Zi (r := true) rfl rfl (decide_eq_true hl1)) rfl (EL.valg rfl rfl (ZR rfl rfl) rfl (EL.pt rfl rfl rfl (EL.nil (EX.seq (EC.yes rfl (EC.region (EL.as rfl rfl (EL.nil (EX.seq ?_)))))))));refine EC.seq (EC.seq (EC.region (EL.mv rfl rfl ?_)));refine EL.val (Zl (r := true) rfl rfl (decide_eq_true (by decide))) rfl ?_
       refine EL.nil (EX.seq (EC.yes rfl (EC.seq (EC.region (EL.mv rfl rfl (EL.mv rfl rfl (EL.val (ZV (r := true) rfl rfl (decide_eq_true hE)) rfl (EL.mv rfl rfl (EL.valg rfl rfl (Zh rfl (q5.at (j := 0) rfl) (q5.at (j := 1) rfl)) rfl ?_)))))))));refine EL.valg rfl rfl (QAg) rfl ?_;refine EL.valg rfl rfl (Yr rfl rfl (decide_eq_true ⟨by rw [hR], by rw [hR]⟩)) rfl ?_
       refine EL.pt rfl rfl rfl (EL.mv rfl rfl (EL.mg rfl rfl rfl rfl ?_));refine EL.valg rfl rfl (ZV (r := true) rfl rfl (decide_eq_true (by rw [hR]))) rfl ?_
       refine EL.pt rfl rfl rfl (EL.mv rfl rfl (EL.callg rfl rfl (cA0 cF10) rfl (Z5 _) ?_))
       rintro e w11 ⟨rfl, hc11⟩
       refine ⟨_, rfl, ?_⟩;replace q5 := q5.bl hc11;replace hin := own_below hin hc11 (Nat.le_refl _);replace hbw := bo_ hbw hc11;clear hc11;refine EL.pt rfl rfl rfl (EL.as rfl rfl (EL.nil (EX.seq (EC.ret (EX.seq_ret ?_)))))
       exact EX.done (res1 rfl rfl) ⟨rfl, hbw⟩
      ·
       have hin9 : inB 0 100000 least = true := inB_iff.2 (by omega)
       have hE := (QAy z0_ z5_ zp_ hin9).1;have hR := (QAy z0_ z5_ zp_ hin9).2;refine EL.valg rfl rfl (Zi (r := false) rfl rfl (decide_eq_false hl1)) rfl (EL.valg rfl rfl (ZR rfl rfl) rfl (EL.pt rfl rfl rfl (EL.nil (EX.seq (EC.no rfl (EC.skip (EX.seq (EC.seq (EC.seq ?_)))))))));refine EC.region (EL.mv rfl rfl ?_);refine EL.val (Zl (r := false) rfl rfl (decide_eq_false (fun h => h hwn))) rfl ?_
       refine EL.nil (EX.seq (EC.no rfl (EC.skip (EX.seq (EC.seq (EC.region (EL.mv rfl rfl (EL.mv rfl rfl ?_))))))));refine EL.call (cA2 cF12 rfl rfl) rfl (QCH l _ least (by omega) (List.all_eq_true.1 zp_) (by omega) _ B (hr.below (hbw.mono hB)) (Nat.le_trans hB hbw.size) (by omega)) ?_
       rintro e w12 ⟨rfl, hc12⟩
       refine ⟨_, rfl, ?_⟩;replace q5 := q5.bl hc12;replace hin := own_below hin hc12 (Nat.le_refl _);replace hbw := bo_ hbw hc12;clear hc12;refine EL.mv rfl rfl (EL.xt rfl rfl rfl (EL.xt rfl rfl rfl (EL.newP Y1 rfl ?_)));intro g13 w13 q13 hb13 hg13 hl13;have n5_13 := q5.na hg13;have bhbw_13 := Nat.le_trans hbw.size hg13;replace q5 := q5.bl hb13;replace hin := own_below hin hb13 (Nat.le_refl _);replace hbw := bo_ hbw hb13;clear hb13 hg13 hl13;refine EL.store rfl rfl q13 Z8 rfl rfl rfl rfl ?_;intro w14 hq14 hg14;replace q5 := q5.gr hg14 n5_13;replace hin := ZF hin q13 rfl hg14;replace hbw := ZC hbw hg14 bhbw_13;replace q13 := hq14;clear hg14 hq14;refine EL.as rfl rfl (EL.nil (EX.seq (EC.seq (EC.region (EL.mv rfl rfl (EL.val (ZV (r := true) rfl rfl (decide_eq_true hE)) rfl (EL.mv rfl rfl (EL.valg rfl rfl (Zh rfl (q5.at (j := 0) rfl) (q5.at (j := 1) rfl)) rfl (EL.valg rfl rfl (Zh rfl (q13.at (j := 0) rfl) (q13.at (j := 1) rfl)) rfl ?_)))))))));refine EL.valg rfl rfl (Yr rfl rfl (decide_eq_true ⟨by rw [hR], by rw [hR]⟩)) rfl ?_
       refine EL.pt rfl rfl rfl (EL.mv rfl rfl (EL.mg rfl rfl rfl rfl (EL.mg rfl rfl rfl rfl ?_)));refine EL.valg rfl rfl (ZV (r := true) rfl rfl (decide_eq_true (by rw [hR]))) rfl ?_
       refine EL.pt rfl rfl rfl (EL.mv rfl rfl (EL.callg rfl rfl (cA0 cF10) rfl (Z5 _) ?_))
       rintro e w15 ⟨rfl, hc15⟩
       refine ⟨_, rfl, ?_⟩;replace q5 := q5.bl hc15;replace q13 := q13.bl hc15;replace hin := own_below hin hc15 (Nat.le_refl _);replace hbw := bo_ hbw hc15;clear hc15;refine EL.pt rfl rfl rfl (EL.as rfl rfl (EL.nil (EX.seq (EC.ret ?_))))
       exact EX.done (res1 rfl rfl) ⟨rfl, hbw⟩
    ·
     have hE := QEL (least := least) hwn;have hEn : YS l least ≠ 0 := by rw [hE]; exact hwn
     have hR := QDQ hEn;refine EL.val (ZV (r := false) rfl rfl (decide_eq_false hwn)) rfl (EL.mv rfl rfl (EL.skip rfl rfl rfl rfl (EL.skip rfl rfl rfl rfl (EL.skip rfl rfl rfl rfl (EL.skip rfl rfl rfl rfl (EL.skip rfl rfl rfl rfl (EL.skip rfl rfl rfl rfl (EL.pf rfl rfl rfl (EL.nil ?_)))))))));refine EX.seq (EC.no rfl (EC.skip (EX.seq (EC.seq (EC.seq (EC.region (EL.mv rfl rfl (EL.val (Zl (r := true) rfl rfl (decide_eq_true hwn)) rfl (EL.nil ?_)))))))));refine EX.seq (EC.yes rfl (EC.seq (EC.region (EL.mv rfl rfl (EL.mv rfl rfl (EL.val (ZV (r := true) rfl rfl (decide_eq_true hE)) rfl (EL.mv rfl rfl (EL.valg rfl rfl (Zh rfl (q5.at (j := 0) rfl) (q5.at (j := 1) rfl)) rfl (EL.valg rfl rfl (QAg) rfl ?_)))))))));refine EL.valg rfl rfl (Yr rfl rfl (decide_eq_true ⟨by rw [hR], by rw [hR]⟩)) rfl ?_
     refine EL.pt rfl rfl rfl (EL.mv rfl rfl (EL.mg rfl rfl rfl rfl ?_));refine EL.valg rfl rfl (ZV (r := true) rfl rfl (decide_eq_true (by rw [hR]))) rfl ?_
     refine EL.pt rfl rfl rfl (EL.mv rfl rfl (EL.callg rfl rfl (cA0 cF10) rfl (Z5 _) ?_))
     rintro e w16 ⟨rfl, hc16⟩
     refine ⟨_, rfl, ?_⟩;replace q5 := q5.bl hc16;replace hin := own_below hin hc16 (Nat.le_refl _);replace hbw := bo_ hbw hc16;clear hc16;refine EL.pt rfl rfl rfl (EL.as rfl rfl (EL.nil (EX.seq (EC.ret (EX.seq_ret ?_)))))
     exact EX.done (res1 rfl rfl) ⟨rfl, hbw⟩
  ·
   refine EL.val (ZV (r := false) rfl rfl (decide_eq_false (by omega))) rfl ?_
   refine EL.nil (EX.seq (EC.no rfl (EC.skip (EX.seq (EC.seq (EC.seq (EC.region (EL.mv rfl rfl (EL.val (Y5 rfl) rfl ?_)))))))))
   by_cases h50 : 50 < l.length
   ·
    refine EL.val (Zi (r := true) rfl rfl (decide_eq_true (by omega))) rfl ?_
    refine EL.nil (EX.seq (EC.yes rfl (EC.region (EL.as rfl rfl (EL.nil (EX.seq (EC.seq (EC.seq (EC.region ?_)))))))));refine EL.as rfl rfl (EL.nil (EX.seq (EC.block ?_)));have hw0 : YC l 0 = 5 := by rw [YC, if_pos h50]
    refine EC.loopD [4, 9, 10, 11, 34, 35, 36, 37, 38, 39, 40, 41, 42, 43, 44, 45, 46, 47, 48, 49, 50, 51, 52, 53, 54, 55, 56, 57, 58, 59, 60, 61, 62, 63, 64, 65, 66, 67, 68, 69, 70, 71, 72, 73, 74, 75, 76, 77, 78, 79, 80, 81, 82, 83, 84, 85, 86, 87, 88, 89, 90, 91, 92, 93, 94, 95, 96] (fun k : Nat => [(9, .int .i64 (YC l k)), (10, .int .i64 (k : Nat))]) (fun k W => k ≤ l.length ∧ Blk W g5 25 #[.int .i64 (YZ l least).lo, .int .i64 (YZ l least).hi] ∧ W.ownsRow w.heap.size 30 4 (.slice Ai l.length ci) l.length (platesC l) ∧ Below w.heap.size w W) (fun k => l.length - k) 0 ⟨Nat.zero_le _, q5, hin, hbw⟩ ⟨by rw [hw0]; rfl, rfl, trivial⟩ ?_
    clear q5 hin hbw
    rintro k wk ⟨hk, q5, hin, hbw⟩
    by_cases hltk : k < l.length
    ·
     obtain ⟨b, o, rfl, _, cc⟩ := Z0 l k hltk w B _ _ _ hr;obtain ⟨b2, o2, rfl, _, c2⟩ := Z0 l k hltk _ _ _ _ _ (rd_of_own hin);have hws := QBU hltk;have hwb := QAR l k;obtain ⟨x, ex⟩ : ∃ z, z = l.getD k Zp := ⟨_, rfl⟩;rw [← ex] at cc c2 hws;obtain ⟨wt, ewt⟩ : ∃ z, z = YC l k := ⟨_, rfl⟩;rw [← ewt] at hws hwb ⊢;refine EC.seq (EC.seq (EC.region (EL.mv rfl rfl (EL.mv rfl rfl (EL.val (Y5 rfl) rfl ?_)))));refine EL.val (ZL rfl rfl (decide_eq_true (show (((k : Nat) : Int) < ((l.length : Nat) : Int)) by omega))) rfl ?_
     refine EL.nil (EX.seq (EC.yes rfl (EC.skip (EX.seq (EC.seq (EC.block (EC.seq (EC.seq ?_))))))));refine EC.regionQ (by kernel_rfl) (by kernel_rfl) ?_
     refine EQ.mv rfl rfl (EQ.mv rfl rfl ?_);refine EQ.val (fun _ hw => (Yy rfl rfl hltk)) rfl ?_
     refine EQ.val (fun _ hw => (QA0 rfl (ZD hw c2.c0) (ZD hw c2.c1) (ZD hw c2.c2) (ZD hw c2.c3))) rfl ?_
     refine EQ.mv rfl rfl (EQ.mv rfl rfl ?_);refine EQ.val (fun _ hw => (Yy rfl rfl hltk)) rfl ?_
     refine EQ.val (fun _ hw => (QA0 rfl (ZD hw (ZD hbw cc.c0)) (ZD hw (ZD hbw cc.c1)) (ZD hw (ZD hbw cc.c2)) (ZD hw (ZD hbw cc.c3)))) rfl ?_
     refine EQ.val (fun _ hw => (QGA rfl rfl (decide_eq_false (fun h => h ⟨rfl, rfl, rfl, rfl⟩)))) rfl ?_
     refine EQ.fin (fun w17 hw_ => ?_)
     replace q5 := q5.bl hw_;replace hin := own_below hin hw_ (Nat.le_refl _);replace hbw := bo_ hbw hw_;clear hw_;refine EX.seq (EC.no rfl (EC.skip (EX.seq (EC.seq (EC.region (EL.mv rfl rfl (EL.mv rfl rfl (EL.val (Yy rfl rfl hltk) rfl (EL.val (QA0 rfl (ZD hbw cc.c0) (ZD hbw cc.c1) (ZD hbw cc.c2) (ZD hbw cc.c3)) rfl ?_)))))))));refine EL.newP QHF rfl ?_;intro g18 w18 q18 hb18 hg18 hl18;have n5_18 := q5.na hg18;have bhbw_18 := Nat.le_trans hbw.size hg18;have hn18 := own_ne hin hg18;replace q5 := q5.bl hb18;replace hin := own_below hin hb18 (Nat.le_refl _);replace hbw := bo_ hbw hb18;clear hb18 hg18 hl18;refine EL.store rfl rfl q18 QGc rfl rfl rfl rfl ?_;intro w19 hq19 hg19;replace q5 := q5.gr hg19 n5_18;replace hin := YD hin hn18 hg19;replace hbw := ZC hbw hg19 bhbw_18;replace q18 := hq19;clear hg19 hq19;refine EL.nil (EX.seq (EC.seq (EC.region (EL.mv rfl rfl ?_))))
     by_cases hw0_ : wt = 0
     ·
      refine EL.val (ZV (r := true) rfl rfl (decide_eq_true hw0_)) rfl (EL.mv rfl rfl (EL.valg rfl rfl (Z3 rfl) rfl (EL.valg rfl rfl (ZS rfl) rfl (EL.valg rfl rfl (ld_3 rfl (q18.at (j := 0) rfl)) rfl ?_))))
      by_cases p1 : x.thick.lo < 0
      ·
       refine EL.valg rfl rfl (ZL (r := true) rfl rfl (decide_eq_true p1)) rfl (EL.mg rfl rfl rfl rfl (EL.skip rfl rfl rfl rfl (EL.skip rfl rfl rfl rfl (EL.skip rfl rfl rfl rfl (EL.skip rfl rfl rfl rfl (EL.skip rfl rfl rfl rfl (EL.skip rfl rfl rfl rfl (EL.skip rfl rfl rfl rfl (EL.valg rfl rfl (ZJ rfl rfl) rfl ?_)))))))));refine EL.mg rfl rfl rfl rfl (EL.skip rfl rfl rfl rfl (EL.skip rfl rfl rfl rfl (EL.skip rfl rfl rfl rfl (EL.skip rfl rfl rfl rfl (EL.valg rfl rfl (ZJ rfl rfl) rfl (EL.mg rfl rfl rfl rfl (EL.skip rfl rfl rfl rfl (EL.skip rfl rfl rfl rfl (EL.skip rfl rfl rfl rfl ?_)))))))));refine EL.skip rfl rfl rfl rfl (EL.valg rfl rfl (ZJ rfl rfl) rfl (EL.mg rfl rfl rfl rfl (EL.skip rfl rfl rfl rfl (EL.skip rfl rfl rfl rfl (EL.skip rfl rfl rfl rfl (EL.skip rfl rfl rfl rfl (EL.skip rfl rfl rfl rfl (EL.skip rfl rfl rfl rfl (EL.skip rfl rfl rfl rfl ?_)))))))));refine EL.valg rfl rfl (ZJ rfl rfl) rfl (EL.mg rfl rfl rfl rfl (EL.skip rfl rfl rfl rfl (EL.skip rfl rfl rfl rfl (EL.skip rfl rfl rfl rfl (EL.skip rfl rfl rfl rfl (EL.valg rfl rfl (ZJ rfl rfl) rfl (EL.pt rfl rfl rfl (EL.nil (EX.seq ?_)))))))));refine EC.yes rfl (EC.region (EL.as rfl rfl (EL.nil (EX.blk (EX.seq (EC.region (EL.mv rfl rfl ?_)))))));refine EL.val (ZM rfl rfl (c := ((k + 1 : Nat) : Int)) ((IntWalk.i64_in _ ⟨by first | omega | (simp only; omega), by first | omega | (simp only; omega)⟩).trans (by first | omega | (simp only; omega)))) rfl ?_
       refine EL.as rfl rfl (EL.nil ?_);refine EX.roundD (k + 1) ⟨by rw [hws, if_pos ⟨hw0_, Zv (by omega)⟩]; rfl, rfl, trivial⟩ (by repeat first | with_reducible exact .refl _ | refine sp_ rfl ?_ | exact .refl _ | refine sd_ rfl ?_ | refine sn_ ?_) ⟨by omega, q5, hin, hbw⟩ (by omega)
      ·
       refine EL.valg rfl rfl (ZL (r := false) rfl rfl (decide_eq_false p1)) rfl (EL.mg rfl rfl rfl rfl (EL.valg rfl rfl (Z3 rfl) rfl (EL.valg rfl rfl (ZS rfl) rfl (EL.valg rfl rfl (ld_3 rfl (q18.at (j := 0) rfl)) rfl (EL.valg rfl rfl (Z3 rfl) rfl (EL.valg rfl rfl (ZO rfl) rfl (EL.valg rfl rfl (ld_3 rfl (q18.at (j := 1) rfl)) rfl ?_)))))))
       by_cases p2 : x.thick.hi < x.thick.lo
       ·
        refine EL.valg rfl rfl (Zi (r := true) rfl rfl (decide_eq_true p2)) rfl (EL.valg rfl rfl (ZR rfl rfl) rfl (EL.mg rfl rfl rfl rfl (EL.skip rfl rfl rfl rfl (EL.skip rfl rfl rfl rfl (EL.skip rfl rfl rfl rfl (EL.skip rfl rfl rfl rfl (EL.valg rfl rfl (ZJ rfl rfl) rfl (EL.mg rfl rfl rfl rfl (EL.skip rfl rfl rfl rfl ?_)))))))));refine EL.skip rfl rfl rfl rfl (EL.skip rfl rfl rfl rfl (EL.skip rfl rfl rfl rfl (EL.valg rfl rfl (ZJ rfl rfl) rfl (EL.mg rfl rfl rfl rfl (EL.skip rfl rfl rfl rfl (EL.skip rfl rfl rfl rfl (EL.skip rfl rfl rfl rfl (EL.skip rfl rfl rfl rfl (EL.skip rfl rfl rfl rfl ?_)))))))));refine EL.skip rfl rfl rfl rfl (EL.skip rfl rfl rfl rfl (EL.valg rfl rfl (ZJ rfl rfl) rfl (EL.mg rfl rfl rfl rfl (EL.skip rfl rfl rfl rfl (EL.skip rfl rfl rfl rfl (EL.skip rfl rfl rfl rfl (EL.skip rfl rfl rfl rfl (EL.valg rfl rfl (ZJ rfl rfl) rfl (EL.pt rfl rfl rfl ?_)))))))));refine EL.nil (EX.seq (EC.yes rfl (EC.region (EL.as rfl rfl (EL.nil (EX.blk (EX.seq (EC.region (EL.mv rfl rfl ?_)))))))));refine EL.val (ZM rfl rfl (c := ((k + 1 : Nat) : Int)) ((IntWalk.i64_in _ ⟨by first | omega | (simp only; omega), by first | omega | (simp only; omega)⟩).trans (by first | omega | (simp only; omega)))) rfl ?_
        refine EL.as rfl rfl (EL.nil ?_);refine EX.roundD (k + 1) ⟨by rw [hws, if_pos ⟨hw0_, Zv (by omega)⟩]; rfl, rfl, trivial⟩ (by repeat first | with_reducible exact .refl _ | refine sp_ rfl ?_ | exact .refl _ | refine sd_ rfl ?_ | refine sn_ ?_) ⟨by omega, q5, hin, hbw⟩ (by omega)
       ·
        refine EL.valg rfl rfl (Zi (r := false) rfl rfl (decide_eq_false p2)) rfl (EL.valg rfl rfl (ZR rfl rfl) rfl (EL.mg rfl rfl rfl rfl (EL.valg rfl rfl (Z3 rfl) rfl (EL.valg rfl rfl (ZO rfl) rfl (EL.valg rfl rfl (ld_3 rfl (q18.at (j := 1) rfl)) rfl ?_)))))
        by_cases p3 : 100000 < x.thick.hi
        ·
         refine EL.valg rfl rfl (Zi (r := true) rfl rfl (decide_eq_true p3)) rfl (EL.valg rfl rfl (ZR rfl rfl) rfl (EL.mg rfl rfl rfl rfl (EL.skip rfl rfl rfl rfl (EL.skip rfl rfl rfl rfl (EL.skip rfl rfl rfl rfl (EL.skip rfl rfl rfl rfl (EL.valg rfl rfl (ZJ rfl rfl) rfl (EL.mg rfl rfl rfl rfl (EL.skip rfl rfl rfl rfl ?_)))))))));refine EL.skip rfl rfl rfl rfl (EL.skip rfl rfl rfl rfl (EL.skip rfl rfl rfl rfl (EL.skip rfl rfl rfl rfl (EL.skip rfl rfl rfl rfl (EL.skip rfl rfl rfl rfl (EL.valg rfl rfl (ZJ rfl rfl) rfl (EL.mg rfl rfl rfl rfl (EL.skip rfl rfl rfl rfl (EL.skip rfl rfl rfl rfl ?_)))))))));refine EL.skip rfl rfl rfl rfl (EL.skip rfl rfl rfl rfl (EL.valg rfl rfl (ZJ rfl rfl) rfl (EL.pt rfl rfl rfl (EL.nil (EX.seq (EC.yes rfl (EC.region (EL.as rfl rfl (EL.nil ?_)))))))));refine EX.blk (EX.seq (EC.region (EL.mv rfl rfl ?_)));refine EL.val (ZM rfl rfl (c := ((k + 1 : Nat) : Int)) ((IntWalk.i64_in _ ⟨by first | omega | (simp only; omega), by first | omega | (simp only; omega)⟩).trans (by first | omega | (simp only; omega)))) rfl ?_
         refine EL.as rfl rfl (EL.nil ?_);refine EX.roundD (k + 1) ⟨by rw [hws, if_pos ⟨hw0_, Zv (by omega)⟩]; rfl, rfl, trivial⟩ (by repeat first | with_reducible exact .refl _ | refine sp_ rfl ?_ | exact .refl _ | refine sd_ rfl ?_ | refine sn_ ?_) ⟨by omega, q5, hin, hbw⟩ (by omega)
        ·
         refine EL.valg rfl rfl (Zi (r := false) rfl rfl (decide_eq_false p3)) rfl (EL.valg rfl rfl (ZR rfl rfl) rfl (EL.mg rfl rfl rfl rfl (EL.valg rfl rfl (Z2 rfl) rfl (EL.valg rfl rfl (ZS rfl) rfl (EL.valg rfl rfl (ld_3 rfl (q18.at (j := 2) rfl)) rfl ?_)))))
         by_cases p4 : x.wear.lo < 0
         ·
          refine EL.valg rfl rfl (ZL (r := true) rfl rfl (decide_eq_true p4)) rfl (EL.valg rfl rfl (ZR rfl rfl) rfl (EL.mg rfl rfl rfl rfl (EL.skip rfl rfl rfl rfl (EL.skip rfl rfl rfl rfl (EL.skip rfl rfl rfl rfl (EL.skip rfl rfl rfl rfl (EL.skip rfl rfl rfl rfl (EL.skip rfl rfl rfl rfl (EL.skip rfl rfl rfl rfl ?_)))))))));refine EL.valg rfl rfl (ZJ rfl rfl) rfl (EL.mg rfl rfl rfl rfl (EL.skip rfl rfl rfl rfl (EL.skip rfl rfl rfl rfl (EL.skip rfl rfl rfl rfl (EL.skip rfl rfl rfl rfl (EL.valg rfl rfl (ZJ rfl rfl) rfl (EL.pt rfl rfl rfl (EL.nil (EX.seq ?_)))))))));refine EC.yes rfl (EC.region (EL.as rfl rfl (EL.nil (EX.blk (EX.seq (EC.region (EL.mv rfl rfl ?_)))))));refine EL.val (ZM rfl rfl (c := ((k + 1 : Nat) : Int)) ((IntWalk.i64_in _ ⟨by first | omega | (simp only; omega), by first | omega | (simp only; omega)⟩).trans (by first | omega | (simp only; omega)))) rfl ?_
          refine EL.as rfl rfl (EL.nil ?_);refine EX.roundD (k + 1) ⟨by rw [hws, if_pos ⟨hw0_, Zv (by omega)⟩]; rfl, rfl, trivial⟩ (by repeat first | with_reducible exact .refl _ | refine sp_ rfl ?_ | exact .refl _ | refine sd_ rfl ?_ | refine sn_ ?_) ⟨by omega, q5, hin, hbw⟩ (by omega)
         ·
          refine EL.valg rfl rfl (ZL (r := false) rfl rfl (decide_eq_false p4)) rfl (EL.valg rfl rfl (ZR rfl rfl) rfl (EL.mg rfl rfl rfl rfl (EL.valg rfl rfl (Z2 rfl) rfl (EL.valg rfl rfl (ZS rfl) rfl (EL.valg rfl rfl (ld_3 rfl (q18.at (j := 2) rfl)) rfl (EL.valg rfl rfl (Z2 rfl) rfl (EL.valg rfl rfl (ZO rfl) rfl (EL.valg rfl rfl (ld_3 rfl (q18.at (j := 3) rfl)) rfl ?_))))))))
          by_cases p5 : x.wear.hi < x.wear.lo
          ·
           refine EL.valg rfl rfl (Zi (r := true) rfl rfl (decide_eq_true p5)) rfl (EL.valg rfl rfl (ZR rfl rfl) rfl (EL.mg rfl rfl rfl rfl (EL.skip rfl rfl rfl rfl (EL.skip rfl rfl rfl rfl (EL.skip rfl rfl rfl rfl (EL.skip rfl rfl rfl rfl (EL.valg rfl rfl (ZJ rfl rfl) rfl (EL.pt rfl rfl rfl (EL.nil ?_)))))))));refine EX.seq (EC.yes rfl (EC.region (EL.as rfl rfl (EL.nil (EX.blk (EX.seq (EC.region (EL.mv rfl rfl ?_))))))));refine EL.val (ZM rfl rfl (c := ((k + 1 : Nat) : Int)) ((IntWalk.i64_in _ ⟨by first | omega | (simp only; omega), by first | omega | (simp only; omega)⟩).trans (by first | omega | (simp only; omega)))) rfl ?_
           refine EL.as rfl rfl (EL.nil ?_);refine EX.roundD (k + 1) ⟨by rw [hws, if_pos ⟨hw0_, Zv (by omega)⟩]; rfl, rfl, trivial⟩ (by repeat first | with_reducible exact .refl _ | refine sp_ rfl ?_ | exact .refl _ | refine sd_ rfl ?_ | refine sn_ ?_) ⟨by omega, q5, hin, hbw⟩ (by omega)
          ·
           refine EL.valg rfl rfl (Zi (r := false) rfl rfl (decide_eq_false p5)) rfl (EL.valg rfl rfl (ZR rfl rfl) rfl (EL.mg rfl rfl rfl rfl (EL.valg rfl rfl (Z2 rfl) rfl (EL.valg rfl rfl (ZO rfl) rfl (EL.valg rfl rfl (ld_3 rfl (q18.at (j := 3) rfl)) rfl ?_)))))
           by_cases p6 : 1000 < x.wear.hi
           ·
            refine EL.valg rfl rfl (Zi (r := true) rfl rfl (decide_eq_true p6)) rfl (EL.valg rfl rfl (ZR rfl rfl) rfl (EL.pt rfl rfl rfl (EL.nil (EX.seq (EC.yes rfl (EC.region (EL.as rfl rfl (EL.nil (EX.blk ?_)))))))));refine EX.seq (EC.region (EL.mv rfl rfl ?_));refine EL.val (ZM rfl rfl (c := ((k + 1 : Nat) : Int)) ((IntWalk.i64_in _ ⟨by first | omega | (simp only; omega), by first | omega | (simp only; omega)⟩).trans (by first | omega | (simp only; omega)))) rfl ?_
            refine EL.as rfl rfl (EL.nil ?_);refine EX.roundD (k + 1) ⟨by rw [hws, if_pos ⟨hw0_, Zv (by omega)⟩]; rfl, rfl, trivial⟩ (by repeat first | with_reducible exact .refl _ | refine sp_ rfl ?_ | exact .refl _ | refine sd_ rfl ?_ | refine sn_ ?_) ⟨by omega, q5, hin, hbw⟩ (by omega)
           ·
            refine EL.valg rfl rfl (Zi (r := false) rfl rfl (decide_eq_false p6)) rfl (EL.valg rfl rfl (ZR rfl rfl) rfl (EL.pt rfl rfl rfl (EL.nil (EX.seq (EC.no rfl (EC.skip (EX.blk (EX.seq (EC.region ?_)))))))));refine EL.mv rfl rfl ?_;refine EL.val (ZM rfl rfl (c := ((k + 1 : Nat) : Int)) ((IntWalk.i64_in _ ⟨by first | omega | (simp only; omega), by first | omega | (simp only; omega)⟩).trans (by first | omega | (simp only; omega)))) rfl ?_
            refine EL.as rfl rfl (EL.nil ?_);refine EX.roundD (k + 1) ⟨by rw [hws, if_neg (fun h => by rw [QCI p1 p2 p3 p4 p5 p6] at h; cases h.2)]; rfl, rfl, trivial⟩ (by repeat first | with_reducible exact .refl _ | refine sp_ rfl ?_ | exact .refl _ | refine sd_ rfl ?_ | refine sn_ ?_) ⟨by omega, q5, hin, hbw⟩ (by omega)
     ·
      refine EL.val (ZV (r := false) rfl rfl (decide_eq_false hw0_)) rfl (EL.mv rfl rfl (EL.skip rfl rfl rfl rfl (EL.skip rfl rfl rfl rfl (EL.skip rfl rfl rfl rfl (EL.skip rfl rfl rfl rfl (EL.skip rfl rfl rfl rfl (EL.skip rfl rfl rfl rfl (EL.skip rfl rfl rfl rfl (EL.skip rfl rfl rfl rfl ?_)))))))));refine EL.skip rfl rfl rfl rfl (EL.skip rfl rfl rfl rfl (EL.skip rfl rfl rfl rfl (EL.skip rfl rfl rfl rfl (EL.skip rfl rfl rfl rfl (EL.skip rfl rfl rfl rfl (EL.skip rfl rfl rfl rfl (EL.skip rfl rfl rfl rfl (EL.skip rfl rfl rfl rfl (EL.skip rfl rfl rfl rfl ?_)))))))));refine EL.skip rfl rfl rfl rfl (EL.skip rfl rfl rfl rfl (EL.skip rfl rfl rfl rfl (EL.skip rfl rfl rfl rfl (EL.skip rfl rfl rfl rfl (EL.skip rfl rfl rfl rfl (EL.skip rfl rfl rfl rfl (EL.skip rfl rfl rfl rfl (EL.skip rfl rfl rfl rfl (EL.skip rfl rfl rfl rfl ?_)))))))));refine EL.skip rfl rfl rfl rfl (EL.skip rfl rfl rfl rfl (EL.skip rfl rfl rfl rfl (EL.skip rfl rfl rfl rfl (EL.skip rfl rfl rfl rfl (EL.skip rfl rfl rfl rfl (EL.skip rfl rfl rfl rfl (EL.skip rfl rfl rfl rfl (EL.skip rfl rfl rfl rfl (EL.skip rfl rfl rfl rfl ?_)))))))));refine EL.skip rfl rfl rfl rfl (EL.skip rfl rfl rfl rfl (EL.pf rfl rfl rfl (EL.nil (EX.seq (EC.no rfl (EC.skip (EX.blk (EX.seq (EC.region ?_)))))))));refine EL.mv rfl rfl ?_;refine EL.val (ZM rfl rfl (c := ((k + 1 : Nat) : Int)) ((IntWalk.i64_in _ ⟨by first | omega | (simp only; omega), by first | omega | (simp only; omega)⟩).trans (by first | omega | (simp only; omega)))) rfl ?_
      refine EL.as rfl rfl (EL.nil ?_);refine EX.roundD (k + 1) ⟨by rw [hws, if_neg (fun h => hw0_ h.1)]; rfl, rfl, trivial⟩ (by repeat first | with_reducible exact .refl _ | refine sp_ rfl ?_ | exact .refl _ | refine sd_ rfl ?_ | refine sn_ ?_) ⟨by omega, q5, hin, hbw⟩ (by omega)
    ·
     obtain rfl : k = l.length := by omega
     have hwb := QAR l l.length;refine EC.seq (EC.seq (EC.region (EL.mv rfl rfl (EL.mv rfl rfl (EL.val (Y5 rfl) rfl ?_)))));refine EL.val (ZL rfl rfl (decide_eq_false (show ¬(((l.length : Nat) : Int) < ((l.length : Nat) : Int)) by omega))) rfl ?_
     refine EL.nil (EX.seq (EC.no rfl (EC.exit (EX.seq_exit (EX.seq_exit (EX.blk_here (EX.seq (EC.seq (EC.seq ?_)))))))));refine EC.region (EL.mv rfl rfl ?_)
     by_cases hwn : YC l l.length = 0
     ·
      obtain ⟨z0_, z5_, zp_⟩ := QCv hwn;refine EL.val (ZV (r := true) rfl rfl (decide_eq_true hwn)) rfl (EL.mv rfl rfl (EL.mg rfl rfl rfl rfl ?_))
      by_cases hl0 : least < 0
      ·
       have hlo : least < 0 ∨ 100000 < least := .inl hl0;have hE := (Yg z0_ z5_ zp_ (Y4 hlo)).1;have hR := (Yg z0_ z5_ zp_ (Y4 hlo)).2;refine EL.valg rfl rfl (ZL (r := true) rfl rfl (decide_eq_true hl0)) rfl (EL.mg rfl rfl rfl rfl (EL.skip rfl rfl rfl rfl (EL.skip rfl rfl rfl rfl (EL.valg rfl rfl (ZJ rfl rfl) rfl (EL.pt rfl rfl rfl (EL.nil (EX.seq (EC.yes rfl (EC.region ?_)))))))));refine EL.as rfl rfl (EL.nil (EX.seq (EC.seq (EC.seq (EC.region (EL.mv rfl rfl ?_))))));refine EL.val (Zl (r := true) rfl rfl (decide_eq_true (by decide))) rfl ?_
       refine EL.nil (EX.seq (EC.yes rfl (EC.seq (EC.region (EL.mv rfl rfl (EL.mv rfl rfl (EL.val (ZV (r := true) rfl rfl (decide_eq_true hE)) rfl (EL.mv rfl rfl (EL.valg rfl rfl (Zh rfl (q5.at (j := 0) rfl) (q5.at (j := 1) rfl)) rfl ?_)))))))));refine EL.valg rfl rfl (QAg) rfl ?_;refine EL.valg rfl rfl (Yr rfl rfl (decide_eq_true ⟨by rw [hR], by rw [hR]⟩)) rfl ?_
       refine EL.pt rfl rfl rfl (EL.mv rfl rfl (EL.mg rfl rfl rfl rfl ?_));refine EL.valg rfl rfl (ZV (r := true) rfl rfl (decide_eq_true (by rw [hR]))) rfl ?_
       refine EL.pt rfl rfl rfl (EL.mv rfl rfl (EL.callg rfl rfl (cA0 cF10) rfl (Z5 _) ?_))
       rintro e w20 ⟨rfl, hc20⟩
       refine ⟨_, rfl, ?_⟩;replace q5 := q5.bl hc20;replace hin := own_below hin hc20 (Nat.le_refl _);replace hbw := bo_ hbw hc20;clear hc20;refine EL.pt rfl rfl rfl (EL.as rfl rfl (EL.nil (EX.seq (EC.ret (EX.seq_ret ?_)))))
       exact EX.done (res1 rfl rfl) ⟨rfl, hbw⟩
      ·
       refine EL.valg rfl rfl (ZL (r := false) rfl rfl (decide_eq_false hl0)) rfl (EL.mg rfl rfl rfl rfl (EL.mg rfl rfl rfl rfl ?_))
       by_cases hl1 : 100000 < least
       ·
        have hlo : least < 0 ∨ 100000 < least := .inr hl1;have hE := (Yg z0_ z5_ zp_ (Y4 hlo)).1;have hR := (Yg z0_ z5_ zp_ (Y4 hlo)).2;refine EL.valg rfl rfl (Zi (r := true) rfl rfl (decide_eq_true hl1)) rfl (EL.valg rfl rfl (ZR rfl rfl) rfl (EL.pt rfl rfl rfl (EL.nil (EX.seq (EC.yes rfl (EC.region (EL.as rfl rfl (EL.nil (EX.seq ?_)))))))));refine EC.seq (EC.seq (EC.region (EL.mv rfl rfl ?_)));refine EL.val (Zl (r := true) rfl rfl (decide_eq_true (by decide))) rfl ?_
        refine EL.nil (EX.seq (EC.yes rfl (EC.seq (EC.region (EL.mv rfl rfl (EL.mv rfl rfl (EL.val (ZV (r := true) rfl rfl (decide_eq_true hE)) rfl (EL.mv rfl rfl (EL.valg rfl rfl (Zh rfl (q5.at (j := 0) rfl) (q5.at (j := 1) rfl)) rfl ?_)))))))));refine EL.valg rfl rfl (QAg) rfl ?_;refine EL.valg rfl rfl (Yr rfl rfl (decide_eq_true ⟨by rw [hR], by rw [hR]⟩)) rfl ?_
        refine EL.pt rfl rfl rfl (EL.mv rfl rfl (EL.mg rfl rfl rfl rfl ?_));refine EL.valg rfl rfl (ZV (r := true) rfl rfl (decide_eq_true (by rw [hR]))) rfl ?_
        refine EL.pt rfl rfl rfl (EL.mv rfl rfl (EL.callg rfl rfl (cA0 cF10) rfl (Z5 _) ?_))
        rintro e w21 ⟨rfl, hc21⟩
        refine ⟨_, rfl, ?_⟩;replace q5 := q5.bl hc21;replace hin := own_below hin hc21 (Nat.le_refl _);replace hbw := bo_ hbw hc21;clear hc21;refine EL.pt rfl rfl rfl (EL.as rfl rfl (EL.nil (EX.seq (EC.ret (EX.seq_ret ?_)))))
        exact EX.done (res1 rfl rfl) ⟨rfl, hbw⟩
       ·
        have hin9 : inB 0 100000 least = true := inB_iff.2 (by omega)
        have hE := (QAy z0_ z5_ zp_ hin9).1;have hR := (QAy z0_ z5_ zp_ hin9).2;refine EL.valg rfl rfl (Zi (r := false) rfl rfl (decide_eq_false hl1)) rfl (EL.valg rfl rfl (ZR rfl rfl) rfl (EL.pt rfl rfl rfl (EL.nil (EX.seq (EC.no rfl (EC.skip (EX.seq (EC.seq (EC.seq ?_)))))))));refine EC.region (EL.mv rfl rfl ?_);refine EL.val (Zl (r := false) rfl rfl (decide_eq_false (fun h => h hwn))) rfl ?_
        refine EL.nil (EX.seq (EC.no rfl (EC.skip (EX.seq (EC.seq (EC.region (EL.mv rfl rfl (EL.mv rfl rfl ?_))))))));refine EL.call (cA2 cF12 rfl rfl) rfl (QCH l _ least (by omega) (List.all_eq_true.1 zp_) (by omega) _ B (hr.below (hbw.mono hB)) (Nat.le_trans hB hbw.size) (by omega)) ?_
        rintro e w22 ⟨rfl, hc22⟩
        refine ⟨_, rfl, ?_⟩;replace q5 := q5.bl hc22;replace hin := own_below hin hc22 (Nat.le_refl _);replace hbw := bo_ hbw hc22;clear hc22;refine EL.mv rfl rfl (EL.xt rfl rfl rfl (EL.xt rfl rfl rfl (EL.newP Y1 rfl ?_)));intro g23 w23 q23 hb23 hg23 hl23;have n5_23 := q5.na hg23;have bhbw_23 := Nat.le_trans hbw.size hg23;replace q5 := q5.bl hb23;replace hin := own_below hin hb23 (Nat.le_refl _);replace hbw := bo_ hbw hb23;clear hb23 hg23 hl23;refine EL.store rfl rfl q23 Z8 rfl rfl rfl rfl ?_;intro w24 hq24 hg24;replace q5 := q5.gr hg24 n5_23;replace hin := ZF hin q23 rfl hg24;replace hbw := ZC hbw hg24 bhbw_23;replace q23 := hq24;clear hg24 hq24;refine EL.as rfl rfl (EL.nil (EX.seq (EC.seq (EC.region (EL.mv rfl rfl (EL.val (ZV (r := true) rfl rfl (decide_eq_true hE)) rfl (EL.mv rfl rfl (EL.valg rfl rfl (Zh rfl (q5.at (j := 0) rfl) (q5.at (j := 1) rfl)) rfl (EL.valg rfl rfl (Zh rfl (q23.at (j := 0) rfl) (q23.at (j := 1) rfl)) rfl ?_)))))))));refine EL.valg rfl rfl (Yr rfl rfl (decide_eq_true ⟨by rw [hR], by rw [hR]⟩)) rfl ?_
        refine EL.pt rfl rfl rfl (EL.mv rfl rfl (EL.mg rfl rfl rfl rfl (EL.mg rfl rfl rfl rfl ?_)));refine EL.valg rfl rfl (ZV (r := true) rfl rfl (decide_eq_true (by rw [hR]))) rfl ?_
        refine EL.pt rfl rfl rfl (EL.mv rfl rfl (EL.callg rfl rfl (cA0 cF10) rfl (Z5 _) ?_))
        rintro e w25 ⟨rfl, hc25⟩
        refine ⟨_, rfl, ?_⟩;replace q5 := q5.bl hc25;replace q23 := q23.bl hc25;replace hin := own_below hin hc25 (Nat.le_refl _);replace hbw := bo_ hbw hc25;clear hc25;refine EL.pt rfl rfl rfl (EL.as rfl rfl (EL.nil (EX.seq (EC.ret ?_))))
        exact EX.done (res1 rfl rfl) ⟨rfl, hbw⟩
     ·
      have hE := QEL (least := least) hwn;have hEn : YS l least ≠ 0 := by rw [hE]; exact hwn
      have hR := QDQ hEn;refine EL.val (ZV (r := false) rfl rfl (decide_eq_false hwn)) rfl (EL.mv rfl rfl (EL.skip rfl rfl rfl rfl (EL.skip rfl rfl rfl rfl (EL.skip rfl rfl rfl rfl (EL.skip rfl rfl rfl rfl (EL.skip rfl rfl rfl rfl (EL.skip rfl rfl rfl rfl (EL.pf rfl rfl rfl (EL.nil ?_)))))))));refine EX.seq (EC.no rfl (EC.skip (EX.seq (EC.seq (EC.seq (EC.region (EL.mv rfl rfl (EL.val (Zl (r := true) rfl rfl (decide_eq_true hwn)) rfl (EL.nil ?_)))))))));refine EX.seq (EC.yes rfl (EC.seq (EC.region (EL.mv rfl rfl (EL.mv rfl rfl (EL.val (ZV (r := true) rfl rfl (decide_eq_true hE)) rfl (EL.mv rfl rfl (EL.valg rfl rfl (Zh rfl (q5.at (j := 0) rfl) (q5.at (j := 1) rfl)) rfl (EL.valg rfl rfl (QAg) rfl ?_)))))))));refine EL.valg rfl rfl (Yr rfl rfl (decide_eq_true ⟨by rw [hR], by rw [hR]⟩)) rfl ?_
      refine EL.pt rfl rfl rfl (EL.mv rfl rfl (EL.mg rfl rfl rfl rfl ?_));refine EL.valg rfl rfl (ZV (r := true) rfl rfl (decide_eq_true (by rw [hR]))) rfl ?_
      refine EL.pt rfl rfl rfl (EL.mv rfl rfl (EL.callg rfl rfl (cA0 cF10) rfl (Z5 _) ?_))
      rintro e w26 ⟨rfl, hc26⟩
      refine ⟨_, rfl, ?_⟩;replace q5 := q5.bl hc26;replace hin := own_below hin hc26 (Nat.le_refl _);replace hbw := bo_ hbw hc26;clear hc26;refine EL.pt rfl rfl rfl (EL.as rfl rfl (EL.nil (EX.seq (EC.ret (EX.seq_ret ?_)))))
      exact EX.done (res1 rfl rfl) ⟨rfl, hbw⟩
   ·
    refine EL.val (Zi (r := false) rfl rfl (decide_eq_false (by omega))) rfl ?_
    refine EL.nil (EX.seq (EC.no rfl (EC.skip (EX.seq (EC.seq (EC.seq (EC.region (EL.as rfl rfl (EL.nil ?_)))))))));refine EX.seq (EC.block ?_);have hw0 : YC l 0 = 0 := by rw [YC, if_neg h50, if_neg h0]; rfl
    refine EC.loopD [4, 9, 10, 11, 34, 35, 36, 37, 38, 39, 40, 41, 42, 43, 44, 45, 46, 47, 48, 49, 50, 51, 52, 53, 54, 55, 56, 57, 58, 59, 60, 61, 62, 63, 64, 65, 66, 67, 68, 69, 70, 71, 72, 73, 74, 75, 76, 77, 78, 79, 80, 81, 82, 83, 84, 85, 86, 87, 88, 89, 90, 91, 92, 93, 94, 95, 96] (fun k : Nat => [(9, .int .i64 (YC l k)), (10, .int .i64 (k : Nat))]) (fun k W => k ≤ l.length ∧ Blk W g5 25 #[.int .i64 (YZ l least).lo, .int .i64 (YZ l least).hi] ∧ W.ownsRow w.heap.size 30 4 (.slice Ai l.length ci) l.length (platesC l) ∧ Below w.heap.size w W) (fun k => l.length - k) 0 ⟨Nat.zero_le _, q5, hin, hbw⟩ ⟨by rw [hw0]; rfl, rfl, trivial⟩ ?_
    clear q5 hin hbw
    rintro k wk ⟨hk, q5, hin, hbw⟩
    by_cases hltk : k < l.length
    ·
     obtain ⟨b, o, rfl, _, cc⟩ := Z0 l k hltk w B _ _ _ hr;obtain ⟨b2, o2, rfl, _, c2⟩ := Z0 l k hltk _ _ _ _ _ (rd_of_own hin);have hws := QBU hltk;have hwb := QAR l k;obtain ⟨x, ex⟩ : ∃ z, z = l.getD k Zp := ⟨_, rfl⟩;rw [← ex] at cc c2 hws;obtain ⟨wt, ewt⟩ : ∃ z, z = YC l k := ⟨_, rfl⟩;rw [← ewt] at hws hwb ⊢;refine EC.seq (EC.seq (EC.region (EL.mv rfl rfl (EL.mv rfl rfl (EL.val (Y5 rfl) rfl ?_)))));refine EL.val (ZL rfl rfl (decide_eq_true (show (((k : Nat) : Int) < ((l.length : Nat) : Int)) by omega))) rfl ?_
     refine EL.nil (EX.seq (EC.yes rfl (EC.skip (EX.seq (EC.seq (EC.block (EC.seq (EC.seq ?_))))))));refine EC.regionQ (by kernel_rfl) (by kernel_rfl) ?_
     refine EQ.mv rfl rfl (EQ.mv rfl rfl ?_);refine EQ.val (fun _ hw => (Yy rfl rfl hltk)) rfl ?_
     refine EQ.val (fun _ hw => (QA0 rfl (ZD hw c2.c0) (ZD hw c2.c1) (ZD hw c2.c2) (ZD hw c2.c3))) rfl ?_
     refine EQ.mv rfl rfl (EQ.mv rfl rfl ?_);refine EQ.val (fun _ hw => (Yy rfl rfl hltk)) rfl ?_
     refine EQ.val (fun _ hw => (QA0 rfl (ZD hw (ZD hbw cc.c0)) (ZD hw (ZD hbw cc.c1)) (ZD hw (ZD hbw cc.c2)) (ZD hw (ZD hbw cc.c3)))) rfl ?_
     refine EQ.val (fun _ hw => (QGA rfl rfl (decide_eq_false (fun h => h ⟨rfl, rfl, rfl, rfl⟩)))) rfl ?_
     refine EQ.fin (fun w27 hw_ => ?_)
     replace q5 := q5.bl hw_;replace hin := own_below hin hw_ (Nat.le_refl _);replace hbw := bo_ hbw hw_;clear hw_;refine EX.seq (EC.no rfl (EC.skip (EX.seq (EC.seq (EC.region (EL.mv rfl rfl (EL.mv rfl rfl (EL.val (Yy rfl rfl hltk) rfl (EL.val (QA0 rfl (ZD hbw cc.c0) (ZD hbw cc.c1) (ZD hbw cc.c2) (ZD hbw cc.c3)) rfl ?_)))))))));refine EL.newP QHF rfl ?_;intro g28 w28 q28 hb28 hg28 hl28;have n5_28 := q5.na hg28;have bhbw_28 := Nat.le_trans hbw.size hg28;have hn28 := own_ne hin hg28;replace q5 := q5.bl hb28;replace hin := own_below hin hb28 (Nat.le_refl _);replace hbw := bo_ hbw hb28;clear hb28 hg28 hl28;refine EL.store rfl rfl q28 QGc rfl rfl rfl rfl ?_;intro w29 hq29 hg29;replace q5 := q5.gr hg29 n5_28;replace hin := YD hin hn28 hg29;replace hbw := ZC hbw hg29 bhbw_28;replace q28 := hq29;clear hg29 hq29;refine EL.nil (EX.seq (EC.seq (EC.region (EL.mv rfl rfl ?_))))
     by_cases hw0_ : wt = 0
     ·
      refine EL.val (ZV (r := true) rfl rfl (decide_eq_true hw0_)) rfl (EL.mv rfl rfl (EL.valg rfl rfl (Z3 rfl) rfl (EL.valg rfl rfl (ZS rfl) rfl (EL.valg rfl rfl (ld_3 rfl (q28.at (j := 0) rfl)) rfl ?_))))
      by_cases p1 : x.thick.lo < 0
      ·
       refine EL.valg rfl rfl (ZL (r := true) rfl rfl (decide_eq_true p1)) rfl (EL.mg rfl rfl rfl rfl (EL.skip rfl rfl rfl rfl (EL.skip rfl rfl rfl rfl (EL.skip rfl rfl rfl rfl (EL.skip rfl rfl rfl rfl (EL.skip rfl rfl rfl rfl (EL.skip rfl rfl rfl rfl (EL.skip rfl rfl rfl rfl (EL.valg rfl rfl (ZJ rfl rfl) rfl ?_)))))))));refine EL.mg rfl rfl rfl rfl (EL.skip rfl rfl rfl rfl (EL.skip rfl rfl rfl rfl (EL.skip rfl rfl rfl rfl (EL.skip rfl rfl rfl rfl (EL.valg rfl rfl (ZJ rfl rfl) rfl (EL.mg rfl rfl rfl rfl (EL.skip rfl rfl rfl rfl (EL.skip rfl rfl rfl rfl (EL.skip rfl rfl rfl rfl ?_)))))))));refine EL.skip rfl rfl rfl rfl (EL.valg rfl rfl (ZJ rfl rfl) rfl (EL.mg rfl rfl rfl rfl (EL.skip rfl rfl rfl rfl (EL.skip rfl rfl rfl rfl (EL.skip rfl rfl rfl rfl (EL.skip rfl rfl rfl rfl (EL.skip rfl rfl rfl rfl (EL.skip rfl rfl rfl rfl (EL.skip rfl rfl rfl rfl ?_)))))))));refine EL.valg rfl rfl (ZJ rfl rfl) rfl (EL.mg rfl rfl rfl rfl (EL.skip rfl rfl rfl rfl (EL.skip rfl rfl rfl rfl (EL.skip rfl rfl rfl rfl (EL.skip rfl rfl rfl rfl (EL.valg rfl rfl (ZJ rfl rfl) rfl (EL.pt rfl rfl rfl (EL.nil (EX.seq ?_)))))))));refine EC.yes rfl (EC.region (EL.as rfl rfl (EL.nil (EX.blk (EX.seq (EC.region (EL.mv rfl rfl ?_)))))));refine EL.val (ZM rfl rfl (c := ((k + 1 : Nat) : Int)) ((IntWalk.i64_in _ ⟨by first | omega | (simp only; omega), by first | omega | (simp only; omega)⟩).trans (by first | omega | (simp only; omega)))) rfl ?_
       refine EL.as rfl rfl (EL.nil ?_);refine EX.roundD (k + 1) ⟨by rw [hws, if_pos ⟨hw0_, Zv (by omega)⟩]; rfl, rfl, trivial⟩ (by repeat first | with_reducible exact .refl _ | refine sp_ rfl ?_ | exact .refl _ | refine sd_ rfl ?_ | refine sn_ ?_) ⟨by omega, q5, hin, hbw⟩ (by omega)
      ·
       refine EL.valg rfl rfl (ZL (r := false) rfl rfl (decide_eq_false p1)) rfl (EL.mg rfl rfl rfl rfl (EL.valg rfl rfl (Z3 rfl) rfl (EL.valg rfl rfl (ZS rfl) rfl (EL.valg rfl rfl (ld_3 rfl (q28.at (j := 0) rfl)) rfl (EL.valg rfl rfl (Z3 rfl) rfl (EL.valg rfl rfl (ZO rfl) rfl (EL.valg rfl rfl (ld_3 rfl (q28.at (j := 1) rfl)) rfl ?_)))))))
       by_cases p2 : x.thick.hi < x.thick.lo
       ·
        refine EL.valg rfl rfl (Zi (r := true) rfl rfl (decide_eq_true p2)) rfl (EL.valg rfl rfl (ZR rfl rfl) rfl (EL.mg rfl rfl rfl rfl (EL.skip rfl rfl rfl rfl (EL.skip rfl rfl rfl rfl (EL.skip rfl rfl rfl rfl (EL.skip rfl rfl rfl rfl (EL.valg rfl rfl (ZJ rfl rfl) rfl (EL.mg rfl rfl rfl rfl (EL.skip rfl rfl rfl rfl ?_)))))))));refine EL.skip rfl rfl rfl rfl (EL.skip rfl rfl rfl rfl (EL.skip rfl rfl rfl rfl (EL.valg rfl rfl (ZJ rfl rfl) rfl (EL.mg rfl rfl rfl rfl (EL.skip rfl rfl rfl rfl (EL.skip rfl rfl rfl rfl (EL.skip rfl rfl rfl rfl (EL.skip rfl rfl rfl rfl (EL.skip rfl rfl rfl rfl ?_)))))))));refine EL.skip rfl rfl rfl rfl (EL.skip rfl rfl rfl rfl (EL.valg rfl rfl (ZJ rfl rfl) rfl (EL.mg rfl rfl rfl rfl (EL.skip rfl rfl rfl rfl (EL.skip rfl rfl rfl rfl (EL.skip rfl rfl rfl rfl (EL.skip rfl rfl rfl rfl (EL.valg rfl rfl (ZJ rfl rfl) rfl (EL.pt rfl rfl rfl ?_)))))))));refine EL.nil (EX.seq (EC.yes rfl (EC.region (EL.as rfl rfl (EL.nil (EX.blk (EX.seq (EC.region (EL.mv rfl rfl ?_)))))))));refine EL.val (ZM rfl rfl (c := ((k + 1 : Nat) : Int)) ((IntWalk.i64_in _ ⟨by first | omega | (simp only; omega), by first | omega | (simp only; omega)⟩).trans (by first | omega | (simp only; omega)))) rfl ?_
        refine EL.as rfl rfl (EL.nil ?_);refine EX.roundD (k + 1) ⟨by rw [hws, if_pos ⟨hw0_, Zv (by omega)⟩]; rfl, rfl, trivial⟩ (by repeat first | with_reducible exact .refl _ | refine sp_ rfl ?_ | exact .refl _ | refine sd_ rfl ?_ | refine sn_ ?_) ⟨by omega, q5, hin, hbw⟩ (by omega)
       ·
        refine EL.valg rfl rfl (Zi (r := false) rfl rfl (decide_eq_false p2)) rfl (EL.valg rfl rfl (ZR rfl rfl) rfl (EL.mg rfl rfl rfl rfl (EL.valg rfl rfl (Z3 rfl) rfl (EL.valg rfl rfl (ZO rfl) rfl (EL.valg rfl rfl (ld_3 rfl (q28.at (j := 1) rfl)) rfl ?_)))))
        by_cases p3 : 100000 < x.thick.hi
        ·
         refine EL.valg rfl rfl (Zi (r := true) rfl rfl (decide_eq_true p3)) rfl (EL.valg rfl rfl (ZR rfl rfl) rfl (EL.mg rfl rfl rfl rfl (EL.skip rfl rfl rfl rfl (EL.skip rfl rfl rfl rfl (EL.skip rfl rfl rfl rfl (EL.skip rfl rfl rfl rfl (EL.valg rfl rfl (ZJ rfl rfl) rfl (EL.mg rfl rfl rfl rfl (EL.skip rfl rfl rfl rfl ?_)))))))));refine EL.skip rfl rfl rfl rfl (EL.skip rfl rfl rfl rfl (EL.skip rfl rfl rfl rfl (EL.skip rfl rfl rfl rfl (EL.skip rfl rfl rfl rfl (EL.skip rfl rfl rfl rfl (EL.valg rfl rfl (ZJ rfl rfl) rfl (EL.mg rfl rfl rfl rfl (EL.skip rfl rfl rfl rfl (EL.skip rfl rfl rfl rfl ?_)))))))));refine EL.skip rfl rfl rfl rfl (EL.skip rfl rfl rfl rfl (EL.valg rfl rfl (ZJ rfl rfl) rfl (EL.pt rfl rfl rfl (EL.nil (EX.seq (EC.yes rfl (EC.region (EL.as rfl rfl (EL.nil ?_)))))))));refine EX.blk (EX.seq (EC.region (EL.mv rfl rfl ?_)));refine EL.val (ZM rfl rfl (c := ((k + 1 : Nat) : Int)) ((IntWalk.i64_in _ ⟨by first | omega | (simp only; omega), by first | omega | (simp only; omega)⟩).trans (by first | omega | (simp only; omega)))) rfl ?_
         refine EL.as rfl rfl (EL.nil ?_);refine EX.roundD (k + 1) ⟨by rw [hws, if_pos ⟨hw0_, Zv (by omega)⟩]; rfl, rfl, trivial⟩ (by repeat first | with_reducible exact .refl _ | refine sp_ rfl ?_ | exact .refl _ | refine sd_ rfl ?_ | refine sn_ ?_) ⟨by omega, q5, hin, hbw⟩ (by omega)
        ·
         refine EL.valg rfl rfl (Zi (r := false) rfl rfl (decide_eq_false p3)) rfl (EL.valg rfl rfl (ZR rfl rfl) rfl (EL.mg rfl rfl rfl rfl (EL.valg rfl rfl (Z2 rfl) rfl (EL.valg rfl rfl (ZS rfl) rfl (EL.valg rfl rfl (ld_3 rfl (q28.at (j := 2) rfl)) rfl ?_)))))
         by_cases p4 : x.wear.lo < 0
         ·
          refine EL.valg rfl rfl (ZL (r := true) rfl rfl (decide_eq_true p4)) rfl (EL.valg rfl rfl (ZR rfl rfl) rfl (EL.mg rfl rfl rfl rfl (EL.skip rfl rfl rfl rfl (EL.skip rfl rfl rfl rfl (EL.skip rfl rfl rfl rfl (EL.skip rfl rfl rfl rfl (EL.skip rfl rfl rfl rfl (EL.skip rfl rfl rfl rfl (EL.skip rfl rfl rfl rfl ?_)))))))));refine EL.valg rfl rfl (ZJ rfl rfl) rfl (EL.mg rfl rfl rfl rfl (EL.skip rfl rfl rfl rfl (EL.skip rfl rfl rfl rfl (EL.skip rfl rfl rfl rfl (EL.skip rfl rfl rfl rfl (EL.valg rfl rfl (ZJ rfl rfl) rfl (EL.pt rfl rfl rfl (EL.nil (EX.seq ?_)))))))));refine EC.yes rfl (EC.region (EL.as rfl rfl (EL.nil (EX.blk (EX.seq (EC.region (EL.mv rfl rfl ?_)))))));refine EL.val (ZM rfl rfl (c := ((k + 1 : Nat) : Int)) ((IntWalk.i64_in _ ⟨by first | omega | (simp only; omega), by first | omega | (simp only; omega)⟩).trans (by first | omega | (simp only; omega)))) rfl ?_
          refine EL.as rfl rfl (EL.nil ?_);refine EX.roundD (k + 1) ⟨by rw [hws, if_pos ⟨hw0_, Zv (by omega)⟩]; rfl, rfl, trivial⟩ (by repeat first | with_reducible exact .refl _ | refine sp_ rfl ?_ | exact .refl _ | refine sd_ rfl ?_ | refine sn_ ?_) ⟨by omega, q5, hin, hbw⟩ (by omega)
         ·
          refine EL.valg rfl rfl (ZL (r := false) rfl rfl (decide_eq_false p4)) rfl (EL.valg rfl rfl (ZR rfl rfl) rfl (EL.mg rfl rfl rfl rfl (EL.valg rfl rfl (Z2 rfl) rfl (EL.valg rfl rfl (ZS rfl) rfl (EL.valg rfl rfl (ld_3 rfl (q28.at (j := 2) rfl)) rfl (EL.valg rfl rfl (Z2 rfl) rfl (EL.valg rfl rfl (ZO rfl) rfl (EL.valg rfl rfl (ld_3 rfl (q28.at (j := 3) rfl)) rfl ?_))))))))
          by_cases p5 : x.wear.hi < x.wear.lo
          ·
           refine EL.valg rfl rfl (Zi (r := true) rfl rfl (decide_eq_true p5)) rfl (EL.valg rfl rfl (ZR rfl rfl) rfl (EL.mg rfl rfl rfl rfl (EL.skip rfl rfl rfl rfl (EL.skip rfl rfl rfl rfl (EL.skip rfl rfl rfl rfl (EL.skip rfl rfl rfl rfl (EL.valg rfl rfl (ZJ rfl rfl) rfl (EL.pt rfl rfl rfl (EL.nil ?_)))))))));refine EX.seq (EC.yes rfl (EC.region (EL.as rfl rfl (EL.nil (EX.blk (EX.seq (EC.region (EL.mv rfl rfl ?_))))))));refine EL.val (ZM rfl rfl (c := ((k + 1 : Nat) : Int)) ((IntWalk.i64_in _ ⟨by first | omega | (simp only; omega), by first | omega | (simp only; omega)⟩).trans (by first | omega | (simp only; omega)))) rfl ?_
           refine EL.as rfl rfl (EL.nil ?_);refine EX.roundD (k + 1) ⟨by rw [hws, if_pos ⟨hw0_, Zv (by omega)⟩]; rfl, rfl, trivial⟩ (by repeat first | with_reducible exact .refl _ | refine sp_ rfl ?_ | exact .refl _ | refine sd_ rfl ?_ | refine sn_ ?_) ⟨by omega, q5, hin, hbw⟩ (by omega)
          ·
           refine EL.valg rfl rfl (Zi (r := false) rfl rfl (decide_eq_false p5)) rfl (EL.valg rfl rfl (ZR rfl rfl) rfl (EL.mg rfl rfl rfl rfl (EL.valg rfl rfl (Z2 rfl) rfl (EL.valg rfl rfl (ZO rfl) rfl (EL.valg rfl rfl (ld_3 rfl (q28.at (j := 3) rfl)) rfl ?_)))))
           by_cases p6 : 1000 < x.wear.hi
           ·
            refine EL.valg rfl rfl (Zi (r := true) rfl rfl (decide_eq_true p6)) rfl (EL.valg rfl rfl (ZR rfl rfl) rfl (EL.pt rfl rfl rfl (EL.nil (EX.seq (EC.yes rfl (EC.region (EL.as rfl rfl (EL.nil (EX.blk ?_)))))))));refine EX.seq (EC.region (EL.mv rfl rfl ?_));refine EL.val (ZM rfl rfl (c := ((k + 1 : Nat) : Int)) ((IntWalk.i64_in _ ⟨by first | omega | (simp only; omega), by first | omega | (simp only; omega)⟩).trans (by first | omega | (simp only; omega)))) rfl ?_
            refine EL.as rfl rfl (EL.nil ?_);refine EX.roundD (k + 1) ⟨by rw [hws, if_pos ⟨hw0_, Zv (by omega)⟩]; rfl, rfl, trivial⟩ (by repeat first | with_reducible exact .refl _ | refine sp_ rfl ?_ | exact .refl _ | refine sd_ rfl ?_ | refine sn_ ?_) ⟨by omega, q5, hin, hbw⟩ (by omega)
           ·
            refine EL.valg rfl rfl (Zi (r := false) rfl rfl (decide_eq_false p6)) rfl (EL.valg rfl rfl (ZR rfl rfl) rfl (EL.pt rfl rfl rfl (EL.nil (EX.seq (EC.no rfl (EC.skip (EX.blk (EX.seq (EC.region ?_)))))))));refine EL.mv rfl rfl ?_;refine EL.val (ZM rfl rfl (c := ((k + 1 : Nat) : Int)) ((IntWalk.i64_in _ ⟨by first | omega | (simp only; omega), by first | omega | (simp only; omega)⟩).trans (by first | omega | (simp only; omega)))) rfl ?_
            refine EL.as rfl rfl (EL.nil ?_);refine EX.roundD (k + 1) ⟨by rw [hws, if_neg (fun h => by rw [QCI p1 p2 p3 p4 p5 p6] at h; cases h.2)]; rfl, rfl, trivial⟩ (by repeat first | with_reducible exact .refl _ | refine sp_ rfl ?_ | exact .refl _ | refine sd_ rfl ?_ | refine sn_ ?_) ⟨by omega, q5, hin, hbw⟩ (by omega)
     ·
      refine EL.val (ZV (r := false) rfl rfl (decide_eq_false hw0_)) rfl (EL.mv rfl rfl (EL.skip rfl rfl rfl rfl (EL.skip rfl rfl rfl rfl (EL.skip rfl rfl rfl rfl (EL.skip rfl rfl rfl rfl (EL.skip rfl rfl rfl rfl (EL.skip rfl rfl rfl rfl (EL.skip rfl rfl rfl rfl (EL.skip rfl rfl rfl rfl ?_)))))))));refine EL.skip rfl rfl rfl rfl (EL.skip rfl rfl rfl rfl (EL.skip rfl rfl rfl rfl (EL.skip rfl rfl rfl rfl (EL.skip rfl rfl rfl rfl (EL.skip rfl rfl rfl rfl (EL.skip rfl rfl rfl rfl (EL.skip rfl rfl rfl rfl (EL.skip rfl rfl rfl rfl (EL.skip rfl rfl rfl rfl ?_)))))))));refine EL.skip rfl rfl rfl rfl (EL.skip rfl rfl rfl rfl (EL.skip rfl rfl rfl rfl (EL.skip rfl rfl rfl rfl (EL.skip rfl rfl rfl rfl (EL.skip rfl rfl rfl rfl (EL.skip rfl rfl rfl rfl (EL.skip rfl rfl rfl rfl (EL.skip rfl rfl rfl rfl (EL.skip rfl rfl rfl rfl ?_)))))))));refine EL.skip rfl rfl rfl rfl (EL.skip rfl rfl rfl rfl (EL.skip rfl rfl rfl rfl (EL.skip rfl rfl rfl rfl (EL.skip rfl rfl rfl rfl (EL.skip rfl rfl rfl rfl (EL.skip rfl rfl rfl rfl (EL.skip rfl rfl rfl rfl (EL.skip rfl rfl rfl rfl (EL.skip rfl rfl rfl rfl ?_)))))))));refine EL.skip rfl rfl rfl rfl (EL.skip rfl rfl rfl rfl (EL.pf rfl rfl rfl (EL.nil (EX.seq (EC.no rfl (EC.skip (EX.blk (EX.seq (EC.region ?_)))))))));refine EL.mv rfl rfl ?_;refine EL.val (ZM rfl rfl (c := ((k + 1 : Nat) : Int)) ((IntWalk.i64_in _ ⟨by first | omega | (simp only; omega), by first | omega | (simp only; omega)⟩).trans (by first | omega | (simp only; omega)))) rfl ?_
      refine EL.as rfl rfl (EL.nil ?_);refine EX.roundD (k + 1) ⟨by rw [hws, if_neg (fun h => hw0_ h.1)]; rfl, rfl, trivial⟩ (by repeat first | with_reducible exact .refl _ | refine sp_ rfl ?_ | exact .refl _ | refine sd_ rfl ?_ | refine sn_ ?_) ⟨by omega, q5, hin, hbw⟩ (by omega)
    ·
     obtain rfl : k = l.length := by omega
     have hwb := QAR l l.length;refine EC.seq (EC.seq (EC.region (EL.mv rfl rfl (EL.mv rfl rfl (EL.val (Y5 rfl) rfl ?_)))));refine EL.val (ZL rfl rfl (decide_eq_false (show ¬(((l.length : Nat) : Int) < ((l.length : Nat) : Int)) by omega))) rfl ?_
     refine EL.nil (EX.seq (EC.no rfl (EC.exit (EX.seq_exit (EX.seq_exit (EX.blk_here (EX.seq (EC.seq (EC.seq ?_)))))))));refine EC.region (EL.mv rfl rfl ?_)
     by_cases hwn : YC l l.length = 0
     ·
      obtain ⟨z0_, z5_, zp_⟩ := QCv hwn;refine EL.val (ZV (r := true) rfl rfl (decide_eq_true hwn)) rfl (EL.mv rfl rfl (EL.mg rfl rfl rfl rfl ?_))
      by_cases hl0 : least < 0
      ·
       have hlo : least < 0 ∨ 100000 < least := .inl hl0;have hE := (Yg z0_ z5_ zp_ (Y4 hlo)).1;have hR := (Yg z0_ z5_ zp_ (Y4 hlo)).2;refine EL.valg rfl rfl (ZL (r := true) rfl rfl (decide_eq_true hl0)) rfl (EL.mg rfl rfl rfl rfl (EL.skip rfl rfl rfl rfl (EL.skip rfl rfl rfl rfl (EL.valg rfl rfl (ZJ rfl rfl) rfl (EL.pt rfl rfl rfl (EL.nil (EX.seq (EC.yes rfl (EC.region ?_)))))))));refine EL.as rfl rfl (EL.nil (EX.seq (EC.seq (EC.seq (EC.region (EL.mv rfl rfl ?_))))));refine EL.val (Zl (r := true) rfl rfl (decide_eq_true (by decide))) rfl ?_
       refine EL.nil (EX.seq (EC.yes rfl (EC.seq (EC.region (EL.mv rfl rfl (EL.mv rfl rfl (EL.val (ZV (r := true) rfl rfl (decide_eq_true hE)) rfl (EL.mv rfl rfl (EL.valg rfl rfl (Zh rfl (q5.at (j := 0) rfl) (q5.at (j := 1) rfl)) rfl ?_)))))))));refine EL.valg rfl rfl (QAg) rfl ?_;refine EL.valg rfl rfl (Yr rfl rfl (decide_eq_true ⟨by rw [hR], by rw [hR]⟩)) rfl ?_
       refine EL.pt rfl rfl rfl (EL.mv rfl rfl (EL.mg rfl rfl rfl rfl ?_));refine EL.valg rfl rfl (ZV (r := true) rfl rfl (decide_eq_true (by rw [hR]))) rfl ?_
       refine EL.pt rfl rfl rfl (EL.mv rfl rfl (EL.callg rfl rfl (cA0 cF10) rfl (Z5 _) ?_))
       rintro e w30 ⟨rfl, hc30⟩
       refine ⟨_, rfl, ?_⟩;replace q5 := q5.bl hc30;replace hin := own_below hin hc30 (Nat.le_refl _);replace hbw := bo_ hbw hc30;clear hc30;refine EL.pt rfl rfl rfl (EL.as rfl rfl (EL.nil (EX.seq (EC.ret (EX.seq_ret ?_)))))
       exact EX.done (res1 rfl rfl) ⟨rfl, hbw⟩
      ·
       refine EL.valg rfl rfl (ZL (r := false) rfl rfl (decide_eq_false hl0)) rfl (EL.mg rfl rfl rfl rfl (EL.mg rfl rfl rfl rfl ?_))
       by_cases hl1 : 100000 < least
       ·
        have hlo : least < 0 ∨ 100000 < least := .inr hl1;have hE := (Yg z0_ z5_ zp_ (Y4 hlo)).1;have hR := (Yg z0_ z5_ zp_ (Y4 hlo)).2;refine EL.valg rfl rfl (Zi (r := true) rfl rfl (decide_eq_true hl1)) rfl (EL.valg rfl rfl (ZR rfl rfl) rfl (EL.pt rfl rfl rfl (EL.nil (EX.seq (EC.yes rfl (EC.region (EL.as rfl rfl (EL.nil (EX.seq ?_)))))))));refine EC.seq (EC.seq (EC.region (EL.mv rfl rfl ?_)));refine EL.val (Zl (r := true) rfl rfl (decide_eq_true (by decide))) rfl ?_
        refine EL.nil (EX.seq (EC.yes rfl (EC.seq (EC.region (EL.mv rfl rfl (EL.mv rfl rfl (EL.val (ZV (r := true) rfl rfl (decide_eq_true hE)) rfl (EL.mv rfl rfl (EL.valg rfl rfl (Zh rfl (q5.at (j := 0) rfl) (q5.at (j := 1) rfl)) rfl ?_)))))))));refine EL.valg rfl rfl (QAg) rfl ?_;refine EL.valg rfl rfl (Yr rfl rfl (decide_eq_true ⟨by rw [hR], by rw [hR]⟩)) rfl ?_
        refine EL.pt rfl rfl rfl (EL.mv rfl rfl (EL.mg rfl rfl rfl rfl ?_));refine EL.valg rfl rfl (ZV (r := true) rfl rfl (decide_eq_true (by rw [hR]))) rfl ?_
        refine EL.pt rfl rfl rfl (EL.mv rfl rfl (EL.callg rfl rfl (cA0 cF10) rfl (Z5 _) ?_))
        rintro e w31 ⟨rfl, hc31⟩
        refine ⟨_, rfl, ?_⟩;replace q5 := q5.bl hc31;replace hin := own_below hin hc31 (Nat.le_refl _);replace hbw := bo_ hbw hc31;clear hc31;refine EL.pt rfl rfl rfl (EL.as rfl rfl (EL.nil (EX.seq (EC.ret (EX.seq_ret ?_)))))
        exact EX.done (res1 rfl rfl) ⟨rfl, hbw⟩
       ·
        have hin9 : inB 0 100000 least = true := inB_iff.2 (by omega)
        have hE := (QAy z0_ z5_ zp_ hin9).1;have hR := (QAy z0_ z5_ zp_ hin9).2;refine EL.valg rfl rfl (Zi (r := false) rfl rfl (decide_eq_false hl1)) rfl (EL.valg rfl rfl (ZR rfl rfl) rfl (EL.pt rfl rfl rfl (EL.nil (EX.seq (EC.no rfl (EC.skip (EX.seq (EC.seq (EC.seq ?_)))))))));refine EC.region (EL.mv rfl rfl ?_);refine EL.val (Zl (r := false) rfl rfl (decide_eq_false (fun h => h hwn))) rfl ?_
        refine EL.nil (EX.seq (EC.no rfl (EC.skip (EX.seq (EC.seq (EC.region (EL.mv rfl rfl (EL.mv rfl rfl ?_))))))));refine EL.call (cA2 cF12 rfl rfl) rfl (QCH l _ least (by omega) (List.all_eq_true.1 zp_) (by omega) _ B (hr.below (hbw.mono hB)) (Nat.le_trans hB hbw.size) (by omega)) ?_
        rintro e w32 ⟨rfl, hc32⟩
        refine ⟨_, rfl, ?_⟩;replace q5 := q5.bl hc32;replace hin := own_below hin hc32 (Nat.le_refl _);replace hbw := bo_ hbw hc32;clear hc32;refine EL.mv rfl rfl (EL.xt rfl rfl rfl (EL.xt rfl rfl rfl (EL.newP Y1 rfl ?_)));intro g33 w33 q33 hb33 hg33 hl33;have n5_33 := q5.na hg33;have bhbw_33 := Nat.le_trans hbw.size hg33;replace q5 := q5.bl hb33;replace hin := own_below hin hb33 (Nat.le_refl _);replace hbw := bo_ hbw hb33;clear hb33 hg33 hl33;refine EL.store rfl rfl q33 Z8 rfl rfl rfl rfl ?_;intro w34 hq34 hg34;replace q5 := q5.gr hg34 n5_33;replace hin := ZF hin q33 rfl hg34;replace hbw := ZC hbw hg34 bhbw_33;replace q33 := hq34;clear hg34 hq34;refine EL.as rfl rfl (EL.nil (EX.seq (EC.seq (EC.region (EL.mv rfl rfl (EL.val (ZV (r := true) rfl rfl (decide_eq_true hE)) rfl (EL.mv rfl rfl (EL.valg rfl rfl (Zh rfl (q5.at (j := 0) rfl) (q5.at (j := 1) rfl)) rfl (EL.valg rfl rfl (Zh rfl (q33.at (j := 0) rfl) (q33.at (j := 1) rfl)) rfl ?_)))))))));refine EL.valg rfl rfl (Yr rfl rfl (decide_eq_true ⟨by rw [hR], by rw [hR]⟩)) rfl ?_
        refine EL.pt rfl rfl rfl (EL.mv rfl rfl (EL.mg rfl rfl rfl rfl (EL.mg rfl rfl rfl rfl ?_)));refine EL.valg rfl rfl (ZV (r := true) rfl rfl (decide_eq_true (by rw [hR]))) rfl ?_
        refine EL.pt rfl rfl rfl (EL.mv rfl rfl (EL.callg rfl rfl (cA0 cF10) rfl (Z5 _) ?_))
        rintro e w35 ⟨rfl, hc35⟩
        refine ⟨_, rfl, ?_⟩;replace q5 := q5.bl hc35;replace q33 := q33.bl hc35;replace hin := own_below hin hc35 (Nat.le_refl _);replace hbw := bo_ hbw hc35;clear hc35;refine EL.pt rfl rfl rfl (EL.as rfl rfl (EL.nil (EX.seq (EC.ret ?_))))
        exact EX.done (res1 rfl rfl) ⟨rfl, hbw⟩
     ·
      have hE := QEL (least := least) hwn;have hEn : YS l least ≠ 0 := by rw [hE]; exact hwn
      have hR := QDQ hEn;refine EL.val (ZV (r := false) rfl rfl (decide_eq_false hwn)) rfl (EL.mv rfl rfl (EL.skip rfl rfl rfl rfl (EL.skip rfl rfl rfl rfl (EL.skip rfl rfl rfl rfl (EL.skip rfl rfl rfl rfl (EL.skip rfl rfl rfl rfl (EL.skip rfl rfl rfl rfl (EL.pf rfl rfl rfl (EL.nil ?_)))))))));refine EX.seq (EC.no rfl (EC.skip (EX.seq (EC.seq (EC.seq (EC.region (EL.mv rfl rfl (EL.val (Zl (r := true) rfl rfl (decide_eq_true hwn)) rfl (EL.nil ?_)))))))));refine EX.seq (EC.yes rfl (EC.seq (EC.region (EL.mv rfl rfl (EL.mv rfl rfl (EL.val (ZV (r := true) rfl rfl (decide_eq_true hE)) rfl (EL.mv rfl rfl (EL.valg rfl rfl (Zh rfl (q5.at (j := 0) rfl) (q5.at (j := 1) rfl)) rfl (EL.valg rfl rfl (QAg) rfl ?_)))))))));refine EL.valg rfl rfl (Yr rfl rfl (decide_eq_true ⟨by rw [hR], by rw [hR]⟩)) rfl ?_
      refine EL.pt rfl rfl rfl (EL.mv rfl rfl (EL.mg rfl rfl rfl rfl ?_));refine EL.valg rfl rfl (ZV (r := true) rfl rfl (decide_eq_true (by rw [hR]))) rfl ?_
      refine EL.pt rfl rfl rfl (EL.mv rfl rfl (EL.callg rfl rfl (cA0 cF10) rfl (Z5 _) ?_))
      rintro e w36 ⟨rfl, hc36⟩
      refine ⟨_, rfl, ?_⟩;replace q5 := q5.bl hc36;replace hin := own_below hin hc36 (Nat.le_refl _);replace hbw := bo_ hbw hc36;clear hc36;refine EL.pt rfl rfl rfl (EL.as rfl rfl (EL.nil (EX.seq (EC.ret (EX.seq_ret ?_)))))
      exact EX.done (res1 rfl rfl) ⟨rfl, hbw⟩
end Go.Proofs.Ytfgfenmaommclaa
