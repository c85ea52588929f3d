/- X13, HuKnown, ExX14, X14, ExX15, X15, ExX17, X17, ExX18, X18: what HullWearsProof needs of them (merged by trimpack.py). -/
import Derived.Test.YtfgfenmaommclaaWearsT4
set_option linter.unusedVariables false
set_option linter.unusedSimpArgs false
set_option linter.constructorNameAsVariable false
namespace Go.Proofs.Ytfgfenmaommclaa
open Go Go.RowKit
theorem OwnShip.c {w : World} {base g j : Nat} {h : Hul} {v hv u : Value} (hs : OwnShip w base g h v hv) (hj : (QGe h v hv)[j]? = some u) : w.cell? ⟨g, j, none⟩ = some u := (hs.box.cell j).trans hj
theorem OwnShip.typeN {w w' : World} {base g k T : Nat} {h : Hul} {v hv : Value} {cs : Array Value} (hs : OwnShip w base g h v hv) (hq : Blk w k T cs) (h1 : Nat.beq T 125 = false) (hn : hv.ownBlock ≠ some k) (hg : w.grownBy w' (some k)) : OwnShip w' base g h v hv :=
 ⟨hs.box.grown hg (fun e => by
  have e := Option.some.inj e;subst e;have h3 := hs.box
  unfold Blk at h3 hq
  rw [hq] at h3
  injection h3 with h3
  injection h3 with _ h4
  rw [h4] at h1
  simp at h1), hs.ge, YR hs.holds hn hg⟩
theorem QK7 {p : Pas} (h : sndE p = 0) : 0 ≤ (sndR p).lo ∧ (sndR p).lo ≤ 1000000 := by
 have h1 := QEP h;have e : sndR p = shUp p.rv p.sides p.way p.way.length := by
  have h0 : inB 0 500 p.keel = true := inB_iff.2 h1.keel;rw [sndE, if_pos h0] at h;rw [sndR, if_pos h0, Yv, if_pos h]
 rw [e]
 exact (QCc (startErr_ok h1.start).2 h1.pass (Nat.le_refl _)).1
set_option maxRecDepth 100000 in
set_option maxHeartbeats 1000000 in
theorem QGW (h : Hul) (hvv : Value) (hvs : List (Value × Value)) (w : World) (B : Nat) (hr : RdSecs w B hvv h.secs hvs) (hB : B ≤ w.heap.size) (hl : h.secs.length ≤ 1048576) (hfew : Zl h.secs) (d : Bd) (p : Pas) (q : PasV) (hp : RdPas w B p q) (hf : PasFew p) :
  Calls Try.prog 16 #[.agg #[.int .i64 h.lot, hvv], .agg #[.int .i64 d.lo, .int .i64 d.hi], pasA p q] w fun e w' => (∃ v_, e = .returned (.tuple #[.agg #[v_, .int .i64 (advR h d p).lots, .int .i64 (advR h d p).cause, .int .i64 (advR h d p).pass, .int .i64 (advR h d p).hour], .int .i64 (advE h d p)]) ∧ w'.ownsRow w.heap.size 3 1 v_ (advR h d p).load.length (ints (advR h d p).load)) ∧ Below w.heap.size w w' := by
 obtain ⟨Ahh, chh, rfl⟩ := hr.shape;obtain ⟨v, u, s, vl, vs_, ss⟩ := q;obtain ⟨Av, cv, ev_, _⟩ := hp.river.reaches.shape;obtain ⟨Au, cu, eu_, _⟩ := hp.river.shoals.shape;obtain ⟨As, cs, es_, _⟩ := hp.sides.rd.shape;obtain ⟨Al, cl, el_, _⟩ := hp.way.shape
 dsimp only at ev_ eu_ es_ el_
 subst ev_ eu_ es_ el_
 unfold pasA
 dsimp only
 have hbw := Below.refl w.heap.size w;refine EC.enter 94 Try.func16 rfl rfl rfl (EC.seq (EC.region (EL.newP (QCT rfl) rfl ?_)));intro g1 w1 q1 hb1 hg1 hl1;have bhbw_1 := Nat.le_trans hbw.size hg1;replace hbw := bo_ hbw hb1;clear hb1 hg1 hl1;refine EL.newP (QBx rfl) rfl ?_;intro g2 w2 q2 hb2 hg2 hl2;have n1_2 := q1.na hg2;have bhbw_2 := Nat.le_trans hbw.size hg2;replace q1 := q1.bl hb2;replace hbw := bo_ hbw hb2;clear hb2 hg2 hl2;refine EL.newP (QHE rfl) rfl ?_;intro g3 w3 q3 hb3 hg3 hl3;have n1_3 := q1.na hg3;have n2_3 := q2.na hg3;have bhbw_3 := Nat.le_trans hbw.size hg3;replace q1 := q1.bl hb3;replace q2 := q2.bl hb3;replace hbw := bo_ hbw hb3;clear hb3 hg3 hl3;refine EL.newP QKw rfl ?_;intro g4 w4 q4 hb4 hg4 hl4;have n1_4 := q1.na hg4;have n2_4 := q2.na hg4;have n3_4 := q3.na hg4;have bhbw_4 := Nat.le_trans hbw.size hg4;replace q1 := q1.bl hb4;replace q2 := q2.bl hb4;replace q3 := q3.bl hb4;replace hbw := bo_ hbw hb4;clear hb4 hg4 hl4;refine EL.as rfl rfl (EL.nil (EX.seq (EC.seq (EC.region (EL.val (QBj rfl (q1.at (j := 0) rfl) (q1.at (j := 1) rfl)) rfl ?_)))))
 cases hhul : hulB h
 ·
  refine EL.call (cA1 cF39 rfl) rfl (QBm hhul _ _ _ B (hr.below (hbw.mono hB)) (Nat.le_trans hB hbw.size) hl hfew) ?_
  rintro e w5 ⟨rfl, hc5⟩
  refine ⟨_, rfl, ?_⟩;replace q1 := q1.bl hc5;replace q2 := q2.bl hc5;replace q3 := q3.bl hc5;replace q4 := q4.bl hc5;replace hbw := bo_ hbw hc5;clear hc5;refine EL.mv rfl rfl (EL.xt rfl rfl rfl (EL.xt rfl rfl rfl (EL.as rfl rfl (EL.as rfl rfl (EL.nil (EX.seq (EC.seq (EC.block (EC.seq ?_)))))))));refine EC.region (EL.mv rfl rfl ?_);refine EL.val (Zq (r := true) rfl rfl (decide_eq_true (by decide))) rfl ?_
  refine EL.as rfl rfl (EL.nil (EX.seq (EC.yes rfl (EC.seq (EC.region (EL.val (QFT rfl (q4.at (j := 0) rfl) (q4.at (j := 1) rfl) (q4.at (j := 2) rfl) (q4.at (j := 3) rfl) (q4.at (j := 4) rfl)) rfl (EL.mv rfl rfl (EL.store rfl rfl q4 QCt rfl rfl rfl rfl ?_))))))));intro w6 hq6 hg6;replace q1 := q1.gr hg6 n1_4;replace q2 := q2.gr hg6 n2_4;replace q3 := q3.gr hg6 n3_4;replace hbw := ZC hbw hg6 bhbw_4;replace q4 := hq6;clear hg6 hq6;refine EL.as rfl rfl (EL.nil (EX.seq (EC.ret (EX.blk_ret (EX.seq_ret ?_)))))
  exact EX.done (Zy rfl rfl rfl (QD3 (q4.at (j := 0) rfl) (q4.at (j := 1) rfl) (q4.at (j := 2) rfl) (q4.at (j := 3) rfl) (q4.at (j := 4) rfl))) ⟨by rw [(QKz hhul).1, (QKz hhul).2]; exact ⟨_, rfl, own_nil _ _ _ _⟩, hbw⟩
 ·
  refine EL.call (cA1 cF39 rfl) rfl (QH1 hhul _ _ _ B (hr.below (hbw.mono hB)) (Nat.le_trans hB hbw.size) hl hfew) ?_
  rintro e w7 ⟨⟨g, hv, rfl, hs⟩, hc7⟩
  refine ⟨_, rfl, ?_⟩;replace q1 := q1.bl hc7;replace q2 := q2.bl hc7;replace q3 := q3.bl hc7;replace q4 := q4.bl hc7;replace hbw := bo_ hbw hc7;clear hc7;have hH := QBS hhul;obtain ⟨Ah, ch, rfl, _⟩ := (rd_of_own hs.holds).shape;have hmn := hH.arms.many;refine EL.mv rfl rfl (EL.xt rfl rfl rfl (EL.xt rfl rfl rfl (EL.as rfl rfl (EL.as rfl rfl (EL.nil (EX.seq (EC.seq (EC.block (EC.seq ?_)))))))));refine EC.region (EL.mv rfl rfl ?_);refine EL.val (Zq (r := false) rfl rfl (decide_eq_false (by decide))) rfl ?_
  refine EL.as rfl rfl (EL.nil (EX.seq (EC.no rfl (EC.seq (EC.region (EL.val (Zp rfl (q2.at (j := 0) rfl) (q2.at (j := 1) rfl)) rfl ?_))))))
  cases hden : denB d
  ·
   refine EL.call (cA1 cF40 rfl) rfl (QBk hden _) ?_
   rintro e w8 ⟨rfl, hc8⟩
   refine ⟨_, rfl, ?_⟩;replace q1 := q1.bl hc8;replace q2 := q2.bl hc8;replace q3 := q3.bl hc8;replace q4 := q4.bl hc8;replace hs := hs.below hc8;replace hbw := bo_ hbw hc8;clear hc8;refine EL.val (ZV rfl) rfl (EL.as rfl rfl (EL.nil (EX.seq (EC.yes rfl (EC.seq (EC.region (EL.val (QFT rfl (q4.at (j := 0) rfl) (q4.at (j := 1) rfl) (q4.at (j := 2) rfl) (q4.at (j := 3) rfl) (q4.at (j := 4) rfl)) rfl (EL.store rfl rfl q4 QCt rfl rfl rfl rfl ?_))))))));intro w9 hq9 hg9;replace q1 := q1.gr hg9 n1_4;replace q2 := q2.gr hg9 n2_4;replace q3 := q3.gr hg9 n3_4;replace hs := hs.type q4 rfl rfl hg9;replace hbw := ZC hbw hg9 bhbw_4;replace q4 := hq9;clear hg9 hq9;refine EL.as rfl rfl (EL.nil (EX.seq (EC.ret (EX.blk_ret (EX.seq_ret ?_)))))
   exact EX.done (Zy rfl rfl rfl (QD3 (q4.at (j := 0) rfl) (q4.at (j := 1) rfl) (q4.at (j := 2) rfl) (q4.at (j := 3) rfl) (q4.at (j := 4) rfl))) ⟨by rw [(QJl hhul hden).1, (QJl hhul hden).2]; exact ⟨_, rfl, own_nil _ _ _ _⟩, hbw⟩
  ·
   refine EL.call (cA1 cF40 rfl) rfl (QBk hden _) ?_
   rintro e w10 ⟨rfl, hc10⟩
   refine ⟨_, rfl, ?_⟩;replace q1 := q1.bl hc10;replace q2 := q2.bl hc10;replace q3 := q3.bl hc10;replace q4 := q4.bl hc10;replace hs := hs.below hc10;replace hbw := bo_ hbw hc10;clear hc10;refine EL.val (ZV rfl) rfl (EL.as rfl rfl (EL.nil (EX.seq (EC.no rfl (EC.skip (EX.blk (EX.seq (EC.seq (EC.region ?_)))))))));refine EL.val (QG3 rfl (q3.at (j := 0) rfl) (q3.at (j := 1) rfl) (q3.at (j := 2) rfl) (q3.at (j := 3) rfl) (q3.at (j := 4) rfl)) rfl (EL.call (cA1 cF41 rfl) rfl (QA3 p ⟨_, _, _, _, vs_, ss⟩ _ B (hp.below (hbw.mono hB)) (Nat.le_trans hB hbw.size) hf) ?_)
   rintro e w11 ⟨rfl, hc11⟩
   refine ⟨_, rfl, ?_⟩;replace q1 := q1.bl hc11;replace q2 := q2.bl hc11;replace q3 := q3.bl hc11;replace q4 := q4.bl hc11;replace hs := hs.below hc11;replace hbw := bo_ hbw hc11;clear hc11;refine EL.mv rfl rfl (EL.xt rfl rfl rfl (EL.xt rfl rfl rfl (EL.newP QDl rfl ?_)));intro g12 w12 q12 hb12 hg12 hl12;have n1_12 := q1.na hg12;have n2_12 := q2.na hg12;have n3_12 := q3.na hg12;have n4_12 := q4.na hg12;have bhbw_12 := Nat.le_trans hbw.size hg12;replace q1 := q1.bl hb12;replace q2 := q2.bl hb12;replace q3 := q3.bl hb12;replace q4 := q4.bl hb12;replace hs := hs.below hb12;replace hbw := bo_ hbw hb12;clear hb12 hg12 hl12;refine EL.store rfl rfl q12 QB3 rfl rfl rfl rfl ?_;intro w13 hq13 hg13;replace q1 := q1.gr hg13 n1_12;replace q2 := q2.gr hg13 n2_12;replace q3 := q3.gr hg13 n3_12;replace q4 := q4.gr hg13 n4_12;replace hs := hs.type q12 rfl rfl hg13;replace hbw := ZC hbw hg13 bhbw_12;replace q12 := hq13;clear hg13 hq13;refine EL.as rfl rfl (EL.nil (EX.seq (EC.seq (EC.seq (EC.region (EL.mv rfl rfl ?_))))))
   by_cases hS : sndE p ≠ 0
   ·
    refine EL.val (Zq (r := true) rfl rfl (decide_eq_true hS)) rfl (EL.nil (EX.seq (EC.yes rfl (EC.seq (EC.region (EL.val (QFT rfl (q4.at (j := 0) rfl) (q4.at (j := 1) rfl) (q4.at (j := 2) rfl) (q4.at (j := 3) rfl) (q4.at (j := 4) rfl)) rfl (EL.mv rfl rfl (EL.store rfl rfl q4 QCt rfl rfl rfl rfl ?_))))))));intro w14 hq14 hg14;replace q1 := q1.gr hg14 n1_4;replace q2 := q2.gr hg14 n2_4;replace q3 := q3.gr hg14 n3_4;replace q12 := q12.gr hg14 n4_12.symm;replace hs := hs.type q4 rfl rfl hg14;replace hbw := ZC hbw hg14 bhbw_4;replace q4 := hq14;clear hg14 hq14;refine EL.as rfl rfl (EL.nil (EX.seq (EC.ret (EX.seq_ret ?_))))
    exact EX.done (Zy rfl rfl rfl (QD3 (q4.at (j := 0) rfl) (q4.at (j := 1) rfl) (q4.at (j := 2) rfl) (q4.at (j := 3) rfl) (q4.at (j := 4) rfl))) ⟨by rw [(QKx hhul hden hS).1, (QKx hhul hden hS).2]; exact ⟨_, rfl, own_nil _ _ _ _⟩, hbw⟩
   ·
    have hS := Classical.not_not.1 hS;have hkb := QFA hS;have hlb := QK7 hS;refine EL.val (Zq (r := false) rfl rfl (decide_eq_false (fun h => h hS))) rfl ?_
    refine EL.nil (EX.seq (EC.no rfl (EC.skip (EX.seq (EC.seq (EC.seq (EC.region (EL.mv rfl rfl (EL.val (ZK rfl) rfl ?_)))))))));refine EL.val (Y8 rfl) rfl (EL.val (QAG rfl (hs.c (j := 2) rfl)) rfl (EL.val (QDK rfl) rfl (EL.mv rfl rfl (EL.nil (EX.seq (EC.block ?_))))));refine EC.loopD [11, 44, 45, 46, 47, 48, 49, 50, 51, 52, 53, 54] (fun k : Nat => [(44, .int .i64 (k : Nat))]) (fun k W => k ≤ (ZN h).length ∧ Blk W g2 25 #[.int .i64 d.lo, .int .i64 d.hi] ∧ Blk W g3 53 #[.slice Av p.rv.reaches.length cv, .slice Au p.rv.shoals.length cu, .slice As p.sides.length cs, .slice Al p.way.length cl, .int .i64 p.keel] ∧ Blk W g4 59 #[.slice none 0 0, .int .i64 (QBg h k), .int .i64 0, .int .i64 0, .int .i64 0] ∧ Blk W g12 120 #[.int .i64 (sndR p).lo, .int .i64 (sndR p).hi, .int .i64 (sndR p).pass, .int .i64 (sndR p).hour] ∧ OwnShip W w4.heap.size g h (.slice Ahh h.secs.length chh) (.slice Ah (ZN h).length ch) ∧ Below w.heap.size w W) (fun k => (ZN h).length - k) 0 ⟨Nat.zero_le _, q2, q3, q4, q12, hs, hbw⟩ ⟨rfl, trivial⟩ ?_
    clear q2 q3 q4 q12 hs hbw
    rintro k wk ⟨hk, q2, q3, q4, q12, hs, hbw⟩
    by_cases hltk : k < (ZN h).length
    ·
     obtain ⟨ba, oa, rfl, _, ca⟩ := YV (ZN h) k hltk _ _ _ _ _ (rd_of_own hs.holds);have hsu := QDF hltk;have hlk := QDG hH.arms k hk;have hxa := hH.arms.at_ _ (getD_mem (d := Z6) hltk);obtain ⟨x, ex⟩ : ∃ z, z = (ZN h).getD k Z6 := ⟨_, rfl⟩;rw [← ex] at ca hsu hxa;refine EC.seq (EC.region ?_);refine EL.val (ZO rfl rfl (decide_eq_true (show (((k : Nat) : Int) < (((ZN h).length : Nat) : Int)) by omega))) rfl ?_
     refine EL.nil (EX.seq (EC.seq (EC.yes rfl (EC.skip (EX.seq (EC.seq (EC.block (EC.seq (EC.region ?_)))))))));refine EL.val (QEg rfl rfl hltk) rfl (EL.val (QJB rfl ca.c0 ca.c1) rfl (EL.newP QJk rfl ?_));intro g15 w15 q15 hb15 hg15 hl15;have n2_15 := q2.na hg15;have n3_15 := q3.na hg15;have n4_15 := q4.na hg15;have n12_15 := q12.na hg15;have bhbw_15 := Nat.le_trans hbw.size hg15;have hn15 := own_ne hs.holds hg15;replace q2 := q2.bl hb15;replace q3 := q3.bl hb15;replace q4 := q4.bl hb15;replace q12 := q12.bl hb15;replace hs := hs.below hb15;replace hbw := bo_ hbw hb15;clear hb15 hg15 hl15;refine EL.store rfl rfl q15 QIO rfl rfl rfl rfl ?_;intro w16 hq16 hg16;replace q2 := q2.gr hg16 n2_15;replace q3 := q3.gr hg16 n3_15;replace q4 := q4.gr hg16 n4_15;replace q12 := q12.gr hg16 n12_15;replace hs := hs.typeN q15 rfl hn15 hg16;replace hbw := ZC hbw hg16 bhbw_15;replace q15 := hq16;clear hg16 hq16;refine EL.nil (EX.seq (EC.region (EL.val (Yl rfl) rfl (EL.val (ld_3 rfl (q4.at (j := 1) rfl)) rfl (EL.val (QBr rfl) rfl (EL.val (ld_3 rfl (q15.at (j := 1) rfl)) rfl ?_))))));refine EL.val (ZM rfl rfl (IntWalk.i64_in _ ⟨by omega, by omega⟩)) rfl ?_
     refine EL.val (Yl rfl) rfl (EL.store rfl rfl q4 sz_3 rfl rfl rfl rfl ?_);intro w17 hq17 hg17;replace q2 := q2.gr hg17 n2_4;replace q3 := q3.gr hg17 n3_4;replace q12 := q12.gr hg17 n4_12.symm;replace q15 := q15.gr hg17 n4_15.symm;replace hs := hs.type q4 rfl rfl hg17;replace hbw := ZC hbw hg17 bhbw_4;replace q4 := hq17;clear hg17 hq17;refine EL.nil (EX.blk (EX.seq (EC.region ?_)));refine EL.val (ZM rfl rfl (c := ((k + 1 : Nat) : Int)) ((IntWalk.i64_in _ ⟨by first | omega | (simp only; omega), by first | omega | (simp only; omega)⟩).trans (by first | omega | (simp only; omega)))) rfl ?_
     refine EL.mv rfl rfl (EL.nil ?_);refine EX.roundD (k + 1) ⟨rfl, trivial⟩ (by repeat first | with_reducible exact .refl _ | refine sp_ rfl ?_ | exact .refl _ | refine sd_ rfl ?_ | refine sn_ ?_) ⟨by omega, q2, q3, by rw [hsu]; exact q4, q12, hs, hbw⟩ (by omega)
    ·
     obtain rfl : k = (ZN h).length := by omega
     refine EC.seq (EC.region ?_);refine EL.val (ZO rfl rfl (decide_eq_false (show ¬((((ZN h).length : Nat) : Int) < (((ZN h).length : Nat) : Int)) by omega))) rfl ?_
     refine EL.nil (EX.seq (EC.seq (EC.no rfl (EC.exit (EX.seq_exit (EX.seq_exit (EX.blk_here (EX.seq (EC.seq ?_)))))))));refine EC.block ?_;have hlA := QDG hH.arms _ (Nat.le_refl (ZN h).length);have hLA : QBg h (ZN h).length = QDH h := rfl;rw [hLA] at hlA;have q6s : Blk wk g4 59 #[.slice none 0 0, .int .i64 ((((QDH h + 1).toNat : Nat) : Int) - 1), .int .i64 0, .int .i64 0, .int .i64 0] := by rw [show ((((QDH h + 1).toNat : Nat) : Int) - 1) = QDH h by omega]; exact q4
     refine EC.loopD [7, 12, 13, 14, 55, 56, 57, 58, 59, 60, 61, 62, 63, 64, 65, 66, 67, 68, 69, 70, 71, 72, 73, 74, 75, 76, 77, 78, 79, 80, 81, 82, 83, 84, 85, 86, 87, 88, 89, 90, 91, 92] (fun x : Nat × Int => []) (fun x W => x.1 ≤ 81 ∧ advB h d p = advJ h d ((sndR p).lo - p.keel) x.1 x.2 ∧ Blk W g2 25 #[.int .i64 d.lo, .int .i64 d.hi] ∧ Blk W g3 53 #[.slice Av p.rv.reaches.length cv, .slice Au p.rv.shoals.length cu, .slice As p.sides.length cs, .slice Al p.way.length cl, .int .i64 p.keel] ∧ Blk W g4 59 #[.slice none 0 0, .int .i64 (((x.1 : Nat) : Int) - 1), .int .i64 x.2, .int .i64 0, .int .i64 0] ∧ Blk W g12 120 #[.int .i64 (sndR p).lo, .int .i64 (sndR p).hi, .int .i64 (sndR p).pass, .int .i64 (sndR p).hour] ∧ OwnShip W w4.heap.size g h (.slice Ahh h.secs.length chh) (.slice Ah (ZN h).length ch) ∧ Below w.heap.size w W) (fun x => x.1) ((QDH h + 1).toNat, 0) ⟨by omega, rfl, q2, q3, q6s, q12, hs, hbw⟩ trivial ?_
     clear q6s q2 q3 q4 q12 hs hbw
     rintro ⟨j, ca⟩ wj ⟨hj, hadv, qD, qP, qA, qW, hs, hbw⟩
     dsimp only at hj hadv qA
     by_cases hlt : 0 < j
     ·
      obtain ⟨m, rfl⟩ : ∃ m, j = m + 1 := ⟨j - 1, by omega⟩
      have em : (((m + 1 : Nat) : Int) - 1) = ((m : Nat) : Int) := by omega
      rw [em] at qA;refine EC.seq (EC.seq (EC.region (EL.val (Yl rfl) rfl (EL.val (ld_3 rfl (qA.at (j := 1) rfl)) rfl ?_))));refine EL.val (QAA (r := true) rfl rfl (decide_eq_true (by omega))) rfl ?_
      refine EL.nil (EX.seq (EC.yes rfl (EC.skip (EX.seq (EC.seq (EC.block (EC.seq (EC.region (EL.mv rfl rfl ?_)))))))));refine EL.val (Yl rfl) rfl (EL.val (ld_3 rfl (qA.at (j := 1) rfl)) rfl (EL.val (Zp rfl (qD.at (j := 0) rfl) (qD.at (j := 1) rfl)) rfl (EL.val (QAv rfl) rfl (EL.val (ZS rfl) rfl (EL.val (ld_3 rfl (qW.at (j := 0) rfl)) rfl (EL.val (QBq rfl) rfl (EL.val (ld_3 rfl (qP.at (j := 4) rfl)) rfl ?_)))))));refine EL.val (Z4 rfl rfl (IntWalk.i64_in _ ⟨by omega, by omega⟩)) rfl ?_
      refine EL.call (cA4 cF42 rfl rfl rfl rfl) rfl (QJa hH _ _ hvs g _ _ (hs.rd (hr.below (hbw.mono hB)) (Nat.le_trans hB hbw.size)) (Nat.le_refl _) ((m : Nat) : Int) (by omega) d hden ((sndR p).lo - p.keel)) ?_
      rintro e w18 ⟨⟨vb, rfl, hob⟩, hc18⟩
      refine ⟨_, rfl, ?_⟩;replace hob := own_less hob hbw.size;obtain ⟨Ab, cb_, rfl, _⟩ := (Rd.of_own hob).shape;replace qD := qD.bl hc18;replace qP := qP.bl hc18;replace qA := qA.bl hc18;replace qW := qW.bl hc18;replace hs := hs.below hc18;replace hbw := bo_ hbw hc18;clear hc18;refine EL.mv rfl rfl (EL.xt rfl rfl rfl (EL.xt rfl rfl rfl (EL.xt rfl rfl rfl (EL.as rfl rfl (EL.as rfl rfl (EL.as rfl rfl (EL.nil (EX.seq (EC.seq ?_)))))))));refine EC.seq ?_
      cases hhas : (Zn h d ((sndR p).lo - p.keel) ((m : Nat) : Int)).has
      ·
       refine EC.region (EL.mv rfl rfl (EL.nil (EX.seq (EC.no rfl (EC.skip (EX.seq (EC.seq (EC.region (EL.val (QCk rfl) rfl ?_)))))))));refine EL.store rfl rfl qA QKj rfl rfl rfl rfl ?_;intro w19 hq19 hg19;replace qD := qD.gr hg19 n2_4;replace qP := qP.gr hg19 n3_4;replace qW := qW.gr hg19 n4_12.symm;replace hs := hs.type qA rfl rfl hg19;replace hob := ZF hob qA rfl hg19;replace hbw := ZC hbw hg19 bhbw_4;replace qA := hq19;clear hg19 hq19;refine EL.nil (EX.seq (EC.seq ?_))
       cases hflo : (Zn h d ((sndR p).lo - p.keel) ((m : Nat) : Int)).flo
       ·
        refine EC.region (EL.mv rfl rfl (EL.nil (EX.seq (EC.no rfl (EC.skip (EX.blk (EX.seq (EC.region (EL.val (Yl rfl) rfl ?_)))))))));refine EL.val (ld_3 rfl (qA.at (j := 1) rfl)) rfl ?_;refine EL.val (Z4 rfl rfl (c := ((m : Nat) : Int) - 1) (IntWalk.i64_in _ ⟨by omega, by omega⟩)) rfl ?_
        refine EL.val (Yl rfl) rfl (EL.store rfl rfl qA sz_3 rfl rfl rfl rfl ?_);intro w20 hq20 hg20;replace qD := qD.gr hg20 n2_4;replace qP := qP.gr hg20 n3_4;replace qW := qW.gr hg20 n4_12.symm;replace hs := hs.type qA rfl rfl hg20;replace hob := ZF hob qA rfl hg20;replace hbw := ZC hbw hg20 bhbw_4;replace qA := hq20;clear hg20 hq20;refine EL.nil ?_;refine EX.roundD (m, 2) trivial (by repeat first | with_reducible exact .refl _ | refine sp_ rfl ?_ | exact .refl _ | refine sd_ rfl ?_ | refine sn_ ?_) ⟨by omega, by rw [hadv, Yd hhas, hflo]; rfl, qD, qP, qA, qW, hs, hbw⟩ (by simp only; omega)
       ·
        refine EC.region (EL.mv rfl rfl (EL.nil (EX.seq (EC.yes rfl (EC.region (EL.val (QCk rfl) rfl (EL.store rfl rfl qA QKj rfl rfl rfl rfl ?_)))))));intro w21 hq21 hg21;replace qD := qD.gr hg21 n2_4;replace qP := qP.gr hg21 n3_4;replace qW := qW.gr hg21 n4_12.symm;replace hs := hs.type qA rfl rfl hg21;replace hob := ZF hob qA rfl hg21;replace hbw := ZC hbw hg21 bhbw_4;replace qA := hq21;clear hg21 hq21;refine EL.nil (EX.blk (EX.seq (EC.region (EL.val (Yl rfl) rfl (EL.val (ld_3 rfl (qA.at (j := 1) rfl)) rfl ?_)))));refine EL.val (Z4 rfl rfl (c := ((m : Nat) : Int) - 1) (IntWalk.i64_in _ ⟨by omega, by omega⟩)) rfl ?_
        refine EL.val (Yl rfl) rfl (EL.store rfl rfl qA sz_3 rfl rfl rfl rfl ?_);intro w22 hq22 hg22;replace qD := qD.gr hg22 n2_4;replace qP := qP.gr hg22 n3_4;replace qW := qW.gr hg22 n4_12.symm;replace hs := hs.type qA rfl rfl hg22;replace hob := ZF hob qA rfl hg22;replace hbw := ZC hbw hg22 bhbw_4;replace qA := hq22;clear hg22 hq22;refine EL.nil ?_;refine EX.roundD (m, 1) trivial (by repeat first | with_reducible exact .refl _ | refine sp_ rfl ?_ | exact .refl _ | refine sd_ rfl ?_ | refine sn_ ?_) ⟨by omega, by rw [hadv, Yd hhas, hflo]; rfl, qD, qP, qA, qW, hs, hbw⟩ (by simp only; omega)
      ·
       refine EC.region (EL.mv rfl rfl (EL.nil (EX.seq (EC.yes rfl (EC.seq (EC.region (EL.mv rfl rfl (EL.val (QEl rfl) rfl (EL.store rfl rfl qA QDx rfl rfl rfl rfl ?_)))))))));intro w23 hq23 hg23;replace qD := qD.gr hg23 n2_4;replace qP := qP.gr hg23 n3_4;replace qW := qW.gr hg23 n4_12.symm;replace hs := hs.type qA rfl rfl hg23;replace hob := ZF hob qA rfl hg23;replace hbw := ZC hbw hg23 bhbw_4;replace qA := hq23;clear hg23 hq23;refine EL.nil (EX.seq (EC.seq (EC.seq (EC.region (EL.val (QCk rfl) rfl (EL.val (QKm rfl (qA.at (j := 2) rfl)) rfl ?_))))))
       by_cases hca : ca = 1
       ·
        refine EL.val (Zg (r := true) rfl rfl (decide_eq_true hca)) rfl (EL.nil (EX.seq (EC.yes rfl ?_)));refine EC.regionS [[], [0], [], [2], [0, 1], [0, 1, 4], [0, 1, 2, 3, 4, 5], [0, 1, 2, 3, 4, 5, 6]] 8 [] [5, 7] (fun fl w_ => w23.grownBy w_ (some g4) ∧ (fl 5 = false → Blk w_ g4 59 #[.slice Ab (Zn h d ((sndR p).lo - p.keel) ((m : Nat) : Int)).best.length cb_, .int .i64 ((m : Nat) : Int), .int .i64 ca, .int .i64 0, .int .i64 0])) (phiS (fun i_ r => match i_ with | 0 => r 0 = .pointer (some ⟨g12, 2, none⟩) | 1 => r 1 = .int .i64 (sndR p).pass | 2 => r 2 = .pointer (some ⟨g12, 3, none⟩) | 3 => r 3 = .int .i64 (sndR p).hour | 4 => r 4 = .pointer (some ⟨g4, 3, none⟩) | 6 => r 6 = .pointer (some ⟨g4, 4, none⟩) | _ => True) [(5, fun fl _ w_ => fl 5 = true ∧ (fl 7 = false → Blk w_ g4 59 #[.slice Ab (Zn h d ((sndR p).lo - p.keel) ((m : Nat) : Int)).best.length cb_, .int .i64 ((m : Nat) : Int), .int .i64 ca, .int .i64 (sndR p).pass, .int .i64 0])), (7, fun fl _ w_ => fl 7 = true ∧ Blk w_ g4 59 #[.slice Ab (Zn h d ((sndR p).lo - p.keel) ((m : Nat) : Int)).best.length cb_, .int .i64 ((m : Nat) : Int), .int .i64 ca, .int .i64 (sndR p).pass, .int .i64 (sndR p).hour])]) (by kernel_rfl) rfl rfl (by intro i hi; simp at hi; rcases hi with rfl | rfl <;> exact ⟨by simp, by omega⟩) (QB0 qA) (ZU (fun _ _ _ _ hb ⟨h1, h2⟩ => ⟨h1, fun h => (h2 h).below hb (h2 h).lt⟩) (ZU (fun _ _ _ _ hb ⟨h1, h2⟩ => ⟨h1, h2.below hb h2.lt⟩) (YZ))) (fun i_ hi_ hs_ => ?_) (fun i_ hi_ => ?_) ?_
        ·match i_, hi_ with
         | 0, _ =>
          intro val fl w1 a hb ha hd hfl;obtain ⟨hgb, hz0_⟩ := hb;have ha := ha.s0 (d := 9) rfl
          exact ZJ ha rfl rfl (QDZ rfl) rfl rfl
         | 1, _ =>
          intro val fl w1 a hb ha hd hfl;obtain ⟨hgb, hz0_⟩ := hb;have e0 : val 0 = _ := hd 0 (ZA.1 rfl);have ha := ha.s1 (d := 83) rfl e0
          exact ZJ ha rfl rfl (ld_3 rfl ((qW.grown hgb (fun h => n4_12.symm (Option.some.inj h))).at (j := 2) rfl)) rfl rfl
         | 2, _ =>
          intro val fl w1 a hb ha hd hfl;obtain ⟨hgb, hz0_⟩ := hb;have ha := ha.s0 (d := 9) rfl
          exact ZJ ha rfl rfl (QDY rfl) rfl rfl
         | 3, _ =>
          intro val fl w1 a hb ha hd hfl;obtain ⟨hgb, hz0_⟩ := hb;have e2 : val 2 = _ := hd 2 (ZA.1 rfl);have ha := ha.s1 (d := 85) rfl e2
          exact ZJ ha rfl rfl (ld_3 rfl ((qW.grown hgb (fun h => n4_12.symm (Option.some.inj h))).at (j := 3) rfl)) rfl rfl
         | 4, _ =>
          intro val fl w1 a hb ha hd hfl;obtain ⟨hgb, hz0_⟩ := hb;have ha := ha.s0 (d := 6) rfl
          exact ZJ ha rfl rfl (QKH rfl) rfl rfl
         | 5, _ =>
          exact absurd (by simp) hs_
         | 6, _ =>
          intro val fl w1 a hb ha hd hfl;obtain ⟨hgb, hz0_⟩ := hb;have ha := ha.s0 (d := 6) rfl
          exact ZJ ha rfl rfl (QKG rfl) rfl rfl
         | 7, _ =>
          exact absurd (by simp) hs_
         | k + 8, h => exact absurd h (by omega)
        ·simp only [List.mem_cons, List.not_mem_nil, or_false] at hi_
         rcases hi_ with rfl | rfl
         ·
          intro val fl w1 a hb hfi ha hd hfl;obtain ⟨hgb, hz0_⟩ := hb;have e4 : val 4 = _ := hd 4 (ZA.1 rfl);have e1 : val 1 = _ := hd 1 (ZA.1 rfl);have ha := ha.s2 (d := 84) (e := 87) rfl e1 rfl e4;refine YD ha rfl rfl rfl (hz0_ hfi) sz_3 rfl rfl rfl rfl ?_;intro w' hq hgr;refine ⟨undef, rfl, hgr.size, ⟨QAL hgb hgr, fun h => by rw [Zs] at h; cases h⟩, ⟨Zs, fun _ => hq⟩, fun j _ hj hn hA => ?_⟩
          exact ZG (C := fun j => j ≠ 5 ∧ 5 ∉ clsAt [[], [0], [], [2], [0, 1], [0, 1, 4], [0, 1, 2, 3, 4, 5], [0, 1, 2, 3, 4, 5, 6]] j) (fun hc => absurd rfl hc.1) (ZG (fun hc => absurd (ZA.1 rfl) hc.2) (fun _ _ h => h)) j ⟨hj, hn⟩
         ·
          intro val fl w1 a hb hfi ha hd hfl;obtain ⟨hgb, hz0_⟩ := hb;have e6 : val 6 = _ := hd 6 (ZA.1 rfl);have e3 : val 3 = _ := hd 3 (ZA.1 rfl);have ha := ha.s2 (d := 86) (e := 88) rfl e3 rfl e6;obtain ⟨ht0_, hp0_⟩ := hd 5 (ZA.1 rfl);refine YD ha rfl rfl rfl (hp0_ hfi) sz_3 rfl rfl rfl rfl ?_;intro w' hq hgr;refine ⟨undef, rfl, hgr.size, ⟨QAL hgb hgr, fun h => by rw [Yj rfl, ht0_] at h; cases h⟩, ⟨Zs, hq⟩, fun j _ hj hn hA => ?_⟩
          exact ZG (C := fun j => j ≠ 7 ∧ 7 ∉ clsAt [[], [0], [], [2], [0, 1], [0, 1, 4], [0, 1, 2, 3, 4, 5], [0, 1, 2, 3, 4, 5, 6]] j) (fun _ ⟨h1, _⟩ => ⟨by rw [Yj rfl]; exact h1, fun h => by rw [Zs] at h; cases h⟩) (ZG (fun hc => absurd rfl hc.1) (fun _ _ h => h)) j ⟨hj, hn⟩
        ·intro val fl wR20 hfl hb halc hd
         obtain ⟨hgb, _⟩ := hb;have hz_ := (hd 7 (by omega)).2
         change Blk wR20 g4 59 #[.slice Ab (Zn h d ((sndR p).lo - p.keel) ((m : Nat) : Int)).best.length cb_, .int .i64 ((m : Nat) : Int), .int .i64 ca, .int .i64 (sndR p).pass, .int .i64 (sndR p).hour] at hz_;have e0 : val 0 = _ := hd 0 (by omega)
         have e1 : val 1 = _ := hd 1 (by omega)
         have e2 : val 2 = _ := hd 2 (by omega)
         have e3 : val 3 = _ := hd 3 (by omega)
         have e4 : val 4 = _ := hd 4 (by omega)
         have e6 : val 6 = _ := hd 6 (by omega)
         refine EL.ends (cs := [_, _, _, _, _, val 5, _, val 7]) ⟨e0, e1, e2, e3, e4, rfl, e6, rfl, trivial⟩ rfl ?_;replace qD := qD.gr hgb n2_4;replace qP := qP.gr hgb n3_4;replace qW := qW.gr hgb n4_12.symm;replace hs := hs.type qA rfl rfl hgb;replace hob := ZF hob qA rfl hgb;replace hbw := ZC hbw hgb bhbw_4;replace qA := hz_;clear hgb hz_;refine EL.nil (EX.seq (EC.seq (EC.region (EL.val (QFT rfl (qA.at (j := 0) rfl) (qA.at (j := 1) rfl) (qA.at (j := 2) rfl) (qA.at (j := 3) rfl) (qA.at (j := 4) rfl)) rfl (EL.store rfl rfl qA QCt rfl rfl rfl rfl ?_)))));intro w24 hq24 hg24;replace qD := qD.gr hg24 n2_4;replace qP := qP.gr hg24 n3_4;replace qW := qW.gr hg24 n4_12.symm;replace hs := hs.type qA rfl rfl hg24;replace hob := ZF hob qA rfl hg24;replace hbw := ZC hbw hg24 bhbw_4;replace qA := hq24;clear hg24 hq24;refine EL.as rfl rfl (EL.nil (EX.seq (EC.ret (EX.seq_ret (EX.blk_ret (EX.seq_ret (EX.seq_ret (EX.blk_ret (EX.seq_ret ?_)))))))))
         exact EX.done (Zy rfl rfl rfl (QD3 (qA.at (j := 0) rfl) (qA.at (j := 1) rfl) (qA.at (j := 2) rfl) (qA.at (j := 3) rfl) (qA.at (j := 4) rfl))) ⟨by rw [(QFu hhul hden hS (hadv.trans (QAy hhas))).1, (QFu hhul hden hS (hadv.trans (QAy hhas))).2]; rw [if_pos hca, if_pos hca]; exact ⟨_, rfl, hob⟩, hbw⟩
       ·
        refine EL.val (Zg (r := false) rfl rfl (decide_eq_false hca)) rfl (EL.nil (EX.seq (EC.no rfl (EC.skip (EX.seq (EC.seq (EC.region (EL.val (QFT rfl (qA.at (j := 0) rfl) (qA.at (j := 1) rfl) (qA.at (j := 2) rfl) (qA.at (j := 3) rfl) (qA.at (j := 4) rfl)) rfl (EL.store rfl rfl qA QCt rfl rfl rfl rfl ?_)))))))));intro w25 hq25 hg25;replace qD := qD.gr hg25 n2_4;replace qP := qP.gr hg25 n3_4;replace qW := qW.gr hg25 n4_12.symm;replace hs := hs.type qA rfl rfl hg25;replace hob := ZF hob qA rfl hg25;replace hbw := ZC hbw hg25 bhbw_4;replace qA := hq25;clear hg25 hq25;refine EL.as rfl rfl (EL.nil (EX.seq (EC.ret (EX.seq_ret (EX.blk_ret (EX.seq_ret (EX.seq_ret (EX.blk_ret (EX.seq_ret ?_)))))))))
        exact EX.done (Zy rfl rfl rfl (QD3 (qA.at (j := 0) rfl) (qA.at (j := 1) rfl) (qA.at (j := 2) rfl) (qA.at (j := 3) rfl) (qA.at (j := 4) rfl))) ⟨by rw [(QFu hhul hden hS (hadv.trans (QAy hhas))).1, (QFu hhul hden hS (hadv.trans (QAy hhas))).2]; rw [if_neg hca, if_neg hca]; exact ⟨_, rfl, hob⟩, hbw⟩
     ·
      obtain rfl : j = 0 := by omega
      refine EC.seq (EC.seq (EC.region (EL.val (Yl rfl) rfl (EL.val (ld_3 rfl (qA.at (j := 1) rfl)) rfl ?_))));refine EL.val (QAA (r := false) rfl rfl (decide_eq_false (by omega))) rfl ?_
      refine EL.nil (EX.seq (EC.no rfl (EC.exit (EX.seq_exit (EX.seq_exit (EX.blk_here (EX.seq (EC.seq (EC.region ?_)))))))));refine EL.val (QLS) rfl (EL.store rfl rfl qA QCt rfl rfl rfl rfl ?_);intro w26 hq26 hg26;replace qD := qD.gr hg26 n2_4;replace qP := qP.gr hg26 n3_4;replace qW := qW.gr hg26 n4_12.symm;replace hs := hs.type qA rfl rfl hg26;replace hbw := ZC hbw hg26 bhbw_4;replace qA := hq26;clear hg26 hq26;refine EL.as rfl rfl (EL.nil (EX.seq (EC.ret ?_)))
      exact EX.done (Zy rfl rfl rfl (QD3 (qA.at (j := 0) rfl) (qA.at (j := 1) rfl) (qA.at (j := 2) rfl) (qA.at (j := 3) rfl) (qA.at (j := 4) rfl))) ⟨by rw [(QKy hhul hden hS hadv).1, (QKy hhul hden hS hadv).2]; exact ⟨_, rfl, own_nil _ _ _ _⟩, hbw⟩
def sTwo : Sec := ⟨30, 100, 50, [⟨0, 0⟩, ⟨100, 300⟩, ⟨300, 900⟩], [⟨15, 4⟩]⟩
def hTwo : Hul := ⟨100, [sTwo, sTwo]⟩
def still : Bd := ⟨1000, 1000⟩
def rPas : River := ⟨[⟨100, 2, ⟨1000, 1000⟩, [⟨0, 100⟩, ⟨10000, 300⟩], 0, ⟨50, 60⟩, 400⟩, ⟨50, 1, ⟨2000, 2000⟩, [⟨0, 0⟩, ⟨20000, 400⟩], 150, ⟨20, 20⟩, 160⟩], [⟨120, ⟨40, 50⟩, 0, ⟨0, 12⟩⟩]⟩
def pPas : Pas := ⟨rPas, [[⟨2000, 3000⟩, ⟨2000, 3000⟩, ⟨2000, 3000⟩, ⟨2000, 3000⟩], [⟨500, 500⟩, ⟨500, 500⟩, ⟨500, 500⟩, ⟨500, 500⟩]], [⟨10, ⟨0, 1⟩⟩, ⟨120, ⟨2, 3⟩⟩], 20⟩
theorem QKA {p : Nat → Bool} {n r : Nat} (hu : UpB p n) (hr : r < n) (h1 : p r = true) (h2 : r = 0 ∨ p (r - 1) = false) : fstN p n = r := by
 refine (QKB (by omega) (fun i hi => ?_) fun _ => h1).symm
 cases e : p i with
 | false => rfl
 | true =>
  rcases h2 with h2 | h2
  ·omega
  ·rw [hu i (r - 1) (by omega) (by omega) e] at h2; cases h2
theorem QA0 : hulB hTwo = true := by decide
theorem QEJ : HulOk hTwo := QBS QA0
theorem QEK : limH hTwo = 300 := by decide
theorem QE7 : ZN hTwo = [⟨-30, 4⟩, ⟨30, 4⟩] := rfl
theorem Yo {n need : Int} {r : Nat} (hn : QBH hTwo n 1000 = need) (hr : r < 301) (h1 : decide (need ≤ volH hTwo r) = true) (h2 : r = 0 ∨ decide (need ≤ volH hTwo ((r - 1 : Nat) : Int)) = false) : meanN hTwo n 1000 = r := by
 unfold meanN
 rw [hn];have e : (limH hTwo + 1).toNat = 301 := by rw [QEK]; rfl
 exact QKA (up_vol QEJ need) (by omega) h1 h2
theorem QIv : meanN hTwo 1 1000 = 50 := Yo (need := 300) (by decide) (by omega) (by decide) (.inr (by decide))
theorem QIu : meanN hTwo 2 1000 = 67 := Yo (need := 400) (by decide) (by omega) (by decide) (.inr (by decide))
theorem QLH : meanN hTwo 3 1000 = 84 := Yo (need := 500) (by decide) (by omega) (by decide) (.inr (by decide))
theorem QIt : meanN hTwo 4 1000 = 100 := Yo (need := 600) (by decide) (by omega) (by decide) (.inr (by decide))
theorem QLG : meanN hTwo 5 1000 = 117 := Yo (need := 700) (by decide) (by omega) (by decide) (.inr (by decide))
theorem QLF : meanN hTwo 6 1000 = 134 := Yo (need := 800) (by decide) (by omega) (by decide) (.inr (by decide))
theorem QLE : meanN hTwo 7 1000 = 150 := Yo (need := 900) (by decide) (by omega) (by decide) (.inr (by decide))
theorem QLD : meanN hTwo 8 1000 = 167 := Yo (need := 1000) (by decide) (by omega) (by decide) (.inr (by decide))
theorem QCZ {l : List Int} {m : Nat} {t hd : Int} (hm : meanN hTwo (sumI l) 1000 = m) (ht : Zm hTwo l = t) (hh : Yt (momT hTwo l) = hd) : fltT hTwo l still = ⟨⟨m, m⟩, ⟨m + t, m + t⟩, hd⟩ := by
 unfold fltT
 rw [show still.hi = 1000 from rfl, show still.lo = 1000 from rfl, hm, ht, hh]
theorem QJM : fltT hTwo [3, 1] still = ⟨⟨100, 100⟩, ⟨115, 115⟩, -1⟩ := QCZ (m := 100) (t := 15) QIt (by decide) (by decide)
theorem QDU : fltT hTwo [1, 1] still = ⟨⟨67, 67⟩, ⟨67, 67⟩, 0⟩ := QCZ (m := 67) (t := 0) QIu (by decide) (by decide)
theorem QJO : fltT hTwo [0, 1] still = ⟨⟨50, 50⟩, ⟨58, 58⟩, 1⟩ := QCZ (m := 50) (t := 8) QIv (by decide) (by decide)
theorem QJN : fltT hTwo [1, 0] still = ⟨⟨50, 50⟩, ⟨58, 58⟩, -1⟩ := QCZ (m := 50) (t := 8) QIv (by decide) (by decide)
theorem QC8 {l : List Int} {f : Flt} (hf : fltT hTwo l still = f) (h : decide (f.deep.hi ≤ 300) = true) : Yf hTwo l still = true := by
 unfold Yf
 rw [hf, QEK]
 exact h
theorem QGy : LoadIs hTwo [3, 1] still := ⟨QA0, by decide, by decide, by decide, QC8 QJM (by decide)⟩
theorem QJ6 : LoadIs hTwo [1, 1] still := ⟨QA0, by decide, by decide, by decide, QC8 QDU (by decide)⟩
theorem LoadIs.e {h : Hul} {l : List Int} {d : Bd} (h0 : LoadIs h l d) : Z8 h l d = 0 := (QEY h0.hul h0.len h0.fits h0.den h0.ok).1
theorem QGZ : volE hTwo 150 = 0 ∧ volF hTwo 150 = 900 := by
 have h1 := QIJ (h := hTwo) (d := 150) QA0 (by rw [QEK]; decide)
 exact ⟨h1.1, h1.2.trans (by decide)⟩
theorem QDv : Z8 hTwo [3, 1] still = 0 ∧ YH hTwo [3, 1] still = ⟨⟨100, 100⟩, ⟨115, 115⟩, -1⟩ := ⟨QGy.e, QGy.f.trans QJM⟩
theorem QAC : sndE pPas = 0 ∧ sndR pPas = ⟨80, 110, 0, 0⟩ := by
 constructor <;> kernel_rfl
theorem QAI : safE hTwo [1, 1] still pPas = 0 ∧ safS hTwo [1, 1] still pPas = false ∧ safP hTwo [1, 1] still pPas = true ∧ safA hTwo [1, 1] still pPas = 0 ∧ safH hTwo [1, 1] still pPas = 0 := by
 have h0 : safE hTwo [1, 1] still pPas = 0 := by rw [safE, if_pos QJ6.e]; exact QAC.1
 refine ⟨h0, ?_, ?_, ?_, ?_⟩
 ·rw [safS, h0, QAC.2, QDU]; rfl
 ·rw [safP, h0, QAC.2, QDU]; rfl
 ·rw [safA, if_pos h0, QAC.2]
 ·rw [safH, if_pos h0, QAC.2]
theorem QEL : cutE hTwo 0 1 = 0 ∧ (cutH hTwo 0 1).secs.length = 1 ∧ (cutH hTwo 0 1).lot = 100 := by
 have h := QJT (h := hTwo) (p := 0) (q := 1) QA0 (by decide) (by decide)
 exact ⟨h.1, by rw [h.2]; decide, by rw [h.2]; rfl⟩
def QGr : List Plate := [⟨⟨800, 820⟩, ⟨10, 15⟩⟩, ⟨⟨700, 700⟩, ⟨0, 4⟩⟩]
theorem QHS {r e : Int} (h : QAV hTwo [1, 1] still pPas r e) : r = 0 ∧ e = 7 := by
 rw [QAV, if_pos QAI.1] at h;obtain ⟨k, h1, h2⟩ := h;have hn : (fltT hTwo [1, 1] still).deep.hi + pPas.keel = 87 := by rw [QDU]; rfl
 rw [hn] at h1 h2;have z0 : sndE (pPas.later ((0 : Nat) : Int)) = 0 := by kernel_rfl
 have z1 : (sndR (pPas.later ((0 : Nat) : Int))).lo = 80 := by kernel_rfl
 have z2 : sndE (pPas.later ((1 : Nat) : Int)) = 3 := by kernel_rfl
 rcases k with _ | _ | k
 ·rcases h2 with ⟨h3, _⟩ | ⟨_, h3, _⟩
  ·exact absurd z0 h3
  ·rw [z1] at h3; omega
 ·rcases h2 with ⟨_, h3⟩ | ⟨h3, _⟩
  ·exact h3
  ·rw [z2] at h3; omega
 ·have := (h1 1 (by omega)).1
  rw [z2] at this
  omega
/-! ### What is advised -/
theorem QHR {n : Int} {l : List Int} (hn : 0 ≤ n) (hl : l ∈ loadsL (ZN hTwo) n) : (l.length = (ZN hTwo).length ∧ Z0 (ZN hTwo) l = true) ∧ sumI l = n :=
 (QA9 hn fun x hx => (QEJ.arms.at_ x hx).2.1).1 hl
theorem QIN {n : Int} {m : Nat} {l : List Int} (hn : 0 ≤ n) (hm : meanN hTwo n 1000 = m) (hl : l ∈ loadsL (ZN hTwo) n) : (m : Int) ≤ (fltT hTwo l still).deep.hi := by
 have h1 := QHR hn hl;have h2 := QEM QEJ ⟨QEJ.arms, h1.1.1, h1.1.2⟩;have e : (fltT hTwo l still).deep.hi = (meanN hTwo (sumI l) 1000 : Nat) + Zm hTwo l := rfl;rw [e, h1.2, hm]
 omega
theorem Y1 {n : Nat} {m : Nat} (hm : meanN hTwo ((n : Nat) : Int) 1000 = m) (h60 : 60 < m) : (Zn hTwo still 60 ((n : Nat) : Int)).has = false := by
 cases e : (Zn hTwo still 60 ((n : Nat) : Int)).has with
 | false => rfl
 | true =>
  obtain ⟨l, hl, hok⟩ := (QHG hTwo still 60 ((n : Nat) : Int)).has.1 e;have h1 := QIN (by omega) hm hl
  unfold okL at hok
  simp only [Bool.and_eq_true, decide_eq_true_eq] at hok
  omega
theorem QJr : (Zn hTwo still 60 2).flo = true := (QHG hTwo still 60 2).flo.2 ⟨[1, 1], by rw [QE7]; decide, QC8 QDU (by decide)⟩
theorem QE6 : (Zn hTwo still 60 1).has = true ∧ (Zn hTwo still 60 1).best = [0, 1] := by
 have e : loadsL (ZN hTwo) 1 = [[0, 1], [1, 0]] := by rw [QE7]; decide
 have o1 : okL hTwo still 60 [0, 1] = true := by unfold okL; rw [QC8 QJO (by decide), QJO]; rfl
 have o2 : okL hTwo still 60 [1, 0] = true := by unfold okL; rw [QC8 QJN (by decide), QJN]; rfl
 have m1 : absI (momT hTwo [0, 1]) = 3000 := by decide
 have m2 : absI (momT hTwo [1, 0]) = 3000 := by decide
 have b1 : Z_ hTwo still 60 bst0 [0, 1] = ⟨[0, 1], true, true, 3000⟩ := by
  unfold Z_
  rw [o1, if_neg (by decide), if_pos (.inl rfl), m1]
 have b2 : Z_ hTwo still 60 ⟨[0, 1], true, true, 3000⟩ [1, 0] = ⟨[0, 1], true, true, 3000⟩ := by
  unfold Z_
  rw [o2, if_neg (by decide), m2, if_neg (by simp)]
 have b : Zn hTwo still 60 1 = ⟨[0, 1], true, true, 3000⟩ := by
  unfold Zn
  rw [e, List.foldl_cons, List.foldl_cons, List.foldl_nil, b1, b2]
 rw [b]
 exact ⟨rfl, rfl⟩
theorem QGa : advE hTwo still pPas = 0 ∧ advR hTwo still pPas = ⟨[0, 1], 1, 1, 0, 0⟩ := by
 have hb : advB hTwo still pPas = some ([0, 1], 1, 1) := by
  unfold advB
  rw [QAC.2, show (80 : Int) - pPas.keel = 60 from rfl, show (QDH hTwo + 1).toNat = 9 by decide]
  rw [Yd (j := 8) (Y1 (m := 167) QLD (by omega)), Yd (j := 7) (Y1 (m := 150) QLE (by omega)), Yd (j := 6) (Y1 (m := 134) QLF (by omega)), Yd (j := 5) (Y1 (m := 117) QLG (by omega)), Yd (j := 4) (Y1 (m := 100) QIt (by omega)), Yd (j := 3) (Y1 (m := 84) QLH (by omega)), Yd (j := 2) (Y1 (m := 67) QIu (by omega))]
  rw [show (Zn hTwo still 60 ((2 : Nat) : Int)).flo = true from QJr, if_pos rfl, QAy (j := 1) (c := 1) QE6.1];rw [show (Zn hTwo still 60 ((1 : Nat) : Int)).best = [0, 1] from QE6.2]
  rfl
 have h := QFu (d := still) QA0 (by decide) QAC.1 hb
 refine ⟨h.1, h.2.trans ?_⟩;rw [if_pos rfl, if_pos rfl, QAC.2]
section
variable {n : Nat} {σ : Sg} {w : World} {dst : Option Tmp} {ty : TypeId} {pos : String} {af : Array Edge} {g : Option (Nat × Bool)} {x y z : Operand} {at' : Array TypeId}
theorem QDe {x0 x1 : Operand} {z0 : Int} {z1 : Int} (h0 : evS σ x0 = some (.int .i64 z0)) (h1 : evS σ x1 = some (.int .i64 z1)) : ZE Try.prog n σ w ⟨dst, .build 111 #[(0, x0), (1, x1)], ty, pos, af, g⟩ (.agg #[.int .i64 z0, .int .i64 z1]) := fun a ha => by
 simp only [execOp, List.map_toArray, List.map_cons, List.map_nil, ha.eval h0, ha.eval h1]
 go_simp
theorem QKP {x0 x1 x2 : Operand} {v0_0 v0_1 v1_0 v1_1 v2_0 v2_1 : Value} (h0 : evS σ x0 = some (.agg #[v0_0, v0_1])) (h1 : evS σ x1 = some (.agg #[v1_0, v1_1])) (h2 : evS σ x2 = some (.agg #[v2_0, v2_1]))  (a : Act) (ha : Env n σ a) : (execOp a.eval ⟨dst, .buildSlice 67 3 #[(0, x0), (1, x1), (2, x2)], ty, pos, af, g⟩).run Try.prog w = .ok (.value (.slice (some ⟨w.heap.size, 0, none⟩) 3 3)) (w.alloc (.cells #[v0_0, v0_1, v1_0, v1_1, v2_0, v2_1] 111)) := by
 simp only [execOp, List.map_toArray, List.map_cons, List.map_nil, ha.eval h0, ha.eval h1, ha.eval h2]
 go_simp
theorem QH9 {x0 x1 : Operand} {z0 : Int} {z1 : Int} (h0 : evS σ x0 = some (.int .i64 z0)) (h1 : evS σ x1 = some (.int .i64 z1)) : ZE Try.prog n σ w ⟨dst, .build 66 #[(0, x0), (1, x1)], ty, pos, af, g⟩ (.agg #[.int .i64 z0, .int .i64 z1]) := fun a ha => by
 simp only [execOp, List.map_toArray, List.map_cons, List.map_nil, ha.eval h0, ha.eval h1]
 go_simp
theorem QKN {x0 : Operand} {v0_0 v0_1 : Value} (h0 : evS σ x0 = some (.agg #[v0_0, v0_1]))  (a : Act) (ha : Env n σ a) : (execOp a.eval ⟨dst, .buildSlice 68 1 #[(0, x0)], ty, pos, af, g⟩).run Try.prog w = .ok (.value (.slice (some ⟨w.heap.size, 0, none⟩) 1 1)) (w.alloc (.cells #[v0_0, v0_1] 66)) := by
 simp only [execOp, List.map_toArray, List.map_cons, List.map_nil, ha.eval h0]
 go_simp
theorem QCY {x0 x1 x2 x3 x4 : Operand} {z0 : Int} {z1 : Int} {z2 : Int} {A3 : Option Addr} {m3 : Nat} {c3 : Nat} {A4 : Option Addr} {m4 : Nat} {c4 : Nat} (h0 : evS σ x0 = some (.int .i64 z0)) (h1 : evS σ x1 = some (.int .i64 z1)) (h2 : evS σ x2 = some (.int .i64 z2)) (h3 : evS σ x3 = some (.slice A3 m3 c3)) (h4 : evS σ x4 = some (.slice A4 m4 c4)) : ZE Try.prog n σ w ⟨dst, .build 70 #[(0, x0), (1, x1), (2, x2), (3, x3), (4, x4)], ty, pos, af, g⟩ (.agg #[.int .i64 z0, .int .i64 z1, .int .i64 z2, .slice A3 m3 c3, .slice A4 m4 c4]) := fun a ha => by
 simp only [execOp, List.map_toArray, List.map_cons, List.map_nil, ha.eval h0, ha.eval h1, ha.eval h2, ha.eval h3, ha.eval h4]
 go_simp
theorem QKW {x0 x1 : Operand} {v0_0 v0_1 v0_2 v0_3 v0_4 v1_0 v1_1 v1_2 v1_3 v1_4 : Value} (h0 : evS σ x0 = some (.agg #[v0_0, v0_1, v0_2, v0_3, v0_4])) (h1 : evS σ x1 = some (.agg #[v1_0, v1_1, v1_2, v1_3, v1_4]))  (a : Act) (ha : Env n σ a) : (execOp a.eval ⟨dst, .buildSlice 42 2 #[(0, x0), (1, x1)], ty, pos, af, g⟩).run Try.prog w = .ok (.value (.slice (some ⟨w.heap.size, 0, none⟩) 2 2)) (w.alloc (.cells #[v0_0, v0_1, v0_2, v0_3, v0_4, v1_0, v1_1, v1_2, v1_3, v1_4] 70)) := by
 simp only [execOp, List.map_toArray, List.map_cons, List.map_nil, ha.eval h0, ha.eval h1]
 go_simp
theorem QIA {x0 x1 : Operand} {z0 : Int} {A1 : Option Addr} {m1 : Nat} {c1 : Nat} (h0 : evS σ x0 = some (.int .i64 z0)) (h1 : evS σ x1 = some (.slice A1 m1 c1)) : ZE Try.prog n σ w ⟨dst, .build 44 #[(0, x0), (1, x1)], ty, pos, af, g⟩ (.agg #[.int .i64 z0, .slice A1 m1 c1]) := fun a ha => by
 simp only [execOp, List.map_toArray, List.map_cons, List.map_nil, ha.eval h0, ha.eval h1]
 go_simp
theorem QLt (a : Act) (_ : Env n σ a) : (execOp a.eval ⟨dst, .alloc 53, ty, pos, af, g⟩).run Try.prog w = .ok (.value (.pointer (some ⟨w.heap.size, 0, none⟩))) (w.alloc (.cells #[.slice none 0 0, .slice none 0 0, .slice none 0 0, .slice none 0 0, .int .i64 0] 53)) := by
 simp only [execOp]
 simp [go_sem]
theorem Zr {xf x0 x1 : Operand} {v0 v1 : Value} (hf : evS σ xf = some (.func (.func 51) #[] #[])) (h0 : evS σ x0 = some v0) (h1 : evS σ x1 = some v1) (a : Act) (ha : Env n σ a) : (execOp a.eval ⟨dst, .call { callee := .value xf, args := #[x0, x1], argTypes := at' }, ty, pos, af, g⟩).run Try.prog w = .ok (.enter 51 #[v0, v1]) w := by
 simp only [execOp, resolve, List.map_toArray, List.map_cons, List.map_nil, ha.eval hf, ha.eval h0, ha.eval h1]
 simp [go_sem, Deferred.ofValue]
theorem QJb {x0 : Operand} {z0 : Int} (h0 : evS σ x0 = some (.int .i64 z0)) : ZE Try.prog n σ w ⟨dst, .build 113 #[(1, x0)], ty, pos, af, g⟩ (.agg #[.int .i64 0, .int .i64 z0]) := fun a ha => by
 simp only [execOp, List.map_toArray, List.map_cons, List.map_nil, ha.eval h0]
 go_simp
theorem QDd {x0 x1 : Operand} {z0 : Int} {z1 : Int} (h0 : evS σ x0 = some (.int .i64 z0)) (h1 : evS σ x1 = some (.int .i64 z1)) : ZE Try.prog n σ w ⟨dst, .build 113 #[(0, x0), (1, x1)], ty, pos, af, g⟩ (.agg #[.int .i64 z0, .int .i64 z1]) := fun a ha => by
 simp only [execOp, List.map_toArray, List.map_cons, List.map_nil, ha.eval h0, ha.eval h1]
 go_simp
theorem QHF {x0 x1 : Operand} {v0_0 v0_1 v1_0 v1_1 : Value} (h0 : evS σ x0 = some (.agg #[v0_0, v0_1])) (h1 : evS σ x1 = some (.agg #[v1_0, v1_1]))  (a : Act) (ha : Env n σ a) : (execOp a.eval ⟨dst, .buildSlice 96 2 #[(0, x0), (1, x1)], ty, pos, af, g⟩).run Try.prog w = .ok (.value (.slice (some ⟨w.heap.size, 0, none⟩) 2 2)) (w.alloc (.cells #[v0_0, v0_1, v1_0, v1_1] 113)) := by
 simp only [execOp, List.map_toArray, List.map_cons, List.map_nil, ha.eval h0, ha.eval h1]
 go_simp
theorem QBz {x0 x1 x2 x3 x4 x5 : Operand} {z0 : Int} {z1 : Int} {v2_0 : Value} {v2_1 : Value} {A3 : Option Addr} {m3 : Nat} {c3 : Nat} {v4_0 : Value} {v4_1 : Value} {z5 : Int} (h0 : evS σ x0 = some (.int .i64 z0)) (h1 : evS σ x1 = some (.int .i64 z1)) (h2 : evS σ x2 = some (.agg #[v2_0, v2_1])) (h3 : evS σ x3 = some (.slice A3 m3 c3)) (h4 : evS σ x4 = some (.agg #[v4_0, v4_1])) (h5 : evS σ x5 = some (.int .i64 z5)) : ZE Try.prog n σ w ⟨dst, .build 98 #[(0, x0), (1, x1), (2, x2), (3, x3), (5, x4), (6, x5)], ty, pos, af, g⟩ (.agg #[.int .i64 z0, .int .i64 z1, v2_0, v2_1, .slice A3 m3 c3, .int .i64 0, v4_0, v4_1, .int .i64 z5]) := fun a ha => by
 simp only [execOp, List.map_toArray, List.map_cons, List.map_nil, ha.eval h0, ha.eval h1, ha.eval h2, ha.eval h3, ha.eval h4, ha.eval h5]
 go_simp
theorem QKc    : ZE Try.prog n σ w ⟨dst, .build 113 #[], ty, pos, af, g⟩ (.agg #[.int .i64 0, .int .i64 0]) := fun a _ => by
 simp only [execOp, List.map_toArray, List.map_nil]
 go_simp
theorem QBG {x0 x1 x2 x3 x4 x5 x6 : Operand} {z0 : Int} {z1 : Int} {v2_0 : Value} {v2_1 : Value} {A3 : Option Addr} {m3 : Nat} {c3 : Nat} {z4 : Int} {v5_0 : Value} {v5_1 : Value} {z6 : Int} (h0 : evS σ x0 = some (.int .i64 z0)) (h1 : evS σ x1 = some (.int .i64 z1)) (h2 : evS σ x2 = some (.agg #[v2_0, v2_1])) (h3 : evS σ x3 = some (.slice A3 m3 c3)) (h4 : evS σ x4 = some (.int .i64 z4)) (h5 : evS σ x5 = some (.agg #[v5_0, v5_1])) (h6 : evS σ x6 = some (.int .i64 z6)) : ZE Try.prog n σ w ⟨dst, .build 98 #[(0, x0), (1, x1), (2, x2), (3, x3), (4, x4), (5, x5), (6, x6)], ty, pos, af, g⟩ (.agg #[.int .i64 z0, .int .i64 z1, v2_0, v2_1, .slice A3 m3 c3, .int .i64 z4, v5_0, v5_1, .int .i64 z6]) := fun a ha => by
 simp only [execOp, List.map_toArray, List.map_cons, List.map_nil, ha.eval h0, ha.eval h1, ha.eval h2, ha.eval h3, ha.eval h4, ha.eval h5, ha.eval h6]
 go_simp
theorem QKV {x0 x1 : Operand} {v0_0 v0_1 v0_2 v0_3 v0_4 v0_5 v0_6 v0_7 v0_8 v1_0 v1_1 v1_2 v1_3 v1_4 v1_5 v1_6 v1_7 v1_8 : Value} (h0 : evS σ x0 = some (.agg #[v0_0, v0_1, v0_2, v0_3, v0_4, v0_5, v0_6, v0_7, v0_8])) (h1 : evS σ x1 = some (.agg #[v1_0, v1_1, v1_2, v1_3, v1_4, v1_5, v1_6, v1_7, v1_8]))  (a : Act) (ha : Env n σ a) : (execOp a.eval ⟨dst, .buildSlice 46 2 #[(0, x0), (1, x1)], ty, pos, af, g⟩).run Try.prog w = .ok (.value (.slice (some ⟨w.heap.size, 0, none⟩) 2 2)) (w.alloc (.cells #[v0_0, v0_1, v0_2, v0_3, v0_4, v0_5, v0_6, v0_7, v0_8, v1_0, v1_1, v1_2, v1_3, v1_4, v1_5, v1_6, v1_7, v1_8] 98)) := by
 simp only [execOp, List.map_toArray, List.map_cons, List.map_nil, ha.eval h0, ha.eval h1]
 go_simp
theorem QEv {x0 x1 x2 : Operand} {z0 : Int} {v1_0 : Value} {v1_1 : Value} {v2_0 : Value} {v2_1 : Value} (h0 : evS σ x0 = some (.int .i64 z0)) (h1 : evS σ x1 = some (.agg #[v1_0, v1_1])) (h2 : evS σ x2 = some (.agg #[v2_0, v2_1])) : ZE Try.prog n σ w ⟨dst, .build 100 #[(0, x0), (1, x1), (3, x2)], ty, pos, af, g⟩ (.agg #[.int .i64 z0, v1_0, v1_1, .int .i64 0, v2_0, v2_1]) := fun a ha => by
 simp only [execOp, List.map_toArray, List.map_cons, List.map_nil, ha.eval h0, ha.eval h1, ha.eval h2]
 go_simp
theorem QKU {x0 : Operand} {v0_0 v0_1 v0_2 v0_3 v0_4 v0_5 : Value} (h0 : evS σ x0 = some (.agg #[v0_0, v0_1, v0_2, v0_3, v0_4, v0_5]))  (a : Act) (ha : Env n σ a) : (execOp a.eval ⟨dst, .buildSlice 47 1 #[(0, x0)], ty, pos, af, g⟩).run Try.prog w = .ok (.value (.slice (some ⟨w.heap.size, 0, none⟩) 1 1)) (w.alloc (.cells #[v0_0, v0_1, v0_2, v0_3, v0_4, v0_5] 100)) := by
 simp only [execOp, List.map_toArray, List.map_cons, List.map_nil, ha.eval h0]
 go_simp
theorem QH_ {x0 x1 : Operand} {A0 : Option Addr} {m0 : Nat} {c0 : Nat} {A1 : Option Addr} {m1 : Nat} {c1 : Nat} (h0 : evS σ x0 = some (.slice A0 m0 c0)) (h1 : evS σ x1 = some (.slice A1 m1 c1)) : ZE Try.prog n σ w ⟨dst, .build 49 #[(0, x0), (1, x1)], ty, pos, af, g⟩ (.agg #[.slice A0 m0 c0, .slice A1 m1 c1]) := fun a ha => by
 simp only [execOp, List.map_toArray, List.map_cons, List.map_nil, ha.eval h0, ha.eval h1]
 go_simp
theorem QLu (a : Act) (_ : Env n σ a) : (execOp a.eval ⟨dst, .alloc 49, ty, pos, af, g⟩).run Try.prog w = .ok (.value (.pointer (some ⟨w.heap.size, 0, none⟩))) (w.alloc (.cells #[.slice none 0 0, .slice none 0 0] 49)) := by
 simp only [execOp]
 simp [go_sem]
theorem QLd : (Try.prog.info? 49).map (·.size) = some 2 := by kernel_rfl
theorem QFm {x0 x1 x2 x3 : Operand} {v0_0 v0_1 v1_0 v1_1 v2_0 v2_1 v3_0 v3_1 : Value} (h0 : evS σ x0 = some (.agg #[v0_0, v0_1])) (h1 : evS σ x1 = some (.agg #[v1_0, v1_1])) (h2 : evS σ x2 = some (.agg #[v2_0, v2_1])) (h3 : evS σ x3 = some (.agg #[v3_0, v3_1]))  (a : Act) (ha : Env n σ a) : (execOp a.eval ⟨dst, .buildSlice 101 4 #[(0, x0), (1, x1), (2, x2), (3, x3)], ty, pos, af, g⟩).run Try.prog w = .ok (.value (.slice (some ⟨w.heap.size, 0, none⟩) 4 4)) (w.alloc (.cells #[v0_0, v0_1, v1_0, v1_1, v2_0, v2_1, v3_0, v3_1] 25)) := by
 simp only [execOp, List.map_toArray, List.map_cons, List.map_nil, ha.eval h0, ha.eval h1, ha.eval h2, ha.eval h3]
 go_simp
theorem QKT {x0 x1 : Operand} {A0 A1 : Option Addr} {m0 c0 m1 c1 : Nat} (h0 : evS σ x0 = some (.slice A0 m0 c0)) (h1 : evS σ x1 = some (.slice A1 m1 c1)) (a : Act) (ha : Env n σ a) : (execOp a.eval ⟨dst, .buildSlice 50 2 #[(0, x0), (1, x1)], ty, pos, af, g⟩).run Try.prog w = .ok (.value (.slice (some ⟨w.heap.size, 0, none⟩) 2 2)) (w.alloc (.cells #[.slice A0 m0 c0, .slice A1 m1 c1] 101)) := by
 simp only [execOp, List.map_toArray, List.map_cons, List.map_nil, ha.eval h0, ha.eval h1]
 go_simp
theorem QKR {x0 x1 : Operand} {v0_0 v0_1 v0_2 v1_0 v1_1 v1_2 : Value} (h0 : evS σ x0 = some (.agg #[v0_0, v0_1, v0_2])) (h1 : evS σ x1 = some (.agg #[v1_0, v1_1, v1_2]))  (a : Act) (ha : Env n σ a) : (execOp a.eval ⟨dst, .buildSlice 51 2 #[(0, x0), (1, x1)], ty, pos, af, g⟩).run Try.prog w = .ok (.value (.slice (some ⟨w.heap.size, 0, none⟩) 2 2)) (w.alloc (.cells #[v0_0, v0_1, v0_2, v1_0, v1_1, v1_2] 85)) := by
 simp only [execOp, List.map_toArray, List.map_cons, List.map_nil, ha.eval h0, ha.eval h1]
 go_simp
theorem QEB {x0 x1 : Operand} {z0 : Int} {v1_0 : Value} {v1_1 : Value} (h0 : evS σ x0 = some (.int .i64 z0)) (h1 : evS σ x1 = some (.agg #[v1_0, v1_1])) : ZE Try.prog n σ w ⟨dst, .build 85 #[(0, x0), (1, x1)], ty, pos, af, g⟩ (.agg #[.int .i64 z0, v1_0, v1_1]) := fun a ha => by
 simp only [execOp, List.map_toArray, List.map_cons, List.map_nil, ha.eval h0, ha.eval h1]
 go_simp
theorem QDr {x0 x1 x2 x3 : Operand} {v0_0 : Value} {v0_1 : Value} {A1 : Option Addr} {m1 : Nat} {c1 : Nat} {A2 : Option Addr} {m2 : Nat} {c2 : Nat} {z3 : Int} (h0 : evS σ x0 = some (.agg #[v0_0, v0_1])) (h1 : evS σ x1 = some (.slice A1 m1 c1)) (h2 : evS σ x2 = some (.slice A2 m2 c2)) (h3 : evS σ x3 = some (.int .i64 z3)) : ZE Try.prog n σ w ⟨dst, .build 53 #[(0, x0), (1, x1), (2, x2), (3, x3)], ty, pos, af, g⟩ (.agg #[v0_0, v0_1, .slice A1 m1 c1, .slice A2 m2 c2, .int .i64 z3]) := fun a ha => by
 simp only [execOp, List.map_toArray, List.map_cons, List.map_nil, ha.eval h0, ha.eval h1, ha.eval h2, ha.eval h3]
 go_simp
theorem QLb : (Try.prog.info? 53).map (·.size) = some 5 := by kernel_rfl
theorem QLk {b o : Nat} {v0 v1 v2 v3 v4 : Value} (c0 : w.cell? ⟨b, o, none⟩ = some v0) (c1 : w.cell? ⟨b, o + 1, none⟩ = some v1) (c2 : w.cell? ⟨b, o + 2, none⟩ = some v2) (c3 : w.cell? ⟨b, o + 3, none⟩ = some v3) (c4 : w.cell? ⟨b, o + 4, none⟩ = some v4) : (loadVar 53 ⟨b, o, none⟩).run Try.prog w = .ok (.agg #[v0, v1, v2, v3, v4]) w := by
 simp [go_sem, loadVar, c0, c1, c2, c3, c4]
end
theorem QA1 : Zl hTwo.secs := fun s hs => by
 have : s = sTwo := by simpa [hTwo] using hs
 subst this
 decide
theorem QES : PasFew pPas := ⟨by decide, by decide, fun i hi => by
  have h2 : i < 2 := hi
  match i, h2 with
  | 0, _ => decide
  | 1, _ => decide, by decide, fun i hi => by
  have h2 : i < 2 := hi
  match i, h2 with
  | 0, _ => decide
  | 1, _ => decide⟩
theorem QE4 : Yr QGr 600 = 0 ∧ Yq QGr 600 = ⟨13, 22, 0⟩ := by
 constructor <;> rfl
theorem QBf {i : Nat} : Mono fun r w => ∃ v vs, r i = .agg #[.int .i64 100, v] ∧ RdSecs w w.heap.size v hTwo.secs vs := fun _ _ _ hb ⟨v, vs, h1, h2⟩ => ⟨v, vs, h1, h2.go hb⟩
theorem QC_ {i : Nat} : Mono fun r w => ∃ q : PasV, r i = pasA pPas q ∧ RdPas w w.heap.size pPas q := fun _ _ _ hb ⟨q, h1, h2⟩ => ⟨q, h1, (h2.below hb).more hb.size⟩
theorem QA2 (w : World) : Calls Try.prog 30 #[] w fun e w' => (∃ v vs, e = .returned (.agg #[.int .i64 100, v]) ∧ RdSecs w' w'.heap.size v hTwo.secs vs) ∧ Below w.heap.size w w' := by
 have hbw := Below.refl w.heap.size w;refine EC.enter 13 Try.func30 rfl rfl rfl (EC.seq (EC.region (EL.newP QFs rfl ?_)));intro g1 w1 q1 hb1 hg1 hl1;have bhbw_1 := Nat.le_trans hbw.size hg1;replace hbw := bo_ hbw hb1;clear hb1 hg1 hl1;refine EL.nil (EX.seq (EC.seq (EC.region (EL.val (QHH) rfl (EL.val (QDe rfl rfl) rfl (EL.val (QDe rfl rfl) rfl (EL.newS (QKP rfl rfl rfl) rfl ?_)))))));intro g2 w2 q2 hb2 hg2 hl2;have n1_2 := q1.na hg2;have bhbw_2 := Nat.le_trans hbw.size hg2;replace q1 := q1.bl hb2;replace hbw := bo_ hbw hb2;clear hb2 hg2 hl2;refine EL.val (QH9 rfl rfl) rfl (EL.newS (QKN rfl) rfl ?_);intro g3 w3 q3 hb3 hg3 hl3;have n1_3 := q1.na hg3;have n2_3 := q2.na hg3;have bhbw_3 := Nat.le_trans hbw.size hg3;replace q1 := q1.bl hb3;replace q2 := q2.bl hb3;replace hbw := bo_ hbw hb3;clear hb3 hg3 hl3;refine EL.val (QCY rfl rfl rfl rfl rfl) rfl (EL.newP QEE rfl ?_);intro g4 w4 q4 hb4 hg4 hl4;have n1_4 := q1.na hg4;have n2_4 := q2.na hg4;have n3_4 := q3.na hg4;have bhbw_4 := Nat.le_trans hbw.size hg4;replace q1 := q1.bl hb4;replace q2 := q2.bl hb4;replace q3 := q3.bl hb4;replace hbw := bo_ hbw hb4;clear hb4 hg4 hl4;refine EL.store rfl rfl q4 QDw rfl rfl rfl rfl ?_;intro w5 hq5 hg5;replace q1 := q1.gr hg5 n1_4;replace q2 := q2.gr hg5 n2_4;replace q3 := q3.gr hg5 n3_4;replace hbw := ZC hbw hg5 bhbw_4;replace q4 := hq5;clear hg5 hq5;refine EL.nil (EX.seq (EC.seq (EC.region (EL.val (QAr rfl (q4.at (j := 0) rfl) (q4.at (j := 1) rfl) (q4.at (j := 2) rfl) (q4.at (j := 3) rfl) (q4.at (j := 4) rfl)) rfl (EL.val (QAr rfl (q4.at (j := 0) rfl) (q4.at (j := 1) rfl) (q4.at (j := 2) rfl) (q4.at (j := 3) rfl) (q4.at (j := 4) rfl)) rfl (EL.newS (QKW rfl rfl) rfl ?_))))));intro g6 w6 q6 hb6 hg6 hl6;have n1_6 := q1.na hg6;have n2_6 := q2.na hg6;have n3_6 := q3.na hg6;have n4_6 := q4.na hg6;have bhbw_6 := Nat.le_trans hbw.size hg6;replace q1 := q1.bl hb6;replace q2 := q2.bl hb6;replace q3 := q3.bl hb6;replace q4 := q4.bl hb6;replace hbw := bo_ hbw hb6;clear hb6 hg6 hl6;refine EL.val (QIA rfl rfl) rfl (EL.store rfl rfl q1 QBX rfl rfl rfl rfl ?_);intro w7 hq7 hg7;replace q2 := q2.gr hg7 n1_2.symm;replace q3 := q3.gr hg7 n1_3.symm;replace q4 := q4.gr hg7 n1_4.symm;replace q6 := q6.gr hg7 n1_6.symm;replace hbw := ZC hbw hg7 bhbw_1;replace q1 := hq7;clear hg7 hq7;refine EL.nil (EX.seq (EC.ret ?_));have hRS : RdSecs w7 w7.heap.size (.slice (some ⟨g6, 0, none⟩) 2 2) hTwo.secs [(.slice (some ⟨g2, 0, none⟩) 3 3, .slice (some ⟨g3, 0, none⟩) 1 1), (.slice (some ⟨g2, 0, none⟩) 3 3, .slice (some ⟨g3, 0, none⟩) 1 1)] := by
  have hc : Rd w7 w7.heap.size 2 (.slice (some ⟨g2, 0, none⟩) 3 3) 3 (hrowsC sTwo.curve) := YG (k := 3) (l := hrowsC sTwo.curve) q2 rfl;have hh : Rd w7 w7.heap.size 2 (.slice (some ⟨g3, 0, none⟩) 1 1) 1 (holdsC sTwo.holds) := YG (k := 1) (l := holdsC sTwo.holds) q3 rfl;refine ⟨rfl, YG (k := 2) (l := [.int .i64 30, .int .i64 100, .int .i64 50, .slice (some ⟨g2, 0, none⟩) 3 3, .slice (some ⟨g3, 0, none⟩) 1 1, .int .i64 30, .int .i64 100, .int .i64 50, .slice (some ⟨g2, 0, none⟩) 3 3, .slice (some ⟨g3, 0, none⟩) 1 1]) q6 rfl, fun i hi => ?_, fun i hi => ?_⟩
  ·have h2 : i < 2 := hi
   match i, h2 with
   | 0, _ => exact hc
   | 1, _ => exact hc
  ·have h2 : i < 2 := hi
   match i, h2 with
   | 0, _ => exact hh
   | 1, _ => exact hh
 exact EX.done (QGi rfl rfl (QDE (q1.at (j := 0) rfl) (q1.at (j := 1) rfl))) ⟨⟨_, _, rfl, hRS⟩, hbw⟩
theorem YQ (a b : Int) (w : World) : Calls Try.prog 51 #[.int .i64 a, .int .i64 b] w fun e w' => e = .returned (.agg #[.int .i64 a, .int .i64 b]) ∧ Below w.heap.size w w' := by
 have hbw := Below.refl w.heap.size w;refine EC.enter 8 Try.func51 rfl rfl rfl (EC.seq (EC.region (EL.newP QAO rfl ?_)));intro g1 w1 q1 hb1 hg1 hl1;have bhbw_1 := Nat.le_trans hbw.size hg1;replace hbw := bo_ hbw hb1;clear hb1 hg1 hl1;refine EL.nil (EX.seq (EC.seq (EC.region (EL.mv rfl rfl (EL.mv rfl rfl (EL.val (Zu rfl rfl) rfl (EL.store rfl rfl q1 Z7 rfl rfl rfl rfl ?_)))))));intro w2 hq2 hg2;replace hbw := ZC hbw hg2 bhbw_1;replace q1 := hq2;clear hg2 hq2;refine EL.nil (EX.seq (EC.ret ?_))
 exact EX.done (QGi rfl rfl (QAK (q1.at (j := 0) rfl) (q1.at (j := 1) rfl))) ⟨rfl, hbw⟩
theorem QCn {w : World} {g k T U : Nat} {cs ds : Array Value} (h : Blk w g T cs) (hq : Blk w k U ds) (hT : Nat.beq T U = false) : g ≠ k := fun e => by
 subst e
 unfold Blk at h hq
 rw [h] at hq
 injection hq with hq
 injection hq with _ h2
 rw [h2] at hT
 simp at hT
set_option maxRecDepth 100000 in
theorem QAl (w : World) : Calls Try.prog 31 #[] w fun e w' => (∃ q : PasV, e = .returned (pasA pPas q) ∧ RdPas w' w'.heap.size pPas q) ∧ Below w.heap.size w w' := by
 have hbw := Below.refl w.heap.size w;refine EC.enter 53 Try.func31 rfl rfl rfl (EC.seq (EC.region (EL.newP QLt rfl ?_)));intro g1 w1 q1 hb1 hg1 hl1;have bhbw_1 := Nat.le_trans hbw.size hg1;replace hbw := bo_ hbw hb1;clear hb1 hg1 hl1;refine EL.nil (EX.seq (EC.seq (EC.region (EL.as rfl rfl (EL.nil (EX.seq (EC.seq (EC.region (EL.mv rfl rfl ?_)))))))));refine EL.call (Zr rfl rfl rfl) rfl (YQ _ _ _) ?_
 rintro e w2 ⟨rfl, hc2⟩
 refine ⟨_, rfl, ?_⟩;replace q1 := q1.bl hc2;replace hbw := bo_ hbw hc2;clear hc2;refine EL.val (QJb rfl) rfl (EL.val (QDd rfl rfl) rfl (EL.newS (QHF rfl rfl) rfl ?_));intro g3 w3 q3 hb3 hg3 hl3;have n1_3 := q1.na hg3;have bhbw_3 := Nat.le_trans hbw.size hg3;replace q1 := q1.bl hb3;replace hbw := bo_ hbw hb3;clear hb3 hg3 hl3;refine EL.mv rfl rfl (EL.call (Zr rfl rfl rfl) rfl (YQ _ _ _) ?_)
 rintro e w4 ⟨rfl, hc4⟩
 refine ⟨_, rfl, ?_⟩;replace q1 := q1.bl hc4;replace q3 := q3.bl hc4;replace hbw := bo_ hbw hc4;clear hc4;refine EL.val (QBz rfl rfl rfl rfl rfl rfl) rfl (EL.mv rfl rfl (EL.call (Zr rfl rfl rfl) rfl (YQ _ _ _) ?_))
 rintro e w5 ⟨rfl, hc5⟩
 refine ⟨_, rfl, ?_⟩;replace q1 := q1.bl hc5;replace q3 := q3.bl hc5;replace hbw := bo_ hbw hc5;clear hc5;refine EL.val (QKc) rfl (EL.val (QDd rfl rfl) rfl (EL.newS (QHF rfl rfl) rfl ?_));intro g6 w6 q6 hb6 hg6 hl6;have n1_6 := q1.na hg6;have n3_6 := q3.na hg6;have bhbw_6 := Nat.le_trans hbw.size hg6;replace q1 := q1.bl hb6;replace q3 := q3.bl hb6;replace hbw := bo_ hbw hb6;clear hb6 hg6 hl6;refine EL.mv rfl rfl (EL.call (Zr rfl rfl rfl) rfl (YQ _ _ _) ?_)
 rintro e w7 ⟨rfl, hc7⟩
 refine ⟨_, rfl, ?_⟩;replace q1 := q1.bl hc7;replace q3 := q3.bl hc7;replace q6 := q6.bl hc7;replace hbw := bo_ hbw hc7;clear hc7;refine EL.val (QBG rfl rfl rfl rfl rfl rfl rfl) rfl (EL.newS (QKV rfl rfl) rfl ?_);intro g8 w8 q8 hb8 hg8 hl8;have n1_8 := q1.na hg8;have n3_8 := q3.na hg8;have n6_8 := q6.na hg8;have bhbw_8 := Nat.le_trans hbw.size hg8;replace q1 := q1.bl hb8;replace q3 := q3.bl hb8;replace q6 := q6.bl hb8;replace hbw := bo_ hbw hb8;clear hb8 hg8 hl8;refine EL.mv rfl rfl (EL.call (Zr rfl rfl rfl) rfl (YQ _ _ _) ?_)
 rintro e w9 ⟨rfl, hc9⟩
 refine ⟨_, rfl, ?_⟩;replace q1 := q1.bl hc9;replace q3 := q3.bl hc9;replace q6 := q6.bl hc9;replace q8 := q8.bl hc9;replace hbw := bo_ hbw hc9;clear hc9;refine EL.mv rfl rfl (EL.call (Zr rfl rfl rfl) rfl (YQ _ _ _) ?_)
 rintro e w10 ⟨rfl, hc10⟩
 refine ⟨_, rfl, ?_⟩;replace q1 := q1.bl hc10;replace q3 := q3.bl hc10;replace q6 := q6.bl hc10;replace q8 := q8.bl hc10;replace hbw := bo_ hbw hc10;clear hc10;refine EL.val (QEv rfl rfl rfl) rfl (EL.newS (QKU rfl) rfl ?_);intro g11 w11 q11 hb11 hg11 hl11;have n1_11 := q1.na hg11;have n3_11 := q3.na hg11;have n6_11 := q6.na hg11;have n8_11 := q8.na hg11;have bhbw_11 := Nat.le_trans hbw.size hg11;replace q1 := q1.bl hb11;replace q3 := q3.bl hb11;replace q6 := q6.bl hb11;replace q8 := q8.bl hb11;replace hbw := bo_ hbw hb11;clear hb11 hg11 hl11;refine EL.val (QH_ rfl rfl) rfl (EL.newP QLu rfl ?_);intro g12 w12 q12 hb12 hg12 hl12;have n1_12 := q1.na hg12;have n3_12 := q3.na hg12;have n6_12 := q6.na hg12;have n8_12 := q8.na hg12;have n11_12 := q11.na hg12;have bhbw_12 := Nat.le_trans hbw.size hg12;replace q1 := q1.bl hb12;replace q3 := q3.bl hb12;replace q6 := q6.bl hb12;replace q8 := q8.bl hb12;replace q11 := q11.bl hb12;replace hbw := bo_ hbw hb12;clear hb12 hg12 hl12;refine EL.store rfl rfl q12 QLd rfl rfl rfl rfl ?_;intro w13 hq13 hg13;replace q1 := q1.gr hg13 n1_12;replace q3 := q3.gr hg13 n3_12;replace q6 := q6.gr hg13 n6_12;replace q8 := q8.gr hg13 n8_12;replace q11 := q11.gr hg13 n11_12;replace hbw := ZC hbw hg13 bhbw_12;replace q12 := hq13;clear hg13 hq13;refine EL.nil (EX.seq (EC.seq (EC.region (EL.mv rfl rfl (EL.call (Zr rfl rfl rfl) rfl (YQ _ _ _) ?_)))))
 rintro e w14 ⟨rfl, hc14⟩
 refine ⟨_, rfl, ?_⟩;replace q1 := q1.bl hc14;replace q3 := q3.bl hc14;replace q6 := q6.bl hc14;replace q8 := q8.bl hc14;replace q11 := q11.bl hc14;replace q12 := q12.bl hc14;replace hbw := bo_ hbw hc14;clear hc14;refine EL.mv rfl rfl (EL.call (Zr rfl rfl rfl) rfl (YQ _ _ _) ?_)
 rintro e w15 ⟨rfl, hc15⟩
 refine ⟨_, rfl, ?_⟩;replace q1 := q1.bl hc15;replace q3 := q3.bl hc15;replace q6 := q6.bl hc15;replace q8 := q8.bl hc15;replace q11 := q11.bl hc15;replace q12 := q12.bl hc15;replace hbw := bo_ hbw hc15;clear hc15;refine EL.newP QAO rfl ?_;intro g16 w16 q16 hb16 hg16 hl16;have n1_16 := q1.na hg16;have n3_16 := q3.na hg16;have n6_16 := q6.na hg16;have n8_16 := q8.na hg16;have n11_16 := q11.na hg16;have n12_16 := q12.na hg16;have bhbw_16 := Nat.le_trans hbw.size hg16;replace q1 := q1.bl hb16;replace q3 := q3.bl hb16;replace q6 := q6.bl hb16;replace q8 := q8.bl hb16;replace q11 := q11.bl hb16;replace q12 := q12.bl hb16;replace hbw := bo_ hbw hb16;clear hb16 hg16 hl16;refine EL.newP QAO rfl ?_;intro g17 w17 q17 hb17 hg17 hl17;have n1_17 := q1.na hg17;have n3_17 := q3.na hg17;have n6_17 := q6.na hg17;have n8_17 := q8.na hg17;have n11_17 := q11.na hg17;have n12_17 := q12.na hg17;have n16_17 := q16.na hg17;have bhbw_17 := Nat.le_trans hbw.size hg17;replace q1 := q1.bl hb17;replace q3 := q3.bl hb17;replace q6 := q6.bl hb17;replace q8 := q8.bl hb17;replace q11 := q11.bl hb17;replace q12 := q12.bl hb17;replace q16 := q16.bl hb17;replace hbw := bo_ hbw hb17;clear hb17 hg17 hl17;refine EL.store rfl rfl q16 Z7 rfl rfl rfl rfl ?_;intro w18 hq18 hg18;replace q1 := q1.gr hg18 n1_16;replace q3 := q3.gr hg18 n3_16;replace q6 := q6.gr hg18 n6_16;replace q8 := q8.gr hg18 n8_16;replace q11 := q11.gr hg18 n11_16;replace q12 := q12.gr hg18 n12_16;replace q17 := q17.gr hg18 n16_17.symm;replace hbw := ZC hbw hg18 bhbw_16;replace q16 := hq18;clear hg18 hq18;refine EL.store rfl rfl q17 Z7 rfl rfl rfl rfl ?_;intro w19 hq19 hg19;replace q1 := q1.gr hg19 n1_17;replace q3 := q3.gr hg19 n3_17;replace q6 := q6.gr hg19 n6_17;replace q8 := q8.gr hg19 n8_17;replace q11 := q11.gr hg19 n11_17;replace q12 := q12.gr hg19 n12_17;replace q16 := q16.gr hg19 n16_17;replace hbw := ZC hbw hg19 bhbw_17;replace q17 := hq19;clear hg19 hq19;refine EL.nil (EX.seq (EC.seq ?_));have lt_1 := q1.lt;have lt_3 := q3.lt;have lt_6 := q6.lt;have lt_8 := q8.lt;have lt_11 := q11.lt;have lt_12 := q12.lt;have lt_16 := q16.lt;have lt_17 := q17.lt;refine EC.regionP [[], [], [], [], [], [1, 2, 3, 4], [], [], [], [], [6, 7, 8, 9], [1, 2, 3, 4, 5, 6, 7, 8, 9, 10], [], [12], [12, 13], [], [12, 13, 15], [12, 13, 15, 16], [12, 13, 14, 15, 16, 17], [0, 1, 2, 3, 4, 5, 6, 7, 8, 9, 10, 11, 12, 13, 14, 15, 16, 17, 18], [0, 1, 2, 3, 4, 5, 6, 7, 8, 9, 10, 11, 12, 13, 14, 15, 16, 17, 18, 19]] 20 [] (phi (fun i_ r => match i_ with | 0 => r 0 = .agg #[.slice (some ⟨g8, 0, none⟩) 2 2, .slice (some ⟨g11, 0, none⟩) 1 1] | 1 => r 1 = .agg #[.int .i64 2000, .int .i64 3000] | 2 => r 2 = .agg #[.int .i64 2000, .int .i64 3000] | 3 => r 3 = .agg #[.int .i64 2000, .int .i64 3000] | 4 => r 4 = .agg #[.int .i64 2000, .int .i64 3000] | 6 => r 6 = .agg #[.int .i64 500, .int .i64 500] | 7 => r 7 = .agg #[.int .i64 500, .int .i64 500] | 8 => r 8 = .agg #[.int .i64 500, .int .i64 500] | 9 => r 9 = .agg #[.int .i64 500, .int .i64 500] | 12 => r 12 = .func (.func 51) #[] #[] | 13 => r 13 = .agg #[.int .i64 0, .int .i64 1] | 14 => r 14 = .agg #[.int .i64 10, .int .i64 0, .int .i64 1] | 15 => r 15 = .func (.func 51) #[] #[] | 16 => r 16 = .agg #[.int .i64 2, .int .i64 3] | 17 => r 17 = .agg #[.int .i64 120, .int .i64 2, .int .i64 3] | _ => True) [(5, fun r w_ => ∃ g_, r 5 = .slice (some ⟨g_, 0, none⟩) 4 4 ∧ Blk w_ g_ 25 #[.int .i64 2000, .int .i64 3000, .int .i64 2000, .int .i64 3000, .int .i64 2000, .int .i64 3000, .int .i64 2000, .int .i64 3000] ∧ w19.heap.size ≤ g_), (10, fun r w_ => ∃ g_, r 10 = .slice (some ⟨g_, 0, none⟩) 4 4 ∧ Blk w_ g_ 25 #[.int .i64 500, .int .i64 500, .int .i64 500, .int .i64 500, .int .i64 500, .int .i64 500, .int .i64 500, .int .i64 500] ∧ w19.heap.size ≤ g_), (11, fun r w_ => ∃ g_, r 11 = .slice (some ⟨g_, 0, none⟩) 2 2 ∧ Blk w_ g_ 101 #[r 5, r 10] ∧ w19.heap.size ≤ g_), (18, fun r w_ => ∃ g_, r 18 = .slice (some ⟨g_, 0, none⟩) 2 2 ∧ Blk w_ g_ 85 #[.int .i64 10, .int .i64 0, .int .i64 1, .int .i64 120, .int .i64 2, .int .i64 3] ∧ w19.heap.size ≤ g_), (19, fun r w_ => ∃ z5 z10 z11 z18, r 19 = .agg #[.slice (some ⟨g8, 0, none⟩) 2 2, .slice (some ⟨g11, 0, none⟩) 1 1, .slice (some ⟨z11, 0, none⟩) 2 2, .slice (some ⟨z18, 0, none⟩) 2 2, .int .i64 20] ∧ Blk w_ z5 25 #[.int .i64 2000, .int .i64 3000, .int .i64 2000, .int .i64 3000, .int .i64 2000, .int .i64 3000, .int .i64 2000, .int .i64 3000] ∧ Blk w_ z10 25 #[.int .i64 500, .int .i64 500, .int .i64 500, .int .i64 500, .int .i64 500, .int .i64 500, .int .i64 500, .int .i64 500] ∧ Blk w_ z11 101 #[.slice (some ⟨z5, 0, none⟩) 4 4, .slice (some ⟨z10, 0, none⟩) 4 4] ∧ Blk w_ z18 85 #[.int .i64 10, .int .i64 0, .int .i64 1, .int .i64 120, .int .i64 2, .int .i64 3])]) (by kernel_rfl) rfl rfl (ZT Zw (ZT Zw (ZT Zw (ZT Zw (ZT (fun _ _ _ hb ⟨g5, g10, g11, g18, h1, h2, h3, h4, h5⟩ => ⟨g5, g10, g11, g18, h1, h2.below hb h2.lt, h3.below hb h3.lt, h4.below hb h4.lt, h5.below hb h5.lt⟩) (ZY)))))) (fun i_ hi_ => ?_) ?_
 ·match i_, hi_ with
  | 0, _ =>
   intro val w1 a hb ha hd;have ha := ha.s0 (d := 2) rfl
   exact ZB ha rfl rfl (QFV rfl ((q12.below hb q12.lt).at (j := 0) rfl) ((q12.below hb q12.lt).at (j := 1) rfl)) rfl rfl
  | 1, _ =>
   intro val w1 a hb ha hd;have ha := ha.s0 (d := 3) rfl
   exact ZB ha rfl rfl (Zp rfl ((q16.below hb q16.lt).at (j := 0) rfl) ((q16.below hb q16.lt).at (j := 1) rfl)) rfl rfl
  | 2, _ =>
   intro val w1 a hb ha hd;have ha := ha.s0 (d := 3) rfl
   exact ZB ha rfl rfl (Zp rfl ((q16.below hb q16.lt).at (j := 0) rfl) ((q16.below hb q16.lt).at (j := 1) rfl)) rfl rfl
  | 3, _ =>
   intro val w1 a hb ha hd;have ha := ha.s0 (d := 3) rfl
   exact ZB ha rfl rfl (Zp rfl ((q16.below hb q16.lt).at (j := 0) rfl) ((q16.below hb q16.lt).at (j := 1) rfl)) rfl rfl
  | 4, _ =>
   intro val w1 a hb ha hd;have ha := ha.s0 (d := 3) rfl
   exact ZB ha rfl rfl (Zp rfl ((q16.below hb q16.lt).at (j := 0) rfl) ((q16.below hb q16.lt).at (j := 1) rfl)) rfl rfl
  | 5, _ =>
   intro val w1 a hb ha hd;have e1 : val 1 = _ := hd 1 (ZA.1 rfl);have e2 : val 2 = _ := hd 2 (ZA.1 rfl);have e3 : val 3 = _ := hd 3 (ZA.1 rfl);have e4 : val 4 = _ := hd 4 (ZA.1 rfl);have ha := ha.sub (Sub.ins (d := 37) (Sub.ins (d := 36) (Sub.ins (d := 35) (Sub.ins (d := 34) (Sub.nil _) (ZI rfl e1)) (ZI rfl e2)) (ZI rfl e3)) (ZI rfl e4))
   exact YB ha rfl rfl (QFm rfl rfl rfl rfl) rfl (fun g w' hq _ hge => ⟨g, rfl, hq, Nat.le_trans hb.size hge⟩)
  | 6, _ =>
   intro val w1 a hb ha hd;have ha := ha.s0 (d := 4) rfl
   exact ZB ha rfl rfl (Zp rfl ((q17.below hb q17.lt).at (j := 0) rfl) ((q17.below hb q17.lt).at (j := 1) rfl)) rfl rfl
  | 7, _ =>
   intro val w1 a hb ha hd;have ha := ha.s0 (d := 4) rfl
   exact ZB ha rfl rfl (Zp rfl ((q17.below hb q17.lt).at (j := 0) rfl) ((q17.below hb q17.lt).at (j := 1) rfl)) rfl rfl
  | 8, _ =>
   intro val w1 a hb ha hd;have ha := ha.s0 (d := 4) rfl
   exact ZB ha rfl rfl (Zp rfl ((q17.below hb q17.lt).at (j := 0) rfl) ((q17.below hb q17.lt).at (j := 1) rfl)) rfl rfl
  | 9, _ =>
   intro val w1 a hb ha hd;have ha := ha.s0 (d := 4) rfl
   exact ZB ha rfl rfl (Zp rfl ((q17.below hb q17.lt).at (j := 0) rfl) ((q17.below hb q17.lt).at (j := 1) rfl)) rfl rfl
  | 10, _ =>
   intro val w1 a hb ha hd;have e6 : val 6 = _ := hd 6 (ZA.1 rfl);have e7 : val 7 = _ := hd 7 (ZA.1 rfl);have e8 : val 8 = _ := hd 8 (ZA.1 rfl);have e9 : val 9 = _ := hd 9 (ZA.1 rfl);have ha := ha.sub (Sub.ins (d := 42) (Sub.ins (d := 41) (Sub.ins (d := 40) (Sub.ins (d := 39) (Sub.nil _) (ZI rfl e6)) (ZI rfl e7)) (ZI rfl e8)) (ZI rfl e9))
   exact YB ha rfl rfl (QFm rfl rfl rfl rfl) rfl (fun g w' hq _ hge => ⟨g, rfl, hq, Nat.le_trans hb.size hge⟩)
  | 11, _ =>
   intro val w1 a hb ha hd;obtain ⟨g5_, e5, q5_, h5_⟩ := hd 5 (ZA.1 rfl);change val 5 = _ at e5;obtain ⟨g10_, e10, q10_, h10_⟩ := hd 10 (ZA.1 rfl);change val 10 = _ at e10;have ha := ha.s2 (d := 43) (e := 38) rfl e10 rfl e5
   exact YB ha rfl rfl (QKT rfl rfl) rfl (fun g w' hq _ hge => ⟨g, rfl, (by show Blk _ _ _ #[val 5, val 10]; rw [e5, e10]; exact hq), Nat.le_trans hb.size hge⟩)
  | 12, _ =>
   intro val w1 a hb ha hd;have ha := ha.s0 (d := 1) rfl
   exact ZB ha rfl rfl (ZH rfl) rfl rfl
  | 13, _ =>
   intro val w1 a hb ha hd;have e12 : val 12 = _ := hd 12 (ZA.1 rfl);have ha := ha.s1 (d := 45) rfl e12;refine Zf ha rfl rfl (Zr rfl rfl rfl) (YQ 0 1 _) rfl ?_
   rintro e w' ⟨rfl, hb'⟩
   exact ⟨_, rfl, hb', rfl⟩
  | 14, _ =>
   intro val w1 a hb ha hd;have e13 : val 13 = _ := hd 13 (ZA.1 rfl);have ha := ha.s1 (d := 46) rfl e13
   exact ZB ha rfl rfl (QEB rfl rfl) rfl rfl
  | 15, _ =>
   intro val w1 a hb ha hd;have ha := ha.s0 (d := 1) rfl
   exact ZB ha rfl rfl (ZH rfl) rfl rfl
  | 16, _ =>
   intro val w1 a hb ha hd;have e15 : val 15 = _ := hd 15 (ZA.1 rfl);have ha := ha.s1 (d := 48) rfl e15;refine Zf ha rfl rfl (Zr rfl rfl rfl) (YQ 2 3 _) rfl ?_
   rintro e w' ⟨rfl, hb'⟩
   exact ⟨_, rfl, hb', rfl⟩
  | 17, _ =>
   intro val w1 a hb ha hd;have e16 : val 16 = _ := hd 16 (ZA.1 rfl);have ha := ha.s1 (d := 49) rfl e16
   exact ZB ha rfl rfl (QEB rfl rfl) rfl rfl
  | 18, _ =>
   intro val w1 a hb ha hd;have e14 : val 14 = _ := hd 14 (ZA.1 rfl);have e17 : val 17 = _ := hd 17 (ZA.1 rfl);have ha := ha.s2 (d := 50) (e := 47) rfl e17 rfl e14
   exact YB ha rfl rfl (QKR rfl rfl) rfl (fun g w' hq _ hge => ⟨g, rfl, hq, Nat.le_trans hb.size hge⟩)
  | 19, _ =>
   intro val w1 a hb ha hd;have e0 : val 0 = _ := hd 0 (ZA.1 rfl);obtain ⟨g11_, e11, q11_, h11_⟩ := hd 11 (ZA.1 rfl);change val 11 = _ at e11;obtain ⟨g18_, e18, q18_, h18_⟩ := hd 18 (ZA.1 rfl);change val 18 = _ at e18;obtain ⟨g5_, e5, q5_, h5_⟩ := hd 5 (ZA.1 rfl);change val 5 = _ at e5;obtain ⟨g10_, e10, q10_, h10_⟩ := hd 10 (ZA.1 rfl);change val 10 = _ at e10;have ha := ha.sub (Sub.ins (d := 51) (Sub.ins (d := 44) (Sub.ins (d := 33) (Sub.nil _) (ZI rfl e0)) (ZI rfl e11)) (ZI rfl e18));change Blk w1 g11_ _ #[val 5, val 10] at q11_;rw [e5, e10] at q11_
   exact ZB ha rfl rfl (QDr rfl rfl rfl rfl) ⟨g5_, g10_, g11_, g18_, rfl, q5_, q10_, q11_, q18_⟩ rfl
  | k + 20, h => exact absurd h (by omega)
 ·intro val wR4 hb halc hd
  have e0 : val 0 = _ := hd 0 (by omega)
  have e1 : val 1 = _ := hd 1 (by omega)
  have e2 : val 2 = _ := hd 2 (by omega)
  have e3 : val 3 = _ := hd 3 (by omega)
  have e4 : val 4 = _ := hd 4 (by omega)
  obtain ⟨ga5_4, e5, qa5_4, hga5_4⟩ := hd 5 (by omega)
  change val 5 = _ at e5;change Blk wR4 ga5_4 25 #[.int .i64 2000, .int .i64 3000, .int .i64 2000, .int .i64 3000, .int .i64 2000, .int .i64 3000, .int .i64 2000, .int .i64 3000] at qa5_4;have e6 : val 6 = _ := hd 6 (by omega)
  have e7 : val 7 = _ := hd 7 (by omega)
  have e8 : val 8 = _ := hd 8 (by omega)
  have e9 : val 9 = _ := hd 9 (by omega)
  obtain ⟨ga10_4, e10, qa10_4, hga10_4⟩ := hd 10 (by omega)
  change val 10 = _ at e10;change Blk wR4 ga10_4 25 #[.int .i64 500, .int .i64 500, .int .i64 500, .int .i64 500, .int .i64 500, .int .i64 500, .int .i64 500, .int .i64 500] at qa10_4;obtain ⟨ga11_4, e11, qa11_4, hga11_4⟩ := hd 11 (by omega)
  change val 11 = _ at e11;change Blk wR4 ga11_4 101 #[val 5, val 10] at qa11_4;rw [e5, e10] at qa11_4;have e12 : val 12 = _ := hd 12 (by omega)
  have e13 : val 13 = _ := hd 13 (by omega)
  have e14 : val 14 = _ := hd 14 (by omega)
  have e15 : val 15 = _ := hd 15 (by omega)
  have e16 : val 16 = _ := hd 16 (by omega)
  have e17 : val 17 = _ := hd 17 (by omega)
  obtain ⟨ga18_4, e18, qa18_4, hga18_4⟩ := hd 18 (by omega)
  change val 18 = _ at e18;change Blk wR4 ga18_4 85 #[.int .i64 10, .int .i64 0, .int .i64 1, .int .i64 120, .int .i64 2, .int .i64 3] at qa18_4;obtain ⟨h5_, h10_, h11_, h18_, e19, qh5, qh10, qh11, qh18⟩ := hd 19 (by omega)
  refine EL.ends (cs := [_, _, _, _, _, _, _, _, _, _, _, _, _, _, _, _, _, _, _, _]) ⟨e0, e1, e2, e3, e4, e5, e6, e7, e8, e9, e10, e11, e12, e13, e14, e15, e16, e17, e18, e19, trivial⟩ rfl ?_;replace q1 := q1.bl hb;replace q3 := q3.bl hb;replace q6 := q6.bl hb;replace q8 := q8.bl hb;replace q11 := q11.bl hb;replace q12 := q12.bl hb;replace q16 := q16.bl hb;replace q17 := q17.bl hb;have n1_20 : g1 ≠ ga5_4 := Nat.ne_of_lt (Nat.lt_of_lt_of_le lt_1 hga5_4);have n3_20 : g3 ≠ ga5_4 := Nat.ne_of_lt (Nat.lt_of_lt_of_le lt_3 hga5_4);have n6_20 : g6 ≠ ga5_4 := Nat.ne_of_lt (Nat.lt_of_lt_of_le lt_6 hga5_4);have n8_20 : g8 ≠ ga5_4 := Nat.ne_of_lt (Nat.lt_of_lt_of_le lt_8 hga5_4);have n11_20 : g11 ≠ ga5_4 := Nat.ne_of_lt (Nat.lt_of_lt_of_le lt_11 hga5_4);have n12_20 : g12 ≠ ga5_4 := Nat.ne_of_lt (Nat.lt_of_lt_of_le lt_12 hga5_4);have n16_20 : g16 ≠ ga5_4 := Nat.ne_of_lt (Nat.lt_of_lt_of_le lt_16 hga5_4);have n17_20 : g17 ≠ ga5_4 := Nat.ne_of_lt (Nat.lt_of_lt_of_le lt_17 hga5_4);have bhbw_20 := Nat.le_trans hbw.size hga5_4;have n1_21 : g1 ≠ ga10_4 := Nat.ne_of_lt (Nat.lt_of_lt_of_le lt_1 hga10_4);have n3_21 : g3 ≠ ga10_4 := Nat.ne_of_lt (Nat.lt_of_lt_of_le lt_3 hga10_4);have n6_21 : g6 ≠ ga10_4 := Nat.ne_of_lt (Nat.lt_of_lt_of_le lt_6 hga10_4);have n8_21 : g8 ≠ ga10_4 := Nat.ne_of_lt (Nat.lt_of_lt_of_le lt_8 hga10_4);have n11_21 : g11 ≠ ga10_4 := Nat.ne_of_lt (Nat.lt_of_lt_of_le lt_11 hga10_4);have n12_21 : g12 ≠ ga10_4 := Nat.ne_of_lt (Nat.lt_of_lt_of_le lt_12 hga10_4);have n16_21 : g16 ≠ ga10_4 := Nat.ne_of_lt (Nat.lt_of_lt_of_le lt_16 hga10_4);have n17_21 : g17 ≠ ga10_4 := Nat.ne_of_lt (Nat.lt_of_lt_of_le lt_17 hga10_4);have bhbw_21 := Nat.le_trans hbw.size hga10_4;have n1_22 : g1 ≠ ga11_4 := Nat.ne_of_lt (Nat.lt_of_lt_of_le lt_1 hga11_4);have n3_22 : g3 ≠ ga11_4 := Nat.ne_of_lt (Nat.lt_of_lt_of_le lt_3 hga11_4);have n6_22 : g6 ≠ ga11_4 := Nat.ne_of_lt (Nat.lt_of_lt_of_le lt_6 hga11_4);have n8_22 : g8 ≠ ga11_4 := Nat.ne_of_lt (Nat.lt_of_lt_of_le lt_8 hga11_4);have n11_22 : g11 ≠ ga11_4 := Nat.ne_of_lt (Nat.lt_of_lt_of_le lt_11 hga11_4);have n12_22 : g12 ≠ ga11_4 := Nat.ne_of_lt (Nat.lt_of_lt_of_le lt_12 hga11_4);have n16_22 : g16 ≠ ga11_4 := Nat.ne_of_lt (Nat.lt_of_lt_of_le lt_16 hga11_4);have n17_22 : g17 ≠ ga11_4 := Nat.ne_of_lt (Nat.lt_of_lt_of_le lt_17 hga11_4);have bhbw_22 := Nat.le_trans hbw.size hga11_4;have n1_23 : g1 ≠ ga18_4 := Nat.ne_of_lt (Nat.lt_of_lt_of_le lt_1 hga18_4);have n3_23 : g3 ≠ ga18_4 := Nat.ne_of_lt (Nat.lt_of_lt_of_le lt_3 hga18_4);have n6_23 : g6 ≠ ga18_4 := Nat.ne_of_lt (Nat.lt_of_lt_of_le lt_6 hga18_4);have n8_23 : g8 ≠ ga18_4 := Nat.ne_of_lt (Nat.lt_of_lt_of_le lt_8 hga18_4);have n11_23 : g11 ≠ ga18_4 := Nat.ne_of_lt (Nat.lt_of_lt_of_le lt_11 hga18_4);have n12_23 : g12 ≠ ga18_4 := Nat.ne_of_lt (Nat.lt_of_lt_of_le lt_12 hga18_4);have n16_23 : g16 ≠ ga18_4 := Nat.ne_of_lt (Nat.lt_of_lt_of_le lt_16 hga18_4);have n17_23 : g17 ≠ ga18_4 := Nat.ne_of_lt (Nat.lt_of_lt_of_le lt_17 hga18_4);have bhbw_23 := Nat.le_trans hbw.size hga18_4;replace hbw := bo_ hbw hb;clear hb;have hne_qh5 : _ ≠ g1 := QCn qh5 q1 rfl;have hne_qh10 : _ ≠ g1 := QCn qh10 q1 rfl;have hne_qh11 : _ ≠ g1 := QCn qh11 q1 rfl;have hne_qh18 : _ ≠ g1 := QCn qh18 q1 rfl;refine EL.store rfl rfl q1 QLb rfl rfl rfl rfl ?_;intro w24 hq24 hg24;replace q3 := q3.gr hg24 n1_3.symm;replace q6 := q6.gr hg24 n1_6.symm;replace q8 := q8.gr hg24 n1_8.symm;replace q11 := q11.gr hg24 n1_11.symm;replace q12 := q12.gr hg24 n1_12.symm;replace q16 := q16.gr hg24 n1_16.symm;replace q17 := q17.gr hg24 n1_17.symm;replace qa5_4 := qa5_4.gr hg24 n1_20.symm;replace qa10_4 := qa10_4.gr hg24 n1_21.symm;replace qa11_4 := qa11_4.gr hg24 n1_22.symm;replace qa18_4 := qa18_4.gr hg24 n1_23.symm;replace qh5 := qh5.gr hg24 hne_qh5;replace qh10 := qh10.gr hg24 hne_qh10;replace qh11 := qh11.gr hg24 hne_qh11;replace qh18 := qh18.gr hg24 hne_qh18;replace hbw := ZC hbw hg24 bhbw_1;replace q1 := hq24;clear hg24 hq24;refine EL.nil (EX.seq (EC.ret ?_));have hR : RdRiver w24 w24.heap.size (.slice (some ⟨g8, 0, none⟩) 2 2) (.slice (some ⟨g11, 0, none⟩) 1 1) pPas.rv [.slice (some ⟨g3, 0, none⟩) 2 2, .slice (some ⟨g6, 0, none⟩) 2 2] := by
   refine ⟨⟨rfl, YG (k := 2) (l := [.int .i64 100, .int .i64 2, .int .i64 1000, .int .i64 1000, .slice (some ⟨g3, 0, none⟩) 2 2, .int .i64 0, .int .i64 50, .int .i64 60, .int .i64 400, .int .i64 50, .int .i64 1, .int .i64 2000, .int .i64 2000, .slice (some ⟨g6, 0, none⟩) 2 2, .int .i64 150, .int .i64 20, .int .i64 20, .int .i64 160]) q8 rfl, fun i hi => ?_⟩, YG (k := 1) (l := shoalsC pPas.rv.shoals) q11 rfl⟩
   have h2 : i < 2 := hi
   match i, h2 with
   | 0, _ => exact YG (k := 2) (l := rowsC [⟨0, 100⟩, ⟨10000, 300⟩]) q3 rfl
   | 1, _ => exact YG (k := 2) (l := rowsC [⟨0, 0⟩, ⟨20000, 400⟩]) q6 rfl
  have hS : RdSides w24 w24.heap.size (.slice (some ⟨h11_, 0, none⟩) 2 2) pPas.sides [.slice (some ⟨h5_, 0, none⟩) 4 4, .slice (some ⟨h10_, 0, none⟩) 4 4] := by
   refine ⟨rfl, YG (k := 2) (l := [.slice (some ⟨h5_, 0, none⟩) 4 4, .slice (some ⟨h10_, 0, none⟩) 4 4]) qh11 rfl, fun i hi => ?_⟩
   have h2 : i < 2 := hi
   match i, h2 with
   | 0, _ => exact YG (k := 4) (l := bdsC [⟨2000, 3000⟩, ⟨2000, 3000⟩, ⟨2000, 3000⟩, ⟨2000, 3000⟩]) qh5 rfl
   | 1, _ => exact YG (k := 4) (l := bdsC [⟨500, 500⟩, ⟨500, 500⟩, ⟨500, 500⟩, ⟨500, 500⟩]) qh10 rfl
  have hW : Rd w24 w24.heap.size 3 (.slice (some ⟨h18_, 0, none⟩) 2 2) pPas.way.length (passesC pPas.way) := YG (k := 2) (l := passesC pPas.way) qh18 rfl
  exact EX.done (QGi rfl rfl (QLk (q1.at (j := 0) rfl) (q1.at (j := 1) rfl) (q1.at (j := 2) rfl) (q1.at (j := 3) rfl) (q1.at (j := 4) rfl))) ⟨⟨⟨_, _, _, _, _, _⟩, rfl, ⟨hR, hS, hW⟩⟩, hbw⟩
theorem QE3 {v : Value} {vs : List (Value × Value)} {w : World} (hr : RdSecs w w.heap.size v hTwo.secs vs) : Calls Try.prog 23 #[.agg #[.int .i64 100, v], .int .i64 150] w fun e w' => e = .returned (.tuple #[.int .i64 900, .int .i64 0]) ∧ Below w.heap.size w w' := by
 have key := QFZ hTwo v vs w _ hr (Nat.le_refl _) (by decide) QA1 150
 rw [QGZ.1, QGZ.2] at key
 exact key
theorem QDp {v : Value} {vs : List (Value × Value)} {w : World} (hr : RdSecs w w.heap.size v hTwo.secs vs) {vl : Value} (hi : Rd w w.heap.size 1 vl 2 (ints [3, 1])) : Calls Try.prog 22 #[.agg #[.int .i64 100, v], vl, .agg #[.int .i64 1000, .int .i64 1000]] w fun e w' => e = .returned (.tuple #[.agg #[.int .i64 100, .int .i64 100, .int .i64 115, .int .i64 115, .int .i64 (-1)], .int .i64 0]) ∧ Below w.heap.size w w' := by
 have key := QGG hTwo v vs w _ hr (Nat.le_refl _) (by decide) QA1 [3, 1] vl hi still
 rw [QDv.1, QDv.2] at key
 exact key
theorem QEI {v : Value} {vs : List (Value × Value)} {w : World} (hr : RdSecs w w.heap.size v hTwo.secs vs) {vl : Value} (hi : Rd w w.heap.size 1 vl 2 (ints [1, 1])) {q : PasV} (hp : RdPas w w.heap.size pPas q) : Calls Try.prog 20 #[.agg #[.int .i64 100, v], vl, .agg #[.int .i64 1000, .int .i64 1000], pasA pPas q] w fun e w' => e = .returned (.tuple #[.bool false, .bool true, .int .i64 0, .int .i64 0, .int .i64 0]) ∧ Below w.heap.size w w' := by
 have key := QIc hTwo v vs w _ hr (Nat.le_refl _) (by decide) QA1 [1, 1] vl hi still pPas q hp QES
 rw [QAI.1, QAI.2.1, QAI.2.2.1, QAI.2.2.2.1, QAI.2.2.2.2] at key
 exact key
set_option maxRecDepth 100000 in
theorem QDo {v : Value} {vs : List (Value × Value)} {w : World} (hr : RdSecs w w.heap.size v hTwo.secs vs) {vl : Value} (hi : Rd w w.heap.size 1 vl 2 (ints [1, 1])) {q : PasV} (hp : RdPas w w.heap.size pPas q) : Calls Try.prog 24 #[.agg #[.int .i64 100, v], vl, .agg #[.int .i64 1000, .int .i64 1000], pasA pPas q] w fun e w' => e = .returned (.tuple #[.int .i64 0, .int .i64 7]) ∧ Below w.heap.size w w' :=
 (QHu hTwo v vs w _ hr (Nat.le_refl _) (by decide) QA1 [1, 1] vl hi still pPas q hp QES).mono fun e w' h => by
  obtain ⟨⟨k, e2, h1, h2⟩, hb⟩ := h;have h3 := QHS h2;rw [h3.1, h3.2] at h1
  exact ⟨h1, hb⟩
theorem QE8 {v : Value} {vs : List (Value × Value)} {w : World} (hr : RdSecs w w.heap.size v hTwo.secs vs) {q : PasV} (hp : RdPas w w.heap.size pPas q) : Calls Try.prog 16 #[.agg #[.int .i64 100, v], .agg #[.int .i64 1000, .int .i64 1000], pasA pPas q] w fun e w' => (∃ A c, e = .returned (.tuple #[.agg #[.slice A 2 c, .int .i64 1, .int .i64 1, .int .i64 0, .int .i64 0], .int .i64 0]) ∧ w'.ownsRow w.heap.size 3 1 (.slice A 2 c) 2 (ints [0, 1])) ∧ Below w.heap.size w w' := by
 have key := QGW hTwo v vs w _ hr (Nat.le_refl _) (by decide) QA1 still pPas q hp QES
 rw [QGa.1, QGa.2] at key;refine key.mono fun e w' h => ⟨?_, h.2⟩
 obtain ⟨v_, h1, h2⟩ := h.1;obtain ⟨A, c, rfl, _⟩ := (Rd.of_own h2).shape
 exact ⟨A, c, h1, h2⟩
theorem QE5 {v : Value} {vs : List (Value × Value)} {w : World} (hr : RdSecs w w.heap.size v hTwo.secs vs) : Calls Try.prog 25 #[.agg #[.int .i64 100, v], .int .i64 0, .int .i64 1] w fun e w' => (∃ A c, e = .returned (.tuple #[.agg #[.int .i64 100, .slice A 1 c], .int .i64 0])) ∧ Below w.heap.size w w' := by
 have key := QKL hTwo v vs w _ hr (Nat.le_refl _) (by decide) QA1 0 1
 rw [QEL.1, QEL.2.2] at key;refine key.mono fun e w' h => ⟨?_, h.2⟩
 obtain ⟨v_, us, h1, h2⟩ := h.1;obtain ⟨A, c, rfl, _⟩ := (Rd.of_own h2.row).shape;rw [QEL.2.1] at h1
 exact ⟨A, c, h1⟩
section
variable {n : Nat} {σ : Sg} {w : World} {dst : Option Tmp} {ty : TypeId} {pos : String} {af : Array Edge} {g : Option (Nat × Bool)} {x y z : Operand} {at' : Array TypeId}
theorem QLM {a0 a1 a2 a3 a4 b0 b1 b2 b3 b4 : Int} {r : Bool} (hx : evS σ x = some (.agg #[.int .i64 a0, .int .i64 a1, .int .i64 a2, .int .i64 a3, .int .i64 a4])) (hy : evS σ y = some (.agg #[.int .i64 b0, .int .i64 b1, .int .i64 b2, .int .i64 b3, .int .i64 b4])) (hc : decide (a0 = b0 ∧ a1 = b1 ∧ a2 = b2 ∧ a3 = b3 ∧ a4 = b4) = r) : ZE Try.prog n σ w ⟨dst, .binOp .eql 76 x y 76, ty, pos, af, g⟩ (.bool r) := fun a ha => by
 subst hc
 simp only [execOp, ha.eval hx, ha.eval hy]
 go_simp
 repeat' split
 all_goals simp_all
theorem QLN {a0 a1 b0 b1 : Int} {r : Bool} (hx : evS σ x = some (.agg #[.int .i64 a0, .int .i64 a1])) (hy : evS σ y = some (.agg #[.int .i64 b0, .int .i64 b1])) (hc : decide (a0 = b0 ∧ a1 = b1) = r) : ZE Try.prog n σ w ⟨dst, .binOp .eql 25 x y 25, ty, pos, af, g⟩ (.bool r) := fun a ha => by
 subst hc
 simp only [execOp, ha.eval hx, ha.eval hy]
 go_simp
 repeat' split
 all_goals simp_all
theorem cA0 {F : FuncId} (hF : cF F)  (a : Act) (_ : Env n σ a) : (execOp a.eval ⟨dst, .call { callee := .value (.func F), args := #[], argTypes := at' }, ty, pos, af, g⟩).run Try.prog w = .ok (.enter F #[]) w := by
 simp only [execOp, resolve, List.map_toArray, List.map_nil]
 simp [go_sem, Act.eval, hF _ _]
theorem cF30 : cF 30 := fun _ _ => by simp [go_sem]
theorem cF23 : cF 23 := fun _ _ => by simp [go_sem]
theorem cF22 : cF 22 := fun _ _ => by simp [go_sem]
theorem cF31 : cF 31 := fun _ _ => by simp [go_sem]
theorem cF20 : cF 20 := fun _ _ => by simp [go_sem]
theorem cF16 : cF 16 := fun _ _ => by simp [go_sem]
theorem cF25 : cF 25 := fun _ _ => by simp [go_sem]
theorem QCI {x0 x1 : Operand} {v0_0 : Value} {v0_1 : Value} {v1_0 : Value} {v1_1 : Value} (h0 : evS σ x0 = some (.agg #[v0_0, v0_1])) (h1 : evS σ x1 = some (.agg #[v1_0, v1_1])) : ZE Try.prog n σ w ⟨dst, .build 30 #[(0, x0), (1, x1)], ty, pos, af, g⟩ (.agg #[v0_0, v0_1, v1_0, v1_1]) := fun a ha => by
 simp only [execOp, List.map_toArray, List.map_cons, List.map_nil, ha.eval h0, ha.eval h1]
 go_simp
theorem QKb {x0 : Operand} {z0 : Int} (h0 : evS σ x0 = some (.int .i64 z0)) : ZE Try.prog n σ w ⟨dst, .build 25 #[(1, x0)], ty, pos, af, g⟩ (.agg #[.int .i64 0, .int .i64 z0]) := fun a ha => by
 simp only [execOp, List.map_toArray, List.map_cons, List.map_nil, ha.eval h0]
 go_simp
theorem QKY {x0 x1 : Operand} {v0_0 v0_1 v0_2 v0_3 v1_0 v1_1 v1_2 v1_3 : Value} (h0 : evS σ x0 = some (.agg #[v0_0, v0_1, v0_2, v0_3])) (h1 : evS σ x1 = some (.agg #[v1_0, v1_1, v1_2, v1_3]))  (a : Act) (ha : Env n σ a) : (execOp a.eval ⟨dst, .buildSlice 22 2 #[(0, x0), (1, x1)], ty, pos, af, g⟩).run Try.prog w = .ok (.value (.slice (some ⟨w.heap.size, 0, none⟩) 2 2)) (w.alloc (.cells #[v0_0, v0_1, v0_2, v0_3, v1_0, v1_1, v1_2, v1_3] 30)) := by
 simp only [execOp, List.map_toArray, List.map_cons, List.map_nil, ha.eval h0, ha.eval h1]
 go_simp
theorem cF11 : cF 11 := fun _ _ => by simp [go_sem]
theorem cF24 : cF 24 := fun _ _ => by simp [go_sem]
theorem QFo {x0 x1 x2 : Operand} {v0_0 : Value} {v0_1 : Value} {v1_0 : Value} {v1_1 : Value} {z2 : Int} (h0 : evS σ x0 = some (.agg #[v0_0, v0_1])) (h1 : evS σ x1 = some (.agg #[v1_0, v1_1])) (h2 : evS σ x2 = some (.int .i64 z2)) : ZE Try.prog n σ w ⟨dst, .build 76 #[(0, x0), (1, x1), (2, x2)], ty, pos, af, g⟩ (.agg #[v0_0, v0_1, v1_0, v1_1, .int .i64 z2]) := fun a ha => by
 simp only [execOp, List.map_toArray, List.map_cons, List.map_nil, ha.eval h0, ha.eval h1, ha.eval h2]
 go_simp
end
set_option maxRecDepth 100000 in
set_option maxHeartbeats 1000000 in
theorem QCC (w : World) : Calls Try.prog 10 #[] w fun e w' => e = .returned (.bool true) ∧ Below w.heap.size w w' := by
 have hbw := Below.refl w.heap.size w;refine EC.enter 164 Try.func10 rfl rfl rfl (EC.seq (EC.region (EL.as rfl rfl (EL.nil (EX.seq (EC.seq (EC.region (EL.val (Zu rfl rfl) rfl (EL.newP QAO rfl ?_)))))))));intro g1 w1 q1 hb1 hg1 hl1;have bhbw_1 := Nat.le_trans hbw.size hg1;replace hbw := bo_ hbw hb1;clear hb1 hg1 hl1;refine EL.store rfl rfl q1 Z7 rfl rfl rfl rfl ?_;intro w2 hq2 hg2;replace hbw := ZC hbw hg2 bhbw_1;replace q1 := hq2;clear hg2 hq2;refine EL.nil (EX.seq (EC.seq (EC.region (EL.call (cA0 cF30) rfl (QA2 _) ?_))))
 rintro e w3 ⟨⟨vt, us, rfl, hT⟩, hc3⟩
 refine ⟨_, rfl, ?_⟩;replace q1 := q1.bl hc3;replace hbw := bo_ hbw hc3;clear hc3;refine EL.call (cA2 cF23 rfl rfl) rfl (QE3 hT) ?_
 rintro e w4 ⟨rfl, hc4⟩
 refine ⟨_, rfl, ?_⟩;replace q1 := q1.bl hc4;replace hbw := bo_ hbw hc4;clear hc4;refine EL.mv rfl rfl (EL.xt rfl rfl rfl (EL.xt rfl rfl rfl (EL.as rfl rfl (EL.as rfl rfl (EL.nil (EX.seq (EC.seq ?_)))))));have lt_1 := q1.lt;refine EC.regionS [[], [], [], [0, 1, 2], [0, 1, 2, 3], [0, 1, 2, 3, 4], [0, 1, 2, 3, 4], [], [0, 1, 2, 3, 4, 5, 7], [0, 1, 2, 3, 4, 5, 6, 7, 8]] 10 [7] [8] (fun _ w_ => Below w4.heap.size w4 w_) (phiS (fun i_ r => match i_ with | 2 => r 2 = .agg #[.int .i64 1000, .int .i64 1000] | 3 => r 3 = .tuple #[.agg #[.int .i64 100, .int .i64 100, .int .i64 115, .int .i64 115, .int .i64 (-1)], .int .i64 0] | 4 => r 4 = .tuple #[.agg #[.int .i64 100, .int .i64 100, .int .i64 115, .int .i64 115, .int .i64 (-1)], .int .i64 0] | 5 => r 5 = .agg #[.int .i64 100, .int .i64 100, .int .i64 115, .int .i64 115, .int .i64 (-1)] | 6 => r 6 = .int .i64 0 | 9 => r 9 = .int .i64 0 | _ => True) [(0, fun fl r w_ => fl 8 = false → (∃ v us, r 0 = .agg #[.int .i64 100, v] ∧ RdSecs w_ w_.heap.size v hTwo.secs us)), (1, fun fl r w_ => fl 8 = false → (∃ g_, r 1 = .slice (some ⟨g_, 0, none⟩) 2 2 ∧ Blk w_ g_ 3 #[.int .i64 3, .int .i64 1] ∧ w4.heap.size ≤ g_)), (7, fun fl r w_ => ∃ g_, r 7 = .pointer (some ⟨g_, 0, none⟩) ∧ w4.heap.size ≤ g_ ∧ (fl 8 = false → Blk w_ g_ 76 #[.int .i64 0, .int .i64 0, .int .i64 0, .int .i64 0, .int .i64 0])), (8, fun _ r w_ => ∃ g_, r 7 = .pointer (some ⟨g_, 0, none⟩) ∧ Blk w_ g_ 76 #[.int .i64 100, .int .i64 100, .int .i64 115, .int .i64 115, .int .i64 (-1)])]) (by kernel_rfl) rfl rfl (by intro i hi; simp at hi; first | (subst hi; exact ⟨by simp, by omega⟩) | (rcases hi with rfl | rfl | rfl <;> exact ⟨by simp, by omega⟩) | (rcases hi with rfl | rfl <;> exact ⟨by simp, by omega⟩)) (QBT w4) (ZU (Y4 QBf) (ZU (Y4 Zw) (ZU QAD (ZU QAm (YZ))))) (fun i_ hi_ hs_ => ?_) (fun i_ hi_ => ?_) ?_
 ·match i_, hi_ with
  | 0, _ =>
   intro val fl w1 a hb ha hd hfl;have ha := ha.sub (Sub.nil _);refine QBY ha rfl rfl (cA0 cF30) (QA2 _) rfl ?_
   rintro e w' ⟨⟨v1, us1, rfl, hT1⟩, hb'⟩
   exact ⟨_, rfl, hb', fun _ => ⟨v1, us1, rfl, hT1⟩⟩
  | 1, _ =>
   intro val fl w1 a hb ha hd hfl;have ha := ha.sub (Sub.nil _)
   exact QGc ha rfl rfl (QBy rfl rfl) rfl (fun g w' hq _ hge => fun _ => ⟨g, rfl, hq, Nat.le_trans hb.size hge⟩)
  | 2, _ =>
   intro val fl w1 a hb ha hd hfl;have ha := ha.s0 (d := 1) rfl
   exact ZJ ha rfl rfl (Zp rfl ((q1.below hb q1.lt).at (j := 0) rfl) ((q1.below hb q1.lt).at (j := 1) rfl)) rfl rfl
  | 3, _ =>
   intro val fl w1 a hb ha hd hfl;obtain ⟨v0_, us0_, e0, hT0_⟩ := hd 0 (ZA.1 rfl) (hfl 8 (by simp) (ZA.1 rfl))
   obtain ⟨g1_, e1, q1_, h1_⟩ := hd 1 (ZA.1 rfl) (hfl 8 (by simp) (ZA.1 rfl))
   change val 1 = _ at e1;have e2 : val 2 = _ := hd 2 (ZA.1 rfl);have ha := ha.sub (Sub.ins (d := 29) (Sub.ins (d := 28) (Sub.ins (d := 27) (Sub.nil _) (ZI rfl e0)) (ZI rfl e1)) (ZI rfl e2));refine QBY ha rfl rfl (cA3 cF22 rfl rfl rfl) (QDp hT0_ (YG (k := 2) (l := ints [3, 1]) q1_ rfl)) rfl ?_
   rintro e w' ⟨rfl, hb'⟩
   exact ⟨_, rfl, hb', rfl⟩
  | 4, _ =>
   intro val fl w1 a hb ha hd hfl;have e3 : val 3 = _ := hd 3 (ZA.1 rfl);have ha := ha.s1 (d := 30) rfl e3
   exact ZJ ha rfl rfl (ZH rfl) rfl rfl
  | 5, _ =>
   intro val fl w1 a hb ha hd hfl;have e4 : val 4 = _ := hd 4 (ZA.1 rfl);have ha := ha.s1 (d := 26) rfl e4
   exact ZJ ha rfl rfl (Z1 rfl rfl) rfl rfl
  | 6, _ =>
   intro val fl w1 a hb ha hd hfl;have e4 : val 4 = _ := hd 4 (ZA.1 rfl);have ha := ha.s1 (d := 26) rfl e4
   exact ZJ ha rfl rfl (Z1 rfl rfl) rfl rfl
  | 7, _ =>
   intro val fl w1 a hb ha hd hfl;have ha := ha.sub (Sub.nil _)
   exact QCa ha rfl rfl QCW (fun g w' hq _ hge => ⟨g, rfl, Nat.le_trans hb.size hge, fun _ => hq⟩)
  | 8, _ =>
   exact absurd (by simp) hs_
  | 9, _ =>
   intro val fl w1 a hb ha hd hfl;have e6 : val 6 = _ := hd 6 (ZA.1 rfl);have ha := ha.s1 (d := 32) rfl e6
   exact ZJ ha rfl rfl (Zh rfl) rfl rfl
  | k + 10, h => exact absurd h (by omega)
 ·simp only [List.mem_singleton] at hi_; subst hi_
  intro val fl w1 a hb hfi ha hd hfl;obtain ⟨g7_, e7, hg7_, q7_⟩ := hd 7 (ZA.1 rfl);change val 7 = _ at e7;have e5 : val 5 = _ := hd 5 (ZA.1 rfl);have ha := ha.s2 (d := 31) (e := 4) rfl e5 rfl e7;refine YD ha rfl rfl rfl (q7_ hfi) Yp rfl rfl rfl rfl ?_;intro w' hq hgr;refine ⟨undef, rfl, hgr.size, ZC hb hgr hg7_, ⟨g7_, e7, hq⟩, fun j _ hj hn hA => ?_⟩
  exact ZG (C := fun j => j ≠ 8 ∧ 8 ∉ clsAt [[], [], [], [0, 1, 2], [0, 1, 2, 3], [0, 1, 2, 3, 4], [0, 1, 2, 3, 4], [], [0, 1, 2, 3, 4, 5, 7], [0, 1, 2, 3, 4, 5, 6, 7, 8]] j ∧ ∀ p ∈ [7], (p = j ∨ p ∈ clsAt [[], [], [], [0, 1, 2], [0, 1, 2, 3], [0, 1, 2, 3, 4], [0, 1, 2, 3, 4], [], [0, 1, 2, 3, 4, 5, 7], [0, 1, 2, 3, 4, 5, 6, 7, 8]] j) → ∀ q ∈ [7], (q = 8 ∨ q ∈ clsAt [[], [], [], [0, 1, 2], [0, 1, 2, 3], [0, 1, 2, 3, 4], [0, 1, 2, 3, 4], [], [0, 1, 2, 3, 4, 5, 7], [0, 1, 2, 3, 4, 5, 6, 7, 8]] 8) → p ≠ q → val p ≠ val q) (fun _ _ h => by rw [Zs] at h; cases h) (ZG (fun _ _ h => by rw [Zs] at h; cases h) (ZG (fun _ ⟨g, h1, h2, _⟩ => ⟨g, h1, h2, fun h => by rw [Zs] at h; cases h⟩) (ZG (fun hc => absurd rfl hc.1) (fun _ _ h => h)))) j ⟨hj, hn, hA⟩
 ·intro val fl wR3 hfl hb halc hd
  have e2 : val 2 = _ := hd 2 (by omega)
  have e3 : val 3 = _ := hd 3 (by omega)
  have e4 : val 4 = _ := hd 4 (by omega)
  have e5 : val 5 = _ := hd 5 (by omega)
  have e6 : val 6 = _ := hd 6 (by omega)
  obtain ⟨ga7_3, e7, qa7_3⟩ := hd 8 (by omega)
  change val 7 = _ at e7;have e9 : val 9 = _ := hd 9 (by omega)
  refine EL.ends (cs := [val 0, val 1, _, _, _, _, _, _, val 8, _]) ⟨rfl, rfl, e2, e3, e4, e5, e6, e7, rfl, e9, trivial⟩ rfl ?_;replace q1 := q1.bl hb;have bge5 := QCJ halc (i := 7) rfl rfl e7;have n1_5 : g1 ≠ ga7_3 := Nat.ne_of_lt (Nat.lt_of_lt_of_le lt_1 bge5);have bhbw_5 := Nat.le_trans hbw.size bge5;replace hbw := bo_ hbw hb;refine EL.nil (EX.seq (EC.seq ?_));have lt_1 := q1.lt;have lt_5 := qa7_3.lt;refine EC.regionP [[], [], [], [0], [0, 1, 2, 3], [0, 1, 2, 3, 4], [0, 1, 2, 3, 4, 5], [0, 1, 2, 3, 4, 5], [0, 1, 2, 3, 4, 5], [0, 1, 2, 3, 4, 5], [0, 1, 2, 3, 4, 5], [0, 1, 2, 3, 4, 5, 6], [0, 1, 2, 3, 4, 5, 6, 7, 11], [0, 1, 2, 3, 4, 5, 6, 7, 8, 11, 12], [0, 1, 2, 3, 4, 5, 6, 7, 8, 9, 11, 12, 13], [0, 1, 2, 3, 4, 5, 6, 7, 8, 9, 10, 11, 12, 13, 14]] 16 [] (phi (fun i_ r => match i_ with | 2 => r 2 = .agg #[.int .i64 1000, .int .i64 1000] | 4 => r 4 = .tuple #[.bool false, .bool true, .int .i64 0, .int .i64 0, .int .i64 0] | 5 => r 5 = .tuple #[.bool false, .bool true, .int .i64 0, .int .i64 0, .int .i64 0] | 6 => r 6 = .bool false | 7 => r 7 = .bool true | 8 => r 8 = .int .i64 0 | 9 => r 9 = .int .i64 0 | 10 => r 10 = .int .i64 0 | 11 => r 11 = .bool false | 12 => r 12 = .bool true | 13 => r 13 = .int .i64 0 | 14 => r 14 = .int .i64 0 | 15 => r 15 = .int .i64 0 | _ => True) [(0, fun r w_ => ∃ v us, r 0 = .agg #[.int .i64 100, v] ∧ RdSecs w_ w_.heap.size v hTwo.secs us), (1, fun r w_ => ∃ g_, r 1 = .slice (some ⟨g_, 0, none⟩) 2 2 ∧ Blk w_ g_ 3 #[.int .i64 1, .int .i64 1] ∧ wR3.heap.size ≤ g_), (3, fun r w_ => ∃ q : PasV, r 3 = pasA pPas q ∧ RdPas w_ w_.heap.size pPas q)]) (by kernel_rfl) rfl rfl (ZT QBf (ZT Zw (ZT QC_ (ZY)))) (fun i_ hi_ => ?_) ?_
  ·match i_, hi_ with
   | 0, _ =>
    intro val w1 a hb ha hd;have ha := ha.sub (Sub.nil _);refine Zf ha rfl rfl (cA0 cF30) (QA2 _) rfl ?_
    rintro e w' ⟨⟨v1, us1, rfl, hT1⟩, hb'⟩
    exact ⟨_, rfl, hb', ⟨v1, us1, rfl, hT1⟩⟩
   | 1, _ =>
    intro val w1 a hb ha hd;have ha := ha.sub (Sub.nil _)
    exact YB ha rfl rfl (QBy rfl rfl) rfl (fun g w' hq _ hge => ⟨g, rfl, hq, Nat.le_trans hb.size hge⟩)
   | 2, _ =>
    intro val w1 a hb ha hd;have ha := ha.s0 (d := 1) rfl
    exact ZB ha rfl rfl (Zp rfl ((q1.below hb q1.lt).at (j := 0) rfl) ((q1.below hb q1.lt).at (j := 1) rfl)) rfl rfl
   | 3, _ =>
    intro val w1 a hb ha hd;have ha := ha.sub (Sub.nil _);refine Zf ha rfl rfl (cA0 cF31) (QAl _) rfl ?_
    rintro e w' ⟨⟨q1, rfl, hp1⟩, hb'⟩
    exact ⟨_, rfl, hb', ⟨q1, rfl, hp1⟩⟩
   | 4, _ =>
    intro val w1 a hb ha hd;obtain ⟨v0_, us0_, e0, hT0_⟩ := hd 0 (ZA.1 rfl);obtain ⟨g1_, e1, q1_, h1_⟩ := hd 1 (ZA.1 rfl);change val 1 = _ at e1;have e2 : val 2 = _ := hd 2 (ZA.1 rfl);obtain ⟨q3_, e3, hp3_⟩ := hd 3 (ZA.1 rfl);have ha := ha.sub (Sub.ins (d := 37) (Sub.ins (d := 36) (Sub.ins (d := 35) (Sub.ins (d := 34) (Sub.nil _) (ZI rfl e0)) (ZI rfl e1)) (ZI rfl e2)) (ZI rfl e3));refine Zf ha rfl rfl (cA4 cF20 rfl rfl rfl rfl) (QEI hT0_ (YG (k := 2) (l := ints [1, 1]) q1_ rfl) hp3_) rfl ?_
    rintro e w' ⟨rfl, hb'⟩
    exact ⟨_, rfl, hb', rfl⟩
   | 5, _ =>
    intro val w1 a hb ha hd;have e4 : val 4 = _ := hd 4 (ZA.1 rfl);have ha := ha.s1 (d := 38) rfl e4
    exact ZB ha rfl rfl (ZH rfl) rfl rfl
   | 6, _ =>
    intro val w1 a hb ha hd;have e5 : val 5 = _ := hd 5 (ZA.1 rfl);have ha := ha.s1 (d := 33) rfl e5
    exact ZB ha rfl rfl (Z1 rfl rfl) rfl rfl
   | 7, _ =>
    intro val w1 a hb ha hd;have e5 : val 5 = _ := hd 5 (ZA.1 rfl);have ha := ha.s1 (d := 33) rfl e5
    exact ZB ha rfl rfl (Z1 rfl rfl) rfl rfl
   | 8, _ =>
    intro val w1 a hb ha hd;have e5 : val 5 = _ := hd 5 (ZA.1 rfl);have ha := ha.s1 (d := 33) rfl e5
    exact ZB ha rfl rfl (Z1 rfl rfl) rfl rfl
   | 9, _ =>
    intro val w1 a hb ha hd;have e5 : val 5 = _ := hd 5 (ZA.1 rfl);have ha := ha.s1 (d := 33) rfl e5
    exact ZB ha rfl rfl (Z1 rfl rfl) rfl rfl
   | 10, _ =>
    intro val w1 a hb ha hd;have e5 : val 5 = _ := hd 5 (ZA.1 rfl);have ha := ha.s1 (d := 33) rfl e5
    exact ZB ha rfl rfl (Z1 rfl rfl) rfl rfl
   | 11, _ =>
    intro val w1 a hb ha hd;have e6 : val 6 = _ := hd 6 (ZA.1 rfl);have ha := ha.s1 (d := 39) rfl e6
    exact ZB ha rfl rfl (Zh rfl) rfl rfl
   | 12, _ =>
    intro val w1 a hb ha hd;have e7 : val 7 = _ := hd 7 (ZA.1 rfl);have ha := ha.s1 (d := 40) rfl e7
    exact ZB ha rfl rfl (Zh rfl) rfl rfl
   | 13, _ =>
    intro val w1 a hb ha hd;have e8 : val 8 = _ := hd 8 (ZA.1 rfl);have ha := ha.s1 (d := 41) rfl e8
    exact ZB ha rfl rfl (Zh rfl) rfl rfl
   | 14, _ =>
    intro val w1 a hb ha hd;have e9 : val 9 = _ := hd 9 (ZA.1 rfl);have ha := ha.s1 (d := 42) rfl e9
    exact ZB ha rfl rfl (Zh rfl) rfl rfl
   | 15, _ =>
    intro val w1 a hb ha hd;have e10 : val 10 = _ := hd 10 (ZA.1 rfl);have ha := ha.s1 (d := 43) rfl e10
    exact ZB ha rfl rfl (Zh rfl) rfl rfl
   | k + 16, h => exact absurd h (by omega)
  ·intro val wR4 hb halc hd
   obtain ⟨v0_, us0_, e0, hT0_⟩ := hd 0 (by omega)
   obtain ⟨ga1_4, e1, qa1_4, hga1_4⟩ := hd 1 (by omega)
   change val 1 = _ at e1;change Blk wR4 ga1_4 3 #[.int .i64 1, .int .i64 1] at qa1_4;have e2 : val 2 = _ := hd 2 (by omega)
   obtain ⟨q3_, e3, hp3_⟩ := hd 3 (by omega)
   have e4 : val 4 = _ := hd 4 (by omega)
   have e5 : val 5 = _ := hd 5 (by omega)
   have e6 : val 6 = _ := hd 6 (by omega)
   have e7 : val 7 = _ := hd 7 (by omega)
   have e8 : val 8 = _ := hd 8 (by omega)
   have e9 : val 9 = _ := hd 9 (by omega)
   have e10 : val 10 = _ := hd 10 (by omega)
   have e11 : val 11 = _ := hd 11 (by omega)
   have e12 : val 12 = _ := hd 12 (by omega)
   have e13 : val 13 = _ := hd 13 (by omega)
   have e14 : val 14 = _ := hd 14 (by omega)
   have e15 : val 15 = _ := hd 15 (by omega)
   refine EL.ends (cs := [_, _, _, _, _, _, _, _, _, _, _, _, _, _, _, _]) ⟨e0, e1, e2, e3, e4, e5, e6, e7, e8, e9, e10, e11, e12, e13, e14, e15, trivial⟩ rfl ?_;replace q1 := q1.bl hb;replace qa7_3 := qa7_3.bl hb;have n1_6 : g1 ≠ ga1_4 := Nat.ne_of_lt (Nat.lt_of_lt_of_le lt_1 hga1_4);have n5_6 : ga7_3 ≠ ga1_4 := Nat.ne_of_lt (Nat.lt_of_lt_of_le lt_5 hga1_4);have bhbw_6 := Nat.le_trans hbw.size hga1_4;replace hbw := bo_ hbw hb;clear hb;refine EL.nil (EX.seq (EC.seq ?_));have lt_1 := q1.lt;have lt_5 := qa7_3.lt;refine EC.regionS [[], [], [0], [0, 1, 2], [0, 1, 2, 3], [0, 1, 2, 3, 4], [0, 1, 2, 3, 4], [], [0, 1, 2, 3, 4, 5, 7], [0, 1, 2, 3, 4, 5, 6, 7, 8]] 10 [7] [8] (fun _ w_ => Below wR4.heap.size wR4 w_) (phiS (fun i_ r => match i_ with | 1 => r 1 = .agg #[.int .i64 1000, .int .i64 1000] | 6 => r 6 = .int .i64 0 | 9 => r 9 = .int .i64 0 | _ => True) [(0, fun fl r w_ => fl 8 = false → (∃ v us, r 0 = .agg #[.int .i64 100, v] ∧ RdSecs w_ w_.heap.size v hTwo.secs us)), (2, fun fl r w_ => fl 8 = false → (∃ q : PasV, r 2 = pasA pPas q ∧ RdPas w_ w_.heap.size pPas q)), (3, fun _ r w_ => ∃ A_ c_, r 3 = .tuple #[.agg #[.slice A_ 2 c_, .int .i64 1, .int .i64 1, .int .i64 0, .int .i64 0], .int .i64 0] ∧ w_.ownsRow wR4.heap.size 3 1 (.slice A_ 2 c_) 2 (ints [0, 1])), (4, fun _ r w_ => ∃ A_ c_, r 4 = .tuple #[.agg #[.slice A_ 2 c_, .int .i64 1, .int .i64 1, .int .i64 0, .int .i64 0], .int .i64 0] ∧ w_.ownsRow wR4.heap.size 3 1 (.slice A_ 2 c_) 2 (ints [0, 1])), (5, fun _ r w_ => ∃ A_ c_, r 5 = .agg #[.slice A_ 2 c_, .int .i64 1, .int .i64 1, .int .i64 0, .int .i64 0] ∧ w_.ownsRow wR4.heap.size 3 1 (.slice A_ 2 c_) 2 (ints [0, 1])), (7, fun fl r w_ => ∃ g_, r 7 = .pointer (some ⟨g_, 0, none⟩) ∧ wR4.heap.size ≤ g_ ∧ (fl 8 = false → Blk w_ g_ 59 #[.slice none 0 0, .int .i64 0, .int .i64 0, .int .i64 0, .int .i64 0])), (8, fun _ r w_ => ∃ z_ A_ c_, r 7 = .pointer (some ⟨z_, 0, none⟩) ∧ Blk w_ z_ 59 #[.slice A_ 2 c_, .int .i64 1, .int .i64 1, .int .i64 0, .int .i64 0] ∧ w_.ownsRow wR4.heap.size 3 1 (.slice A_ 2 c_) 2 (ints [0, 1]) ∧ wR4.heap.size ≤ z_)]) (by kernel_rfl) rfl rfl (by intro i hi; simp at hi; first | (subst hi; exact ⟨by simp, by omega⟩) | (rcases hi with rfl | rfl | rfl <;> exact ⟨by simp, by omega⟩) | (rcases hi with rfl | rfl <;> exact ⟨by simp, by omega⟩)) (QBT wR4) (ZU (Y4 QBf) (ZU (Y4 QC_) (ZU QDB (ZU QDB (ZU QDB (ZU QAD (ZU (fun _ _ _ _ hb ⟨g, A, c9, h1, h2, h3, h4⟩ => ⟨g, A, c9, h1, h2.below hb h2.lt, own_below h3 hb (Nat.le_refl _), h4⟩) (YZ)))))))) (fun i_ hi_ hs_ => ?_) (fun i_ hi_ => ?_) ?_
   ·match i_, hi_ with
    | 0, _ =>
     intro val fl w1 a hb ha hd hfl;have ha := ha.sub (Sub.nil _);refine QBY ha rfl rfl (cA0 cF30) (QA2 _) rfl ?_
     rintro e w' ⟨⟨v1, us1, rfl, hT1⟩, hb'⟩
     exact ⟨_, rfl, hb', fun _ => ⟨v1, us1, rfl, hT1⟩⟩
    | 1, _ =>
     intro val fl w1 a hb ha hd hfl;have ha := ha.s0 (d := 1) rfl
     exact ZJ ha rfl rfl (Zp rfl ((q1.below hb q1.lt).at (j := 0) rfl) ((q1.below hb q1.lt).at (j := 1) rfl)) rfl rfl
    | 2, _ =>
     intro val fl w1 a hb ha hd hfl;have ha := ha.sub (Sub.nil _);refine QBY ha rfl rfl (cA0 cF31) (QAl _) rfl ?_
     rintro e w' ⟨⟨q1, rfl, hp1⟩, hb'⟩
     exact ⟨_, rfl, hb', fun _ => ⟨q1, rfl, hp1⟩⟩
    | 3, _ =>
     intro val fl w1 a hb ha hd hfl;obtain ⟨v0_, us0_, e0, hT0_⟩ := hd 0 (ZA.1 rfl) (hfl 8 (by simp) (ZA.1 rfl))
     have e1 : val 1 = _ := hd 1 (ZA.1 rfl);obtain ⟨q2_, e2, hp2_⟩ := hd 2 (ZA.1 rfl) (hfl 8 (by simp) (ZA.1 rfl))
     have ha := ha.sub (Sub.ins (d := 47) (Sub.ins (d := 46) (Sub.ins (d := 45) (Sub.nil _) (ZI rfl e0)) (ZI rfl e1)) (ZI rfl e2));refine QBY ha rfl rfl (cA3 cF16 rfl rfl rfl) (QE8 hT0_ hp2_) rfl ?_
     rintro e w' ⟨⟨A1, c1, rfl, ho1⟩, hb'⟩
     exact ⟨_, rfl, hb', ⟨A1, c1, rfl, own_less ho1 hb.size⟩⟩
    | 4, _ =>
     intro val fl w1 a hb ha hd hfl;obtain ⟨A3_, c3_, e3, o3_⟩ := hd 3 (ZA.1 rfl);have ha := ha.s1 (d := 48) rfl e3
     exact ZJ ha rfl rfl (ZH rfl) ⟨A3_, c3_, rfl, o3_⟩ rfl
    | 5, _ =>
     intro val fl w1 a hb ha hd hfl;obtain ⟨A4_, c4_, e4, o4_⟩ := hd 4 (ZA.1 rfl);have ha := ha.s1 (d := 44) rfl e4
     exact ZJ ha rfl rfl (Z1 rfl rfl) ⟨A4_, c4_, rfl, o4_⟩ rfl
    | 6, _ =>
     intro val fl w1 a hb ha hd hfl;obtain ⟨A4_, c4_, e4, o4_⟩ := hd 4 (ZA.1 rfl);have ha := ha.s1 (d := 44) rfl e4
     exact ZJ ha rfl rfl (Z1 rfl rfl) rfl rfl
    | 7, _ =>
     intro val fl w1 a hb ha hd hfl;have ha := ha.sub (Sub.nil _)
     exact QCa ha rfl rfl QKw (fun g w' hq _ hge => ⟨g, rfl, Nat.le_trans hb.size hge, fun _ => hq⟩)
    | 8, _ =>
     exact absurd (by simp) hs_
    | 9, _ =>
     intro val fl w1 a hb ha hd hfl;have e6 : val 6 = _ := hd 6 (ZA.1 rfl);have ha := ha.s1 (d := 50) rfl e6
     exact ZJ ha rfl rfl (Zh rfl) rfl rfl
    | k + 10, h => exact absurd h (by omega)
   ·simp only [List.mem_singleton] at hi_; subst hi_
    intro val fl w1 a hb hfi ha hd hfl;obtain ⟨g7_, e7, hg7_, q7_⟩ := hd 7 (ZA.1 rfl);change val 7 = _ at e7;obtain ⟨A5_, c5_, e5, o5_⟩ := hd 5 (ZA.1 rfl);have ha := ha.s2 (d := 49) (e := 11) rfl e5 rfl e7;refine YD ha rfl rfl rfl (q7_ hfi) QCt rfl rfl rfl rfl ?_;intro w' hq hgr;refine ⟨undef, rfl, hgr.size, ZC hb hgr hg7_, ⟨g7_, A5_, c5_, e7, hq, ZF o5_ (q7_ hfi) rfl hgr, hg7_⟩, fun j _ hj hn hA => ?_⟩
    exact ZG (C := fun j => j ≠ 8 ∧ 8 ∉ clsAt [[], [], [0], [0, 1, 2], [0, 1, 2, 3], [0, 1, 2, 3, 4], [0, 1, 2, 3, 4], [], [0, 1, 2, 3, 4, 5, 7], [0, 1, 2, 3, 4, 5, 6, 7, 8]] j ∧ ∀ p ∈ [7], (p = j ∨ p ∈ clsAt [[], [], [0], [0, 1, 2], [0, 1, 2, 3], [0, 1, 2, 3, 4], [0, 1, 2, 3, 4], [], [0, 1, 2, 3, 4, 5, 7], [0, 1, 2, 3, 4, 5, 6, 7, 8]] j) → ∀ q ∈ [7], (q = 8 ∨ q ∈ clsAt [[], [], [0], [0, 1, 2], [0, 1, 2, 3], [0, 1, 2, 3, 4], [0, 1, 2, 3, 4], [], [0, 1, 2, 3, 4, 5, 7], [0, 1, 2, 3, 4, 5, 6, 7, 8]] 8) → p ≠ q → val p ≠ val q) (fun _ _ h => by rw [Zs] at h; cases h) (ZG (fun _ _ h => by rw [Zs] at h; cases h) (ZG (fun _ ⟨A, c9, h1, h2⟩ => ⟨A, c9, h1, ZF h2 (q7_ hfi) rfl hgr⟩) (ZG (fun _ ⟨A, c9, h1, h2⟩ => ⟨A, c9, h1, ZF h2 (q7_ hfi) rfl hgr⟩) (ZG (fun _ ⟨A, c9, h1, h2⟩ => ⟨A, c9, h1, ZF h2 (q7_ hfi) rfl hgr⟩) (ZG (fun _ ⟨g, h1, h2, _⟩ => ⟨g, h1, h2, fun h => by rw [Zs] at h; cases h⟩) (ZG (fun hc => absurd rfl hc.1) (fun _ _ h => h))))))) j ⟨hj, hn, hA⟩
   ·intro val fl wR5 hfl hb halc hd
    have e1 : val 1 = _ := hd 1 (by omega)
    obtain ⟨A3_, c3_, e3, o3_⟩ := hd 3 (by omega)
    change val 3 = _ at e3;obtain ⟨A4_, c4_, e4, o4_⟩ := hd 4 (by omega)
    change val 4 = _ at e4;obtain ⟨A5_, c5_, e5, o5_⟩ := hd 5 (by omega)
    change val 5 = _ at e5;have e6 : val 6 = _ := hd 6 (by omega)
    obtain ⟨ga7_5, A8_, c8_, e7, qa7_5, oa8, hga7_5⟩ := hd 8 (by omega)
    change val 7 = _ at e7;have e9 : val 9 = _ := hd 9 (by omega)
    refine EL.ends (cs := [val 0, _, val 2, _, _, _, _, _, val 8, _]) ⟨rfl, e1, rfl, e3, e4, e5, e6, e7, rfl, e9, trivial⟩ rfl ?_;replace q1 := q1.bl hb;replace qa7_3 := qa7_3.bl hb;have bge7 := QCJ halc (i := 7) rfl rfl e7;have n1_7 : g1 ≠ ga7_5 := Nat.ne_of_lt (Nat.lt_of_lt_of_le lt_1 bge7);have n5_7 : ga7_3 ≠ ga7_5 := Nat.ne_of_lt (Nat.lt_of_lt_of_le lt_5 bge7);have bhbw_7 := Nat.le_trans hbw.size bge7;replace hbw := bo_ hbw hb;obtain ⟨ga_, ca_, eA_⟩ := QGt oa8 (by omega)
    injection eA_ with eA_ _ eC_
    subst eA_ eC_;refine EL.nil (EX.seq (EC.seq (EC.region (EL.call (cA0 cF30) rfl (QA2 _) ?_))))
    rintro e w8 ⟨⟨vt, us, rfl, hT⟩, hc8⟩
    refine ⟨_, rfl, ?_⟩;replace q1 := q1.bl hc8;replace qa7_3 := qa7_3.bl hc8;replace qa7_5 := qa7_5.bl hc8;replace oa8 := own_below oa8 hc8 (Nat.le_refl _);replace hbw := bo_ hbw hc8;clear hc8;refine EL.call (cA3 cF25 rfl rfl rfl) rfl (QE5 hT) ?_
    rintro e w9 ⟨⟨Ac, cc, rfl⟩, hc9⟩
    refine ⟨_, rfl, ?_⟩;replace q1 := q1.bl hc9;replace qa7_3 := qa7_3.bl hc9;replace qa7_5 := qa7_5.bl hc9;replace oa8 := own_below oa8 hc9 (Nat.le_refl _);replace hbw := bo_ hbw hc9;clear hc9;refine EL.mv rfl rfl (EL.xt rfl rfl rfl (EL.xt rfl rfl rfl (EL.newP QFs rfl ?_)));intro g10 w10 q10 hb10 hg10 hl10;have n1_10 := q1.na hg10;have n5_10 := qa7_3.na hg10;have n7_10 := qa7_5.na hg10;have bhbw_10 := Nat.le_trans hbw.size hg10;replace q1 := q1.bl hb10;replace qa7_3 := qa7_3.bl hb10;replace qa7_5 := qa7_5.bl hb10;replace oa8 := own_below oa8 hb10 (Nat.le_refl _);replace hbw := bo_ hbw hb10;clear hb10 hg10 hl10;refine EL.store rfl rfl q10 QBX rfl rfl rfl rfl ?_;intro w11 hq11 hg11;replace q1 := q1.gr hg11 n1_10;replace qa7_3 := qa7_3.gr hg11 n5_10;replace qa7_5 := qa7_5.gr hg11 n7_10;replace oa8 := ZF oa8 q10 rfl hg11;replace hbw := ZC hbw hg11 bhbw_10;replace q10 := hq11;clear hg11 hq11;refine EL.as rfl rfl (EL.nil (EX.seq (EC.seq (EC.region (EL.val (Zu rfl rfl) rfl (EL.val (Zu rfl rfl) rfl (EL.val (QCI rfl rfl) rfl (EL.val (Zu rfl rfl) rfl (EL.val (QKb rfl) rfl ?_)))))))));refine EL.val (QCI rfl rfl) rfl (EL.newS (QKY rfl rfl) rfl ?_);intro g12 w12 q12 hb12 hg12 hl12;have n1_12 := q1.na hg12;have n5_12 := qa7_3.na hg12;have n7_12 := qa7_5.na hg12;have n10_12 := q10.na hg12;have bhbw_12 := Nat.le_trans hbw.size hg12;replace q1 := q1.bl hb12;replace qa7_3 := qa7_3.bl hb12;replace qa7_5 := qa7_5.bl hb12;replace q10 := q10.bl hb12;replace oa8 := own_below oa8 hb12 (Nat.le_refl _);replace hbw := bo_ hbw hb12;clear hb12 hg12 hl12;refine EL.call (cA2 cF11 rfl rfl) rfl (by have key := QDL QGr _ 600 w12 _ (YG (k := 2) (l := platesC QGr) q12 rfl) (Nat.le_refl _) (by decide); rw [QE4.1, QE4.2] at key; exact key) ?_
    rintro e w13 ⟨rfl, hc13⟩
    refine ⟨_, rfl, ?_⟩;replace q1 := q1.bl hc13;replace qa7_3 := qa7_3.bl hc13;replace qa7_5 := qa7_5.bl hc13;replace q10 := q10.bl hc13;replace q12 := q12.bl hc13;replace oa8 := own_below oa8 hc13 (Nat.le_refl _);replace hbw := bo_ hbw hc13;clear hc13;refine EL.mv rfl rfl (EL.xt rfl rfl rfl (EL.xt rfl rfl rfl (EL.xt rfl rfl rfl (EL.newP QAO rfl ?_))));intro g14 w14 q14 hb14 hg14 hl14;have n1_14 := q1.na hg14;have n5_14 := qa7_3.na hg14;have n7_14 := qa7_5.na hg14;have n10_14 := q10.na hg14;have n12_14 := q12.na hg14;have bhbw_14 := Nat.le_trans hbw.size hg14;replace q1 := q1.bl hb14;replace qa7_3 := qa7_3.bl hb14;replace qa7_5 := qa7_5.bl hb14;replace q10 := q10.bl hb14;replace q12 := q12.bl hb14;replace oa8 := own_below oa8 hb14 (Nat.le_refl _);replace hbw := bo_ hbw hb14;clear hb14 hg14 hl14;refine EL.store rfl rfl q14 Z7 rfl rfl rfl rfl ?_;intro w15 hq15 hg15;replace q1 := q1.gr hg15 n1_14;replace qa7_3 := qa7_3.gr hg15 n5_14;replace qa7_5 := qa7_5.gr hg15 n7_14;replace q10 := q10.gr hg15 n10_14;replace q12 := q12.gr hg15 n12_14;replace oa8 := ZF oa8 q14 rfl hg15;replace hbw := ZC hbw hg15 bhbw_14;replace q14 := hq15;clear hg15 hq15;refine EL.as rfl rfl (EL.as rfl rfl (EL.nil (EX.seq (EC.seq ?_))));have lt_1 := q1.lt;have lt_5 := qa7_3.lt;have lt_7 := qa7_5.lt;have lt_10 := q10.lt;have lt_12 := q12.lt;have lt_14 := q14.lt;refine EC.regionP [[], [], [], [0], [0, 1, 2, 3], [0, 1, 2, 3, 4], [0, 1, 2, 3, 4, 5], [0, 1, 2, 3, 4, 5], [0, 1, 2, 3, 4, 5, 6], [0, 1, 2, 3, 4, 5, 6, 7, 8]] 10 [] (phi (fun i_ r => match i_ with | 2 => r 2 = .agg #[.int .i64 1000, .int .i64 1000] | 4 => r 4 = .tuple #[.int .i64 0, .int .i64 7] | 5 => r 5 = .tuple #[.int .i64 0, .int .i64 7] | 6 => r 6 = .int .i64 0 | 7 => r 7 = .int .i64 7 | 8 => r 8 = .int .i64 0 | 9 => r 9 = .int .i64 7 | _ => True) [(0, fun r w_ => ∃ v us, r 0 = .agg #[.int .i64 100, v] ∧ RdSecs w_ w_.heap.size v hTwo.secs us), (1, fun r w_ => ∃ g_, r 1 = .slice (some ⟨g_, 0, none⟩) 2 2 ∧ Blk w_ g_ 3 #[.int .i64 1, .int .i64 1] ∧ w15.heap.size ≤ g_), (3, fun r w_ => ∃ q : PasV, r 3 = pasA pPas q ∧ RdPas w_ w_.heap.size pPas q)]) (by kernel_rfl) rfl rfl (ZT QBf (ZT Zw (ZT QC_ (ZY)))) (fun i_ hi_ => ?_) ?_
    ·match i_, hi_ with
     | 0, _ =>
      intro val w1 a hb ha hd;have ha := ha.sub (Sub.nil _);refine Zf ha rfl rfl (cA0 cF30) (QA2 _) rfl ?_
      rintro e w' ⟨⟨v1, us1, rfl, hT1⟩, hb'⟩
      exact ⟨_, rfl, hb', ⟨v1, us1, rfl, hT1⟩⟩
     | 1, _ =>
      intro val w1 a hb ha hd;have ha := ha.sub (Sub.nil _)
      exact YB ha rfl rfl (QBy rfl rfl) rfl (fun g w' hq _ hge => ⟨g, rfl, hq, Nat.le_trans hb.size hge⟩)
     | 2, _ =>
      intro val w1 a hb ha hd;have ha := ha.s0 (d := 1) rfl
      exact ZB ha rfl rfl (Zp rfl ((q1.below hb q1.lt).at (j := 0) rfl) ((q1.below hb q1.lt).at (j := 1) rfl)) rfl rfl
     | 3, _ =>
      intro val w1 a hb ha hd;have ha := ha.sub (Sub.nil _);refine Zf ha rfl rfl (cA0 cF31) (QAl _) rfl ?_
      rintro e w' ⟨⟨q1, rfl, hp1⟩, hb'⟩
      exact ⟨_, rfl, hb', ⟨q1, rfl, hp1⟩⟩
     | 4, _ =>
      intro val w1 a hb ha hd;obtain ⟨v0_, us0_, e0, hT0_⟩ := hd 0 (ZA.1 rfl);obtain ⟨g1_, e1, q1_, h1_⟩ := hd 1 (ZA.1 rfl);change val 1 = _ at e1;have e2 : val 2 = _ := hd 2 (ZA.1 rfl);obtain ⟨q3_, e3, hp3_⟩ := hd 3 (ZA.1 rfl);have ha := ha.sub (Sub.ins (d := 72) (Sub.ins (d := 71) (Sub.ins (d := 70) (Sub.ins (d := 69) (Sub.nil _) (ZI rfl e0)) (ZI rfl e1)) (ZI rfl e2)) (ZI rfl e3));refine Zf ha rfl rfl (cA4 cF24 rfl rfl rfl rfl) (QDo hT0_ (YG (k := 2) (l := ints [1, 1]) q1_ rfl) hp3_) rfl ?_
      rintro e w' ⟨rfl, hb'⟩
      exact ⟨_, rfl, hb', rfl⟩
     | 5, _ =>
      intro val w1 a hb ha hd;have e4 : val 4 = _ := hd 4 (ZA.1 rfl);have ha := ha.s1 (d := 73) rfl e4
      exact ZB ha rfl rfl (ZH rfl) rfl rfl
     | 6, _ =>
      intro val w1 a hb ha hd;have e5 : val 5 = _ := hd 5 (ZA.1 rfl);have ha := ha.s1 (d := 68) rfl e5
      exact ZB ha rfl rfl (Z1 rfl rfl) rfl rfl
     | 7, _ =>
      intro val w1 a hb ha hd;have e5 : val 5 = _ := hd 5 (ZA.1 rfl);have ha := ha.s1 (d := 68) rfl e5
      exact ZB ha rfl rfl (Z1 rfl rfl) rfl rfl
     | 8, _ =>
      intro val w1 a hb ha hd;have e6 : val 6 = _ := hd 6 (ZA.1 rfl);have ha := ha.s1 (d := 74) rfl e6
      exact ZB ha rfl rfl (Zh rfl) rfl rfl
     | 9, _ =>
      intro val w1 a hb ha hd;have e7 : val 7 = _ := hd 7 (ZA.1 rfl);have ha := ha.s1 (d := 75) rfl e7
      exact ZB ha rfl rfl (Zh rfl) rfl rfl
     | k + 10, h => exact absurd h (by omega)
    ·intro val wR8 hb halc hd
     obtain ⟨v0_, us0_, e0, hT0_⟩ := hd 0 (by omega)
     obtain ⟨ga1_8, e1, qa1_8, hga1_8⟩ := hd 1 (by omega)
     change val 1 = _ at e1;change Blk wR8 ga1_8 3 #[.int .i64 1, .int .i64 1] at qa1_8;have e2 : val 2 = _ := hd 2 (by omega)
     obtain ⟨q3_, e3, hp3_⟩ := hd 3 (by omega)
     have e4 : val 4 = _ := hd 4 (by omega)
     have e5 : val 5 = _ := hd 5 (by omega)
     have e6 : val 6 = _ := hd 6 (by omega)
     have e7 : val 7 = _ := hd 7 (by omega)
     have e8 : val 8 = _ := hd 8 (by omega)
     have e9 : val 9 = _ := hd 9 (by omega)
     refine EL.ends (cs := [_, _, _, _, _, _, _, _, _, _]) ⟨e0, e1, e2, e3, e4, e5, e6, e7, e8, e9, trivial⟩ rfl ?_;replace q1 := q1.bl hb;replace qa7_3 := qa7_3.bl hb;replace qa7_5 := qa7_5.bl hb;replace q10 := q10.bl hb;replace q12 := q12.bl hb;replace q14 := q14.bl hb;replace oa8 := own_below oa8 hb (Nat.le_refl _);have n1_16 : g1 ≠ ga1_8 := Nat.ne_of_lt (Nat.lt_of_lt_of_le lt_1 hga1_8);have n5_16 : ga7_3 ≠ ga1_8 := Nat.ne_of_lt (Nat.lt_of_lt_of_le lt_5 hga1_8);have n7_16 : ga7_5 ≠ ga1_8 := Nat.ne_of_lt (Nat.lt_of_lt_of_le lt_7 hga1_8);have n10_16 : g10 ≠ ga1_8 := Nat.ne_of_lt (Nat.lt_of_lt_of_le lt_10 hga1_8);have n12_16 : g12 ≠ ga1_8 := Nat.ne_of_lt (Nat.lt_of_lt_of_le lt_12 hga1_8);have n14_16 : g14 ≠ ga1_8 := Nat.ne_of_lt (Nat.lt_of_lt_of_le lt_14 hga1_8);have bhbw_16 := Nat.le_trans hbw.size hga1_8;replace hbw := bo_ hbw hb;clear hb;refine EL.nil (EX.seq (EC.seq (EC.seq (EC.region (EL.mv rfl rfl ?_)))));refine EL.val (Zq (r := false) rfl rfl (decide_eq_false (by decide))) rfl ?_
     refine EL.mv rfl rfl (EL.mg rfl rfl rfl rfl ?_);refine EL.valg rfl rfl (Zq (r := false) rfl rfl (decide_eq_false (by decide))) rfl ?_
     refine EL.pf rfl rfl rfl (EL.mv rfl rfl (EL.mg rfl rfl rfl rfl ?_));refine EL.valg rfl rfl (Zq (r := false) rfl rfl (decide_eq_false (by decide))) rfl ?_
     refine EL.pf rfl rfl rfl (EL.mv rfl rfl (EL.mg rfl rfl rfl rfl ?_));refine EL.valg rfl rfl (Zq (r := false) rfl rfl (decide_eq_false (by decide))) rfl ?_
     refine EL.pf rfl rfl rfl (EL.mv rfl rfl (EL.mg rfl rfl rfl rfl ?_));refine EL.valg rfl rfl (Zq (r := false) rfl rfl (decide_eq_false (by decide))) rfl ?_
     refine EL.pf rfl rfl rfl (EL.mv rfl rfl (EL.mg rfl rfl rfl rfl ?_));refine EL.valg rfl rfl (Zq (r := false) rfl rfl (decide_eq_false (by decide))) rfl ?_
     refine EL.pf rfl rfl rfl (EL.mv rfl rfl (EL.mg rfl rfl rfl rfl ?_));refine EL.valg rfl rfl (Zq (r := false) rfl rfl (decide_eq_false (by decide))) rfl ?_
     refine EL.pf rfl rfl rfl (EL.mv rfl rfl (EL.valg rfl rfl (QEl rfl) rfl (EL.valg rfl rfl (QI_ rfl (qa7_5.at (j := 0) rfl)) rfl (EL.valg rfl rfl (QFQ rfl) rfl ?_))));refine EL.valg rfl rfl (Zq (r := false) rfl rfl (decide_eq_false (by decide))) rfl ?_
     refine EL.pf rfl rfl rfl (EL.mv rfl rfl (EL.valg rfl rfl (Yc rfl) rfl (EL.valg rfl rfl (QAb rfl (q10.at (j := 1) rfl)) rfl (EL.valg rfl rfl (QAp rfl) rfl ?_))));refine EL.valg rfl rfl (Zq (r := false) rfl rfl (decide_eq_false (by decide))) rfl ?_
     refine EL.pf rfl rfl rfl (EL.nil (EX.seq (EC.no rfl (EC.skip (EX.seq (EC.seq (EC.region (EL.mv rfl rfl ?_))))))));refine EL.val (Zg (r := true) rfl rfl (decide_eq_true (by decide))) rfl ?_
     refine EL.mv rfl rfl (EL.valg rfl rfl (QBi rfl (qa7_3.at (j := 0) rfl) (qa7_3.at (j := 1) rfl) (qa7_3.at (j := 2) rfl) (qa7_3.at (j := 3) rfl) (qa7_3.at (j := 4) rfl)) rfl (EL.valg rfl rfl (Zu rfl rfl) rfl (EL.valg rfl rfl (Zu rfl rfl) rfl (EL.valg rfl rfl (QFo rfl rfl rfl) rfl ?_))));refine EL.valg rfl rfl (QLM rfl rfl (decide_eq_true (by decide))) rfl ?_
     refine EL.pt rfl rfl rfl (EL.mv rfl rfl (EL.mg rfl rfl rfl rfl (EL.valg rfl rfl (ZV rfl) rfl (EL.pt rfl rfl rfl (EL.mv rfl rfl (EL.mg rfl rfl rfl rfl (EL.pt rfl rfl rfl (EL.mv rfl rfl (EL.mg rfl rfl rfl rfl ?_)))))))));refine EL.valg rfl rfl (Zg (r := true) rfl rfl (decide_eq_true (by decide))) rfl ?_
     refine EL.pt rfl rfl rfl (EL.mv rfl rfl (EL.mg rfl rfl rfl rfl ?_));refine EL.valg rfl rfl (Zg (r := true) rfl rfl (decide_eq_true (by decide))) rfl ?_
     refine EL.pt rfl rfl rfl (EL.mv rfl rfl (EL.valg rfl rfl (QEl rfl) rfl (EL.valg rfl rfl (QI_ rfl (qa7_5.at (j := 0) rfl)) rfl ?_)));refine EL.valg rfl rfl (QD5 (k := 1) rfl rfl (by omega)) rfl ?_
     obtain ⟨b_, o_, eb_, _, cell1⟩ := Ys [0, 1] 1 (by decide) _ _ _ _ _ (rd_of_own oa8)
     injection eb_ with eb_
     injection eb_ with e1_ e2_
     subst e1_ e2_;refine EL.valg rfl rfl (ld_3 rfl cell1) rfl ?_;refine EL.valg rfl rfl (Zg (r := true) rfl rfl (decide_eq_true (by decide))) rfl ?_
     refine EL.pt rfl rfl rfl (EL.mv rfl rfl (EL.valg rfl rfl (Yl rfl) rfl (EL.valg rfl rfl (ld_3 rfl (qa7_5.at (j := 1) rfl)) rfl ?_)));refine EL.valg rfl rfl (Zg (r := true) rfl rfl (decide_eq_true (by decide))) rfl ?_
     refine EL.pt rfl rfl rfl (EL.mv rfl rfl (EL.valg rfl rfl (QCk rfl) rfl (EL.valg rfl rfl (QKm rfl (qa7_5.at (j := 2) rfl)) rfl ?_)));refine EL.valg rfl rfl (Zg (r := true) rfl rfl (decide_eq_true (by decide))) rfl ?_
     refine EL.pt rfl rfl rfl (EL.mv rfl rfl (EL.valg rfl rfl (Zp rfl (q14.at (j := 0) rfl) (q14.at (j := 1) rfl)) rfl (EL.valg rfl rfl (Zu rfl rfl) rfl ?_)));refine EL.valg rfl rfl (QLN rfl rfl (decide_eq_true (by decide))) rfl ?_
     refine EL.pt rfl rfl rfl (EL.mv rfl rfl (EL.mg rfl rfl rfl rfl ?_));refine EL.valg rfl rfl (Zg (r := true) rfl rfl (decide_eq_true (by decide))) rfl ?_
     refine EL.pt rfl rfl rfl (EL.as rfl rfl (EL.nil (EX.seq (EC.ret ?_))))
     exact EX.done (res1 rfl rfl) ⟨rfl, hbw⟩
section
variable {n : Nat} {σ : Sg} {w : World} {dst : Option Tmp} {ty : TypeId} {pos : String} {af : Array Edge} {g : Option (Nat × Bool)} {x y z : Operand} {at' : Array TypeId}
theorem cF10 : cF 10 := fun _ _ => by simp [go_sem]
theorem QEt (a : Act) (_ : Env n σ a) : (execOp a.eval ⟨dst, .buildSlice 22 0 #[], ty, pos, af, g⟩).run Try.prog w = .ok (.value (.slice (some ⟨w.heap.size, 0, none⟩) 0 0)) (w.alloc (.cells #[] 30)) := by
 simp only [execOp]
 go_simp
end
theorem QF7 : (Try.prog.info? 30).map (fun i => (i.zero, i.size, i.bytes)) = some (some (.agg #[.int .i64 0, .int .i64 0, .int .i64 0, .int .i64 0]), 4, 32) := by kernel_rfl
theorem QBN : Elem Try.prog 22 30 4 32 := Elem.mk' Try.underlying22 QF7 rfl (by omega)
section
variable {n : Nat} {σ : Sg} {w : World} {dst : Option Tmp} {ty : TypeId} {pos : String} {af : Array Edge} {g : Option (Nat × Bool)} {x y z : Operand} {at' : Array TypeId}
theorem Y_ {m : Int} (hx : evS σ x = some (.int .u8 m)) (hm : IntKind.i64.wrap m = m) : ZE Try.prog n σ w ⟨dst, .convert 5 3 x, ty, pos, af, g⟩ (.int .i64 m) := fun a ha => by
 simp only [execOp, ha.eval hx]
 simp [go_sem, hm]
theorem QK_ {b o m c hi : Nat} (hx : evS σ x = some (.slice (some ⟨b, o, none⟩) m c)) (hh : evS σ y = some (.int .i64 (hi : Int))) (h2 : hi ≤ c) : ZE Try.prog n σ w ⟨dst, .slice 22 x none (some y) none, ty, pos, af, g⟩ (.slice (some ⟨b, o, none⟩) hi c) := fun a ha => by
 have k1 : (0 : Int) ≤ (hi : Int) := Int.natCast_nonneg _;have k3 : (hi : Int) ≤ (c : Int) := by omega
 simp only [execOp, Option.map_some, Option.map_none, ha.eval hx, ha.eval hh]
 by_cases e : c = 0
 ·subst e; obtain rfl : hi = 0 := by omega
  simp [go_sem]
 ·simp [go_sem, k1, k3, h2, e]
theorem QLo {b o m c k : Nat} (hx : evS σ x = some (.slice (some ⟨b, o, none⟩) m c)) (hy : evS σ y = some (.int .i64 (k : Int))) (hk : k < m) : ZE Try.prog n σ w ⟨dst, .indexAddr 39 x y, ty, pos, af, g⟩ (.pointer (some ⟨b, o + k * 4, none⟩)) := fun a ha => by
 have k0 : (0 : Int) ≤ (k : Int) := Int.natCast_nonneg _;have k1 : (k : Int) < (m : Int) := by omega
 simp only [execOp, ha.eval hx, ha.eval hy]
 simp [go_sem, k0, k1]
theorem QI4 {A : Option Addr} {m c : Nat} (hx : evS σ x = some (.slice A m c)) : ZE Try.prog n σ w ⟨dst, .call { callee := .builtin .len, args := #[x], argTypes := #[39] }, ty, pos, af, g⟩ (.int .i64 (m : Int)) := fun a ha => by
 simp only [execOp, resolve, List.map_toArray, List.map_cons, List.map_nil, ha.eval hx]
 simp [go_sem]
theorem QLn {b o : Nat} {v0 v1 v2 v3 : Value} (hx : evS σ x = some (.pointer (some ⟨b, o, none⟩))) (c0 : w.cell? ⟨b, o, none⟩ = some v0) (c1 : w.cell? ⟨b, o + 1, none⟩ = some v1) (c2 : w.cell? ⟨b, o + 2, none⟩ = some v2) (c3 : w.cell? ⟨b, o + 3, none⟩ = some v3) : ZE Try.prog n σ w ⟨dst, .load 35 x, ty, pos, af, g⟩ (.agg #[v0, v1, v2, v3]) := fun a ha => by
 simp only [execOp, ha.eval hx]
 simp [go_sem, c0, c1, c2, c3]
theorem QLv (a : Act) (_ : Env n σ a) : (execOp a.eval ⟨dst, .alloc 35, ty, pos, af, g⟩).run Try.prog w = .ok (.value (.pointer (some ⟨w.heap.size, 0, none⟩))) (w.alloc (.cells #[.int .u8 0, .int .u8 0, .int .u8 0, .int .u8 0] 35)) := by
 simp only [execOp]
 simp [go_sem]
theorem QLf : (Try.prog.info? 35).map (·.size) = some 4 := by kernel_rfl
theorem QCD {b o k : Nat} (hx : evS σ x = some (.pointer (some ⟨b, o, none⟩))) (hy : evS σ y = some (.int .i64 (k : Int))) (hk : k < 4) : ZE Try.prog n σ w ⟨dst, .indexAddr 35 x y, ty, pos, af, g⟩ (.pointer (some ⟨b, o + k, none⟩)) := fun a ha => by
 have k0 : (0 : Int) ≤ (k : Int) := Int.natCast_nonneg _;have k1 : (k : Int) < 4 := by omega
 simp only [execOp, ha.eval hx, ha.eval hy]
 simp [go_sem, k0, k1]
theorem ld_5 {b o : Nat} {v0 : Value} (hx : evS σ x = some (.pointer (some ⟨b, o, none⟩))) (c0 : w.cell? ⟨b, o, none⟩ = some v0) : ZE Try.prog n σ w ⟨dst, .load 5 x, ty, pos, af, g⟩ (v0) := fun a ha => by
 simp only [execOp, ha.eval hx]
 simp [go_sem, c0]
theorem QKZ {x0 : Operand} {v0_0 v0_1 v0_2 v0_3 : Value} (h0 : evS σ x0 = some (.agg #[v0_0, v0_1, v0_2, v0_3]))  (a : Act) (ha : Env n σ a) : (execOp a.eval ⟨dst, .buildSlice 22 1 #[(0, x0)], ty, pos, af, g⟩).run Try.prog w = .ok (.value (.slice (some ⟨w.heap.size, 0, none⟩) 1 1)) (w.alloc (.cells #[v0_0, v0_1, v0_2, v0_3] 30)) := by
 simp only [execOp, List.map_toArray, List.map_cons, List.map_nil, ha.eval h0]
 go_simp
theorem QKo {b o m c k : Nat} (hx : evS σ x = some (.slice (some ⟨b, o, none⟩) m c)) (hy : evS σ y = some (.int .i64 (k : Int))) (hk : k < m) : ZE Try.prog n σ w ⟨dst, .indexAddr 87 x y, ty, pos, af, g⟩ (.pointer (some ⟨b, o + k, none⟩)) := fun a ha => by
 have k0 : (0 : Int) ≤ (k : Int) := Int.natCast_nonneg _;have k1 : (k : Int) < (m : Int) := by omega
 simp only [execOp, ha.eval hx, ha.eval hy]
 simp [go_sem, k0, k1]
theorem QI2 {A : Option Addr} {m c : Nat} (hx : evS σ x = some (.slice A m c)) : ZE Try.prog n σ w ⟨dst, .call { callee := .builtin .len, args := #[x], argTypes := #[87] }, ty, pos, af, g⟩ (.int .i64 (m : Int)) := fun a ha => by
 simp only [execOp, resolve, List.map_toArray, List.map_cons, List.map_nil, ha.eval hx]
 simp [go_sem]
end
set_option maxRecDepth 100000 in
set_option maxHeartbeats 2000000 in
theorem wears_law (l : List V4) (v : Value) (least : Int) (pk : List Int) (vp : Value) (hok : ∀ p ∈ l, p.Ok) (hle : u8B least) (hpk : ∀ x ∈ pk, u8B x) (w : World) (B : Nat) (hr : Rd w B 4 v l.length (v4sC l)) (hp : Rd w B 1 vp pk.length (u8sC pk)) (hB : B ≤ w.heap.size) (hl : l.length ≤ 9223372036854775807) (hpl : pk.length ≤ 9223372036854775807) :
  Calls Try.prog 7 #[v, .int .u8 least, vp] w fun e w' => e = .returned (.bool true) ∧ Below w.heap.size w w' := by
 obtain ⟨A, c, rfl, _⟩ := hr.shape;obtain ⟨Ap, c5, rfl, _⟩ := hp.shape;have hbw := Below.refl w.heap.size w;refine EC.enter 293 Try.func7 rfl rfl rfl (EC.seq (EC.region (EL.as rfl rfl (EL.nil (EX.seq (EC.seq (EC.region (EL.newS (QEt) rfl ?_))))))));intro g1 w1 q1 hb1 hg1 hl1;have bhbw_1 := Nat.le_trans hbw.size hg1;have hbg1 : w.heap.size ≤ g1 := Nat.le_trans hbw.size hg1;replace hbw := bo_ hbw hb1;clear hb1 hg1 hl1;have hO : w1.ownsRow w.heap.size 30 4 (.slice (some ⟨g1, 0, none⟩) 0 0) 0 (platesC ((l.take 0).map QAd)) := QD1 4 q1 hbg1;refine EL.as rfl rfl (EL.nil (EX.seq ?_));refine EC.cutD [7, 8, 9, 23, 24, 25, 26, 27, 28, 29, 30, 31, 32, 33, 34, 35, 36, 37, 38, 39, 40, 41, 42, 43, 44, 45, 46, 47, 48, 49, 50, 51, 52, 53, 54, 55, 56, 57, 58, 59, 60, 61, 62, 63, 64, 65] (fun v : Value => [(7, v)]) (fun v W => W.ownsRow w.heap.size 30 4 v (wearL l).length (platesC (wearL l)) ∧ Below w.heap.size w W) ?_ ?_
 ·
  refine EC.seq (EC.region (EL.as rfl rfl (EL.nil (EX.seq (EC.block ?_)))));refine EC.loopD [7, 8, 9, 23, 24, 25, 26, 27, 28, 29, 30, 31, 32, 33, 34, 35, 36, 37, 38, 39, 40, 41, 42, 43, 44, 45, 46, 47, 48, 49, 50, 51, 52, 53, 54, 55, 56, 57, 58, 59, 60, 61, 62, 63, 64, 65] (fun y : Nat × Value => [(8, .int .i64 (y.1 : Nat)), (7, y.2)]) (fun y W => (y.1 ≤ l.length ∧ y.1 ≤ 20) ∧ W.ownsRow w.heap.size 30 4 y.2 y.1 (platesC ((l.take y.1).map QAd)) ∧ Below w.heap.size w W) (fun y => l.length - y.1) (0, .slice (some ⟨g1, 0, none⟩) 0 0) ⟨⟨Nat.zero_le _, Nat.zero_le _⟩, hO, hbw⟩ ⟨rfl, rfl, trivial⟩ ?_
  clear hbw hO
  rintro ⟨i, v3⟩ wx ⟨⟨hi, hi2⟩, hO, hbw⟩
  dsimp only at hi hi2 hO
  by_cases hlt : i < l.length
  ·
   by_cases hlm : i < 20
   ·
    obtain ⟨bx, ox, ebx, _, cc⟩ := QHQ l i hlt wx B _ _ _ (hr.below (hbw.mono hB))
    cases ebx
    have hv := hok _ (getD_mem (d := v40) hlt);have hsu := QFx hlt
    generalize l.getD i v40 = v at *
    have hv1 := hv.a;have hv2 := hv.b;have hv3 := QEN hv.c;have hv4 := QEN hv.d
    unfold u8B at hv1 hv2
    refine EC.seq (EC.seq (EC.region (EL.mv rfl rfl (EL.mv rfl rfl (EL.val (QI4 rfl) rfl ?_)))));refine EL.val (ZO rfl rfl (decide_eq_true (show (((i : Nat) : Int) < ((l.length : Nat) : Int)) by omega))) rfl ?_
    refine EL.mv rfl rfl (EL.mg rfl rfl rfl rfl ?_);refine EL.valg rfl rfl (ZO rfl rfl (decide_eq_true (show (((i : Nat) : Int) < ((20 : Nat) : Int)) by omega))) rfl ?_
    refine EL.pt rfl rfl rfl (EL.nil (EX.seq (EC.yes rfl (EC.skip (EX.seq (EC.seq (EC.block (EC.seq (EC.region ?_)))))))));refine EL.mv rfl rfl (EL.mv rfl rfl (EL.val (QLo rfl rfl hlt) rfl (EL.val (QLn rfl cc.c0 cc.c1 cc.c2 cc.c3) rfl (EL.newP QLv rfl ?_))));intro g2 w2 q2 hb2 hg2 hl2;have bhbw_2 := Nat.le_trans hbw.size hg2;have hbg2 : w.heap.size ≤ g2 := Nat.le_trans hbw.size hg2;replace hO := own_below hO hb2 (Nat.le_refl _);replace hbw := bo_ hbw hb2;clear hb2 hg2 hl2;refine EL.store rfl rfl q2 QLf rfl rfl rfl rfl ?_;intro w3 hq3 hg3;replace hO := ZF hO q2 rfl hg3;replace hbw := ZC hbw hg3 bhbw_2;replace q2 := hq3;clear hg3 hq3;refine EL.nil (EX.seq (EC.region (EL.mv rfl rfl ?_)));refine EL.val (QCD (k := 0) rfl rfl (by omega)) rfl ?_
    refine EL.val (ld_5 rfl (q2.at (j := 0) rfl)) rfl (EL.val (Y_ rfl (YX hv.a)) rfl ?_);refine EL.val (QCD (k := 0) rfl rfl (by omega)) rfl ?_
    refine EL.val (ld_5 rfl (q2.at (j := 0) rfl)) rfl (EL.val (Y_ rfl (YX hv.a)) rfl ?_);refine EL.val (QCD (k := 1) rfl rfl (by omega)) rfl ?_
    refine EL.val (ld_5 rfl (q2.at (j := 1) rfl)) rfl (EL.val (Y_ rfl (YX hv.b)) rfl ?_);refine EL.val (ZM rfl rfl (IntWalk.i64_in _ ⟨by omega, by omega⟩)) rfl ?_
    refine EL.val (Zu rfl rfl) rfl ?_;refine EL.val (QCD (k := 2) rfl rfl (by omega)) rfl ?_
    refine EL.val (ld_5 rfl (q2.at (j := 2) rfl)) rfl (EL.val (Y_ rfl (YX hv.c)) rfl ?_);refine EL.val (QCq rfl rfl (by decide) rfl) rfl ?_
    refine EL.val (QCD (k := 2) rfl rfl (by omega)) rfl ?_
    refine EL.val (ld_5 rfl (q2.at (j := 2) rfl)) rfl (EL.val (Y_ rfl (YX hv.c)) rfl ?_);refine EL.val (QCq rfl rfl (by decide) rfl) rfl ?_
    refine EL.val (QCD (k := 3) rfl rfl (by omega)) rfl ?_
    refine EL.val (ld_5 rfl (q2.at (j := 3) rfl)) rfl (EL.val (Y_ rfl (YX hv.d)) rfl ?_);refine EL.val (QCq rfl rfl (by decide) rfl) rfl ?_
    refine EL.val (ZM rfl rfl (IntWalk.i64_in _ ⟨by omega, by omega⟩)) rfl ?_
    refine EL.val (Zu rfl rfl) rfl (EL.val (QCI rfl rfl) rfl (EL.newS (QKZ rfl) rfl ?_));intro g4 w4 q4 hb4 hg4 hl4;have n2_4 := q2.na hg4;have bhbw_4 := Nat.le_trans hbw.size hg4;have hbg4 : w.heap.size ≤ g4 := Nat.le_trans hbw.size hg4;replace q2 := q2.bl hb4;replace hO := own_below hO hb4 (Nat.le_refl _);replace hbw := bo_ hbw hb4;clear hb4 hg4 hl4;refine EL.push QBN rfl rfl hO (QB9 (l := plateC (QAd v)) q4 rfl) (QAj [QAd v]) (by omega) rfl hbw.size rfl ?_
    intro v9 w9 ho9 hgr hb_ hat;replace hbw := hbw.trans hb_;clear hO hgr hb_ hat;refine EL.as rfl rfl (EL.nil (EX.blk (EX.seq (EC.region (EL.mv rfl rfl ?_)))));refine EL.val (ZM rfl rfl (c := ((i + 1 : Nat) : Int)) ((IntWalk.i64_in _ ⟨by first | omega | (simp only; omega), by first | omega | (simp only; omega)⟩).trans (by first | omega | (simp only; omega)))) rfl ?_
    refine EL.as rfl rfl (EL.nil ?_);refine EX.roundD (i + 1, v9) ⟨rfl, rfl, trivial⟩ (by repeat first | with_reducible exact .refl _ | refine sp_ rfl ?_ | exact .refl _ | refine sd_ rfl ?_ | refine sn_ ?_) ⟨⟨hlt, hlm⟩, by simp only; rw [hsu, QFG]; exact ho9, hbw⟩ (by simp only; omega)
   ·
    have hxe : i = min l.length 20 := by omega
    refine EC.seq (EC.seq (EC.region (EL.mv rfl rfl (EL.mv rfl rfl (EL.val (QI4 rfl) rfl ?_)))));refine EL.val (ZO rfl rfl (decide_eq_true (show (((i : Nat) : Int) < ((l.length : Nat) : Int)) by omega))) rfl ?_
    refine EL.mv rfl rfl (EL.mg rfl rfl rfl rfl ?_);refine EL.valg rfl rfl (ZO rfl rfl (decide_eq_false (show ¬(((i : Nat) : Int) < ((20 : Nat) : Int)) by omega))) rfl ?_
    refine EL.pt rfl rfl rfl (EL.nil (EX.seq (EC.no rfl (EC.exit (EX.seq_exit (EX.seq_exit (EX.blk_here ?_)))))))
    exact EX.cutE v3 ⟨rfl, trivial⟩ (by repeat first | with_reducible exact (Sub.refl _).del _ | refine sp_ rfl ?_ | exact (Sub.refl _).del _ | refine sd_ rfl ?_ | refine sn_ ?_) ⟨by rw [← QE2 hxe, List.length_map, List.length_take, show min i l.length = i by omega]; exact hO, hbw⟩
  ·
   have hxe : i = min l.length 20 := by omega
   refine EC.seq (EC.seq (EC.region (EL.mv rfl rfl (EL.mv rfl rfl (EL.val (QI4 rfl) rfl ?_)))));refine EL.val (ZO rfl rfl (decide_eq_false (show ¬(((i : Nat) : Int) < ((l.length : Nat) : Int)) by omega))) rfl ?_
   refine EL.mv rfl rfl (EL.skip rfl rfl rfl rfl (EL.skip rfl rfl rfl rfl (EL.pf rfl rfl rfl (EL.nil (EX.seq (EC.no rfl (EC.exit (EX.seq_exit (EX.seq_exit ?_)))))))));refine EX.blk_here ?_
   exact EX.cutE v3 ⟨rfl, trivial⟩ (by repeat first | with_reducible exact (Sub.refl _).del _ | refine sp_ rfl ?_ | exact (Sub.refl _).del _ | refine sd_ rfl ?_ | refine sn_ ?_) ⟨by rw [← QE2 hxe, List.length_map, List.length_take, show min i l.length = i by omega]; exact hO, hbw⟩
 ·
  clear hO hbw
  rintro v3 W3 ⟨hO, hbw⟩
  obtain ⟨P, eP⟩ : ∃ z, z = wearL l := ⟨_, rfl⟩;have hPs : ∀ p ∈ P, p.Sm := by rw [eP]; exact QIH hok
  have hPn : P.length ≤ 20 := by rw [eP, QHM]; omega
  rw [← eP] at hO;clear eP;have hPa : P.all Z3 = true := List.all_eq_true.2 fun p hp => (hPs p hp).ok
  have hle9 : inB 0 100000 least = true := inB_iff.2 (by have := hle.1; have := hle.2; omega)
  obtain ⟨A3, c3, rfl, _⟩ := (rd_of_own hO).shape;refine EC.seq (EC.region ?_);have hsz := hbw.size;refine EL.newS QEt rfl ?_;intro g5 w5 q5 hb5 hg5 hl5;have bhbw_5 := Nat.le_trans hbw.size hg5;have hbg5 : w.heap.size ≤ g5 := Nat.le_trans hbw.size hg5;replace hO := own_below hO hb5 (Nat.le_refl _);replace hbw := bo_ hbw hb5;clear hb5 hl5;have hsz2 := hbw.size;refine EL.mv rfl rfl ?_;refine EL.copy QBN rfl rfl (base := w.heap.size) q5 (Nat.le_trans hsz hg5) (rd_of_own hO) (QAj _) (by omega) (by omega) hbw.size rfl ?_
  intro v6 w6 hin hb6;replace hO := own_below hO hb6 (Nat.le_refl _);replace hbw := bo_ hbw hb6;clear hb6;obtain ⟨Ai, ci, rfl, _⟩ := (Rd.of_own hin).shape;refine EL.mv rfl rfl (EL.val (Y_ rfl (YX hle)) rfl ?_);refine EL.call (cA2 cF11 rfl rfl) rfl (QDL P _ least _ _ (rd_of_own hin) (Nat.le_refl _) (by omega)) ?_
  rintro e w7 ⟨rfl, hc7⟩
  refine ⟨_, rfl, ?_⟩;replace hO := own_below hO hc7 (Nat.le_refl _);replace hin := own_below hin hc7 (Nat.le_refl _);replace hbw := bo_ hbw hc7;clear hc7;refine EL.mv rfl rfl (EL.xt rfl rfl rfl (EL.xt rfl rfl rfl (EL.xt rfl rfl rfl (EL.newP QAO rfl ?_))));intro g8 w8 q8 hb8 hg8 hl8;have bhbw_8 := Nat.le_trans hbw.size hg8;have hbg8 : w.heap.size ≤ g8 := Nat.le_trans hbw.size hg8;replace hO := own_below hO hb8 (Nat.le_refl _);replace hin := own_below hin hb8 (Nat.le_refl _);replace hbw := bo_ hbw hb8;clear hb8 hg8 hl8;refine EL.store rfl rfl q8 Z7 rfl rfl rfl rfl ?_;intro w9 hq9 hg9;replace hO := ZF hO q8 rfl hg9;replace hin := ZF hin q8 rfl hg9;replace hbw := ZC hbw hg9 bhbw_8;replace q8 := hq9;clear hg9 hq9;refine EL.as rfl rfl (EL.as rfl rfl (EL.nil (EX.seq (EC.seq (EC.seq (EC.region (EL.mv rfl rfl (EL.val (QBJ rfl) rfl ?_))))))))
  by_cases h0 : P.length = 0
  ·
   refine EL.val (Zg (r := true) rfl rfl (decide_eq_true (by omega))) rfl ?_
   refine EL.nil (EX.seq (EC.yes rfl (EC.seq (EC.region (EL.mv rfl rfl (EL.val (Zg (r := true) rfl rfl (decide_eq_true (QEc h0).1)) rfl (EL.mv rfl rfl (EL.callg rfl rfl (cA0 cF10) rfl (QCC _) ?_))))))))
   rintro e w10 ⟨rfl, hc10⟩
   refine ⟨_, rfl, ?_⟩;replace q8 := q8.bl hc10;replace hO := own_below hO hc10 (Nat.le_refl _);replace hin := own_below hin hc10 (Nat.le_refl _);replace hbw := bo_ hbw hc10;clear hc10;refine EL.pt rfl rfl rfl (EL.as rfl rfl (EL.nil (EX.seq (EC.ret (EX.seq_ret ?_)))))
   exact EX.done (res1 rfl rfl) ⟨rfl, hbw⟩
  ·
   have hE0 := (QDM h0 (by omega) hPa hle9).1
   have hR0 := (QDM h0 (by omega) hPa hle9).2
   have hI : LifeIs least P P.length (Yq P least) := by
    have := QEb (b0 := 1001) (least := least) (l := P) (by omega) (fun p hp => (hPs p hp).ok) (P.length - 1) (by omega)
    rw [show P.length - 1 + 1 = P.length by omega] at this
    rwa [hR0]
   clear hR0
   generalize Yq P least = S at *
   obtain ⟨j, hj, ej, hjl, hjf⟩ := hI.plate;have hc3 : P.length - 1 ≤ c3 := by
    obtain ⟨_, c9, e9, hc9⟩ := (rd_of_own hO).shape
    injection e9 with _ _ e9
    omega
   obtain ⟨b3, o3, rfl, _, _⟩ := Zv P 0 (by omega) _ _ _ _ _ (rd_of_own hO)
   refine EL.val (Zg (r := false) rfl rfl (decide_eq_false (by omega))) rfl ?_
   refine EL.nil (EX.seq (EC.no rfl (EC.skip (EX.seq (EC.seq (EC.seq (EC.region (EL.mv rfl rfl ?_))))))));refine EL.val (Zq (r := false) rfl rfl (decide_eq_false (fun h => h hE0))) rfl ?_
   refine EL.mv rfl rfl (EL.mg rfl rfl rfl rfl ?_);refine EL.valg rfl rfl (ZO (r := false) rfl rfl (decide_eq_false (by rw [ej]; omega))) rfl ?_
   refine EL.pf rfl rfl rfl (EL.mv rfl rfl (EL.mg rfl rfl rfl rfl (EL.mg rfl rfl rfl rfl (EL.valg rfl rfl (QBJ rfl) rfl ?_))));refine EL.valg rfl rfl (QAA (r := false) rfl rfl (decide_eq_false (by rw [ej]; omega))) rfl ?_
   refine EL.pf rfl rfl rfl (EL.nil (EX.seq (EC.no rfl (EC.skip (EX.seq (EC.seq (EC.seq (EC.region (EL.as rfl rfl ?_)))))))));refine EL.nil (EX.seq (EC.block ?_));clear hin;refine EC.loopD [6, 13, 14, 15, 16, 17, 18, 19, 96, 97, 98, 99, 100, 101, 102, 103, 104, 105, 106, 107, 108, 109, 110, 111, 112, 113, 114, 115, 116, 117, 118, 119, 120, 121, 122, 123, 124, 125, 126, 127, 128, 129, 130, 131, 132, 133, 134, 135, 136, 137, 138, 139, 140, 141, 142, 143, 144, 145, 146, 147, 148, 149, 150, 151, 152, 153, 154, 155, 156, 157, 158, 159, 160, 161, 162, 163, 164, 165, 166, 167, 168, 169, 170, 171, 172, 173, 174, 175, 176, 177, 178, 179, 180, 181, 182, 183, 184, 185, 186, 187, 188, 189, 190, 191, 192, 193, 194, 195, 196, 197, 198, 199, 200, 201, 202, 203, 204, 205, 206, 207, 208, 209, 210, 211, 212, 213, 214, 215, 216, 217, 218, 219, 220, 221, 222, 223, 224, 225, 226, 227, 228, 229, 230, 231, 232, 233, 234, 235, 236, 237, 238, 239, 240, 241, 242, 243, 244, 245, 246, 247, 248, 249, 250] (fun m : Nat => [(13, .int .i64 (m : Nat))]) (fun m W => m ≤ 3 ∧ Blk W g8 25 #[.int .i64 S.lo, .int .i64 S.hi] ∧ W.ownsRow w.heap.size 30 4 (.slice (some ⟨b3, o3, none⟩) P.length c3) P.length (platesC P) ∧ Below w.heap.size w W) (fun m => 3 - m) 0 ⟨Nat.zero_le _, q8, hO, hbw⟩ ⟨rfl, trivial⟩ ?_
   clear q8 hO hbw
   rintro m wm ⟨hm, q8, hO, hbw⟩
   by_cases hltm : m < 3
   ·
    refine EC.seq (EC.seq (EC.region (EL.mv rfl rfl ?_)));refine EL.val (ZO rfl rfl (decide_eq_true (show (((m : Nat) : Int) < ((3 : Nat) : Int)) by omega))) rfl ?_
    refine EL.nil (EX.seq (EC.yes rfl (EC.skip (EX.seq (EC.seq (EC.block (EC.seq (EC.region (EL.as rfl rfl ?_)))))))));refine EL.nil (EX.seq (EC.seq (EC.seq (EC.region (EL.as rfl rfl (EL.nil (EX.seq (EC.block ?_))))))));refine EC.loopD [6, 14, 15, 16, 17, 18, 19, 100, 101, 102, 103, 104, 105, 106, 107, 108, 109, 110, 111, 112, 113, 114, 115, 116, 117, 118, 119, 120, 121, 122, 123, 124, 125, 126, 127, 128, 129, 130, 131, 132, 133, 134, 135, 136, 137, 138, 139, 140, 141, 142, 143, 144, 145, 146, 147, 148, 149, 150, 151, 152, 153, 154, 155, 156, 157, 158, 159, 160, 161, 162, 163, 164, 165, 166, 167, 168, 169, 170, 171, 172, 173, 174, 175, 176, 177, 178, 179, 180, 181, 182, 183, 184, 185, 186, 187, 188, 189, 190, 191, 192, 193, 194, 195, 196, 197, 198, 199, 200, 201, 202, 203, 204, 205, 206, 207, 208, 209, 210, 211, 212, 213, 214, 215, 216, 217, 218, 219, 220] (fun k : Nat => [(14, .int .i64 (minK (yWay least m pk P) k)), (15, .int .i64 (k : Nat))]) (fun k W => k ≤ P.length ∧ Blk W g8 25 #[.int .i64 S.lo, .int .i64 S.hi] ∧ W.ownsRow w.heap.size 30 4 (.slice (some ⟨b3, o3, none⟩) P.length c3) P.length (platesC P) ∧ Below w.heap.size w W) (fun k => P.length - k) 0 ⟨Nat.zero_le _, q8, hO, hbw⟩ ⟨rfl, rfl, trivial⟩ ?_
    clear q8 hO hbw
    rintro k wk ⟨hk, q8, hO, hbw⟩
    by_cases hltk : k < P.length
    ·
     obtain ⟨b9, o9, e9, _, cc⟩ := Zv P k hltk _ _ _ _ _ (rd_of_own hO)
     cases e9
     have hx := QCy hPs hltk;obtain ⟨x, ex⟩ : ∃ z, z = P.getD k Zd := ⟨_, rfl⟩;have hY : yWay least m pk P k = Zx (wayT m pk k x) (wayW m pk k x) least := by rw [ex]; rfl
     have hy0 : m = 0 → Zx (wayT m pk k x) (wayW m pk k x) least = yLo least x := fun e => by subst e; rfl
     have hwb := QII hpk hx m k;have hpb := QGs hpk hx k;rw [← ex] at cc hx hwb hpb;obtain ⟨x0, x1, x2, x3, x4, x5⟩ := hx;refine EC.seq (EC.seq (EC.region (EL.mv rfl rfl (EL.mv rfl rfl (EL.val (QBJ rfl) rfl ?_)))));refine EL.val (ZO rfl rfl (decide_eq_true (show (((k : Nat) : Int) < ((P.length : Nat) : Int)) by omega))) rfl ?_
     refine EL.nil (EX.seq (EC.yes rfl (EC.skip (EX.seq (EC.seq (EC.block (EC.seq ?_)))))));obtain ⟨_, _, e9_, _, cc⟩ := Zv P k hltk _ _ _ _ _ (rd_of_own hO)
     cases e9_
     rw [← ex] at cc;have lt_8 := q8.lt;refine EC.regionP [[], [], [0, 1], [0, 1, 2], [0, 1, 2, 3], [0, 1, 2, 3, 4], [], [], [6, 7], [6, 7, 8], [6, 7, 8, 9], [6, 7, 8, 9, 10], [0, 1, 2, 3, 4, 5], [0, 1, 2, 3, 4, 5, 6, 7, 8, 9, 10, 11, 12]] 14 [] (phi (fun i_ r => match i_ with | 0 => r 0 = .slice (some ⟨b3, o3, none⟩) P.length c3 | 1 => r 1 = .int .i64 (k : Nat) | 2 => r 2 = .pointer (some ⟨b3, o3 + k * 4, none⟩) | 3 => r 3 = .pointer (some ⟨b3, o3 + k * 4, none⟩) | 4 => r 4 = .pointer (some ⟨b3, o3 + k * 4, none⟩) | 5 => r 5 = .int .i64 x.thick.lo | 6 => r 6 = .slice (some ⟨b3, o3, none⟩) P.length c3 | 7 => r 7 = .int .i64 (k : Nat) | 8 => r 8 = .pointer (some ⟨b3, o3 + k * 4, none⟩) | 9 => r 9 = .pointer (some ⟨b3, o3 + k * 4 + 2, none⟩) | 10 => r 10 = .pointer (some ⟨b3, o3 + k * 4 + 2 + 1, none⟩) | 11 => r 11 = .int .i64 x.wear.hi | 12 => r 12 = .int .i64 x.thick.lo | 13 => r 13 = .int .i64 x.wear.hi | _ => True) []) (by kernel_rfl) rfl rfl (ZY) (fun i_ hi_ => ?_) ?_
     ·match i_, hi_ with
      | 0, _ =>
       intro val w1 a hb ha hd;have ha := ha.s0 (d := 7) rfl
       exact ZB ha rfl rfl (ZH rfl) rfl rfl
      | 1, _ =>
       intro val w1 a hb ha hd;have ha := ha.s0 (d := 15) rfl
       exact ZB ha rfl rfl (ZH rfl) rfl rfl
      | 2, _ =>
       intro val w1 a hb ha hd;have e0 : val 0 = _ := hd 0 (ZA.1 rfl);have e1 : val 1 = _ := hd 1 (ZA.1 rfl);have ha := ha.s2 (d := 107) (e := 106) rfl e1 rfl e0
       exact ZB ha rfl rfl (QCO rfl rfl hltk) rfl rfl
      | 3, _ =>
       intro val w1 a hb ha hd;have e2 : val 2 = _ := hd 2 (ZA.1 rfl);have ha := ha.s1 (d := 108) rfl e2
       exact ZB ha rfl rfl (QAY rfl) rfl rfl
      | 4, _ =>
       intro val w1 a hb ha hd;have e3 : val 3 = _ := hd 3 (ZA.1 rfl);have ha := ha.s1 (d := 109) rfl e3
       exact ZB ha rfl rfl (ZS rfl) rfl rfl
      | 5, _ =>
       intro val w1 a hb ha hd;have e4 : val 4 = _ := hd 4 (ZA.1 rfl);have ha := ha.s1 (d := 110) rfl e4
       exact ZB ha rfl rfl (ld_3 rfl (ZD hb cc.c0)) rfl rfl
      | 6, _ =>
       intro val w1 a hb ha hd;have ha := ha.s0 (d := 7) rfl
       exact ZB ha rfl rfl (ZH rfl) rfl rfl
      | 7, _ =>
       intro val w1 a hb ha hd;have ha := ha.s0 (d := 15) rfl
       exact ZB ha rfl rfl (ZH rfl) rfl rfl
      | 8, _ =>
       intro val w1 a hb ha hd;have e6 : val 6 = _ := hd 6 (ZA.1 rfl);have e7 : val 7 = _ := hd 7 (ZA.1 rfl);have ha := ha.s2 (d := 113) (e := 112) rfl e7 rfl e6
       exact ZB ha rfl rfl (QCO rfl rfl hltk) rfl rfl
      | 9, _ =>
       intro val w1 a hb ha hd;have e8 : val 8 = _ := hd 8 (ZA.1 rfl);have ha := ha.s1 (d := 114) rfl e8
       exact ZB ha rfl rfl (QAX rfl) rfl rfl
      | 10, _ =>
       intro val w1 a hb ha hd;have e9 : val 9 = _ := hd 9 (ZA.1 rfl);have ha := ha.s1 (d := 115) rfl e9
       exact ZB ha rfl rfl (ZR rfl) rfl rfl
      | 11, _ =>
       intro val w1 a hb ha hd;have e10 : val 10 = _ := hd 10 (ZA.1 rfl);have ha := ha.s1 (d := 116) rfl e10
       exact ZB ha rfl rfl (ld_3 rfl (ZD hb cc.c3)) rfl rfl
      | 12, _ =>
       intro val w1 a hb ha hd;have e5 : val 5 = _ := hd 5 (ZA.1 rfl);have ha := ha.s1 (d := 111) rfl e5
       exact ZB ha rfl rfl (Zh rfl) rfl rfl
      | 13, _ =>
       intro val w1 a hb ha hd;have e11 : val 11 = _ := hd 11 (ZA.1 rfl);have ha := ha.s1 (d := 117) rfl e11
       exact ZB ha rfl rfl (Zh rfl) rfl rfl
      | k + 14, h => exact absurd h (by omega)
     ·intro val wR19 hb halc hd
      have e0 : val 0 = _ := hd 0 (by omega)
      have e1 : val 1 = _ := hd 1 (by omega)
      have e2 : val 2 = _ := hd 2 (by omega)
      have e3 : val 3 = _ := hd 3 (by omega)
      have e4 : val 4 = _ := hd 4 (by omega)
      have e5 : val 5 = _ := hd 5 (by omega)
      have e6 : val 6 = _ := hd 6 (by omega)
      have e7 : val 7 = _ := hd 7 (by omega)
      have e8 : val 8 = _ := hd 8 (by omega)
      have e9 : val 9 = _ := hd 9 (by omega)
      have e10 : val 10 = _ := hd 10 (by omega)
      have e11 : val 11 = _ := hd 11 (by omega)
      have e12 : val 12 = _ := hd 12 (by omega)
      have e13 : val 13 = _ := hd 13 (by omega)
      refine EL.ends (cs := [_, _, _, _, _, _, _, _, _, _, _, _, _, _]) ⟨e0, e1, e2, e3, e4, e5, e6, e7, e8, e9, e10, e11, e12, e13, trivial⟩ rfl ?_;replace q8 := q8.bl hb;replace hO := own_below hO hb (Nat.le_refl _);replace hbw := bo_ hbw hb;clear hb;refine EL.nil (EX.seq ?_);refine EC.cutD [16, 17, 118, 119, 120, 121, 122, 123, 124, 125, 126, 127, 128, 129, 130, 131] (fun _ : Unit => [(16, .int .i64 (if m = 1 then x.thick.hi else x.thick.lo)), (17, .int .i64 (if m = 1 then x.wear.lo else x.wear.hi))]) (fun _ W => Blk W g8 25 #[.int .i64 S.lo, .int .i64 S.hi] ∧ W.ownsRow w.heap.size 30 4 (.slice (some ⟨b3, o3, none⟩) P.length c3) P.length (platesC P) ∧ Below w.heap.size w W) ?_ ?_
      ·
       by_cases hm1 : m = 1
       ·
        refine EC.seq (EC.region (EL.mv rfl rfl ?_));refine EL.val (Zg (r := true) rfl rfl (decide_eq_true (by omega))) rfl ?_
        refine EL.nil (EX.seq (EC.yes rfl ?_));obtain ⟨_, _, e9_, _, cc⟩ := Zv P k hltk _ _ _ _ _ (rd_of_own hO)
        cases e9_
        rw [← ex] at cc;have lt_8 := q8.lt;refine EC.regionP [[], [], [0, 1], [0, 1, 2], [0, 1, 2, 3], [0, 1, 2, 3, 4], [], [], [6, 7], [6, 7, 8], [6, 7, 8, 9], [6, 7, 8, 9, 10], [0, 1, 2, 3, 4, 5], [0, 1, 2, 3, 4, 5, 6, 7, 8, 9, 10, 11, 12]] 14 [] (phi (fun i_ r => match i_ with | 0 => r 0 = .slice (some ⟨b3, o3, none⟩) P.length c3 | 1 => r 1 = .int .i64 (k : Nat) | 2 => r 2 = .pointer (some ⟨b3, o3 + k * 4, none⟩) | 3 => r 3 = .pointer (some ⟨b3, o3 + k * 4, none⟩) | 4 => r 4 = .pointer (some ⟨b3, o3 + k * 4 + 1, none⟩) | 5 => r 5 = .int .i64 x.thick.hi | 6 => r 6 = .slice (some ⟨b3, o3, none⟩) P.length c3 | 7 => r 7 = .int .i64 (k : Nat) | 8 => r 8 = .pointer (some ⟨b3, o3 + k * 4, none⟩) | 9 => r 9 = .pointer (some ⟨b3, o3 + k * 4 + 2, none⟩) | 10 => r 10 = .pointer (some ⟨b3, o3 + k * 4 + 2, none⟩) | 11 => r 11 = .int .i64 x.wear.lo | 12 => r 12 = .int .i64 x.thick.hi | 13 => r 13 = .int .i64 x.wear.lo | _ => True) []) (by kernel_rfl) rfl rfl (ZY) (fun i_ hi_ => ?_) ?_
        ·match i_, hi_ with
         | 0, _ =>
          intro val w1 a hb ha hd;have ha := ha.s0 (d := 7) rfl
          exact ZB ha rfl rfl (ZH rfl) rfl rfl
         | 1, _ =>
          intro val w1 a hb ha hd;have ha := ha.s0 (d := 15) rfl
          exact ZB ha rfl rfl (ZH rfl) rfl rfl
         | 2, _ =>
          intro val w1 a hb ha hd;have e0 : val 0 = _ := hd 0 (ZA.1 rfl);have e1 : val 1 = _ := hd 1 (ZA.1 rfl);have ha := ha.s2 (d := 121) (e := 120) rfl e1 rfl e0
          exact ZB ha rfl rfl (QCO rfl rfl hltk) rfl rfl
         | 3, _ =>
          intro val w1 a hb ha hd;have e2 : val 2 = _ := hd 2 (ZA.1 rfl);have ha := ha.s1 (d := 122) rfl e2
          exact ZB ha rfl rfl (QAY rfl) rfl rfl
         | 4, _ =>
          intro val w1 a hb ha hd;have e3 : val 3 = _ := hd 3 (ZA.1 rfl);have ha := ha.s1 (d := 123) rfl e3
          exact ZB ha rfl rfl (ZR rfl) rfl rfl
         | 5, _ =>
          intro val w1 a hb ha hd;have e4 : val 4 = _ := hd 4 (ZA.1 rfl);have ha := ha.s1 (d := 124) rfl e4
          exact ZB ha rfl rfl (ld_3 rfl (ZD hb cc.c1)) rfl rfl
         | 6, _ =>
          intro val w1 a hb ha hd;have ha := ha.s0 (d := 7) rfl
          exact ZB ha rfl rfl (ZH rfl) rfl rfl
         | 7, _ =>
          intro val w1 a hb ha hd;have ha := ha.s0 (d := 15) rfl
          exact ZB ha rfl rfl (ZH rfl) rfl rfl
         | 8, _ =>
          intro val w1 a hb ha hd;have e6 : val 6 = _ := hd 6 (ZA.1 rfl);have e7 : val 7 = _ := hd 7 (ZA.1 rfl);have ha := ha.s2 (d := 127) (e := 126) rfl e7 rfl e6
          exact ZB ha rfl rfl (QCO rfl rfl hltk) rfl rfl
         | 9, _ =>
          intro val w1 a hb ha hd;have e8 : val 8 = _ := hd 8 (ZA.1 rfl);have ha := ha.s1 (d := 128) rfl e8
          exact ZB ha rfl rfl (QAX rfl) rfl rfl
         | 10, _ =>
          intro val w1 a hb ha hd;have e9 : val 9 = _ := hd 9 (ZA.1 rfl);have ha := ha.s1 (d := 129) rfl e9
          exact ZB ha rfl rfl (ZS rfl) rfl rfl
         | 11, _ =>
          intro val w1 a hb ha hd;have e10 : val 10 = _ := hd 10 (ZA.1 rfl);have ha := ha.s1 (d := 130) rfl e10
          exact ZB ha rfl rfl (ld_3 rfl (ZD hb cc.c2)) rfl rfl
         | 12, _ =>
          intro val w1 a hb ha hd;have e5 : val 5 = _ := hd 5 (ZA.1 rfl);have ha := ha.s1 (d := 125) rfl e5
          exact ZB ha rfl rfl (Zh rfl) rfl rfl
         | 13, _ =>
          intro val w1 a hb ha hd;have e11 : val 11 = _ := hd 11 (ZA.1 rfl);have ha := ha.s1 (d := 131) rfl e11
          exact ZB ha rfl rfl (Zh rfl) rfl rfl
         | k + 14, h => exact absurd h (by omega)
        ·intro val wR21 hb halc hd
         have e0 : val 0 = _ := hd 0 (by omega)
         have e1 : val 1 = _ := hd 1 (by omega)
         have e2 : val 2 = _ := hd 2 (by omega)
         have e3 : val 3 = _ := hd 3 (by omega)
         have e4 : val 4 = _ := hd 4 (by omega)
         have e5 : val 5 = _ := hd 5 (by omega)
         have e6 : val 6 = _ := hd 6 (by omega)
         have e7 : val 7 = _ := hd 7 (by omega)
         have e8 : val 8 = _ := hd 8 (by omega)
         have e9 : val 9 = _ := hd 9 (by omega)
         have e10 : val 10 = _ := hd 10 (by omega)
         have e11 : val 11 = _ := hd 11 (by omega)
         have e12 : val 12 = _ := hd 12 (by omega)
         have e13 : val 13 = _ := hd 13 (by omega)
         refine EL.ends (cs := [_, _, _, _, _, _, _, _, _, _, _, _, _, _]) ⟨e0, e1, e2, e3, e4, e5, e6, e7, e8, e9, e10, e11, e12, e13, trivial⟩ rfl ?_;replace q8 := q8.bl hb;replace hO := own_below hO hb (Nat.le_refl _);replace hbw := bo_ hbw hb;clear hb;refine EL.nil ?_
         exact EX.cutE () ⟨by rw [if_pos hm1]; rfl, by rw [if_pos hm1]; rfl, trivial⟩ (by repeat first | with_reducible exact (Sub.refl _).del _ | refine sp_ rfl ?_ | exact (Sub.refl _).del _ | refine sd_ rfl ?_ | refine sn_ ?_) ⟨q8, hO, hbw⟩
       ·
        refine EC.seq (EC.region (EL.mv rfl rfl ?_));refine EL.val (Zg (r := false) rfl rfl (decide_eq_false (by omega))) rfl ?_
        refine EL.nil (EX.seq (EC.no rfl (EC.skip ?_)))
        exact EX.cutE () ⟨by rw [if_neg hm1]; rfl, by rw [if_neg hm1]; rfl, trivial⟩ (by repeat first | with_reducible exact (Sub.refl _).del _ | refine sp_ rfl ?_ | exact (Sub.refl _).del _ | refine sd_ rfl ?_ | refine sn_ ?_) ⟨q8, hO, hbw⟩
      ·
       clear q8 hO hbw cc
       rintro ⟨⟩ WA ⟨q8, hO, hbw⟩
       obtain ⟨b9, o9, e9, _, cc⟩ := Zv P k hltk _ _ _ _ _ (rd_of_own hO)
       cases e9
       rw [← ex] at cc;refine EC.cutD [16, 17, 18, 132, 133, 134, 135, 136, 137, 138, 139, 140, 141, 142, 143, 144, 145, 146, 147, 148, 149, 150, 151, 152, 153, 154, 155, 156, 157, 158, 159, 160, 161, 162, 163, 164, 165, 166, 167, 168, 169, 170, 171, 172, 173, 174, 175, 176, 177, 178] (fun _ : Unit => [(16, .int .i64 (wayT m pk k x)), (17, .int .i64 (wayW m pk k x))]) (fun _ W => Blk W g8 25 #[.int .i64 S.lo, .int .i64 S.hi] ∧ W.ownsRow w.heap.size 30 4 (.slice (some ⟨b3, o3, none⟩) P.length c3) P.length (platesC P) ∧ Below w.heap.size w W) ?_ ?_
       ·
        by_cases hm2 : m = 2
        ·
         by_cases hn0 : 0 < pk.length
         ·
          obtain ⟨b5, o5, e5_, _, _⟩ := QB2 pk 0 hn0 WA B _ _ _ (hp.below (hbw.mono hB))
          cases e5_
          have hu0 := QCg hpk (k % pk.length);have hu1 := QCg hpk ((k + 1) % pk.length);have hT : wayT m pk k x = QBc pk k x := by subst hm2; exact (if_neg (by decide)).trans (if_pos ⟨rfl, hn0⟩)
          have hW : wayW m pk k x = QBb pk k x := by subst hm2; exact (if_neg (by decide)).trans (if_pos ⟨rfl, hn0⟩)
          have hm1 : ¬ m = 1 := by omega
          rw [if_neg hm1, if_neg hm1]
          unfold QBc QBb at hpb
          refine EC.seq (EC.region (EL.mv rfl rfl (EL.val (QI2 rfl) rfl (EL.as rfl rfl (EL.nil (EX.seq (EC.seq (EC.region (EL.mv rfl rfl ?_)))))))));refine EL.val (Zg (r := true) rfl rfl (decide_eq_true (by omega))) rfl ?_
          refine EL.mv rfl rfl (EL.mg rfl rfl rfl rfl ?_);refine EL.valg rfl rfl (YP (r := true) rfl rfl (decide_eq_true (by omega))) rfl ?_
          refine EL.pt rfl rfl rfl (EL.nil (EX.seq (EC.yes rfl (EC.seq ?_))));obtain ⟨_, _, e9_, _, cc⟩ := Zv P k hltk _ _ _ _ _ (rd_of_own hO)
          cases e9_
          rw [← ex] at cc;obtain ⟨_, _, e9_, _, pp⟩ := QB2 pk (k % pk.length) (Nat.mod_lt _ hn0) WA B _ _ _ (hp.below (hbw.mono hB))
          cases e9_
          have lt_8 := q8.lt;refine EC.regionP [[], [], [], [], [2, 3], [1, 2, 3, 4], [1, 2, 3, 4, 5], [1, 2, 3, 4, 5, 6], [], [], [8, 9], [8, 9, 10], [8, 9, 10, 11], [8, 9, 10, 11, 12], [], [8, 9, 10, 11, 12, 13, 14], [8, 9, 10, 11, 12, 13, 14, 15], [1, 2, 3, 4, 5, 6, 7, 8, 9, 10, 11, 12, 13, 14, 15, 16], [0, 1, 2, 3, 4, 5, 6, 7, 8, 9, 10, 11, 12, 13, 14, 15, 16, 17], [0, 1, 2, 3, 4, 5, 6, 7, 8, 9, 10, 11, 12, 13, 14, 15, 16, 17, 18]] 20 [] (phi (fun i_ r => match i_ with | 0 => r 0 = .int .i64 x.thick.lo | 1 => r 1 = .slice (some ⟨b5, o5, none⟩) pk.length c5 | 2 => r 2 = .int .i64 (k : Nat) | 3 => r 3 = .int .i64 (pk.length : Nat) | 4 => r 4 = .int .i64 (k % pk.length : Nat) | 5 => r 5 = .pointer (some ⟨b5, o5 + k % pk.length, none⟩) | 6 => r 6 = .int .u8 (pk.getD (k % pk.length) 0) | 7 => r 7 = .int .i64 (pk.getD (k % pk.length) 0) | 8 => r 8 = .slice (some ⟨b3, o3, none⟩) P.length c3 | 9 => r 9 = .int .i64 (k : Nat) | 10 => r 10 = .pointer (some ⟨b3, o3 + k * 4, none⟩) | 11 => r 11 = .pointer (some ⟨b3, o3 + k * 4, none⟩) | 12 => r 12 = .pointer (some ⟨b3, o3 + k * 4 + 1, none⟩) | 13 => r 13 = .int .i64 x.thick.hi | 14 => r 14 = .int .i64 x.thick.lo | 15 => r 15 = .int .i64 (x.thick.hi - x.thick.lo) | 16 => r 16 = .int .i64 (x.thick.hi - x.thick.lo + 1) | 17 => r 17 = .int .i64 ((pk.getD (k % pk.length) 0).tmod (x.thick.hi - x.thick.lo + 1)) | 18 => r 18 = .int .i64 (QBc pk k x) | 19 => r 19 = .int .i64 (QBc pk k x) | _ => True) []) (by kernel_rfl) rfl rfl (ZY) (fun i_ hi_ => ?_) ?_
          ·match i_, hi_ with
           | 0, _ =>
            intro val w1 a hb ha hd;have ha := ha.s0 (d := 16) rfl
            exact ZB ha rfl rfl (ZH rfl) rfl rfl
           | 1, _ =>
            intro val w1 a hb ha hd;have ha := ha.s0 (d := 2) rfl
            exact ZB ha rfl rfl (ZH rfl) rfl rfl
           | 2, _ =>
            intro val w1 a hb ha hd;have ha := ha.s0 (d := 15) rfl
            exact ZB ha rfl rfl (ZH rfl) rfl rfl
           | 3, _ =>
            intro val w1 a hb ha hd;have ha := ha.s0 (d := 18) rfl
            exact ZB ha rfl rfl (ZH rfl) rfl rfl
           | 4, _ =>
            intro val w1 a hb ha hd;have e2 : val 2 = _ := hd 2 (ZA.1 rfl);have e3 : val 3 = _ := hd 3 (ZA.1 rfl);have ha := ha.s2 (d := 143) (e := 142) rfl e3 rfl e2
            exact ZB ha rfl rfl (QCq rfl rfl (by omega) (QGj _ _)) rfl rfl
           | 5, _ =>
            intro val w1 a hb ha hd;have e1 : val 1 = _ := hd 1 (ZA.1 rfl);have e4 : val 4 = _ := hd 4 (ZA.1 rfl);have ha := ha.s2 (d := 144) (e := 141) rfl e4 rfl e1
            exact ZB ha rfl rfl (QKo rfl rfl (Nat.mod_lt _ hn0)) rfl rfl
           | 6, _ =>
            intro val w1 a hb ha hd;have e5 : val 5 = _ := hd 5 (ZA.1 rfl);have ha := ha.s1 (d := 145) rfl e5
            exact ZB ha rfl rfl (ld_5 rfl (ZD hb pp)) rfl rfl
           | 7, _ =>
            intro val w1 a hb ha hd;have e6 : val 6 = _ := hd 6 (ZA.1 rfl);have ha := ha.s1 (d := 146) rfl e6
            exact ZB ha rfl rfl (Y_ rfl (YX hu0)) rfl rfl
           | 8, _ =>
            intro val w1 a hb ha hd;have ha := ha.s0 (d := 7) rfl
            exact ZB ha rfl rfl (ZH rfl) rfl rfl
           | 9, _ =>
            intro val w1 a hb ha hd;have ha := ha.s0 (d := 15) rfl
            exact ZB ha rfl rfl (ZH rfl) rfl rfl
           | 10, _ =>
            intro val w1 a hb ha hd;have e8 : val 8 = _ := hd 8 (ZA.1 rfl);have e9 : val 9 = _ := hd 9 (ZA.1 rfl);have ha := ha.s2 (d := 149) (e := 148) rfl e9 rfl e8
            exact ZB ha rfl rfl (QCO rfl rfl hltk) rfl rfl
           | 11, _ =>
            intro val w1 a hb ha hd;have e10 : val 10 = _ := hd 10 (ZA.1 rfl);have ha := ha.s1 (d := 150) rfl e10
            exact ZB ha rfl rfl (QAY rfl) rfl rfl
           | 12, _ =>
            intro val w1 a hb ha hd;have e11 : val 11 = _ := hd 11 (ZA.1 rfl);have ha := ha.s1 (d := 151) rfl e11
            exact ZB ha rfl rfl (ZR rfl) rfl rfl
           | 13, _ =>
            intro val w1 a hb ha hd;have e12 : val 12 = _ := hd 12 (ZA.1 rfl);have ha := ha.s1 (d := 152) rfl e12
            exact ZB ha rfl rfl (ld_3 rfl (ZD hb cc.c1)) rfl rfl
           | 14, _ =>
            intro val w1 a hb ha hd;have ha := ha.s0 (d := 16) rfl
            exact ZB ha rfl rfl (ZH rfl) rfl rfl
           | 15, _ =>
            intro val w1 a hb ha hd;have e13 : val 13 = _ := hd 13 (ZA.1 rfl);have e14 : val 14 = _ := hd 14 (ZA.1 rfl);have ha := ha.s2 (d := 154) (e := 153) rfl e14 rfl e13
            exact ZB ha rfl rfl (Z4 rfl rfl (IntWalk.i64_in _ ⟨by omega, by omega⟩)) rfl rfl
           | 16, _ =>
            intro val w1 a hb ha hd;have e15 : val 15 = _ := hd 15 (ZA.1 rfl);have ha := ha.s1 (d := 155) rfl e15
            exact ZB ha rfl rfl (ZM rfl rfl (IntWalk.i64_in _ ⟨by omega, by omega⟩)) rfl rfl
           | 17, _ =>
            intro val w1 a hb ha hd;have e7 : val 7 = _ := hd 7 (ZA.1 rfl);have e16 : val 16 = _ := hd 16 (ZA.1 rfl);have ha := ha.s2 (d := 156) (e := 147) rfl e16 rfl e7
            exact ZB ha rfl rfl (QCq rfl rfl (by omega) rfl) rfl rfl
           | 18, _ =>
            intro val w1 a hb ha hd;have e0 : val 0 = _ := hd 0 (ZA.1 rfl);have e17 : val 17 = _ := hd 17 (ZA.1 rfl);have ha := ha.s2 (d := 157) (e := 140) rfl e17 rfl e0
            exact ZB ha rfl rfl (ZM rfl rfl (c := QBc pk k x) (IntWalk.i64_in _ ⟨by omega, by omega⟩)) rfl rfl
           | 19, _ =>
            intro val w1 a hb ha hd;have e18 : val 18 = _ := hd 18 (ZA.1 rfl);have ha := ha.s1 (d := 158) rfl e18
            exact ZB ha rfl rfl (Zh rfl) rfl rfl
           | k + 20, h => exact absurd h (by omega)
          ·intro val wR24 hb halc hd
           have e0 : val 0 = _ := hd 0 (by omega)
           have e1 : val 1 = _ := hd 1 (by omega)
           have e2 : val 2 = _ := hd 2 (by omega)
           have e3 : val 3 = _ := hd 3 (by omega)
           have e4 : val 4 = _ := hd 4 (by omega)
           have e5 : val 5 = _ := hd 5 (by omega)
           have e6 : val 6 = _ := hd 6 (by omega)
           have e7 : val 7 = _ := hd 7 (by omega)
           have e8 : val 8 = _ := hd 8 (by omega)
           have e9 : val 9 = _ := hd 9 (by omega)
           have e10 : val 10 = _ := hd 10 (by omega)
           have e11 : val 11 = _ := hd 11 (by omega)
           have e12 : val 12 = _ := hd 12 (by omega)
           have e13 : val 13 = _ := hd 13 (by omega)
           have e14 : val 14 = _ := hd 14 (by omega)
           have e15 : val 15 = _ := hd 15 (by omega)
           have e16 : val 16 = _ := hd 16 (by omega)
           have e17 : val 17 = _ := hd 17 (by omega)
           have e18 : val 18 = _ := hd 18 (by omega)
           have e19 : val 19 = _ := hd 19 (by omega)
           refine EL.ends (cs := [_, _, _, _, _, _, _, _, _, _, _, _, _, _, _, _, _, _, _, _]) ⟨e0, e1, e2, e3, e4, e5, e6, e7, e8, e9, e10, e11, e12, e13, e14, e15, e16, e17, e18, e19, trivial⟩ rfl ?_;replace q8 := q8.bl hb;replace hO := own_below hO hb (Nat.le_refl _);replace hbw := bo_ hbw hb;clear hb;refine EL.nil (EX.seq ?_);obtain ⟨_, _, e9_, _, cc⟩ := Zv P k hltk _ _ _ _ _ (rd_of_own hO)
           cases e9_
           rw [← ex] at cc;obtain ⟨_, _, e9_, _, pp⟩ := QB2 pk ((k + 1) % pk.length) (Nat.mod_lt _ hn0) wR24 B _ _ _ (hp.below (hbw.mono hB))
           cases e9_
           have lt_8 := q8.lt;refine EC.regionP [[], [], [], [2], [], [2, 3, 4], [1, 2, 3, 4, 5], [1, 2, 3, 4, 5, 6], [1, 2, 3, 4, 5, 6, 7], [], [], [], [10, 11], [10, 11, 12], [10, 11, 12, 13], [10, 11, 12, 13, 14], [9, 10, 11, 12, 13, 14, 15], [9, 10, 11, 12, 13, 14, 15, 16], [1, 2, 3, 4, 5, 6, 7, 8, 9, 10, 11, 12, 13, 14, 15, 16, 17], [0, 1, 2, 3, 4, 5, 6, 7, 8, 9, 10, 11, 12, 13, 14, 15, 16, 17, 18], [0, 1, 2, 3, 4, 5, 6, 7, 8, 9, 10, 11, 12, 13, 14, 15, 16, 17, 18, 19]] 21 [] (phi (fun i_ r => match i_ with | 0 => r 0 = .int .i64 x.wear.hi | 1 => r 1 = .slice (some ⟨b5, o5, none⟩) pk.length c5 | 2 => r 2 = .int .i64 (k : Nat) | 3 => r 3 = .int .i64 ((k + 1 : Nat) : Int) | 4 => r 4 = .int .i64 (pk.length : Nat) | 5 => r 5 = .int .i64 ((k + 1) % pk.length : Nat) | 6 => r 6 = .pointer (some ⟨b5, o5 + (k + 1) % pk.length, none⟩) | 7 => r 7 = .int .u8 (pk.getD ((k + 1) % pk.length) 0) | 8 => r 8 = .int .i64 (pk.getD ((k + 1) % pk.length) 0) | 9 => r 9 = .int .i64 x.wear.hi | 10 => r 10 = .slice (some ⟨b3, o3, none⟩) P.length c3 | 11 => r 11 = .int .i64 (k : Nat) | 12 => r 12 = .pointer (some ⟨b3, o3 + k * 4, none⟩) | 13 => r 13 = .pointer (some ⟨b3, o3 + k * 4 + 2, none⟩) | 14 => r 14 = .pointer (some ⟨b3, o3 + k * 4 + 2, none⟩) | 15 => r 15 = .int .i64 x.wear.lo | 16 => r 16 = .int .i64 (x.wear.hi - x.wear.lo) | 17 => r 17 = .int .i64 (x.wear.hi - x.wear.lo + 1) | 18 => r 18 = .int .i64 ((pk.getD ((k + 1) % pk.length) 0).tmod (x.wear.hi - x.wear.lo + 1)) | 19 => r 19 = .int .i64 (QBb pk k x) | 20 => r 20 = .int .i64 (QBb pk k x) | _ => True) []) (by kernel_rfl) rfl rfl (ZY) (fun i_ hi_ => ?_) ?_
           ·match i_, hi_ with
            | 0, _ =>
             intro val w1 a hb ha hd;have ha := ha.s0 (d := 17) rfl
             exact ZB ha rfl rfl (ZH rfl) rfl rfl
            | 1, _ =>
             intro val w1 a hb ha hd;have ha := ha.s0 (d := 2) rfl
             exact ZB ha rfl rfl (ZH rfl) rfl rfl
            | 2, _ =>
             intro val w1 a hb ha hd;have ha := ha.s0 (d := 15) rfl
             exact ZB ha rfl rfl (ZH rfl) rfl rfl
            | 3, _ =>
             intro val w1 a hb ha hd;have e2 : val 2 = _ := hd 2 (ZA.1 rfl);have ha := ha.s1 (d := 161) rfl e2
             exact ZB ha rfl rfl (ZM rfl rfl (c := ((k + 1 : Nat) : Int)) ((IntWalk.i64_in _ ⟨by first | omega | (simp only; omega), by first | omega | (simp only; omega)⟩).trans (by first | omega | (simp only; omega)))) rfl rfl
            | 4, _ =>
             intro val w1 a hb ha hd;have ha := ha.s0 (d := 18) rfl
             exact ZB ha rfl rfl (ZH rfl) rfl rfl
            | 5, _ =>
             intro val w1 a hb ha hd;have e3 : val 3 = _ := hd 3 (ZA.1 rfl);have e4 : val 4 = _ := hd 4 (ZA.1 rfl);have ha := ha.s2 (d := 163) (e := 162) rfl e4 rfl e3
             exact ZB ha rfl rfl (QCq rfl rfl (by omega) (QGj _ _)) rfl rfl
            | 6, _ =>
             intro val w1 a hb ha hd;have e1 : val 1 = _ := hd 1 (ZA.1 rfl);have e5 : val 5 = _ := hd 5 (ZA.1 rfl);have ha := ha.s2 (d := 164) (e := 160) rfl e5 rfl e1
             exact ZB ha rfl rfl (QKo rfl rfl (Nat.mod_lt _ hn0)) rfl rfl
            | 7, _ =>
             intro val w1 a hb ha hd;have e6 : val 6 = _ := hd 6 (ZA.1 rfl);have ha := ha.s1 (d := 165) rfl e6
             exact ZB ha rfl rfl (ld_5 rfl (ZD hb pp)) rfl rfl
            | 8, _ =>
             intro val w1 a hb ha hd;have e7 : val 7 = _ := hd 7 (ZA.1 rfl);have ha := ha.s1 (d := 166) rfl e7
             exact ZB ha rfl rfl (Y_ rfl (YX hu1)) rfl rfl
            | 9, _ =>
             intro val w1 a hb ha hd;have ha := ha.s0 (d := 17) rfl
             exact ZB ha rfl rfl (ZH rfl) rfl rfl
            | 10, _ =>
             intro val w1 a hb ha hd;have ha := ha.s0 (d := 7) rfl
             exact ZB ha rfl rfl (ZH rfl) rfl rfl
            | 11, _ =>
             intro val w1 a hb ha hd;have ha := ha.s0 (d := 15) rfl
             exact ZB ha rfl rfl (ZH rfl) rfl rfl
            | 12, _ =>
             intro val w1 a hb ha hd;have e10 : val 10 = _ := hd 10 (ZA.1 rfl);have e11 : val 11 = _ := hd 11 (ZA.1 rfl);have ha := ha.s2 (d := 170) (e := 169) rfl e11 rfl e10
             exact ZB ha rfl rfl (QCO rfl rfl hltk) rfl rfl
            | 13, _ =>
             intro val w1 a hb ha hd;have e12 : val 12 = _ := hd 12 (ZA.1 rfl);have ha := ha.s1 (d := 171) rfl e12
             exact ZB ha rfl rfl (QAX rfl) rfl rfl
            | 14, _ =>
             intro val w1 a hb ha hd;have e13 : val 13 = _ := hd 13 (ZA.1 rfl);have ha := ha.s1 (d := 172) rfl e13
             exact ZB ha rfl rfl (ZS rfl) rfl rfl
            | 15, _ =>
             intro val w1 a hb ha hd;have e14 : val 14 = _ := hd 14 (ZA.1 rfl);have ha := ha.s1 (d := 173) rfl e14
             exact ZB ha rfl rfl (ld_3 rfl (ZD hb cc.c2)) rfl rfl
            | 16, _ =>
             intro val w1 a hb ha hd;have e9 : val 9 = _ := hd 9 (ZA.1 rfl);have e15 : val 15 = _ := hd 15 (ZA.1 rfl);have ha := ha.s2 (d := 174) (e := 168) rfl e15 rfl e9
             exact ZB ha rfl rfl (Z4 rfl rfl (IntWalk.i64_in _ ⟨by omega, by omega⟩)) rfl rfl
            | 17, _ =>
             intro val w1 a hb ha hd;have e16 : val 16 = _ := hd 16 (ZA.1 rfl);have ha := ha.s1 (d := 175) rfl e16
             exact ZB ha rfl rfl (ZM rfl rfl (IntWalk.i64_in _ ⟨by omega, by omega⟩)) rfl rfl
            | 18, _ =>
             intro val w1 a hb ha hd;have e8 : val 8 = _ := hd 8 (ZA.1 rfl);have e17 : val 17 = _ := hd 17 (ZA.1 rfl);have ha := ha.s2 (d := 176) (e := 167) rfl e17 rfl e8
             exact ZB ha rfl rfl (QCq rfl rfl (by omega) rfl) rfl rfl
            | 19, _ =>
             intro val w1 a hb ha hd;have e0 : val 0 = _ := hd 0 (ZA.1 rfl);have e18 : val 18 = _ := hd 18 (ZA.1 rfl);have ha := ha.s2 (d := 177) (e := 159) rfl e18 rfl e0
             exact ZB ha rfl rfl (Z4 rfl rfl (c := QBb pk k x) (IntWalk.i64_in _ ⟨by omega, by omega⟩)) rfl rfl
            | 20, _ =>
             intro val w1 a hb ha hd;have e19 : val 19 = _ := hd 19 (ZA.1 rfl);have ha := ha.s1 (d := 178) rfl e19
             exact ZB ha rfl rfl (Zh rfl) rfl rfl
            | k + 21, h => exact absurd h (by omega)
           ·intro val wR25 hb halc hd
            have e0 : val 0 = _ := hd 0 (by omega)
            have e1 : val 1 = _ := hd 1 (by omega)
            have e2 : val 2 = _ := hd 2 (by omega)
            have e3 : val 3 = _ := hd 3 (by omega)
            have e4 : val 4 = _ := hd 4 (by omega)
            have e5 : val 5 = _ := hd 5 (by omega)
            have e6 : val 6 = _ := hd 6 (by omega)
            have e7 : val 7 = _ := hd 7 (by omega)
            have e8 : val 8 = _ := hd 8 (by omega)
            have e9 : val 9 = _ := hd 9 (by omega)
            have e10 : val 10 = _ := hd 10 (by omega)
            have e11 : val 11 = _ := hd 11 (by omega)
            have e12 : val 12 = _ := hd 12 (by omega)
            have e13 : val 13 = _ := hd 13 (by omega)
            have e14 : val 14 = _ := hd 14 (by omega)
            have e15 : val 15 = _ := hd 15 (by omega)
            have e16 : val 16 = _ := hd 16 (by omega)
            have e17 : val 17 = _ := hd 17 (by omega)
            have e18 : val 18 = _ := hd 18 (by omega)
            have e19 : val 19 = _ := hd 19 (by omega)
            have e20 : val 20 = _ := hd 20 (by omega)
            refine EL.ends (cs := [_, _, _, _, _, _, _, _, _, _, _, _, _, _, _, _, _, _, _, _, _]) ⟨e0, e1, e2, e3, e4, e5, e6, e7, e8, e9, e10, e11, e12, e13, e14, e15, e16, e17, e18, e19, e20, trivial⟩ rfl ?_;replace q8 := q8.bl hb;replace hO := own_below hO hb (Nat.le_refl _);replace hbw := bo_ hbw hb;clear hb;refine EL.nil ?_
            exact EX.cutE () ⟨by rw [hT]; rfl, by rw [hW]; rfl, trivial⟩ (by repeat first | with_reducible exact (Sub.refl _).del _ | refine sp_ rfl ?_ | exact (Sub.refl _).del _ | refine sd_ rfl ?_ | refine sn_ ?_) ⟨q8, hO, hbw⟩
         ·
          have hT : wayT m pk k x = x.thick.lo := by subst hm2; exact (if_neg (by decide)).trans (if_neg (fun h => hn0 h.2))
          have hW : wayW m pk k x = x.wear.hi := by subst hm2; exact (if_neg (by decide)).trans (if_neg (fun h => hn0 h.2))
          have hm1 : ¬ m = 1 := by omega
          rw [if_neg hm1, if_neg hm1];refine EC.seq (EC.region (EL.mv rfl rfl (EL.val (QI2 rfl) rfl (EL.as rfl rfl (EL.nil (EX.seq (EC.seq (EC.region (EL.mv rfl rfl ?_)))))))));refine EL.val (Zg (r := true) rfl rfl (decide_eq_true (by omega))) rfl ?_
          refine EL.mv rfl rfl (EL.mg rfl rfl rfl rfl ?_);refine EL.valg rfl rfl (YP (r := false) rfl rfl (decide_eq_false (by omega))) rfl ?_
          refine EL.pt rfl rfl rfl (EL.nil (EX.seq (EC.no rfl (EC.skip ?_))))
          exact EX.cutE () ⟨by rw [hT]; rfl, by rw [hW]; rfl, trivial⟩ (by repeat first | with_reducible exact (Sub.refl _).del _ | refine sp_ rfl ?_ | exact (Sub.refl _).del _ | refine sd_ rfl ?_ | refine sn_ ?_) ⟨q8, hO, hbw⟩
        ·
         have hT : (if m = 1 then x.thick.hi else x.thick.lo) = wayT m pk k x := by
          by_cases hm1 : m = 1
          ·rw [if_pos hm1, wayT, if_pos hm1]
          ·rw [if_neg hm1, wayT, if_neg hm1, if_neg (fun h => hm2 h.1)]
         have hW : (if m = 1 then x.wear.lo else x.wear.hi) = wayW m pk k x := by
          by_cases hm1 : m = 1
          ·rw [if_pos hm1, wayW, if_pos hm1]
          ·rw [if_neg hm1, wayW, if_neg hm1, if_neg (fun h => hm2 h.1)]
         refine EC.seq (EC.region (EL.mv rfl rfl (EL.val (QI2 rfl) rfl (EL.as rfl rfl (EL.nil (EX.seq (EC.seq (EC.region (EL.mv rfl rfl ?_)))))))));refine EL.val (Zg (r := false) rfl rfl (decide_eq_false (by omega))) rfl ?_
         refine EL.mv rfl rfl (EL.skip rfl rfl rfl rfl (EL.skip rfl rfl rfl rfl (EL.pf rfl rfl rfl (EL.nil (EX.seq (EC.no rfl (EC.skip ?_)))))))
         exact EX.cutE () ⟨by rw [← hT]; rfl, by rw [← hW]; rfl, trivial⟩ (by repeat first | with_reducible exact (Sub.refl _).del _ | refine sp_ rfl ?_ | exact (Sub.refl _).del _ | refine sd_ rfl ?_ | refine sn_ ?_) ⟨q8, hO, hbw⟩
       ·
        clear q8 hO hbw cc
        rintro ⟨⟩ WB ⟨q8, hO, hbw⟩
        obtain ⟨tt, ett⟩ : ∃ z, z = wayT m pk k x := ⟨_, rfl⟩;obtain ⟨ww, eww⟩ : ∃ z, z = wayW m pk k x := ⟨_, rfl⟩;rw [← ett, ← eww] at hY hy0 hwb ⊢;refine EC.seq (EC.region (EL.as rfl rfl (EL.nil (EX.seq ?_))));refine EC.cutD [19, 179, 180, 181, 182, 183, 184, 185, 186, 187, 188, 189, 190, 191, 192, 193] (fun _ : Unit => [(19, .int .i64 (Zx tt ww least))]) (fun _ W => Blk W g8 25 #[.int .i64 S.lo, .int .i64 S.hi] ∧ W.ownsRow w.heap.size 30 4 (.slice (some ⟨b3, o3, none⟩) P.length c3) P.length (platesC P) ∧ Below w.heap.size w W) ?_ ?_
        ·
         refine EC.block ?_;refine EC.loopD [19, 179, 180, 181, 182, 183, 184, 185, 186, 187, 188, 189, 190, 191, 192, 193] (fun y : Nat => [(19, .int .i64 ((y : Int) - 1))]) (fun y W => (y ≤ 1001 ∧ (y = 0 ∨ least ≤ tt - ((y : Int) - 1) * ww)) ∧ Blk W g8 25 #[.int .i64 S.lo, .int .i64 S.hi] ∧ W.ownsRow w.heap.size 30 4 (.slice (some ⟨b3, o3, none⟩) P.length c3) P.length (platesC P) ∧ Below w.heap.size w W) (fun y => 1001 - y) 0 ⟨⟨Nat.zero_le _, .inl rfl⟩, q8, hO, hbw⟩ ⟨rfl, trivial⟩ ?_
         clear q8 hO hbw
         rintro y wk ⟨⟨hy, hm2⟩, q8, hO, hbw⟩
         have hyw : 0 ≤ (y : Int) * ww := Int.mul_nonneg (by omega) (by omega)
         have hyw2 : (y : Int) * ww ≤ 1001 * 38 := Int.mul_le_mul (by omega) (by omega) (by omega) (by omega)
         have hyx : (y : Int) - 1 + 1 = (y : Int) := by omega
         have hle0 := hle.1;have hle1 := hle.2;refine EC.seq (EC.seq (EC.region (EL.mv rfl rfl ?_)))
         by_cases hlt : (y : Int) - 1 < 1000
         ·
          refine EL.val (ZO (r := true) rfl rfl (decide_eq_true hlt)) rfl (EL.mv rfl rfl (EL.mg rfl rfl rfl rfl (EL.mg rfl rfl rfl rfl ?_)));refine EL.valg rfl rfl (ZM rfl rfl (c := (y : Int)) (by rw [hyx]; exact IntWalk.i64_in _ ⟨by omega, by omega⟩)) rfl ?_
          refine EL.mg rfl rfl rfl rfl ?_;refine EL.valg rfl rfl (QAc rfl rfl (IntWalk.i64_in _ ⟨by omega, by omega⟩)) rfl ?_
          refine EL.valg rfl rfl (Z4 rfl rfl (IntWalk.i64_in _ ⟨by omega, by omega⟩)) rfl ?_
          refine EL.mg rfl rfl rfl rfl (EL.valg rfl rfl (Y_ rfl (YX hle)) rfl ?_)
          by_cases hge : least ≤ tt - (y : Int) * ww
          ·
           refine EL.valg rfl rfl (QAA (r := true) rfl rfl (decide_eq_true hge)) rfl (EL.pt rfl rfl rfl (EL.nil (EX.seq (EC.yes rfl (EC.skip (EX.seq (EC.block (EC.region (EL.mv rfl rfl ?_)))))))));refine EL.val (ZM rfl rfl (c := (((y + 1 : Nat) : Int) - 1)) ((IntWalk.i64_in _ ⟨by omega, by omega⟩).trans (by omega))) rfl ?_
           refine EL.as rfl rfl (EL.nil (EX.blk ?_));refine EX.roundD (y + 1) ⟨rfl, trivial⟩ (by repeat first | with_reducible exact .refl _ | refine sp_ rfl ?_ | exact .refl _ | refine sd_ rfl ?_ | refine sn_ ?_) ⟨⟨by omega, .inr (by rw [show (((y + 1 : Nat) : Int)) - 1 = (y : Int) by omega]; exact hge)⟩, q8, hO, hbw⟩ (by omega)
          ·
           refine EL.valg rfl rfl (QAA (r := false) rfl rfl (decide_eq_false hge)) rfl (EL.pt rfl rfl rfl (EL.nil (EX.seq (EC.no rfl (EC.exit (EX.seq_exit (EX.seq_exit (EX.blk_here ?_))))))))
           exact EX.cutE () ⟨QFt (QCo (t := tt) (w := ww) (m := least) (y := (y : Int) - 1) (by omega) (by omega) (by omega) (by rcases hm2 with h | h; exact .inl (by omega); exact .inr h) (.inr (by rw [hyx]; omega))).symm rfl, trivial⟩ (by repeat first | with_reducible exact (Sub.refl _).del _ | refine sp_ rfl ?_ | exact (Sub.refl _).del _ | refine sd_ rfl ?_ | refine sn_ ?_) ⟨q8, hO, hbw⟩
         ·
          refine EL.val (ZO (r := false) rfl rfl (decide_eq_false hlt)) rfl (EL.mv rfl rfl (EL.skip rfl rfl rfl rfl (EL.skip rfl rfl rfl rfl (EL.skip rfl rfl rfl rfl (EL.skip rfl rfl rfl rfl (EL.skip rfl rfl rfl rfl (EL.skip rfl rfl rfl rfl (EL.skip rfl rfl rfl rfl (EL.skip rfl rfl rfl rfl ?_)))))))));refine EL.skip rfl rfl rfl rfl (EL.pf rfl rfl rfl (EL.nil (EX.seq (EC.no rfl (EC.exit (EX.seq_exit (EX.seq_exit (EX.blk_here ?_))))))))
          exact EX.cutE () ⟨QFt (QCo (t := tt) (w := ww) (m := least) (y := (y : Int) - 1) (by omega) (by omega) (by omega) (by rcases hm2 with h | h; exact .inl (by omega); exact .inr h) (.inl (by omega))).symm rfl, trivial⟩ (by repeat first | with_reducible exact (Sub.refl _).del _ | refine sp_ rfl ?_ | exact (Sub.refl _).del _ | refine sd_ rfl ?_ | refine sn_ ?_) ⟨q8, hO, hbw⟩
        ·
         clear q8 hO hbw
         rintro ⟨⟩ WC ⟨q8, hO, hbw⟩
         obtain ⟨yy, eyy⟩ : ∃ z, z = Zx tt ww least := ⟨_, rfl⟩;rw [← eyy] at hY hy0 ⊢;refine EC.seq (EC.region (EL.mv rfl rfl (EL.mv rfl rfl (EL.val (QCA rfl rfl rfl) rfl (EL.as rfl rfl (EL.nil (EX.seq (EC.seq (EC.region ?_)))))))));refine EL.mv rfl rfl ?_
         by_cases hm0 : m = 0
         ·
          have hyy := hy0 hm0;refine EL.val (Zg (r := true) rfl rfl (decide_eq_true (by omega))) rfl ?_
          refine EL.mv rfl rfl (EL.mg rfl rfl rfl rfl (EL.mg rfl rfl rfl rfl ?_))
          by_cases hkj : k < j
          ·
           have hj9 := hjf k hkj;rw [← ex] at hj9;refine EL.valg rfl rfl (ZO (r := true) rfl rfl (decide_eq_true (by rw [ej]; omega))) rfl ?_
           refine EL.mg rfl rfl rfl rfl (EL.mg rfl rfl rfl rfl (EL.valg rfl rfl (ZS rfl) rfl (EL.valg rfl rfl (ld_3 rfl (q8.at (j := 0) rfl)) rfl ?_)));refine EL.valg rfl rfl (QAa (r := false) rfl rfl (decide_eq_false (by omega))) rfl ?_
           refine EL.valg rfl rfl (Yn rfl rfl) rfl (EL.mg rfl rfl rfl rfl (EL.mg rfl rfl rfl rfl (EL.mg rfl rfl rfl rfl ?_)));refine EL.valg rfl rfl (Zg (r := false) rfl rfl (decide_eq_false (by rw [ej]; omega))) rfl ?_
           refine EL.mg rfl rfl rfl rfl (EL.skip rfl rfl rfl rfl (EL.skip rfl rfl rfl rfl (EL.skip rfl rfl rfl rfl (EL.skip rfl rfl rfl rfl (EL.valg rfl rfl (YC rfl rfl) rfl (EL.valg rfl rfl (YC rfl rfl) rfl (EL.pt rfl rfl rfl (EL.nil (EX.seq ?_)))))))));refine EC.no rfl (EC.skip (EX.blk (EX.seq (EC.region (EL.mv rfl rfl ?_)))));refine EL.val (ZM rfl rfl (c := ((k + 1 : Nat) : Int)) ((IntWalk.i64_in _ ⟨by first | omega | (simp only; omega), by first | omega | (simp only; omega)⟩).trans (by first | omega | (simp only; omega)))) rfl ?_
           refine EL.as rfl rfl (EL.nil ?_);refine EX.roundD (k + 1) ⟨by rw [show minK (yWay least m pk P) (k + 1) = min (minK (yWay least m pk P) k) (yWay least m pk P k) from rfl, hY]; rfl, rfl, trivial⟩ (by repeat first | with_reducible exact .refl _ | refine sp_ rfl ?_ | exact .refl _ | refine sd_ rfl ?_ | refine sn_ ?_) ⟨by omega, q8, hO, hbw⟩ (by omega)
          ·
           refine EL.valg rfl rfl (ZO (r := false) rfl rfl (decide_eq_false (by rw [ej]; omega))) rfl ?_
           refine EL.mg rfl rfl rfl rfl (EL.skip rfl rfl rfl rfl (EL.skip rfl rfl rfl rfl (EL.skip rfl rfl rfl rfl (EL.skip rfl rfl rfl rfl (EL.valg rfl rfl (YC rfl rfl) rfl (EL.mg rfl rfl rfl rfl (EL.mg rfl rfl rfl rfl (EL.mg rfl rfl rfl rfl ?_))))))))
           by_cases hke : k = j
           ·
            have hj9 := hjl;rw [← hke, ← ex] at hj9;refine EL.valg rfl rfl (Zg (r := true) rfl rfl (decide_eq_true (by rw [ej]; omega))) rfl ?_
            refine EL.mg rfl rfl rfl rfl (EL.mg rfl rfl rfl rfl (EL.valg rfl rfl (ZS rfl) rfl (EL.valg rfl rfl (ld_3 rfl (q8.at (j := 0) rfl)) rfl ?_)));refine EL.valg rfl rfl (Zq (r := false) rfl rfl (decide_eq_false (fun h => h (by omega)))) rfl ?_
            refine EL.valg rfl rfl (Yn rfl rfl) rfl (EL.valg rfl rfl (YC rfl rfl) rfl (EL.pt rfl rfl rfl (EL.nil (EX.seq (EC.no rfl (EC.skip (EX.blk (EX.seq (EC.region ?_)))))))));refine EL.mv rfl rfl ?_;refine EL.val (ZM rfl rfl (c := ((k + 1 : Nat) : Int)) ((IntWalk.i64_in _ ⟨by first | omega | (simp only; omega), by first | omega | (simp only; omega)⟩).trans (by first | omega | (simp only; omega)))) rfl ?_
            refine EL.as rfl rfl (EL.nil ?_);refine EX.roundD (k + 1) ⟨by rw [show minK (yWay least m pk P) (k + 1) = min (minK (yWay least m pk P) k) (yWay least m pk P k) from rfl, hY]; rfl, rfl, trivial⟩ (by repeat first | with_reducible exact .refl _ | refine sp_ rfl ?_ | exact .refl _ | refine sd_ rfl ?_ | refine sn_ ?_) ⟨by omega, q8, hO, hbw⟩ (by omega)
           ·
            refine EL.valg rfl rfl (Zg (r := false) rfl rfl (decide_eq_false (by rw [ej]; omega))) rfl ?_
            refine EL.mg rfl rfl rfl rfl (EL.skip rfl rfl rfl rfl (EL.skip rfl rfl rfl rfl (EL.skip rfl rfl rfl rfl (EL.skip rfl rfl rfl rfl (EL.valg rfl rfl (YC rfl rfl) rfl (EL.valg rfl rfl (YC rfl rfl) rfl (EL.pt rfl rfl rfl (EL.nil (EX.seq ?_)))))))));refine EC.no rfl (EC.skip (EX.blk (EX.seq (EC.region (EL.mv rfl rfl ?_)))));refine EL.val (ZM rfl rfl (c := ((k + 1 : Nat) : Int)) ((IntWalk.i64_in _ ⟨by first | omega | (simp only; omega), by first | omega | (simp only; omega)⟩).trans (by first | omega | (simp only; omega)))) rfl ?_
            refine EL.as rfl rfl (EL.nil ?_);refine EX.roundD (k + 1) ⟨by rw [show minK (yWay least m pk P) (k + 1) = min (minK (yWay least m pk P) k) (yWay least m pk P k) from rfl, hY]; rfl, rfl, trivial⟩ (by repeat first | with_reducible exact .refl _ | refine sp_ rfl ?_ | exact .refl _ | refine sd_ rfl ?_ | refine sn_ ?_) ⟨by omega, q8, hO, hbw⟩ (by omega)
         ·
          refine EL.val (Zg (r := false) rfl rfl (decide_eq_false (by omega))) rfl ?_
          refine EL.mv rfl rfl (EL.skip rfl rfl rfl rfl (EL.skip rfl rfl rfl rfl (EL.skip rfl rfl rfl rfl (EL.skip rfl rfl rfl rfl (EL.skip rfl rfl rfl rfl (EL.skip rfl rfl rfl rfl (EL.skip rfl rfl rfl rfl (EL.skip rfl rfl rfl rfl (EL.skip rfl rfl rfl rfl ?_)))))))));refine EL.skip rfl rfl rfl rfl (EL.skip rfl rfl rfl rfl (EL.skip rfl rfl rfl rfl (EL.skip rfl rfl rfl rfl (EL.skip rfl rfl rfl rfl (EL.skip rfl rfl rfl rfl (EL.skip rfl rfl rfl rfl (EL.skip rfl rfl rfl rfl (EL.skip rfl rfl rfl rfl (EL.skip rfl rfl rfl rfl ?_)))))))));refine EL.skip rfl rfl rfl rfl (EL.pf rfl rfl rfl (EL.nil (EX.seq (EC.no rfl (EC.skip (EX.blk (EX.seq (EC.region (EL.mv rfl rfl ?_)))))))));refine EL.val (ZM rfl rfl (c := ((k + 1 : Nat) : Int)) ((IntWalk.i64_in _ ⟨by first | omega | (simp only; omega), by first | omega | (simp only; omega)⟩).trans (by first | omega | (simp only; omega)))) rfl ?_
          refine EL.as rfl rfl (EL.nil ?_);refine EX.roundD (k + 1) ⟨by rw [show minK (yWay least m pk P) (k + 1) = min (minK (yWay least m pk P) k) (yWay least m pk P k) from rfl, hY]; rfl, rfl, trivial⟩ (by repeat first | with_reducible exact .refl _ | refine sp_ rfl ?_ | exact .refl _ | refine sd_ rfl ?_ | refine sn_ ?_) ⟨by omega, q8, hO, hbw⟩ (by omega)
    ·
     obtain rfl : k = P.length := by omega
     obtain ⟨y1, y2, y3, y4⟩ := QHL (least := least) hpk hPs hI m
     generalize minK (yWay least m pk P) P.length = yy at *
     refine EC.seq (EC.seq (EC.region (EL.mv rfl rfl (EL.mv rfl rfl (EL.val (QBJ rfl) rfl ?_)))));refine EL.val (ZO rfl rfl (decide_eq_false (show ¬(((P.length : Nat) : Int) < ((P.length : Nat) : Int)) by omega))) rfl ?_
     refine EL.nil (EX.seq (EC.no rfl (EC.exit (EX.seq_exit (EX.seq_exit (EX.blk_here (EX.seq (EC.seq (EC.region ?_)))))))));refine EL.mv rfl rfl (EL.val (ZS rfl) rfl (EL.val (ld_3 rfl (q8.at (j := 0) rfl)) rfl ?_));refine EL.val (ZO (r := false) rfl rfl (decide_eq_false (by omega))) rfl ?_
     refine EL.mv rfl rfl (EL.mg rfl rfl rfl rfl (EL.valg rfl rfl (ZR rfl) rfl (EL.valg rfl rfl (ld_3 rfl (q8.at (j := 1) rfl)) rfl ?_)));refine EL.valg rfl rfl (YP (r := false) rfl rfl (decide_eq_false (by omega))) rfl ?_
     refine EL.pf rfl rfl rfl (EL.mv rfl rfl (EL.mg rfl rfl rfl rfl ?_))
     by_cases hm0 : m = 0
     ·
      refine EL.valg rfl rfl (Zg (r := true) rfl rfl (decide_eq_true (by omega))) rfl ?_
      refine EL.mg rfl rfl rfl rfl (EL.mg rfl rfl rfl rfl (EL.valg rfl rfl (ZS rfl) rfl (EL.valg rfl rfl (ld_3 rfl (q8.at (j := 0) rfl)) rfl ?_)));refine EL.valg rfl rfl (Zq (r := false) rfl rfl (decide_eq_false (fun h => h (y3 hm0)))) rfl ?_
      refine EL.valg rfl rfl (Yn rfl rfl) rfl (EL.pf rfl rfl rfl (EL.mv rfl rfl (EL.mg rfl rfl rfl rfl ?_)));refine EL.valg rfl rfl (Zg (r := false) rfl rfl (decide_eq_false (by omega))) rfl ?_
      refine EL.mg rfl rfl rfl rfl (EL.skip rfl rfl rfl rfl (EL.skip rfl rfl rfl rfl (EL.skip rfl rfl rfl rfl (EL.skip rfl rfl rfl rfl (EL.valg rfl rfl (YC rfl rfl) rfl (EL.pf rfl rfl rfl (EL.nil (EX.seq (EC.no rfl ?_)))))))));refine EC.skip (EX.blk (EX.seq (EC.region (EL.mv rfl rfl ?_))));refine EL.val (ZM rfl rfl (c := ((m + 1 : Nat) : Int)) ((IntWalk.i64_in _ ⟨by first | omega | (simp only; omega), by first | omega | (simp only; omega)⟩).trans (by first | omega | (simp only; omega)))) rfl ?_
      refine EL.as rfl rfl (EL.nil ?_);refine EX.roundD (m + 1) ⟨rfl, trivial⟩ (by repeat first | with_reducible exact .refl _ | refine sp_ rfl ?_ | exact .refl _ | refine sd_ rfl ?_ | refine sn_ ?_) ⟨by omega, q8, hO, hbw⟩ (by omega)
     ·
      refine EL.valg rfl rfl (Zg (r := false) rfl rfl (decide_eq_false (by omega))) rfl ?_
      refine EL.mg rfl rfl rfl rfl (EL.skip rfl rfl rfl rfl (EL.skip rfl rfl rfl rfl (EL.skip rfl rfl rfl rfl (EL.skip rfl rfl rfl rfl (EL.valg rfl rfl (YC rfl rfl) rfl (EL.pf rfl rfl rfl (EL.mv rfl rfl (EL.mg rfl rfl rfl rfl ?_))))))))
      by_cases hm1 : m = 1
      ·
       refine EL.valg rfl rfl (Zg (r := true) rfl rfl (decide_eq_true (by omega))) rfl ?_
       refine EL.mg rfl rfl rfl rfl (EL.mg rfl rfl rfl rfl (EL.valg rfl rfl (ZR rfl) rfl (EL.valg rfl rfl (ld_3 rfl (q8.at (j := 1) rfl)) rfl ?_)));refine EL.valg rfl rfl (Zq (r := false) rfl rfl (decide_eq_false (fun h => h (y4 hm1)))) rfl ?_
       refine EL.valg rfl rfl (Yn rfl rfl) rfl (EL.pf rfl rfl rfl (EL.nil (EX.seq (EC.no rfl (EC.skip (EX.blk (EX.seq (EC.region (EL.mv rfl rfl ?_)))))))));refine EL.val (ZM rfl rfl (c := ((m + 1 : Nat) : Int)) ((IntWalk.i64_in _ ⟨by first | omega | (simp only; omega), by first | omega | (simp only; omega)⟩).trans (by first | omega | (simp only; omega)))) rfl ?_
       refine EL.as rfl rfl (EL.nil ?_);refine EX.roundD (m + 1) ⟨rfl, trivial⟩ (by repeat first | with_reducible exact .refl _ | refine sp_ rfl ?_ | exact .refl _ | refine sd_ rfl ?_ | refine sn_ ?_) ⟨by omega, q8, hO, hbw⟩ (by omega)
      ·
       refine EL.valg rfl rfl (Zg (r := false) rfl rfl (decide_eq_false (by omega))) rfl ?_
       refine EL.mg rfl rfl rfl rfl (EL.skip rfl rfl rfl rfl (EL.skip rfl rfl rfl rfl (EL.skip rfl rfl rfl rfl (EL.skip rfl rfl rfl rfl (EL.valg rfl rfl (YC rfl rfl) rfl (EL.pf rfl rfl rfl (EL.nil (EX.seq (EC.no rfl ?_)))))))));refine EC.skip (EX.blk (EX.seq (EC.region (EL.mv rfl rfl ?_))));refine EL.val (ZM rfl rfl (c := ((m + 1 : Nat) : Int)) ((IntWalk.i64_in _ ⟨by first | omega | (simp only; omega), by first | omega | (simp only; omega)⟩).trans (by first | omega | (simp only; omega)))) rfl ?_
       refine EL.as rfl rfl (EL.nil ?_);refine EX.roundD (m + 1) ⟨rfl, trivial⟩ (by repeat first | with_reducible exact .refl _ | refine sp_ rfl ?_ | exact .refl _ | refine sd_ rfl ?_ | refine sn_ ?_) ⟨by omega, q8, hO, hbw⟩ (by omega)
   ·
    refine EC.seq (EC.seq (EC.region (EL.mv rfl rfl ?_)));refine EL.val (ZO rfl rfl (decide_eq_false (show ¬(((m : Nat) : Int) < ((3 : Nat) : Int)) by omega))) rfl ?_
    refine EL.nil (EX.seq (EC.no rfl (EC.exit (EX.seq_exit (EX.seq_exit (EX.blk_here (EX.seq (EC.seq (EC.region ?_)))))))));have hsz := hbw.size;refine EL.newS QEt rfl ?_;intro g11 w11 q11 hb11 hg11 hl11;have n8_11 := q8.na hg11;have bhbw_11 := Nat.le_trans hbw.size hg11;have hbg11 : w.heap.size ≤ g11 := Nat.le_trans hbw.size hg11;replace q8 := q8.bl hb11;replace hO := own_below hO hb11 (Nat.le_refl _);replace hbw := bo_ hbw hb11;clear hb11 hl11;have hsz2 := hbw.size;refine EL.mv rfl rfl (EL.mv rfl rfl (EL.val (QBJ rfl) rfl ?_));refine EL.val (Z4 rfl rfl (c := ((P.length - 1 : Nat) : Int)) ((IntWalk.i64_in _ ⟨by omega, by omega⟩).trans (by omega))) rfl ?_
    refine EL.val (QK_ (hi := P.length - 1) rfl rfl hc3) rfl ?_;refine EL.copy QBN rfl rfl (base := w.heap.size) q11 (Nat.le_trans hsz hg11) (QGk QC3 (rd_of_own hO) rfl (show P.length - 1 ≤ P.length by omega)) (QAj _) (by omega) (by omega) hbw.size rfl ?_
    intro v12 w12 hin hb12;replace q8 := q8.bl hb12;replace hO := own_below hO hb12 (Nat.le_refl _);replace hbw := bo_ hbw hb12;clear hb12;obtain ⟨Ai, ci, rfl, _⟩ := (Rd.of_own hin).shape;refine EL.mv rfl rfl (EL.val (Y_ rfl (YX hle)) rfl ?_);have htl : (P.take (P.length - 1)).length = P.length - 1 := by rw [List.length_take]; omega
    refine EL.call (cA2 cF11 rfl rfl) rfl (QDL (P.take (P.length - 1)) _ least _ _ (by rw [htl]; exact rd_of_own hin) (Nat.le_refl _) (by omega)) ?_
    rintro e w13 ⟨rfl, hc13⟩
    refine ⟨_, rfl, ?_⟩;replace q8 := q8.bl hc13;replace hO := own_below hO hc13 (Nat.le_refl _);replace hin := own_below hin hc13 (Nat.le_refl _);replace hbw := bo_ hbw hc13;clear hc13;refine EL.mv rfl rfl (EL.xt rfl rfl rfl (EL.xt rfl rfl rfl (EL.xt rfl rfl rfl (EL.newP QAO rfl ?_))));intro g14 w14 q14 hb14 hg14 hl14;have n8_14 := q8.na hg14;have bhbw_14 := Nat.le_trans hbw.size hg14;have hbg14 : w.heap.size ≤ g14 := Nat.le_trans hbw.size hg14;replace q8 := q8.bl hb14;replace hO := own_below hO hb14 (Nat.le_refl _);replace hin := own_below hin hb14 (Nat.le_refl _);replace hbw := bo_ hbw hb14;clear hb14 hg14 hl14;refine EL.store rfl rfl q14 Z7 rfl rfl rfl rfl ?_;intro w15 hq15 hg15;replace q8 := q8.gr hg15 n8_14;replace hO := ZF hO q14 rfl hg15;replace hin := ZF hin q14 rfl hg15;replace hbw := ZC hbw hg15 bhbw_14;replace q14 := hq15;clear hg15 hq15;refine EL.as rfl rfl (EL.as rfl rfl (EL.nil (EX.seq (EC.seq (EC.region (EL.mv rfl rfl (EL.val (QBJ rfl) rfl ?_)))))))
    by_cases hn1 : P.length = 1
    ·
     refine EL.val (Zg (r := true) rfl rfl (decide_eq_true (by omega))) rfl ?_
     refine EL.mv rfl rfl (EL.mg rfl rfl rfl rfl ?_);refine EL.valg rfl rfl (Zg (r := true) rfl rfl (decide_eq_true (QEc (by omega)).1)) rfl ?_
     refine EL.pt rfl rfl rfl (EL.mv rfl rfl (EL.skip rfl rfl rfl rfl (EL.skip rfl rfl rfl rfl (EL.skip rfl rfl rfl rfl (EL.skip rfl rfl rfl rfl (EL.skip rfl rfl rfl rfl (EL.skip rfl rfl rfl rfl (EL.skip rfl rfl rfl rfl (EL.skip rfl rfl rfl rfl ?_)))))))));refine EL.skip rfl rfl rfl rfl (EL.skip rfl rfl rfl rfl (EL.skip rfl rfl rfl rfl (EL.skip rfl rfl rfl rfl (EL.skip rfl rfl rfl rfl (EL.skip rfl rfl rfl rfl (EL.skip rfl rfl rfl rfl (EL.skip rfl rfl rfl rfl (EL.pt rfl rfl rfl (EL.mv rfl rfl ?_)))))))));refine EL.callg rfl rfl (cA0 cF10) rfl (QCC _) ?_
     rintro e w16 ⟨rfl, hc16⟩
     refine ⟨_, rfl, ?_⟩;replace q8 := q8.bl hc16;replace q14 := q14.bl hc16;replace hO := own_below hO hc16 (Nat.le_refl _);replace hin := own_below hin hc16 (Nat.le_refl _);replace hbw := bo_ hbw hc16;clear hc16;refine EL.pt rfl rfl rfl (EL.as rfl rfl (EL.nil (EX.seq (EC.ret ?_))))
     exact EX.done (res1 rfl rfl) ⟨rfl, hbw⟩
    ·
     have hTs : ∀ p ∈ P.take (P.length - 1), p.Sm := fun p hp => hPs p (List.mem_of_mem_take hp)
     have hE1 := QDM (l := P.take (P.length - 1)) (least := least) (by omega) (by omega) (List.all_eq_true.2 fun p hp => (hTs p hp).ok) hle9
     have hI2 : LifeIs least (P.take (P.length - 1)) (P.take (P.length - 1)).length (Yq (P.take (P.length - 1)) least) := by
      have := QEb (b0 := 1001) (least := least) (l := P.take (P.length - 1)) (by omega) (fun p hp => (hTs p hp).ok) (P.length - 1 - 1) (by omega)
      rw [show P.length - 1 - 1 + 1 = (P.take (P.length - 1)).length by omega] at this
      rwa [hE1.2]
     have hL := QFw hI (by omega) hI2
     refine EL.val (Zg (r := false) rfl rfl (decide_eq_false (by omega))) rfl ?_
     refine EL.mv rfl rfl (EL.skip rfl rfl rfl rfl (EL.skip rfl rfl rfl rfl (EL.pf rfl rfl rfl (EL.mv rfl rfl (EL.mg rfl rfl rfl rfl (EL.valg rfl rfl (Zg (r := true) rfl rfl (decide_eq_true hE1.1)) rfl (EL.mg rfl rfl rfl rfl (EL.valg rfl rfl (ZS rfl) rfl (EL.valg rfl rfl (ld_3 rfl (q14.at (j := 0) rfl)) rfl ?_)))))))));refine EL.valg rfl rfl (ZS rfl) rfl (EL.valg rfl rfl (ld_3 rfl (q8.at (j := 0) rfl)) rfl (EL.valg rfl rfl (QAA (r := true) rfl rfl (decide_eq_true hL.1)) rfl (EL.valg rfl rfl (Yn rfl rfl) rfl (EL.mg rfl rfl rfl rfl (EL.valg rfl rfl (ZR rfl) rfl (EL.valg rfl rfl (ld_3 rfl (q14.at (j := 1) rfl)) rfl (EL.valg rfl rfl (ZR rfl) rfl (EL.valg rfl rfl (ld_3 rfl (q8.at (j := 1) rfl)) rfl (EL.valg rfl rfl (QAA (r := true) rfl rfl (decide_eq_true hL.2)) rfl ?_)))))))));refine EL.valg rfl rfl (Yn rfl rfl) rfl (EL.pf rfl rfl rfl (EL.mv rfl rfl (EL.callg rfl rfl (cA0 cF10) rfl (QCC _) ?_)))
     rintro e w17 ⟨rfl, hc17⟩
     refine ⟨_, rfl, ?_⟩;replace q8 := q8.bl hc17;replace q14 := q14.bl hc17;replace hO := own_below hO hc17 (Nat.le_refl _);replace hin := own_below hin hc17 (Nat.le_refl _);replace hbw := bo_ hbw hc17;clear hc17;refine EL.pt rfl rfl rfl (EL.as rfl rfl (EL.nil (EX.seq (EC.ret ?_))))
     exact EX.done (res1 rfl rfl) ⟨rfl, hbw⟩
end Go.Proofs.Ytfgfenmaommclaa
