/- X13, ExX14, X14, ExX15, X15, ExX16, X16, LkKnown, ExX17, X17, X18, ExX19, X19, ExX33, ExX38, ExX39: what LockTruthsProof needs of them (merged by trimpack.py). -/
import Derived.Test.YtlbfnimilcnihaaTruthsT4
set_option linter.unusedVariables false
set_option linter.unusedSimpArgs false
namespace Go.Proofs.Ytlbfnimilcnihaa
open Go Go.RowKit
theorem QLQ {k : Nat} {a b : Int} {w : World} : (Op.equalIn (k + 1) 3 (.int .i64 a) (.int .i64 b)).run Try.prog w = .ok (a == b) w := by
 rw [Op.equalIn]
 simp [run_underlying Try.underlying3]
theorem QLR {k : Nat} {a b c d : Int} {w : World} : (Op.equalIn (k + 2) 112 (.agg #[.int .i64 a, .int .i64 b]) (.agg #[.int .i64 c, .int .i64 d])).run Try.prog w = .ok (decide (a = c ∧ b = d)) w := by
 rw [Op.equalIn];have hs : (sizeOf 3).run Try.prog w = .ok 1 w := by kernel_rfl
 simp only [Sem.run_bind, run_underlying Try.underlying112, Result.andThen_ok, hs]
 simp only [Std.Legacy.Range.forIn_eq_forIn_range', Std.Legacy.Range.size]
 simp [List.range', go_sem, QLQ]
 by_cases h1 : a = c <;> by_cases h2 : b = d <;> simp [h1, h2]
theorem QI2 {n : Nat} {σ : Sg} {w : World} {dst : Option Tmp} {ty : TypeId} {pos : String} {af : Array Edge} {g : Option (Nat × Bool)} {x y : Operand} {a b : Int} {r : Bool} (hx : evS σ x = some (.agg #[.int .i64 a, .int .i64 b])) (hy : evS σ y = some (.agg #[.int .i64 0, .int .i64 0])) (hc : decide (¬(a = 0 ∧ b = 0)) = r) : ZI Try.prog n σ w ⟨dst, .binOp .neq 112 x y 112, ty, pos, af, g⟩ (.bool r) := fun _ ha => by
 subst hc
 simp only [execOp, ha.eval hx, ha.eval hy]
 have h := QLR (k := 9998) (a := a) (b := b) (c := 0) (d := 0) (w := w)
 simp [go_sem]
 rw [show (10000 : Nat) = 9998 + 2 from rfl, h]
 simp [go_sem]
theorem QB_ {P : Program} {n : Nat} {σ : Sg} {w : World} {fn : Func} {c s1 s2 : Tmp} {t : TypeId} {p : Addr} {v u1 u2 : Value} (h : fn.results = #[.cell c t, .tmp s1, .tmp s2]) (hc : σ c = some (.pointer (some p))) (h1 : σ s1 = some u1) (h2 : σ s2 = some u2) (hl : (loadVar t p).run P w = .ok v w) (a : Act) (ha : Env n σ a) : (results fn a.tmps).run P w = .ok (.tuple #[v, u1, u2]) w := by
 have e1 : a.tmps.getD c undef = .pointer (some p) := ha.eval (x := .tmp c) hc;have e2 : a.tmps.getD s1 undef = u1 := ha.eval (x := .tmp s1) h1;have e3 : a.tmps.getD s2 undef = u2 := ha.eval (x := .tmp s2) h2;rw [Array.getD_eq_getD_getElem?] at e1 e2 e3
 simp [results, h, e1, e2, e3, asAddr, hl]
theorem QKw : (Try.prog.info? 49).map (fun i => (i.zero, i.size, i.bytes)) = some (some (.agg #[.int .i64 0, .int .i64 0]), 2, 16) := by kernel_rfl
theorem QHd : Elem Try.prog 31 49 2 16 := Elem.mk' Try.underlying31 QKw rfl (by omega)
theorem QGG (a : List RN) (x : RN) : rnsC (a ++ [x]) = rnsC a ++ [.int .i64 x.start, .int .i64 x.stop] := by unfold rnsC; rw [List.flatMap_append]; rfl
theorem QDZ {f : Nat → Bool} {k : Nat} (h : ∀ i, i < k → f i = true) (hk : f k = true) : ∀ i, i < k + 1 → f i = true := fun i hi => by
 rcases Nat.lt_or_ge i k with h1 | h1
 ·exact h i h1
 ·rw [show i = k by omega]; exact hk
theorem QCa {q : QS} {p : List SP} {k : Nat} (hk : k < p.length) (h : okAt q p k = false) : ¬okC q p = true := fun e => by rw [QHN (QFT e).1 hk] at h; cases h
theorem QGP {q : QS} {p : List SP} (h : ¬(Zb q false p = 0 ∧ Zb q true p = 0)) : ¬okC q p = true := fun e => h (QFT e).2
theorem QMR {q : QS} {p : List SP} (h : ∀ i, i < p.length → okAt q p i = true) (h0 : Zb q false p = 0) (h1 : Zb q true p = 0) : okC q p = true := by
 unfold okC
 rw [QFz h, decide_eq_true h0, decide_eq_true h1]
 rfl
section
variable {l : LK} {ts : List TW} {p : List SP}
theorem QGm (h : ¬towE l ts = 0) : Z0 l ts p = towE l ts := if_neg h
theorem QAy (h : towE l ts = 0) (h2 : ¬okC (qL ts) p = true) : Z0 l ts p = 4 := by unfold Z0; rw [if_pos h, if_neg h2]
theorem QCv (h : towE l ts = 0) (h2 : okC (qL ts) p = true) (h3 : fitC l (qL ts) p = false) : Z0 l ts p = 8 := by unfold Z0; rw [if_pos h, if_pos h2, h3]; rfl
theorem QKS (h : towE l ts = 0) (h2 : okC (qL ts) p = true) (h3 : fitC l (qL ts) p = true) : Z0 l ts p = 0 := by unfold Z0; rw [if_pos h, if_pos h2, if_pos h3]
end
set_option maxHeartbeats 2000000 in
set_option maxRecDepth 100000 in
theorem QE7 {l : LK} {ts : List TW} {p : List SP} {v vp : Value} {w : World} {B : Nat} (hr : Rd w B 5 v ts.length (twsC ts)) (hp : Rd w B 2 vp p.length (spsC p)) (hB : B ≤ w.heap.size) (hpn : p.length ≤ 1000000) :
  Calls Try.prog 40 #[.agg #[.int .i64 l.length, .int .i64 l.cycle, .int .i64 l.turn, .int .i64 l.fill, .int .i64 l.save, .bool l.high], v, vp] w fun e w' => ∃ s sl, e = .returned (.tuple #[stV s, sl, .int .i64 (Z0 l ts p)]) ∧ (Z0 l ts p = 0 → s = sAt l (qL ts) p p.length ∧ w'.ownsRow w.heap.size 49 2 sl p.length (rnsC (QBC l (qL ts) p p.length))) ∧ Below w.heap.size w w' := by
 obtain ⟨At, ct, rfl, _⟩ := hr.shape;obtain ⟨Ap, cp, rfl, _⟩ := hp.shape;have hbw := Below.refl w.heap.size w;refine EC.enter 112 Try.func40 rfl rfl rfl (EC.seq (EC.region (EL.newP (QDN rfl) rfl ?_)));intro g1 w1 q1 hb1 hg1 hl1;have bhbw_1 := Nat.le_trans hbw.size hg1;replace hbw := bo_ hbw hb1;clear hb1 hg1 hl1;refine EL.newP QAG rfl ?_;intro g2 w2 q2 hb2 hg2 hl2;have n1_2 := q1.na hg2;have bhbw_2 := Nat.le_trans hbw.size hg2;replace q1 := q1.bl hb2;replace hbw := bo_ hbw hb2;clear hb2 hg2 hl2;refine EL.as rfl rfl (EL.as rfl rfl (EL.nil (EX.seq (EC.seq (EC.seq (EC.region (EL.val (QB2 rfl (q1.at (j := 0) rfl) (q1.at (j := 1) rfl) (q1.at (j := 2) rfl) (q1.at (j := 3) rfl) (q1.at (j := 4) rfl) (q1.at (j := 5) rfl)) rfl (EL.mv rfl rfl (EL.call (cA2 cF45 rfl rfl) rfl (QAj (hr.below (hbw.mono hB)) (Nat.le_trans hB hbw.size)) ?_)))))))))
 rintro e w3 ⟨rfl, hc3⟩
 refine ⟨_, rfl, ?_⟩;replace q1 := q1.bl hc3;replace q2 := q2.bl hc3;replace hbw := bo_ hbw hc3;clear hc3;refine EL.as rfl rfl (EL.nil (EX.seq (EC.seq (EC.region (EL.mv rfl rfl ?_)))))
 by_cases ht : towE l ts = 0
 ·
  refine EL.val (Zn (r := false) rfl rfl (decide_eq_false (by omega))) rfl ?_
  refine EL.nil (EX.seq (EC.no rfl (EC.skip (EX.seq (EC.seq (EC.region (EL.mv rfl rfl ?_)))))));obtain ⟨hlk, hn8, htw⟩ := QBh ht;have hqk := QG6 ht;refine EL.call (cA1 cF55 rfl) rfl (QGU (hr.below (hbw.mono hB)) (Nat.le_trans hB hbw.size) hn8) ?_
  rintro e w4 ⟨s0, s1, rfl, hq0, hq1, hc4⟩
  refine ⟨_, rfl, ?_⟩;obtain ⟨q, hqe⟩ : ∃ q, q = qL ts := ⟨_, rfl⟩;rw [← hqe] at hq0 hq1 hqk;replace hq0 := YI hq0 hbw.size;replace hq1 := YI hq1 hbw.size;obtain ⟨A0, c0, rfl, _⟩ := (Rd.of_own hq0).shape;obtain ⟨A1, c1, rfl, _⟩ := (Rd.of_own hq1).shape;have hq8 := hqk.len;replace q1 := q1.bl hc4;replace q2 := q2.bl hc4;replace hbw := bo_ hbw hc4;clear hc4;refine EL.newP QHP rfl ?_;intro g5 w5 q5 hb5 hg5 hl5;have n1_5 := q1.na hg5;have n2_5 := q2.na hg5;have bhbw_5 := Nat.le_trans hbw.size hg5;replace q1 := q1.bl hb5;replace q2 := q2.bl hb5;replace hq0 := ZB hq0 hb5 (Nat.le_refl _);replace hq1 := ZB hq1 hb5 (Nat.le_refl _);replace hbw := bo_ hbw hb5;clear hb5 hg5 hl5;refine EL.store rfl rfl q5 QGy rfl rfl rfl rfl ?_;intro w6 hq6 hg6;replace q1 := q1.gr hg6 n1_5;replace q2 := q2.gr hg6 n2_5;replace hq0 := ZG hq0 q5 rfl hg6;replace hq1 := ZG hq1 q5 rfl hg6;replace hbw := ZE hbw hg6 bhbw_5;replace q5 := hq6;clear hg6 hq6;refine EL.nil (EX.seq (EC.seq (EC.region ?_)));refine EL.val (YD (k := 0) rfl rfl (by omega)) rfl ?_
  refine EL.val (QAI rfl (q5.at (j := 0) rfl)) rfl (EL.val (Yg rfl) rfl ?_);refine EL.val (YD (k := 1) rfl rfl (by omega)) rfl ?_
  refine EL.val (QAI rfl (q5.at (j := 1) rfl)) rfl (EL.val (Yg rfl) rfl (EL.val (QHK rfl rfl) rfl (EL.newP QMt rfl ?_)));intro g7 w7 q7 hb7 hg7 hl7;have n1_7 := q1.na hg7;have n2_7 := q2.na hg7;have n5_7 := q5.na hg7;have bhbw_7 := Nat.le_trans hbw.size hg7;replace q1 := q1.bl hb7;replace q2 := q2.bl hb7;replace q5 := q5.bl hb7;replace hq0 := ZB hq0 hb7 (Nat.le_refl _);replace hq1 := ZB hq1 hb7 (Nat.le_refl _);replace hbw := bo_ hbw hb7;clear hb7 hg7 hl7;refine EL.store rfl rfl q7 QMG rfl rfl rfl rfl ?_;intro w8 hq8 hg8;replace q1 := q1.gr hg8 n1_7;replace q2 := q2.gr hg8 n2_7;replace q5 := q5.gr hg8 n5_7;replace hq0 := ZG hq0 q7 rfl hg8;replace hq1 := ZG hq1 q7 rfl hg8;replace hbw := ZE hbw hg8 bhbw_7;replace q7 := hq8;clear hg8 hq8;refine EL.nil (EX.seq (EC.seq (EC.seq (EC.region (EL.mv rfl rfl (EL.val (QB0 rfl) rfl (EL.mv rfl rfl (EL.nil (EX.seq ?_)))))))));refine EC.block ?_;replace q7 : Blk w8 g7 112 #[.int .i64 (Zb q false (p.take 0)), .int .i64 (Zb q true (p.take 0))] := by rw [List.take_zero]; unfold Zb; rw [QBL, QBL]; simp only [Int.sub_zero]; exact q7
  refine EC.loopD [7, 8, 13, 14, 39, 40, 41, 42, 43, 44, 45, 46, 47, 48, 49, 50, 51, 52, 53, 54, 55, 56, 57, 58, 59, 60, 61, 62] (fun k : Nat => [(39, .int .i64 (k : Nat)), (7, .slice none 0 0)]) (fun k W => k ≤ p.length ∧ (∀ i, i < k → okAt q p i = true) ∧ Blk W g1 23 #[.int .i64 l.length, .int .i64 l.cycle, .int .i64 l.turn, .int .i64 l.fill, .int .i64 l.save, .bool l.high] ∧ Blk W g2 114 #[.int .i64 0, .int .i64 0, .int .i64 0, .int .i64 0, .int .i64 0, .bool false, .int .i64 0, .int .i64 0, .int .i64 0, .int .i64 0, .int .i64 0, .int .i64 0, .int .i64 0, .int .i64 0, .int .i64 0] ∧ Blk W g5 134 #[.slice A0 (q false).length c0, .slice A1 (q true).length c1] ∧ Blk W g7 112 #[.int .i64 (Zb q false (p.take k)), .int .i64 (Zb q true (p.take k))] ∧ W.ownsRow w.heap.size 39 5 (.slice A0 (q false).length c0) (q false).length (twsC (q false)) ∧ W.ownsRow w.heap.size 39 5 (.slice A1 (q true).length c1) (q true).length (twsC (q true)) ∧ Below w.heap.size w W) (fun k => p.length - k) 0 ⟨Nat.zero_le _, (fun i hi => absurd hi (Nat.not_lt_zero i)), q1, q2, q5, q7, hq0, hq1, hbw⟩ ⟨rfl, rfl, trivial⟩ ?_
  clear q1 q2 q5 q7 hq0 hq1 hbw
  rintro k wk ⟨hk, hok, q1, q2, q5, q7, hq0, hq1, hbw⟩
  by_cases hltk : k < p.length
  ·
   obtain ⟨b, o, rfl, _, cc⟩ := QBl p k hltk w B _ _ _ hp;obtain ⟨x, hpx⟩ : ∃ x, p.getD k sp0 = x := ⟨_, rfl⟩;rw [hpx] at cc;obtain ⟨xu, xn⟩ := x;have hbd := QLI (Nat.le_of_lt hltk) hok;refine EC.seq (EC.region ?_);refine EL.val (ZO (r := true) rfl rfl (decide_eq_true (by omega))) rfl ?_
   refine EL.nil (EX.seq (EC.seq (EC.yes rfl (EC.skip (EX.seq (EC.seq (EC.block (EC.seq (EC.region ?_)))))))));refine EL.val (QE0 rfl rfl hltk) rfl (EL.val (QDD rfl (ZC hbw cc.c0) (ZC hbw cc.c1)) rfl (EL.newP QIO rfl ?_));intro g9 w9 q9 hb9 hg9 hl9;have n1_9 := q1.na hg9;have n2_9 := q2.na hg9;have n5_9 := q5.na hg9;have n7_9 := q7.na hg9;have bhbw_9 := Nat.le_trans hbw.size hg9;replace q1 := q1.bl hb9;replace q2 := q2.bl hb9;replace q5 := q5.bl hb9;replace q7 := q7.bl hb9;replace hq0 := ZB hq0 hb9 (Nat.le_refl _);replace hq1 := ZB hq1 hb9 (Nat.le_refl _);replace hbw := bo_ hbw hb9;clear hb9 hg9 hl9;refine EL.store rfl rfl q9 QHW rfl rfl rfl rfl ?_;intro w10 hq10 hg10;replace q1 := q1.gr hg10 n1_9;replace q2 := q2.gr hg10 n2_9;replace q5 := q5.gr hg10 n5_9;replace q7 := q7.gr hg10 n7_9;replace hq0 := ZG hq0 q9 rfl hg10;replace hq1 := ZG hq1 q9 rfl hg10;replace hbw := ZE hbw hg10 bhbw_9;replace q9 := hq10;clear hg10 hq10;refine EL.nil (EX.seq (EC.seq (EC.region (EL.val (QDf rfl) rfl (EL.val (ld_4 rfl (q9.at (j := 0) rfl)) rfl (EL.call (cA1 cF56 rfl) rfl (QAk _ _) ?_))))))
   rintro e w11 ⟨rfl, hc11⟩
   refine ⟨_, rfl, ?_⟩;replace q1 := q1.bl hc11;replace q2 := q2.bl hc11;replace q5 := q5.bl hc11;replace q7 := q7.bl hc11;replace q9 := q9.bl hc11;replace hq0 := ZB hq0 hc11 (Nat.le_refl _);replace hq1 := ZB hq1 hc11 (Nat.le_refl _);replace hbw := bo_ hbw hc11;clear hc11;refine EL.as rfl rfl (EL.nil (EX.seq (EC.seq (EC.seq ?_))))
   cases xu
   ·
    have lt_1 := q1.lt;have lt_2 := q2.lt;have lt_5 := q5.lt;have lt_7 := q7.lt;have lt_9 := q9.lt;refine EC.regionP [[], [0], [0, 1], [], [3], [3, 4], [0, 1, 2, 3, 4, 5], [0, 1, 2, 3, 4, 5, 6]] 6 [] (phi (fun i_ r => match i_ with | 0 => r 0 = .int .i64 (wyB false) | 1 => r 1 = .pointer (some ⟨g7, 0 + 0, none⟩) | 2 => r 2 = .int .i64 (Zb q false (p.take k)) | 3 => r 3 = .pointer (some ⟨g9, 1, none⟩) | 4 => r 4 = .int .i64 xn | _ => True) [(5, fun r w_ => ∃ g_, r 5 = .slice (some ⟨g_, 0, none⟩) 1 1 ∧ Blk w_ g_ 3 #[.int .i64 xn] ∧ w11.heap.size ≤ g_)]) (by kernel_rfl) rfl rfl (Ye QAL (Yu)) (fun i_ hi_ => ?_) ?_
    ·match i_, hi_ with
     | 0, _ =>
      intro val w1 a hb ha hd;have ha := ha.s0 (d := 14) rfl
      exact ZJ ha rfl rfl (x_move rfl) rfl rfl
     | 1, _ =>
      intro val w1 a hb ha hd;have e0 : val 0 = _ := hd 0 (ZA.1 rfl);have ha := ha.sub (Sub.ins (d := 46) (Sub.ins (d := 11) (Sub.nil _) rfl) (ZQ rfl e0))
      exact ZJ ha rfl rfl (Zj (k := 0) rfl rfl (by omega)) rfl rfl
     | 2, _ =>
      intro val w1 a hb ha hd;have e1 : val 1 = _ := hd 1 (ZA.1 rfl);have ha := ha.s1 (d := 47) rfl e1
      exact ZJ ha rfl rfl (ld_3 rfl ((q7.below hb q7.lt).at (j := 0) rfl)) rfl rfl
     | 3, _ =>
      intro val w1 a hb ha hd;have ha := ha.s0 (d := 13) rfl
      exact ZJ ha rfl rfl (Y7 rfl) rfl rfl
     | 4, _ =>
      intro val w1 a hb ha hd;have e3 : val 3 = _ := hd 3 (ZA.1 rfl);have ha := ha.s1 (d := 49) rfl e3
      exact ZJ ha rfl rfl (ld_3 rfl ((q9.below hb q9.lt).at (j := 1) rfl)) rfl rfl
     | 5, _ =>
      intro val w1 a hb ha hd;have e4 : val 4 = _ := hd 4 (ZA.1 rfl);have ha := ha.s1 (d := 50) rfl e4
      exact QDd ha rfl rfl (YF rfl) rfl (fun g w' hq _ hge => ⟨g, rfl, hq, Nat.le_trans hb.size hge⟩)
     | k + 6, h => exact absurd h (by omega)
    ·intro val wR10 hb halc hd
     have e0 : val 0 = _ := hd 0 (by omega)
     have e1 : val 1 = _ := hd 1 (by omega)
     have e2 : val 2 = _ := hd 2 (by omega)
     have e3 : val 3 = _ := hd 3 (by omega)
     have e4 : val 4 = _ := hd 4 (by omega)
     obtain ⟨ga5_10, e5, qa5_10, hga5_10⟩ := hd 5 (by omega)
     change val 5 = _ at e5;change Blk wR10 ga5_10 3 #[.int .i64 xn] at qa5_10;refine EL.ends (cs := [_, _, _, _, _, _]) ⟨e0, e1, e2, e3, e4, e5, trivial⟩ rfl ?_;replace q1 := q1.bl hb;replace q2 := q2.bl hb;replace q5 := q5.bl hb;replace q7 := q7.bl hb;replace q9 := q9.bl hb;replace hq0 := ZB hq0 hb (Nat.le_refl _);replace hq1 := ZB hq1 hb (Nat.le_refl _);have n1_12 : g1 ≠ ga5_10 := Nat.ne_of_lt (Nat.lt_of_lt_of_le lt_1 hga5_10);have n2_12 : g2 ≠ ga5_10 := Nat.ne_of_lt (Nat.lt_of_lt_of_le lt_2 hga5_10);have n5_12 : g5 ≠ ga5_10 := Nat.ne_of_lt (Nat.lt_of_lt_of_le lt_5 hga5_10);have n7_12 : g7 ≠ ga5_10 := Nat.ne_of_lt (Nat.lt_of_lt_of_le lt_7 hga5_10);have n9_12 : g9 ≠ ga5_10 := Nat.ne_of_lt (Nat.lt_of_lt_of_le lt_9 hga5_10);have bhbw_12 := Nat.le_trans hbw.size hga5_10;replace hbw := bo_ hbw hb;clear hb
     cases hin : inB 1 (Zb q false (p.take k)) xn
     ·
      have hko : okAt q p k = false := by unfold okAt; rw [hpx]; exact hin
      refine EL.call (cA3 cF39 rfl rfl rfl) rfl (Za qa5_10 hin) ?_
      rintro e w13 ⟨rfl, hc13⟩
      refine ⟨_, rfl, ?_⟩;replace q1 := q1.bl hc13;replace q2 := q2.bl hc13;replace q5 := q5.bl hc13;replace q7 := q7.bl hc13;replace q9 := q9.bl hc13;replace qa5_10 := qa5_10.bl hc13;replace hq0 := ZB hq0 hc13 (Nat.le_refl _);replace hq1 := ZB hq1 hc13 (Nat.le_refl _);replace hbw := bo_ hbw hc13;clear hc13;refine EL.val (ZX rfl) rfl (EL.nil (EX.seq (EC.yes rfl (EC.seq (EC.region (EL.val (Z8 rfl (q2.at (j := 0) rfl) (q2.at (j := 1) rfl) (q2.at (j := 2) rfl) (q2.at (j := 3) rfl) (q2.at (j := 4) rfl) (q2.at (j := 5) rfl) (q2.at (j := 6) rfl) (q2.at (j := 7) rfl) (q2.at (j := 8) rfl) (q2.at (j := 9) rfl) (q2.at (j := 10) rfl) (q2.at (j := 11) rfl) (q2.at (j := 12) rfl) (q2.at (j := 13) rfl) (q2.at (j := 14) rfl)) rfl (EL.store rfl rfl q2 Z5 rfl rfl rfl rfl ?_)))))));intro w14 hq14 hg14;replace q1 := q1.gr hg14 n1_2;replace q5 := q5.gr hg14 n2_5.symm;replace q7 := q7.gr hg14 n2_7.symm;replace q9 := q9.gr hg14 n2_9.symm;replace qa5_10 := qa5_10.gr hg14 n2_12.symm;replace hq0 := ZG hq0 q2 rfl hg14;replace hq1 := ZG hq1 q2 rfl hg14;replace hbw := ZE hbw hg14 bhbw_2;replace q2 := hq14;clear hg14 hq14;refine EL.as rfl rfl (EL.as rfl rfl (EL.nil (EX.seq (EC.ret (EX.seq_ret (EX.blk_ret (EX.seq_ret (EX.seq_ret (EX.blk_ret ?_)))))))));refine EX.seq_ret ?_
      exact EX.done (QB_ rfl rfl rfl rfl (QAF (q2.at (j := 0) rfl) (q2.at (j := 1) rfl) (q2.at (j := 2) rfl) (q2.at (j := 3) rfl) (q2.at (j := 4) rfl) (q2.at (j := 5) rfl) (q2.at (j := 6) rfl) (q2.at (j := 7) rfl) (q2.at (j := 8) rfl) (q2.at (j := 9) rfl) (q2.at (j := 10) rfl) (q2.at (j := 11) rfl) (q2.at (j := 12) rfl) (q2.at (j := 13) rfl) (q2.at (j := 14) rfl))) ⟨st0, _, by rw [QAy ht (by rw [← hqe]; exact QCa hltk hko)]; rfl, fun he => absurd he (by rw [QAy ht (by rw [← hqe]; exact QCa hltk hko)]; decide), hbw⟩
     ·
      have hko : okAt q p k = true := by unfold okAt; rw [hpx]; exact hin
      obtain ⟨hin1, hin2⟩ := QC8 hin;refine EL.call (cA3 cF39 rfl rfl rfl) rfl (Za qa5_10 hin) ?_
      rintro e w15 ⟨rfl, hc15⟩
      refine ⟨_, rfl, ?_⟩;replace q1 := q1.bl hc15;replace q2 := q2.bl hc15;replace q5 := q5.bl hc15;replace q7 := q7.bl hc15;replace q9 := q9.bl hc15;replace qa5_10 := qa5_10.bl hc15;replace hq0 := ZB hq0 hc15 (Nat.le_refl _);replace hq1 := ZB hq1 hc15 (Nat.le_refl _);replace hbw := bo_ hbw hc15;clear hc15;refine EL.val (ZX rfl) rfl (EL.nil (EX.seq (EC.no rfl (EC.skip (EX.seq ?_)))));have hsn : Zb q false (p.take (k + 1)) = Zb q false (p.take k) - xn := by unfold Zb; rw [Yn _ hltk, hpx, if_pos rfl]; dsimp only; omega
      have hso : Zb q true (p.take (k + 1)) = Zb q true (p.take k) := by unfold Zb; rw [Yn _ hltk, hpx, if_neg (fun h => Bool.noConfusion h)]
      have hb1 := hbd false;have hb2 : Zb q false (p.take k) ≤ 8 := by unfold Zb; have := (hbd false).1; omega
      have lt_1 := q1.lt;have lt_2 := q2.lt;have lt_5 := q5.lt;have lt_7 := q7.lt;have lt_9 := q9.lt;have lt_12 := qa5_10.lt;refine EC.regionP [[], [0], [0, 1], [], [3], [0, 1, 2, 3, 4], [0, 1, 2, 3, 4, 5], [0, 1, 2, 3, 4, 5, 6]] 6 [] (phi (fun i_ r => match i_ with | 0 => r 0 = .int .i64 (wyB false) | 1 => r 1 = .pointer (some ⟨g7, 0 + 0, none⟩) | 2 => r 2 = .int .i64 (Zb q false (p.take k)) | 3 => r 3 = .pointer (some ⟨g9, 1, none⟩) | 4 => r 4 = .int .i64 xn | 5 => r 5 = .int .i64 (Zb q false (p.take (k + 1))) | _ => True) []) (by kernel_rfl) rfl rfl (Yu) (fun i_ hi_ => ?_) ?_
      ·match i_, hi_ with
       | 0, _ =>
        intro val w1 a hb ha hd;have ha := ha.s0 (d := 14) rfl
        exact ZJ ha rfl rfl (x_move rfl) rfl rfl
       | 1, _ =>
        intro val w1 a hb ha hd;have e0 : val 0 = _ := hd 0 (ZA.1 rfl);have ha := ha.sub (Sub.ins (d := 55) (Sub.ins (d := 11) (Sub.nil _) rfl) (ZQ rfl e0))
        exact ZJ ha rfl rfl (Zj (k := 0) rfl rfl (by omega)) rfl rfl
       | 2, _ =>
        intro val w1 a hb ha hd;have e1 : val 1 = _ := hd 1 (ZA.1 rfl);have ha := ha.s1 (d := 56) rfl e1
        exact ZJ ha rfl rfl (ld_3 rfl ((q7.below hb q7.lt).at (j := 0) rfl)) rfl rfl
       | 3, _ =>
        intro val w1 a hb ha hd;have ha := ha.s0 (d := 13) rfl
        exact ZJ ha rfl rfl (Y7 rfl) rfl rfl
       | 4, _ =>
        intro val w1 a hb ha hd;have e3 : val 3 = _ := hd 3 (ZA.1 rfl);have ha := ha.s1 (d := 58) rfl e3
        exact ZJ ha rfl rfl (ld_3 rfl ((q9.below hb q9.lt).at (j := 1) rfl)) rfl rfl
       | 5, _ =>
        intro val w1 a hb ha hd;have e2 : val 2 = _ := hd 2 (ZA.1 rfl);have e4 : val 4 = _ := hd 4 (ZA.1 rfl);have ha := ha.s2 (d := 59) (e := 57) rfl e4 rfl e2
        exact ZJ ha rfl rfl (Z_ rfl rfl (c := Zb q false (p.take (k + 1))) ((IntWalk.i64_in _ ⟨by omega, by omega⟩).trans hsn.symm)) rfl rfl
       | k + 6, h => exact absurd h (by omega)
      ·intro val wR12 hb halc hd
       have e0 : val 0 = _ := hd 0 (by omega)
       have e1 : val 1 = _ := hd 1 (by omega)
       have e2 : val 2 = _ := hd 2 (by omega)
       have e3 : val 3 = _ := hd 3 (by omega)
       have e4 : val 4 = _ := hd 4 (by omega)
       have e5 : val 5 = _ := hd 5 (by omega)
       refine EL.ends (cs := [_, _, _, _, _, _]) ⟨e0, e1, e2, e3, e4, e5, trivial⟩ rfl ?_;replace q1 := q1.bl hb;replace q2 := q2.bl hb;replace q5 := q5.bl hb;replace q7 := q7.bl hb;replace q9 := q9.bl hb;replace qa5_10 := qa5_10.bl hb;replace hq0 := ZB hq0 hb (Nat.le_refl _);replace hq1 := ZB hq1 hb (Nat.le_refl _);replace hbw := bo_ hbw hb;clear hb;refine EL.val (Zj (k := 0) rfl rfl (by omega)) rfl ?_
       refine EL.store rfl rfl q7 sz_3 rfl rfl rfl rfl ?_;intro w16 hq16 hg16;replace q1 := q1.gr hg16 n1_7;replace q2 := q2.gr hg16 n2_7;replace q5 := q5.gr hg16 n5_7;replace q9 := q9.gr hg16 n7_9.symm;replace qa5_10 := qa5_10.gr hg16 n7_12.symm;replace hq0 := ZG hq0 q7 rfl hg16;replace hq1 := ZG hq1 q7 rfl hg16;replace hbw := ZE hbw hg16 bhbw_7;replace q7 := hq16;clear hg16 hq16;refine EL.nil (EX.blk (EX.seq (EC.region ?_)));refine EL.val (x_add rfl rfl (c := ((k + 1 : Nat) : Int)) ((IntWalk.i64_in _ ⟨by first | omega | (simp only; omega), by first | omega | (simp only; omega)⟩).trans (by first | omega | (simp only; omega)))) rfl ?_
       refine EL.mv rfl rfl (EL.nil ?_);refine EX.roundD (k + 1) ⟨rfl, rfl, trivial⟩ (by repeat first | with_reducible exact .refl _ | refine sp_ rfl ?_ | exact .refl _ | refine sd_ rfl ?_ | refine sn_ ?_) ⟨hltk, (QDZ hok hko), q1, q2, q5, (by rw [hso]; exact q7), hq0, hq1, hbw⟩ (by omega)
   ·
    have lt_1 := q1.lt;have lt_2 := q2.lt;have lt_5 := q5.lt;have lt_7 := q7.lt;have lt_9 := q9.lt;refine EC.regionP [[], [0], [0, 1], [], [3], [3, 4], [0, 1, 2, 3, 4, 5], [0, 1, 2, 3, 4, 5, 6]] 6 [] (phi (fun i_ r => match i_ with | 0 => r 0 = .int .i64 (wyB true) | 1 => r 1 = .pointer (some ⟨g7, 0 + 1, none⟩) | 2 => r 2 = .int .i64 (Zb q true (p.take k)) | 3 => r 3 = .pointer (some ⟨g9, 1, none⟩) | 4 => r 4 = .int .i64 xn | _ => True) [(5, fun r w_ => ∃ g_, r 5 = .slice (some ⟨g_, 0, none⟩) 1 1 ∧ Blk w_ g_ 3 #[.int .i64 xn] ∧ w11.heap.size ≤ g_)]) (by kernel_rfl) rfl rfl (Ye QAL (Yu)) (fun i_ hi_ => ?_) ?_
    ·match i_, hi_ with
     | 0, _ =>
      intro val w1 a hb ha hd;have ha := ha.s0 (d := 14) rfl
      exact ZJ ha rfl rfl (x_move rfl) rfl rfl
     | 1, _ =>
      intro val w1 a hb ha hd;have e0 : val 0 = _ := hd 0 (ZA.1 rfl);have ha := ha.sub (Sub.ins (d := 46) (Sub.ins (d := 11) (Sub.nil _) rfl) (ZQ rfl e0))
      exact ZJ ha rfl rfl (Zj (k := 1) rfl rfl (by omega)) rfl rfl
     | 2, _ =>
      intro val w1 a hb ha hd;have e1 : val 1 = _ := hd 1 (ZA.1 rfl);have ha := ha.s1 (d := 47) rfl e1
      exact ZJ ha rfl rfl (ld_3 rfl ((q7.below hb q7.lt).at (j := 1) rfl)) rfl rfl
     | 3, _ =>
      intro val w1 a hb ha hd;have ha := ha.s0 (d := 13) rfl
      exact ZJ ha rfl rfl (Y7 rfl) rfl rfl
     | 4, _ =>
      intro val w1 a hb ha hd;have e3 : val 3 = _ := hd 3 (ZA.1 rfl);have ha := ha.s1 (d := 49) rfl e3
      exact ZJ ha rfl rfl (ld_3 rfl ((q9.below hb q9.lt).at (j := 1) rfl)) rfl rfl
     | 5, _ =>
      intro val w1 a hb ha hd;have e4 : val 4 = _ := hd 4 (ZA.1 rfl);have ha := ha.s1 (d := 50) rfl e4
      exact QDd ha rfl rfl (YF rfl) rfl (fun g w' hq _ hge => ⟨g, rfl, hq, Nat.le_trans hb.size hge⟩)
     | k + 6, h => exact absurd h (by omega)
    ·intro val wR10 hb halc hd
     have e0 : val 0 = _ := hd 0 (by omega)
     have e1 : val 1 = _ := hd 1 (by omega)
     have e2 : val 2 = _ := hd 2 (by omega)
     have e3 : val 3 = _ := hd 3 (by omega)
     have e4 : val 4 = _ := hd 4 (by omega)
     obtain ⟨ga5_10, e5, qa5_10, hga5_10⟩ := hd 5 (by omega)
     change val 5 = _ at e5;change Blk wR10 ga5_10 3 #[.int .i64 xn] at qa5_10;refine EL.ends (cs := [_, _, _, _, _, _]) ⟨e0, e1, e2, e3, e4, e5, trivial⟩ rfl ?_;replace q1 := q1.bl hb;replace q2 := q2.bl hb;replace q5 := q5.bl hb;replace q7 := q7.bl hb;replace q9 := q9.bl hb;replace hq0 := ZB hq0 hb (Nat.le_refl _);replace hq1 := ZB hq1 hb (Nat.le_refl _);have n1_17 : g1 ≠ ga5_10 := Nat.ne_of_lt (Nat.lt_of_lt_of_le lt_1 hga5_10);have n2_17 : g2 ≠ ga5_10 := Nat.ne_of_lt (Nat.lt_of_lt_of_le lt_2 hga5_10);have n5_17 : g5 ≠ ga5_10 := Nat.ne_of_lt (Nat.lt_of_lt_of_le lt_5 hga5_10);have n7_17 : g7 ≠ ga5_10 := Nat.ne_of_lt (Nat.lt_of_lt_of_le lt_7 hga5_10);have n9_17 : g9 ≠ ga5_10 := Nat.ne_of_lt (Nat.lt_of_lt_of_le lt_9 hga5_10);have bhbw_17 := Nat.le_trans hbw.size hga5_10;replace hbw := bo_ hbw hb;clear hb
     cases hin : inB 1 (Zb q true (p.take k)) xn
     ·
      have hko : okAt q p k = false := by unfold okAt; rw [hpx]; exact hin
      refine EL.call (cA3 cF39 rfl rfl rfl) rfl (Za qa5_10 hin) ?_
      rintro e w18 ⟨rfl, hc18⟩
      refine ⟨_, rfl, ?_⟩;replace q1 := q1.bl hc18;replace q2 := q2.bl hc18;replace q5 := q5.bl hc18;replace q7 := q7.bl hc18;replace q9 := q9.bl hc18;replace qa5_10 := qa5_10.bl hc18;replace hq0 := ZB hq0 hc18 (Nat.le_refl _);replace hq1 := ZB hq1 hc18 (Nat.le_refl _);replace hbw := bo_ hbw hc18;clear hc18;refine EL.val (ZX rfl) rfl (EL.nil (EX.seq (EC.yes rfl (EC.seq (EC.region (EL.val (Z8 rfl (q2.at (j := 0) rfl) (q2.at (j := 1) rfl) (q2.at (j := 2) rfl) (q2.at (j := 3) rfl) (q2.at (j := 4) rfl) (q2.at (j := 5) rfl) (q2.at (j := 6) rfl) (q2.at (j := 7) rfl) (q2.at (j := 8) rfl) (q2.at (j := 9) rfl) (q2.at (j := 10) rfl) (q2.at (j := 11) rfl) (q2.at (j := 12) rfl) (q2.at (j := 13) rfl) (q2.at (j := 14) rfl)) rfl (EL.store rfl rfl q2 Z5 rfl rfl rfl rfl ?_)))))));intro w19 hq19 hg19;replace q1 := q1.gr hg19 n1_2;replace q5 := q5.gr hg19 n2_5.symm;replace q7 := q7.gr hg19 n2_7.symm;replace q9 := q9.gr hg19 n2_9.symm;replace qa5_10 := qa5_10.gr hg19 n2_17.symm;replace hq0 := ZG hq0 q2 rfl hg19;replace hq1 := ZG hq1 q2 rfl hg19;replace hbw := ZE hbw hg19 bhbw_2;replace q2 := hq19;clear hg19 hq19;refine EL.as rfl rfl (EL.as rfl rfl (EL.nil (EX.seq (EC.ret (EX.seq_ret (EX.blk_ret (EX.seq_ret (EX.seq_ret (EX.blk_ret ?_)))))))));refine EX.seq_ret ?_
      exact EX.done (QB_ rfl rfl rfl rfl (QAF (q2.at (j := 0) rfl) (q2.at (j := 1) rfl) (q2.at (j := 2) rfl) (q2.at (j := 3) rfl) (q2.at (j := 4) rfl) (q2.at (j := 5) rfl) (q2.at (j := 6) rfl) (q2.at (j := 7) rfl) (q2.at (j := 8) rfl) (q2.at (j := 9) rfl) (q2.at (j := 10) rfl) (q2.at (j := 11) rfl) (q2.at (j := 12) rfl) (q2.at (j := 13) rfl) (q2.at (j := 14) rfl))) ⟨st0, _, by rw [QAy ht (by rw [← hqe]; exact QCa hltk hko)]; rfl, fun he => absurd he (by rw [QAy ht (by rw [← hqe]; exact QCa hltk hko)]; decide), hbw⟩
     ·
      have hko : okAt q p k = true := by unfold okAt; rw [hpx]; exact hin
      obtain ⟨hin1, hin2⟩ := QC8 hin;refine EL.call (cA3 cF39 rfl rfl rfl) rfl (Za qa5_10 hin) ?_
      rintro e w20 ⟨rfl, hc20⟩
      refine ⟨_, rfl, ?_⟩;replace q1 := q1.bl hc20;replace q2 := q2.bl hc20;replace q5 := q5.bl hc20;replace q7 := q7.bl hc20;replace q9 := q9.bl hc20;replace qa5_10 := qa5_10.bl hc20;replace hq0 := ZB hq0 hc20 (Nat.le_refl _);replace hq1 := ZB hq1 hc20 (Nat.le_refl _);replace hbw := bo_ hbw hc20;clear hc20;refine EL.val (ZX rfl) rfl (EL.nil (EX.seq (EC.no rfl (EC.skip (EX.seq ?_)))));have hsn : Zb q true (p.take (k + 1)) = Zb q true (p.take k) - xn := by unfold Zb; rw [Yn _ hltk, hpx, if_pos rfl]; dsimp only; omega
      have hso : Zb q false (p.take (k + 1)) = Zb q false (p.take k) := by unfold Zb; rw [Yn _ hltk, hpx, if_neg (fun h => Bool.noConfusion h)]
      have hb1 := hbd true;have hb2 : Zb q true (p.take k) ≤ 8 := by unfold Zb; have := (hbd true).1; omega
      have lt_1 := q1.lt;have lt_2 := q2.lt;have lt_5 := q5.lt;have lt_7 := q7.lt;have lt_9 := q9.lt;have lt_17 := qa5_10.lt;refine EC.regionP [[], [0], [0, 1], [], [3], [0, 1, 2, 3, 4], [0, 1, 2, 3, 4, 5], [0, 1, 2, 3, 4, 5, 6]] 6 [] (phi (fun i_ r => match i_ with | 0 => r 0 = .int .i64 (wyB true) | 1 => r 1 = .pointer (some ⟨g7, 0 + 1, none⟩) | 2 => r 2 = .int .i64 (Zb q true (p.take k)) | 3 => r 3 = .pointer (some ⟨g9, 1, none⟩) | 4 => r 4 = .int .i64 xn | 5 => r 5 = .int .i64 (Zb q true (p.take (k + 1))) | _ => True) []) (by kernel_rfl) rfl rfl (Yu) (fun i_ hi_ => ?_) ?_
      ·match i_, hi_ with
       | 0, _ =>
        intro val w1 a hb ha hd;have ha := ha.s0 (d := 14) rfl
        exact ZJ ha rfl rfl (x_move rfl) rfl rfl
       | 1, _ =>
        intro val w1 a hb ha hd;have e0 : val 0 = _ := hd 0 (ZA.1 rfl);have ha := ha.sub (Sub.ins (d := 55) (Sub.ins (d := 11) (Sub.nil _) rfl) (ZQ rfl e0))
        exact ZJ ha rfl rfl (Zj (k := 1) rfl rfl (by omega)) rfl rfl
       | 2, _ =>
        intro val w1 a hb ha hd;have e1 : val 1 = _ := hd 1 (ZA.1 rfl);have ha := ha.s1 (d := 56) rfl e1
        exact ZJ ha rfl rfl (ld_3 rfl ((q7.below hb q7.lt).at (j := 1) rfl)) rfl rfl
       | 3, _ =>
        intro val w1 a hb ha hd;have ha := ha.s0 (d := 13) rfl
        exact ZJ ha rfl rfl (Y7 rfl) rfl rfl
       | 4, _ =>
        intro val w1 a hb ha hd;have e3 : val 3 = _ := hd 3 (ZA.1 rfl);have ha := ha.s1 (d := 58) rfl e3
        exact ZJ ha rfl rfl (ld_3 rfl ((q9.below hb q9.lt).at (j := 1) rfl)) rfl rfl
       | 5, _ =>
        intro val w1 a hb ha hd;have e2 : val 2 = _ := hd 2 (ZA.1 rfl);have e4 : val 4 = _ := hd 4 (ZA.1 rfl);have ha := ha.s2 (d := 59) (e := 57) rfl e4 rfl e2
        exact ZJ ha rfl rfl (Z_ rfl rfl (c := Zb q true (p.take (k + 1))) ((IntWalk.i64_in _ ⟨by omega, by omega⟩).trans hsn.symm)) rfl rfl
       | k + 6, h => exact absurd h (by omega)
      ·intro val wR12 hb halc hd
       have e0 : val 0 = _ := hd 0 (by omega)
       have e1 : val 1 = _ := hd 1 (by omega)
       have e2 : val 2 = _ := hd 2 (by omega)
       have e3 : val 3 = _ := hd 3 (by omega)
       have e4 : val 4 = _ := hd 4 (by omega)
       have e5 : val 5 = _ := hd 5 (by omega)
       refine EL.ends (cs := [_, _, _, _, _, _]) ⟨e0, e1, e2, e3, e4, e5, trivial⟩ rfl ?_;replace q1 := q1.bl hb;replace q2 := q2.bl hb;replace q5 := q5.bl hb;replace q7 := q7.bl hb;replace q9 := q9.bl hb;replace qa5_10 := qa5_10.bl hb;replace hq0 := ZB hq0 hb (Nat.le_refl _);replace hq1 := ZB hq1 hb (Nat.le_refl _);replace hbw := bo_ hbw hb;clear hb;refine EL.val (Zj (k := 1) rfl rfl (by omega)) rfl ?_
       refine EL.store rfl rfl q7 sz_3 rfl rfl rfl rfl ?_;intro w21 hq21 hg21;replace q1 := q1.gr hg21 n1_7;replace q2 := q2.gr hg21 n2_7;replace q5 := q5.gr hg21 n5_7;replace q9 := q9.gr hg21 n7_9.symm;replace qa5_10 := qa5_10.gr hg21 n7_17.symm;replace hq0 := ZG hq0 q7 rfl hg21;replace hq1 := ZG hq1 q7 rfl hg21;replace hbw := ZE hbw hg21 bhbw_7;replace q7 := hq21;clear hg21 hq21;refine EL.nil (EX.blk (EX.seq (EC.region ?_)));refine EL.val (x_add rfl rfl (c := ((k + 1 : Nat) : Int)) ((IntWalk.i64_in _ ⟨by first | omega | (simp only; omega), by first | omega | (simp only; omega)⟩).trans (by first | omega | (simp only; omega)))) rfl ?_
       refine EL.mv rfl rfl (EL.nil ?_);refine EX.roundD (k + 1) ⟨rfl, rfl, trivial⟩ (by repeat first | with_reducible exact .refl _ | refine sp_ rfl ?_ | exact .refl _ | refine sd_ rfl ?_ | refine sn_ ?_) ⟨hltk, (QDZ hok hko), q1, q2, q5, (by rw [hso]; exact q7), hq0, hq1, hbw⟩ (by omega)
  ·
   obtain rfl : k = p.length := by omega
   rw [List.take_length] at q7;refine EC.seq (EC.region ?_);refine EL.val (ZO (r := false) rfl rfl (decide_eq_false (by omega))) rfl ?_
   refine EL.nil (EX.seq (EC.seq (EC.no rfl (EC.exit (EX.seq_exit (EX.seq_exit (EX.blk_here (EX.seq (EC.seq ?_)))))))));refine EC.seq (EC.region (EL.val (QMg rfl (q7.at (j := 0) rfl) (q7.at (j := 1) rfl)) rfl (EL.val (QLl) rfl ?_)))
   by_cases hz : Zb q false p = 0 ∧ Zb q true p = 0
   ·
    have hoc : okC q p = true := QMR hok hz.1 hz.2;have hp8 := QJe hqk hoc;refine EL.val (QI2 (r := false) rfl rfl (decide_eq_false (fun h => h hz))) rfl ?_
    refine EL.nil (EX.seq (EC.no rfl (EC.skip (EX.seq (EC.seq (EC.region (EL.val (QB2 rfl (q1.at (j := 0) rfl) (q1.at (j := 1) rfl) (q1.at (j := 2) rfl) (q1.at (j := 3) rfl) (q1.at (j := 4) rfl) (q1.at (j := 5) rfl)) rfl (EL.val (ZN rfl) rfl (EL.val (ZV rfl) rfl ?_)))))))));refine EL.store rfl rfl q2 QJI rfl rfl rfl rfl ?_;intro w22 hq22 hg22;replace q1 := q1.gr hg22 n1_2;replace q5 := q5.gr hg22 n2_5.symm;replace q7 := q7.gr hg22 n2_7.symm;replace hq0 := ZG hq0 q2 rfl hg22;replace hq1 := ZG hq1 q2 rfl hg22;replace hbw := ZE hbw hg22 bhbw_2;replace q2 := hq22;clear hg22 hq22;refine EL.nil (EX.seq (EC.seq (EC.seq (EC.region (EL.mv rfl rfl (EL.val (QB0 rfl) rfl (EL.mv rfl rfl (EL.nil (EX.seq ?_)))))))));refine EC.block ?_;replace q2 : Blk w22 g2 114 (stB (sAt l q p 0)) := q2;have hrn := Yv w22 w.heap.size 49 2;refine EC.loopD [7, 8, 16, 17, 18, 19, 20, 72, 73, 74, 75, 76, 77, 78, 79, 80, 81, 82, 83, 84, 85, 86, 87, 88, 89, 90, 91, 92, 93, 94, 95, 96, 97, 98, 99, 100, 101, 102, 103, 104, 105, 106, 107, 108, 109] (fun x : Nat × Value => [(72, .int .i64 (x.1 : Nat)), (7, x.2)]) (fun x W => x.1 ≤ p.length ∧ (∀ i, i < x.1 → QBE l q p i = true) ∧ Blk W g2 114 (stB (sAt l q p x.1)) ∧ Blk W g5 134 #[.slice A0 (q false).length c0, .slice A1 (q true).length c1] ∧ W.ownsRow w.heap.size 39 5 (.slice A0 (q false).length c0) (q false).length (twsC (q false)) ∧ W.ownsRow w.heap.size 39 5 (.slice A1 (q true).length c1) (q true).length (twsC (q true)) ∧ W.ownsRow w.heap.size 49 2 x.2 x.1 (rnsC (QBC l q p x.1)) ∧ Below w.heap.size w W) (fun x => p.length - x.1) (0, .slice none 0 0) ⟨Nat.zero_le _, (fun i hi => absurd hi (Nat.not_lt_zero i)), q2, q5, hq0, hq1, hrn, hbw⟩ ⟨rfl, rfl, trivial⟩ ?_
    clear q2 q5 hq0 hq1 hrn hbw
    rintro ⟨k, vr⟩ wk ⟨hk, hfa, qs6, qs10, hq0, hq1, hrn, hbw⟩
    dsimp only at hk hfa qs6 hrn
    obtain ⟨Ar, cr, rfl, _⟩ := (Rd.of_own hrn).shape
    by_cases hltk : k < p.length
    ·
     obtain ⟨b, o, rfl, _, cc⟩ := QBl p k hltk w B _ _ _ hp;obtain ⟨x, hpx⟩ : ∃ x, p.getD k sp0 = x := ⟨_, rfl⟩;rw [hpx] at cc;obtain ⟨xu, xn⟩ := x;obtain ⟨hdk, hdt⟩ := QGn hqk (Nat.le_of_lt hltk) (fun i hi => hok i (by omega)) hfa
     have hko := hok k hltk
     unfold okAt at hko
     rw [hpx] at hko;obtain ⟨hin1, hin2⟩ := QC8 hko
     dsimp only at hin1 hin2
     obtain ⟨n, rfl⟩ : ∃ n : Nat, xn = n := ⟨xn.toNat, (Int.toNat_of_nonneg (by omega)).symm⟩
     refine EC.seq (EC.region ?_);refine EL.val (ZO (r := true) rfl rfl (decide_eq_true (by omega))) rfl ?_
     refine EL.nil (EX.seq (EC.seq (EC.yes rfl (EC.skip (EX.seq (EC.seq (EC.block (EC.seq (EC.region ?_)))))))));refine EL.val (QE0 rfl rfl hltk) rfl (EL.val (QDD rfl (ZC hbw cc.c0) (ZC hbw cc.c1)) rfl (EL.newP QIO rfl ?_));intro g23 w23 q23 hb23 hg23 hl23;have n2_23 := qs6.na hg23;have n5_23 := qs10.na hg23;have bhbw_23 := Nat.le_trans hbw.size hg23;replace qs6 := qs6.bl hb23;replace qs10 := qs10.bl hb23;replace hq0 := ZB hq0 hb23 (Nat.le_refl _);replace hq1 := ZB hq1 hb23 (Nat.le_refl _);replace hrn := ZB hrn hb23 (Nat.le_refl _);replace hbw := bo_ hbw hb23;clear hb23 hg23 hl23;refine EL.store rfl rfl q23 QHW rfl rfl rfl rfl ?_;intro w24 hq24 hg24;replace qs6 := qs6.gr hg24 n2_23;replace qs10 := qs10.gr hg24 n5_23;replace hq0 := ZG hq0 q23 rfl hg24;replace hq1 := ZG hq1 q23 rfl hg24;replace hrn := ZG hrn q23 rfl hg24;replace hbw := ZE hbw hg24 bhbw_23;replace q23 := hq24;clear hg24 hq24;refine EL.nil (EX.seq (EC.seq (EC.region (EL.val (QDf rfl) rfl (EL.val (ld_4 rfl (q23.at (j := 0) rfl)) rfl (EL.call (cA1 cF56 rfl) rfl (QAk _ _) ?_))))))
     rintro e w25 ⟨rfl, hc25⟩
     refine ⟨_, rfl, ?_⟩;replace qs6 := qs6.bl hc25;replace qs10 := qs10.bl hc25;replace q23 := q23.bl hc25;replace hq0 := ZB hq0 hc25 (Nat.le_refl _);replace hq1 := ZB hq1 hc25 (Nat.le_refl _);replace hrn := ZB hrn hc25 (Nat.le_refl _);replace hbw := bo_ hbw hc25;clear hc25;refine EL.as rfl rfl (EL.nil (EX.seq (EC.seq ?_)))
     cases xu
     ·
      have hdu := hdt false;have hle := hdk.le false;change (((sAt l q p k).t0 : Nat) : Int) = _ at hdu;change (sAt l q p k).t0 ≤ _ at hle
      unfold Zb at hin2
      have hwn : n ≤ (waitL q (sAt l q p k) false).length := by rw [YW]; show n ≤ (q false).length - (sAt l q p k).t0; omega
      have hsum := QBy (d := ⟨sAt l q p k, p.take k⟩) hqk hdk hwn;have htwa : twAt l q p k = ((waitL q (sAt l q p k) false).take n) := by unfold twAt; rw [hpx]; rfl
      have hss := QCS (l := l) (q := q) hltk;rw [htwa, hpx] at hss;have hrs : QEr l q p k = runT (sAt l q p k) ((waitL q (sAt l q p k) false).take n) false := by unfold QEr; rw [htwa, hpx]
      cases hf : QBE l q p k
      ·
       obtain ⟨gq, cq_, eq_⟩ := Z6 hq0 (show 0 < (q false).length by omega)
       injection eq_ with eA_ _ eC_
       subst eA_ eC_;have hcap := QCY hq0;obtain ⟨_, hre, _⟩ := QBG (A' := some ⟨gq, 0 + (sAt l q p k).t0 * 5, none⟩) hq0 (lo := (sAt l q p k).t0) hle (by unfold QDC; simp only [Option.map_some]; rw [if_neg (by omega)]) rfl
       have htk := Y_ hre (k := n) (by omega)
       rw [← Ym] at htk;have hrl := hrn.lt;have lt_2 := qs6.lt;have lt_5 := qs10.lt;have lt_23 := q23.lt;refine EC.regionS [[], [], [1], [1, 2], [], [], [4, 5], [4, 5, 6], [], [], [8, 9], [8, 9, 10], [], [12], [8, 9, 10, 11, 12, 13], [1, 2, 3, 4, 5, 6, 7, 8, 9, 10, 11, 12, 13, 14], [], [0, 1, 2, 3, 4, 5, 6, 7, 8, 9, 10, 11, 12, 13, 14, 15, 16], [0, 1, 2, 3, 4, 5, 6, 7, 8, 9, 10, 11, 12, 13, 14, 15, 16, 17], [0, 1, 2, 3, 4, 5, 6, 7, 8, 9, 10, 11, 12, 13, 14, 15, 16, 17, 18], [0, 1, 2, 3, 4, 5, 6, 7, 8, 9, 10, 11, 12, 13, 14, 15, 16, 17, 18], [0, 1, 2, 3, 4, 5, 6, 7, 8, 9, 10, 11, 12, 13, 14, 15, 16, 17, 18], [], [], [0, 1, 2, 3, 4, 5, 6, 7, 8, 9, 10, 11, 12, 13, 14, 15, 16, 17, 18, 19, 22, 23], [0, 1, 2, 3, 4, 5, 6, 7, 8, 9, 10, 11, 12, 13, 14, 15, 16, 17, 18, 19, 20, 22, 23, 24], [0, 1, 2, 3, 4, 5, 6, 7, 8, 9, 10, 11, 12, 13, 14, 15, 16, 17, 18, 19, 20, 21, 22, 23, 24, 25]] 26 [22, 23] [24, 25] (fun _ w_ => Below w25.heap.size w25 w_) (phiS (fun i_ r => match i_ with | 0 => r 0 = (stA (sAt l q p k)) | 1 => r 1 = .int .i64 (wyB false) | 2 => r 2 = .pointer (some ⟨g5, 0 + 0, none⟩) | 3 => r 3 = .slice (some ⟨gq, 0, none⟩) (q false).length c0 | 4 => r 4 = .int .i64 (wyB false) | 5 => r 5 = .pointer (some ⟨g2, 12, none⟩) | 6 => r 6 = .pointer (some ⟨g2, 12 + 0, none⟩) | 7 => r 7 = .int .i64 ((sAt l q p k).t0 : Nat) | 8 => r 8 = .int .i64 (wyB false) | 9 => r 9 = .pointer (some ⟨g2, 12, none⟩) | 10 => r 10 = .pointer (some ⟨g2, 12 + 0, none⟩) | 11 => r 11 = .int .i64 ((sAt l q p k).t0 : Nat) | 12 => r 12 = .pointer (some ⟨g23, 1, none⟩) | 13 => r 13 = .int .i64 (n : Nat) | 14 => r 14 = .int .i64 (((sAt l q p k).t0 + n) : Nat) | 15 => r 15 = .slice (some ⟨gq, 0 + (sAt l q p k).t0 * 5, none⟩) ((sAt l q p k).t0 + n - (sAt l q p k).t0) (c0 - (sAt l q p k).t0) | 16 => r 16 = .int .i64 (wyB false) | 17 => r 17 = .tuple #[(stA (sAt l q p k)), .agg #[.int .i64 rn0.start, .int .i64 rn0.stop], .bool false] | 18 => r 18 = .tuple #[(stA (sAt l q p k)), .agg #[.int .i64 rn0.start, .int .i64 rn0.stop], .bool false] | 19 => r 19 = (stA (sAt l q p k)) | 20 => r 20 = .agg #[.int .i64 rn0.start, .int .i64 rn0.stop] | 21 => r 21 = .bool false | _ => True) [(22, fun fl r w_ => ∃ g_, r 22 = .pointer (some ⟨g_, 0, none⟩) ∧ w25.heap.size ≤ g_ ∧ (fl 24 = false → Blk w_ g_ 114 #[.int .i64 0, .int .i64 0, .int .i64 0, .int .i64 0, .int .i64 0, .bool false, .int .i64 0, .int .i64 0, .int .i64 0, .int .i64 0, .int .i64 0, .int .i64 0, .int .i64 0, .int .i64 0, .int .i64 0])), (23, fun fl r w_ => ∃ g_, r 23 = .pointer (some ⟨g_, 0, none⟩) ∧ w25.heap.size ≤ g_ ∧ (fl 25 = false → Blk w_ g_ 49 #[.int .i64 0, .int .i64 0])), (24, fun _ r w_ => ∃ g_, r 22 = .pointer (some ⟨g_, 0, none⟩) ∧ Blk w_ g_ 114 (stB (sAt l q p k))), (25, fun _ r w_ => ∃ g_, r 23 = .pointer (some ⟨g_, 0, none⟩) ∧ Blk w_ g_ 49 #[.int .i64 rn0.start, .int .i64 rn0.stop])]) (by kernel_rfl) rfl rfl (by intro i hi; simp at hi; first | (subst hi; exact ⟨by simp, by omega⟩) | (rcases hi with rfl | rfl | rfl <;> exact ⟨by simp, by omega⟩) | (rcases hi with rfl | rfl <;> exact ⟨by simp, by omega⟩)) (YZ w25) (ZL Zi (ZL Zi (ZL Zh (ZL Zh (Zd))))) (fun i_ hi_ hs_ => ?_) (fun i_ hi_ => ?_) ?_
       ·match i_, hi_ with
        | 0, _ =>
         intro val fl w1 a hb ha hd hfl;have ha := ha.s0 (d := 6) rfl
         exact ZD ha rfl rfl (Z8 rfl ((qs6.below hb qs6.lt).at (j := 0) rfl) ((qs6.below hb qs6.lt).at (j := 1) rfl) ((qs6.below hb qs6.lt).at (j := 2) rfl) ((qs6.below hb qs6.lt).at (j := 3) rfl) ((qs6.below hb qs6.lt).at (j := 4) rfl) ((qs6.below hb qs6.lt).at (j := 5) rfl) ((qs6.below hb qs6.lt).at (j := 6) rfl) ((qs6.below hb qs6.lt).at (j := 7) rfl) ((qs6.below hb qs6.lt).at (j := 8) rfl) ((qs6.below hb qs6.lt).at (j := 9) rfl) ((qs6.below hb qs6.lt).at (j := 10) rfl) ((qs6.below hb qs6.lt).at (j := 11) rfl) ((qs6.below hb qs6.lt).at (j := 12) rfl) ((qs6.below hb qs6.lt).at (j := 13) rfl) ((qs6.below hb qs6.lt).at (j := 14) rfl)) rfl rfl
        | 1, _ =>
         intro val fl w1 a hb ha hd hfl;have ha := ha.s0 (d := 17) rfl
         exact ZD ha rfl rfl (x_move rfl) rfl rfl
        | 2, _ =>
         intro val fl w1 a hb ha hd hfl;have e1 : val 1 = _ := hd 1 (ZA.1 rfl);have ha := ha.sub (Sub.ins (d := 81) (Sub.ins (d := 10) (Sub.nil _) rfl) (ZQ rfl e1))
         exact ZD ha rfl rfl (YD (k := 0) rfl rfl (by omega)) rfl rfl
        | 3, _ =>
         intro val fl w1 a hb ha hd hfl;have e2 : val 2 = _ := hd 2 (ZA.1 rfl);have ha := ha.s1 (d := 82) rfl e2
         exact ZD ha rfl rfl (QAI rfl ((qs10.below hb qs10.lt).at (j := 0) rfl)) rfl rfl
        | 4, _ =>
         intro val fl w1 a hb ha hd hfl;have ha := ha.s0 (d := 17) rfl
         exact ZD ha rfl rfl (x_move rfl) rfl rfl
        | 5, _ =>
         intro val fl w1 a hb ha hd hfl;have ha := ha.s0 (d := 6) rfl
         exact ZD ha rfl rfl (Zp rfl) rfl rfl
        | 6, _ =>
         intro val fl w1 a hb ha hd hfl;have e5 : val 5 = _ := hd 5 (ZA.1 rfl);have e4 : val 4 = _ := hd 4 (ZA.1 rfl);have ha := ha.s2 (d := 84) (e := 85) rfl e4 rfl e5
         exact ZD ha rfl rfl (Zj (k := 0) rfl rfl (by omega)) rfl rfl
        | 7, _ =>
         intro val fl w1 a hb ha hd hfl;have e6 : val 6 = _ := hd 6 (ZA.1 rfl);have ha := ha.s1 (d := 86) rfl e6
         exact ZD ha rfl rfl (ld_3 rfl ((qs6.below hb qs6.lt).at (j := 12) rfl)) rfl rfl
        | 8, _ =>
         intro val fl w1 a hb ha hd hfl;have ha := ha.s0 (d := 17) rfl
         exact ZD ha rfl rfl (x_move rfl) rfl rfl
        | 9, _ =>
         intro val fl w1 a hb ha hd hfl;have ha := ha.s0 (d := 6) rfl
         exact ZD ha rfl rfl (Zp rfl) rfl rfl
        | 10, _ =>
         intro val fl w1 a hb ha hd hfl;have e9 : val 9 = _ := hd 9 (ZA.1 rfl);have e8 : val 8 = _ := hd 8 (ZA.1 rfl);have ha := ha.s2 (d := 88) (e := 89) rfl e8 rfl e9
         exact ZD ha rfl rfl (Zj (k := 0) rfl rfl (by omega)) rfl rfl
        | 11, _ =>
         intro val fl w1 a hb ha hd hfl;have e10 : val 10 = _ := hd 10 (ZA.1 rfl);have ha := ha.s1 (d := 90) rfl e10
         exact ZD ha rfl rfl (ld_3 rfl ((qs6.below hb qs6.lt).at (j := 12) rfl)) rfl rfl
        | 12, _ =>
         intro val fl w1 a hb ha hd hfl;have ha := ha.s0 (d := 16) rfl
         exact ZD ha rfl rfl (Y7 rfl) rfl rfl
        | 13, _ =>
         intro val fl w1 a hb ha hd hfl;have e12 : val 12 = _ := hd 12 (ZA.1 rfl);have ha := ha.s1 (d := 92) rfl e12
         exact ZD ha rfl rfl (ld_3 rfl ((q23.below hb q23.lt).at (j := 1) rfl)) rfl rfl
        | 14, _ =>
         intro val fl w1 a hb ha hd hfl;have e11 : val 11 = _ := hd 11 (ZA.1 rfl);have e13 : val 13 = _ := hd 13 (ZA.1 rfl);have ha := ha.s2 (d := 93) (e := 91) rfl e13 rfl e11
         exact ZD ha rfl rfl (x_add rfl rfl (c := (((sAt l q p k).t0 + n : Nat) : Int)) ((IntWalk.i64_in _ ⟨by omega, by omega⟩).trans (by omega))) rfl rfl
        | 15, _ =>
         intro val fl w1 a hb ha hd hfl;have e3 : val 3 = _ := hd 3 (ZA.1 rfl);have e7 : val 7 = _ := hd 7 (ZA.1 rfl);have e14 : val 14 = _ := hd 14 (ZA.1 rfl);have ha := ha.sub (Sub.ins (d := 94) (Sub.ins (d := 87) (Sub.ins (d := 83) (Sub.nil _) (ZQ rfl e3)) (ZQ rfl e7)) (ZQ rfl e14))
         exact ZD ha rfl rfl (QHa rfl rfl rfl (by omega) (by omega) (if_neg (by omega))) rfl rfl
        | 16, _ =>
         intro val fl w1 a hb ha hd hfl;have ha := ha.s0 (d := 17) rfl
         exact ZD ha rfl rfl (x_move rfl) rfl rfl
        | 17, _ =>
         intro val fl w1 a hb ha hd hfl;have e0 : val 0 = _ := hd 0 (ZA.1 rfl);have e15 : val 15 = _ := hd 15 (ZA.1 rfl);have e16 : val 16 = _ := hd 16 (ZA.1 rfl);have ha := ha.sub (Sub.ins (d := 96) (Sub.ins (d := 95) (Sub.ins (d := 80) (Sub.nil _) (ZQ rfl e0)) (ZQ rfl e15)) (ZQ rfl e16));refine Yb ha rfl rfl (cA3 cF57 rfl rfl rfl) (QDT hdk.st (Yr (d := ⟨sAt l q p k, p.take k⟩) (u := false) (n := n) hqk) (by rw [Zk (d := ⟨sAt l q p k, p.take k⟩) hwn]; exact hsum) (by rw [Zk (d := ⟨sAt l q p k, p.take k⟩) hwn, show (sAt l q p k).t0 + n - (sAt l q p k).t0 = n by omega]; exact (htk.below (hb.mono (Nat.le_refl _)))) hb.size (by have := hf; unfold QBE at this; rw [htwa] at this; exact this)) rfl ?_
         rintro e w' ⟨rfl, hb'⟩
         exact ⟨_, rfl, hb', rfl⟩
        | 18, _ =>
         intro val fl w1 a hb ha hd hfl;have e17 : val 17 = _ := hd 17 (ZA.1 rfl);have ha := ha.s1 (d := 97) rfl e17
         exact ZD ha rfl rfl (x_move rfl) rfl rfl
        | 19, _ =>
         intro val fl w1 a hb ha hd hfl;have e18 : val 18 = _ := hd 18 (ZA.1 rfl);have ha := ha.s1 (d := 79) rfl e18
         exact ZD ha rfl rfl (ZP rfl rfl) rfl rfl
        | 20, _ =>
         intro val fl w1 a hb ha hd hfl;have e18 : val 18 = _ := hd 18 (ZA.1 rfl);have ha := ha.s1 (d := 79) rfl e18
         exact ZD ha rfl rfl (ZP rfl rfl) rfl rfl
        | 21, _ =>
         intro val fl w1 a hb ha hd hfl;have e18 : val 18 = _ := hd 18 (ZA.1 rfl);have ha := ha.s1 (d := 79) rfl e18
         exact ZD ha rfl rfl (ZP rfl rfl) rfl rfl
        | 22, _ =>
         intro val fl w1 a hb ha hd hfl;have ha := ha.sub (Sub.nil _)
         exact YG ha rfl rfl QAG (fun g w' hq _ hge => ⟨g, rfl, Nat.le_trans hb.size hge, fun _ => hq⟩)
        | 23, _ =>
         intro val fl w1 a hb ha hd hfl;have ha := ha.sub (Sub.nil _)
         exact YG ha rfl rfl QCz (fun g w' hq _ hge => ⟨g, rfl, Nat.le_trans hb.size hge, fun _ => hq⟩)
        | 24, _ =>
         exact absurd (by simp) hs_
        | 25, _ =>
         exact absurd (by simp) hs_
        | k + 26, h => exact absurd h (by omega)
       ·simp only [List.mem_cons, List.not_mem_nil, or_false] at hi_; rcases hi_ with rfl | rfl
        ·
         intro val fl w1 a hb hfi ha hd hfl;obtain ⟨g22_, e22, hg22_, q22_⟩ := hd 22 (ZA.1 rfl);change val 22 = _ at e22;have e19 : val 19 = _ := hd 19 (ZA.1 rfl);have ha := ha.s2 (d := 98) (e := 18) rfl e19 rfl e22;refine ZY ha rfl rfl rfl (q22_ hfi) Z5 rfl rfl rfl rfl ?_;intro w' hq hgr;refine ⟨undef, rfl, hgr.size, ZE hb hgr hg22_, ⟨g22_, e22, hq⟩, fun j _ hj hn hA => ?_⟩
         exact ZF (C := fun j => j ≠ 24 ∧ 24 ∉ clsAt [[], [], [1], [1, 2], [], [], [4, 5], [4, 5, 6], [], [], [8, 9], [8, 9, 10], [], [12], [8, 9, 10, 11, 12, 13], [1, 2, 3, 4, 5, 6, 7, 8, 9, 10, 11, 12, 13, 14], [], [0, 1, 2, 3, 4, 5, 6, 7, 8, 9, 10, 11, 12, 13, 14, 15, 16], [0, 1, 2, 3, 4, 5, 6, 7, 8, 9, 10, 11, 12, 13, 14, 15, 16, 17], [0, 1, 2, 3, 4, 5, 6, 7, 8, 9, 10, 11, 12, 13, 14, 15, 16, 17, 18], [0, 1, 2, 3, 4, 5, 6, 7, 8, 9, 10, 11, 12, 13, 14, 15, 16, 17, 18], [0, 1, 2, 3, 4, 5, 6, 7, 8, 9, 10, 11, 12, 13, 14, 15, 16, 17, 18], [], [], [0, 1, 2, 3, 4, 5, 6, 7, 8, 9, 10, 11, 12, 13, 14, 15, 16, 17, 18, 19, 22, 23], [0, 1, 2, 3, 4, 5, 6, 7, 8, 9, 10, 11, 12, 13, 14, 15, 16, 17, 18, 19, 20, 22, 23, 24], [0, 1, 2, 3, 4, 5, 6, 7, 8, 9, 10, 11, 12, 13, 14, 15, 16, 17, 18, 19, 20, 21, 22, 23, 24, 25]] j ∧ ∀ p ∈ [22, 23], (p = j ∨ p ∈ clsAt [[], [], [1], [1, 2], [], [], [4, 5], [4, 5, 6], [], [], [8, 9], [8, 9, 10], [], [12], [8, 9, 10, 11, 12, 13], [1, 2, 3, 4, 5, 6, 7, 8, 9, 10, 11, 12, 13, 14], [], [0, 1, 2, 3, 4, 5, 6, 7, 8, 9, 10, 11, 12, 13, 14, 15, 16], [0, 1, 2, 3, 4, 5, 6, 7, 8, 9, 10, 11, 12, 13, 14, 15, 16, 17], [0, 1, 2, 3, 4, 5, 6, 7, 8, 9, 10, 11, 12, 13, 14, 15, 16, 17, 18], [0, 1, 2, 3, 4, 5, 6, 7, 8, 9, 10, 11, 12, 13, 14, 15, 16, 17, 18], [0, 1, 2, 3, 4, 5, 6, 7, 8, 9, 10, 11, 12, 13, 14, 15, 16, 17, 18], [], [], [0, 1, 2, 3, 4, 5, 6, 7, 8, 9, 10, 11, 12, 13, 14, 15, 16, 17, 18, 19, 22, 23], [0, 1, 2, 3, 4, 5, 6, 7, 8, 9, 10, 11, 12, 13, 14, 15, 16, 17, 18, 19, 20, 22, 23, 24], [0, 1, 2, 3, 4, 5, 6, 7, 8, 9, 10, 11, 12, 13, 14, 15, 16, 17, 18, 19, 20, 21, 22, 23, 24, 25]] j) → ∀ q ∈ [22, 23], (q = 24 ∨ q ∈ clsAt [[], [], [1], [1, 2], [], [], [4, 5], [4, 5, 6], [], [], [8, 9], [8, 9, 10], [], [12], [8, 9, 10, 11, 12, 13], [1, 2, 3, 4, 5, 6, 7, 8, 9, 10, 11, 12, 13, 14], [], [0, 1, 2, 3, 4, 5, 6, 7, 8, 9, 10, 11, 12, 13, 14, 15, 16], [0, 1, 2, 3, 4, 5, 6, 7, 8, 9, 10, 11, 12, 13, 14, 15, 16, 17], [0, 1, 2, 3, 4, 5, 6, 7, 8, 9, 10, 11, 12, 13, 14, 15, 16, 17, 18], [0, 1, 2, 3, 4, 5, 6, 7, 8, 9, 10, 11, 12, 13, 14, 15, 16, 17, 18], [0, 1, 2, 3, 4, 5, 6, 7, 8, 9, 10, 11, 12, 13, 14, 15, 16, 17, 18], [], [], [0, 1, 2, 3, 4, 5, 6, 7, 8, 9, 10, 11, 12, 13, 14, 15, 16, 17, 18, 19, 22, 23], [0, 1, 2, 3, 4, 5, 6, 7, 8, 9, 10, 11, 12, 13, 14, 15, 16, 17, 18, 19, 20, 22, 23, 24], [0, 1, 2, 3, 4, 5, 6, 7, 8, 9, 10, 11, 12, 13, 14, 15, 16, 17, 18, 19, 20, 21, 22, 23, 24, 25]] 24) → p ≠ q → val p ≠ val q) (fun _ ⟨g, h1, h2, _⟩ => ⟨g, h1, h2, fun h => by rw [ZR] at h; cases h⟩) (ZF (fun hc ⟨g, h1, h2, h3⟩ => ⟨g, h1, h2, fun h => (h3 (by rwa [Z2 rfl] at h)).grown hgr (fun h => hc.2.2 23 (by simp) (.inl rfl) 22 (by simp) (.inr (ZA.1 rfl)) (by simp) (by have h1' : val 23 = _ := h1; rw [h1', e22]; injection h with h; rw [h]))⟩) (ZF (fun hc => absurd rfl hc.1) (ZF (fun hc ⟨g, h1, h2⟩ => ⟨g, h1, h2.grown hgr (fun h => hc.2.2 23 (by simp) (.inr (ZA.1 rfl)) 22 (by simp) (.inr (ZA.1 rfl)) (by simp) (by have h1' : val 23 = _ := h1; rw [h1', e22]; injection h with h; rw [h]))⟩) (fun _ _ h => h)))) j ⟨hj, hn, hA⟩
        ·
         intro val fl w1 a hb hfi ha hd hfl;obtain ⟨g23_, e23, hg23_, q23_⟩ := hd 23 (ZA.1 rfl);change val 23 = _ at e23;have e20 : val 20 = _ := hd 20 (ZA.1 rfl);have ha := ha.s2 (d := 99) (e := 19) rfl e20 rfl e23;refine ZY ha rfl rfl rfl (q23_ hfi) QAm rfl rfl rfl rfl ?_;intro w' hq hgr;refine ⟨undef, rfl, hgr.size, ZE hb hgr hg23_, ⟨g23_, e23, hq⟩, fun j _ hj hn hA => ?_⟩
         exact ZF (C := fun j => j ≠ 25 ∧ 25 ∉ clsAt [[], [], [1], [1, 2], [], [], [4, 5], [4, 5, 6], [], [], [8, 9], [8, 9, 10], [], [12], [8, 9, 10, 11, 12, 13], [1, 2, 3, 4, 5, 6, 7, 8, 9, 10, 11, 12, 13, 14], [], [0, 1, 2, 3, 4, 5, 6, 7, 8, 9, 10, 11, 12, 13, 14, 15, 16], [0, 1, 2, 3, 4, 5, 6, 7, 8, 9, 10, 11, 12, 13, 14, 15, 16, 17], [0, 1, 2, 3, 4, 5, 6, 7, 8, 9, 10, 11, 12, 13, 14, 15, 16, 17, 18], [0, 1, 2, 3, 4, 5, 6, 7, 8, 9, 10, 11, 12, 13, 14, 15, 16, 17, 18], [0, 1, 2, 3, 4, 5, 6, 7, 8, 9, 10, 11, 12, 13, 14, 15, 16, 17, 18], [], [], [0, 1, 2, 3, 4, 5, 6, 7, 8, 9, 10, 11, 12, 13, 14, 15, 16, 17, 18, 19, 22, 23], [0, 1, 2, 3, 4, 5, 6, 7, 8, 9, 10, 11, 12, 13, 14, 15, 16, 17, 18, 19, 20, 22, 23, 24], [0, 1, 2, 3, 4, 5, 6, 7, 8, 9, 10, 11, 12, 13, 14, 15, 16, 17, 18, 19, 20, 21, 22, 23, 24, 25]] j ∧ ∀ p ∈ [22, 23], (p = j ∨ p ∈ clsAt [[], [], [1], [1, 2], [], [], [4, 5], [4, 5, 6], [], [], [8, 9], [8, 9, 10], [], [12], [8, 9, 10, 11, 12, 13], [1, 2, 3, 4, 5, 6, 7, 8, 9, 10, 11, 12, 13, 14], [], [0, 1, 2, 3, 4, 5, 6, 7, 8, 9, 10, 11, 12, 13, 14, 15, 16], [0, 1, 2, 3, 4, 5, 6, 7, 8, 9, 10, 11, 12, 13, 14, 15, 16, 17], [0, 1, 2, 3, 4, 5, 6, 7, 8, 9, 10, 11, 12, 13, 14, 15, 16, 17, 18], [0, 1, 2, 3, 4, 5, 6, 7, 8, 9, 10, 11, 12, 13, 14, 15, 16, 17, 18], [0, 1, 2, 3, 4, 5, 6, 7, 8, 9, 10, 11, 12, 13, 14, 15, 16, 17, 18], [], [], [0, 1, 2, 3, 4, 5, 6, 7, 8, 9, 10, 11, 12, 13, 14, 15, 16, 17, 18, 19, 22, 23], [0, 1, 2, 3, 4, 5, 6, 7, 8, 9, 10, 11, 12, 13, 14, 15, 16, 17, 18, 19, 20, 22, 23, 24], [0, 1, 2, 3, 4, 5, 6, 7, 8, 9, 10, 11, 12, 13, 14, 15, 16, 17, 18, 19, 20, 21, 22, 23, 24, 25]] j) → ∀ q ∈ [22, 23], (q = 25 ∨ q ∈ clsAt [[], [], [1], [1, 2], [], [], [4, 5], [4, 5, 6], [], [], [8, 9], [8, 9, 10], [], [12], [8, 9, 10, 11, 12, 13], [1, 2, 3, 4, 5, 6, 7, 8, 9, 10, 11, 12, 13, 14], [], [0, 1, 2, 3, 4, 5, 6, 7, 8, 9, 10, 11, 12, 13, 14, 15, 16], [0, 1, 2, 3, 4, 5, 6, 7, 8, 9, 10, 11, 12, 13, 14, 15, 16, 17], [0, 1, 2, 3, 4, 5, 6, 7, 8, 9, 10, 11, 12, 13, 14, 15, 16, 17, 18], [0, 1, 2, 3, 4, 5, 6, 7, 8, 9, 10, 11, 12, 13, 14, 15, 16, 17, 18], [0, 1, 2, 3, 4, 5, 6, 7, 8, 9, 10, 11, 12, 13, 14, 15, 16, 17, 18], [], [], [0, 1, 2, 3, 4, 5, 6, 7, 8, 9, 10, 11, 12, 13, 14, 15, 16, 17, 18, 19, 22, 23], [0, 1, 2, 3, 4, 5, 6, 7, 8, 9, 10, 11, 12, 13, 14, 15, 16, 17, 18, 19, 20, 22, 23, 24], [0, 1, 2, 3, 4, 5, 6, 7, 8, 9, 10, 11, 12, 13, 14, 15, 16, 17, 18, 19, 20, 21, 22, 23, 24, 25]] 25) → p ≠ q → val p ≠ val q) (fun hc ⟨g, h1, h2, h3⟩ => ⟨g, h1, h2, fun h => (h3 (by rwa [Z2 rfl] at h)).grown hgr (fun h => hc.2.2 22 (by simp) (.inl rfl) 23 (by simp) (.inr (ZA.1 rfl)) (by simp) (by have h1' : val 22 = _ := h1; rw [h1', e23]; injection h with h; rw [h]))⟩) (ZF (fun _ ⟨g, h1, h2, _⟩ => ⟨g, h1, h2, fun h => by rw [ZR] at h; cases h⟩) (ZF (fun hc ⟨g, h1, h2⟩ => ⟨g, h1, h2.grown hgr (fun h => hc.2.2 22 (by simp) (.inr (ZA.1 rfl)) 23 (by simp) (.inr (ZA.1 rfl)) (by simp) (by have h1' : val 22 = _ := h1; rw [h1', e23]; injection h with h; rw [h]))⟩) (ZF (fun hc => absurd rfl hc.1) (fun _ _ h => h)))) j ⟨hj, hn, hA⟩
       ·intro val fl wR21 hfl hb halc hd
        have e0 : val 0 = _ := hd 0 (by omega)
        have e1 : val 1 = _ := hd 1 (by omega)
        have e2 : val 2 = _ := hd 2 (by omega)
        have e3 : val 3 = _ := hd 3 (by omega)
        have e4 : val 4 = _ := hd 4 (by omega)
        have e5 : val 5 = _ := hd 5 (by omega)
        have e6 : val 6 = _ := hd 6 (by omega)
        have e7 : val 7 = _ := hd 7 (by omega)
        have e8 : val 8 = _ := hd 8 (by omega)
        have e9 : val 9 = _ := hd 9 (by omega)
        have e10 : val 10 = _ := hd 10 (by omega)
        have e11 : val 11 = _ := hd 11 (by omega)
        have e12 : val 12 = _ := hd 12 (by omega)
        have e13 : val 13 = _ := hd 13 (by omega)
        have e14 : val 14 = _ := hd 14 (by omega)
        have e15 : val 15 = _ := hd 15 (by omega)
        have e16 : val 16 = _ := hd 16 (by omega)
        have e17 : val 17 = _ := hd 17 (by omega)
        have e18 : val 18 = _ := hd 18 (by omega)
        have e19 : val 19 = _ := hd 19 (by omega)
        have e20 : val 20 = _ := hd 20 (by omega)
        have e21 : val 21 = _ := hd 21 (by omega)
        obtain ⟨ga22_21, e22, qa22_21⟩ := hd 24 (by omega)
        change val 22 = _ at e22;obtain ⟨ga23_21, e23, qa23_21⟩ := hd 25 (by omega)
        change val 23 = _ at e23;refine EL.ends (cs := [_, _, _, _, _, _, _, _, _, _, _, _, _, _, _, _, _, _, _, _, _, _, _, _, val 24, val 25]) ⟨e0, e1, e2, e3, e4, e5, e6, e7, e8, e9, e10, e11, e12, e13, e14, e15, e16, e17, e18, e19, e20, e21, e22, e23, rfl, rfl, trivial⟩ rfl ?_;replace qs6 := qs6.bl hb;replace qs10 := qs10.bl hb;replace q23 := q23.bl hb;replace hq0 := ZB hq0 hb (Nat.le_refl _);replace hq1 := ZB hq1 hb (Nat.le_refl _);replace hrn := ZB hrn hb (Nat.le_refl _);have bge26 := Yc halc (i := 22) rfl rfl e22;have n2_26 : g2 ≠ ga22_21 := Nat.ne_of_lt (Nat.lt_of_lt_of_le lt_2 bge26);have n5_26 : g5 ≠ ga22_21 := Nat.ne_of_lt (Nat.lt_of_lt_of_le lt_5 bge26);have n23_26 : g23 ≠ ga22_21 := Nat.ne_of_lt (Nat.lt_of_lt_of_le lt_23 bge26);have bhbw_26 := Nat.le_trans hbw.size bge26;have bge27 := Yc halc (i := 23) rfl rfl e23;have n2_27 : g2 ≠ ga23_21 := Nat.ne_of_lt (Nat.lt_of_lt_of_le lt_2 bge27);have n5_27 : g5 ≠ ga23_21 := Nat.ne_of_lt (Nat.lt_of_lt_of_le lt_5 bge27);have n23_27 : g23 ≠ ga23_21 := Nat.ne_of_lt (Nat.lt_of_lt_of_le lt_23 bge27);have n26_27 : ga22_21 ≠ ga23_21 := QBe halc (i := 22) (j := 23) rfl rfl rfl rfl rfl e22 e23;have bhbw_27 := Nat.le_trans hbw.size bge27;replace hbw := bo_ hbw hb;have hnr : ∀ b, (.slice Ar k cr : Value).ownBlock = some b → b ≠ ga23_21 := fun b hb => Nat.ne_of_lt (Nat.lt_of_lt_of_le (hrl b hb).2 bge27)
        clear hrl;refine EL.as rfl rfl (EL.nil (EX.seq (EC.seq (EC.seq (EC.region (EL.mv rfl rfl (EL.val (ZX rfl) rfl (EL.nil (EX.seq ?_)))))))));refine EC.yes rfl (EC.seq (EC.region (EL.val (Z8 rfl (qs6.at (j := 0) rfl) (qs6.at (j := 1) rfl) (qs6.at (j := 2) rfl) (qs6.at (j := 3) rfl) (qs6.at (j := 4) rfl) (qs6.at (j := 5) rfl) (qs6.at (j := 6) rfl) (qs6.at (j := 7) rfl) (qs6.at (j := 8) rfl) (qs6.at (j := 9) rfl) (qs6.at (j := 10) rfl) (qs6.at (j := 11) rfl) (qs6.at (j := 12) rfl) (qs6.at (j := 13) rfl) (qs6.at (j := 14) rfl)) rfl (EL.store rfl rfl qs6 Z5 rfl rfl rfl rfl ?_))));intro w28 hq28 hg28;replace qs10 := qs10.gr hg28 n2_5.symm;replace q23 := q23.gr hg28 n2_23.symm;replace qa22_21 := qa22_21.gr hg28 n2_26.symm;replace qa23_21 := qa23_21.gr hg28 n2_27.symm;replace hq0 := ZG hq0 qs6 rfl hg28;replace hq1 := ZG hq1 qs6 rfl hg28;replace hrn := ZG hrn qs6 rfl hg28;replace hbw := ZE hbw hg28 bhbw_2;replace qs6 := hq28;clear hg28 hq28;refine EL.as rfl rfl (EL.as rfl rfl (EL.nil (EX.seq (EC.ret (EX.seq_ret (EX.blk_ret (EX.seq_ret (EX.seq_ret (EX.blk_ret ?_)))))))));refine EX.seq_ret ?_
        exact EX.done (QB_ rfl rfl rfl rfl (QAF (qs6.at (j := 0) rfl) (qs6.at (j := 1) rfl) (qs6.at (j := 2) rfl) (qs6.at (j := 3) rfl) (qs6.at (j := 4) rfl) (qs6.at (j := 5) rfl) (qs6.at (j := 6) rfl) (qs6.at (j := 7) rfl) (qs6.at (j := 8) rfl) (qs6.at (j := 9) rfl) (qs6.at (j := 10) rfl) (qs6.at (j := 11) rfl) (qs6.at (j := 12) rfl) (qs6.at (j := 13) rfl) (qs6.at (j := 14) rfl))) ⟨sAt l q p k, _, by rw [QCv ht (by rw [← hqe]; exact hoc) (by rw [← hqe]; exact QDn hltk hf)]; rfl, fun he => absurd he (by rw [QCv ht (by rw [← hqe]; exact hoc) (by rw [← hqe]; exact QDn hltk hf)]; decide), hbw⟩
      ·
       obtain ⟨gq, cq_, eq_⟩ := Z6 hq0 (show 0 < (q false).length by omega)
       injection eq_ with eA_ _ eC_
       subst eA_ eC_;have hcap := QCY hq0;obtain ⟨_, hre, _⟩ := QBG (A' := some ⟨gq, 0 + (sAt l q p k).t0 * 5, none⟩) hq0 (lo := (sAt l q p k).t0) hle (by unfold QDC; simp only [Option.map_some]; rw [if_neg (by omega)]) rfl
       have htk := Y_ hre (k := n) (by omega)
       rw [← Ym] at htk;have hrl := hrn.lt;have lt_2 := qs6.lt;have lt_5 := qs10.lt;have lt_23 := q23.lt;refine EC.regionS [[], [], [1], [1, 2], [], [], [4, 5], [4, 5, 6], [], [], [8, 9], [8, 9, 10], [], [12], [8, 9, 10, 11, 12, 13], [1, 2, 3, 4, 5, 6, 7, 8, 9, 10, 11, 12, 13, 14], [], [0, 1, 2, 3, 4, 5, 6, 7, 8, 9, 10, 11, 12, 13, 14, 15, 16], [0, 1, 2, 3, 4, 5, 6, 7, 8, 9, 10, 11, 12, 13, 14, 15, 16, 17], [0, 1, 2, 3, 4, 5, 6, 7, 8, 9, 10, 11, 12, 13, 14, 15, 16, 17, 18], [0, 1, 2, 3, 4, 5, 6, 7, 8, 9, 10, 11, 12, 13, 14, 15, 16, 17, 18], [0, 1, 2, 3, 4, 5, 6, 7, 8, 9, 10, 11, 12, 13, 14, 15, 16, 17, 18], [], [], [0, 1, 2, 3, 4, 5, 6, 7, 8, 9, 10, 11, 12, 13, 14, 15, 16, 17, 18, 19, 22, 23], [0, 1, 2, 3, 4, 5, 6, 7, 8, 9, 10, 11, 12, 13, 14, 15, 16, 17, 18, 19, 20, 22, 23, 24], [0, 1, 2, 3, 4, 5, 6, 7, 8, 9, 10, 11, 12, 13, 14, 15, 16, 17, 18, 19, 20, 21, 22, 23, 24, 25]] 26 [22, 23] [24, 25] (fun _ w_ => Below w25.heap.size w25 w_) (phiS (fun i_ r => match i_ with | 0 => r 0 = (stA (sAt l q p k)) | 1 => r 1 = .int .i64 (wyB false) | 2 => r 2 = .pointer (some ⟨g5, 0 + 0, none⟩) | 3 => r 3 = .slice (some ⟨gq, 0, none⟩) (q false).length c0 | 4 => r 4 = .int .i64 (wyB false) | 5 => r 5 = .pointer (some ⟨g2, 12, none⟩) | 6 => r 6 = .pointer (some ⟨g2, 12 + 0, none⟩) | 7 => r 7 = .int .i64 ((sAt l q p k).t0 : Nat) | 8 => r 8 = .int .i64 (wyB false) | 9 => r 9 = .pointer (some ⟨g2, 12, none⟩) | 10 => r 10 = .pointer (some ⟨g2, 12 + 0, none⟩) | 11 => r 11 = .int .i64 ((sAt l q p k).t0 : Nat) | 12 => r 12 = .pointer (some ⟨g23, 1, none⟩) | 13 => r 13 = .int .i64 (n : Nat) | 14 => r 14 = .int .i64 (((sAt l q p k).t0 + n) : Nat) | 15 => r 15 = .slice (some ⟨gq, 0 + (sAt l q p k).t0 * 5, none⟩) ((sAt l q p k).t0 + n - (sAt l q p k).t0) (c0 - (sAt l q p k).t0) | 16 => r 16 = .int .i64 (wyB false) | 17 => r 17 = .tuple #[(stA (tkS (sAt l q p k) ((waitL q (sAt l q p k) false).take n) false)), .agg #[.int .i64 (runT (sAt l q p k) ((waitL q (sAt l q p k) false).take n) false).start, .int .i64 (runT (sAt l q p k) ((waitL q (sAt l q p k) false).take n) false).stop], .bool true] | 18 => r 18 = .tuple #[(stA (tkS (sAt l q p k) ((waitL q (sAt l q p k) false).take n) false)), .agg #[.int .i64 (runT (sAt l q p k) ((waitL q (sAt l q p k) false).take n) false).start, .int .i64 (runT (sAt l q p k) ((waitL q (sAt l q p k) false).take n) false).stop], .bool true] | 19 => r 19 = (stA (tkS (sAt l q p k) ((waitL q (sAt l q p k) false).take n) false)) | 20 => r 20 = .agg #[.int .i64 (runT (sAt l q p k) ((waitL q (sAt l q p k) false).take n) false).start, .int .i64 (runT (sAt l q p k) ((waitL q (sAt l q p k) false).take n) false).stop] | 21 => r 21 = .bool true | _ => True) [(22, fun fl r w_ => ∃ g_, r 22 = .pointer (some ⟨g_, 0, none⟩) ∧ w25.heap.size ≤ g_ ∧ (fl 24 = false → Blk w_ g_ 114 #[.int .i64 0, .int .i64 0, .int .i64 0, .int .i64 0, .int .i64 0, .bool false, .int .i64 0, .int .i64 0, .int .i64 0, .int .i64 0, .int .i64 0, .int .i64 0, .int .i64 0, .int .i64 0, .int .i64 0])), (23, fun fl r w_ => ∃ g_, r 23 = .pointer (some ⟨g_, 0, none⟩) ∧ w25.heap.size ≤ g_ ∧ (fl 25 = false → Blk w_ g_ 49 #[.int .i64 0, .int .i64 0])), (24, fun _ r w_ => ∃ g_, r 22 = .pointer (some ⟨g_, 0, none⟩) ∧ Blk w_ g_ 114 (stB (tkS (sAt l q p k) ((waitL q (sAt l q p k) false).take n) false))), (25, fun _ r w_ => ∃ g_, r 23 = .pointer (some ⟨g_, 0, none⟩) ∧ Blk w_ g_ 49 #[.int .i64 (runT (sAt l q p k) ((waitL q (sAt l q p k) false).take n) false).start, .int .i64 (runT (sAt l q p k) ((waitL q (sAt l q p k) false).take n) false).stop])]) (by kernel_rfl) rfl rfl (by intro i hi; simp at hi; first | (subst hi; exact ⟨by simp, by omega⟩) | (rcases hi with rfl | rfl | rfl <;> exact ⟨by simp, by omega⟩) | (rcases hi with rfl | rfl <;> exact ⟨by simp, by omega⟩)) (YZ w25) (ZL Zi (ZL Zi (ZL Zh (ZL Zh (Zd))))) (fun i_ hi_ hs_ => ?_) (fun i_ hi_ => ?_) ?_
       ·match i_, hi_ with
        | 0, _ =>
         intro val fl w1 a hb ha hd hfl;have ha := ha.s0 (d := 6) rfl
         exact ZD ha rfl rfl (Z8 rfl ((qs6.below hb qs6.lt).at (j := 0) rfl) ((qs6.below hb qs6.lt).at (j := 1) rfl) ((qs6.below hb qs6.lt).at (j := 2) rfl) ((qs6.below hb qs6.lt).at (j := 3) rfl) ((qs6.below hb qs6.lt).at (j := 4) rfl) ((qs6.below hb qs6.lt).at (j := 5) rfl) ((qs6.below hb qs6.lt).at (j := 6) rfl) ((qs6.below hb qs6.lt).at (j := 7) rfl) ((qs6.below hb qs6.lt).at (j := 8) rfl) ((qs6.below hb qs6.lt).at (j := 9) rfl) ((qs6.below hb qs6.lt).at (j := 10) rfl) ((qs6.below hb qs6.lt).at (j := 11) rfl) ((qs6.below hb qs6.lt).at (j := 12) rfl) ((qs6.below hb qs6.lt).at (j := 13) rfl) ((qs6.below hb qs6.lt).at (j := 14) rfl)) rfl rfl
        | 1, _ =>
         intro val fl w1 a hb ha hd hfl;have ha := ha.s0 (d := 17) rfl
         exact ZD ha rfl rfl (x_move rfl) rfl rfl
        | 2, _ =>
         intro val fl w1 a hb ha hd hfl;have e1 : val 1 = _ := hd 1 (ZA.1 rfl);have ha := ha.sub (Sub.ins (d := 81) (Sub.ins (d := 10) (Sub.nil _) rfl) (ZQ rfl e1))
         exact ZD ha rfl rfl (YD (k := 0) rfl rfl (by omega)) rfl rfl
        | 3, _ =>
         intro val fl w1 a hb ha hd hfl;have e2 : val 2 = _ := hd 2 (ZA.1 rfl);have ha := ha.s1 (d := 82) rfl e2
         exact ZD ha rfl rfl (QAI rfl ((qs10.below hb qs10.lt).at (j := 0) rfl)) rfl rfl
        | 4, _ =>
         intro val fl w1 a hb ha hd hfl;have ha := ha.s0 (d := 17) rfl
         exact ZD ha rfl rfl (x_move rfl) rfl rfl
        | 5, _ =>
         intro val fl w1 a hb ha hd hfl;have ha := ha.s0 (d := 6) rfl
         exact ZD ha rfl rfl (Zp rfl) rfl rfl
        | 6, _ =>
         intro val fl w1 a hb ha hd hfl;have e5 : val 5 = _ := hd 5 (ZA.1 rfl);have e4 : val 4 = _ := hd 4 (ZA.1 rfl);have ha := ha.s2 (d := 84) (e := 85) rfl e4 rfl e5
         exact ZD ha rfl rfl (Zj (k := 0) rfl rfl (by omega)) rfl rfl
        | 7, _ =>
         intro val fl w1 a hb ha hd hfl;have e6 : val 6 = _ := hd 6 (ZA.1 rfl);have ha := ha.s1 (d := 86) rfl e6
         exact ZD ha rfl rfl (ld_3 rfl ((qs6.below hb qs6.lt).at (j := 12) rfl)) rfl rfl
        | 8, _ =>
         intro val fl w1 a hb ha hd hfl;have ha := ha.s0 (d := 17) rfl
         exact ZD ha rfl rfl (x_move rfl) rfl rfl
        | 9, _ =>
         intro val fl w1 a hb ha hd hfl;have ha := ha.s0 (d := 6) rfl
         exact ZD ha rfl rfl (Zp rfl) rfl rfl
        | 10, _ =>
         intro val fl w1 a hb ha hd hfl;have e9 : val 9 = _ := hd 9 (ZA.1 rfl);have e8 : val 8 = _ := hd 8 (ZA.1 rfl);have ha := ha.s2 (d := 88) (e := 89) rfl e8 rfl e9
         exact ZD ha rfl rfl (Zj (k := 0) rfl rfl (by omega)) rfl rfl
        | 11, _ =>
         intro val fl w1 a hb ha hd hfl;have e10 : val 10 = _ := hd 10 (ZA.1 rfl);have ha := ha.s1 (d := 90) rfl e10
         exact ZD ha rfl rfl (ld_3 rfl ((qs6.below hb qs6.lt).at (j := 12) rfl)) rfl rfl
        | 12, _ =>
         intro val fl w1 a hb ha hd hfl;have ha := ha.s0 (d := 16) rfl
         exact ZD ha rfl rfl (Y7 rfl) rfl rfl
        | 13, _ =>
         intro val fl w1 a hb ha hd hfl;have e12 : val 12 = _ := hd 12 (ZA.1 rfl);have ha := ha.s1 (d := 92) rfl e12
         exact ZD ha rfl rfl (ld_3 rfl ((q23.below hb q23.lt).at (j := 1) rfl)) rfl rfl
        | 14, _ =>
         intro val fl w1 a hb ha hd hfl;have e11 : val 11 = _ := hd 11 (ZA.1 rfl);have e13 : val 13 = _ := hd 13 (ZA.1 rfl);have ha := ha.s2 (d := 93) (e := 91) rfl e13 rfl e11
         exact ZD ha rfl rfl (x_add rfl rfl (c := (((sAt l q p k).t0 + n : Nat) : Int)) ((IntWalk.i64_in _ ⟨by omega, by omega⟩).trans (by omega))) rfl rfl
        | 15, _ =>
         intro val fl w1 a hb ha hd hfl;have e3 : val 3 = _ := hd 3 (ZA.1 rfl);have e7 : val 7 = _ := hd 7 (ZA.1 rfl);have e14 : val 14 = _ := hd 14 (ZA.1 rfl);have ha := ha.sub (Sub.ins (d := 94) (Sub.ins (d := 87) (Sub.ins (d := 83) (Sub.nil _) (ZQ rfl e3)) (ZQ rfl e7)) (ZQ rfl e14))
         exact ZD ha rfl rfl (QHa rfl rfl rfl (by omega) (by omega) (if_neg (by omega))) rfl rfl
        | 16, _ =>
         intro val fl w1 a hb ha hd hfl;have ha := ha.s0 (d := 17) rfl
         exact ZD ha rfl rfl (x_move rfl) rfl rfl
        | 17, _ =>
         intro val fl w1 a hb ha hd hfl;have e0 : val 0 = _ := hd 0 (ZA.1 rfl);have e15 : val 15 = _ := hd 15 (ZA.1 rfl);have e16 : val 16 = _ := hd 16 (ZA.1 rfl);have ha := ha.sub (Sub.ins (d := 96) (Sub.ins (d := 95) (Sub.ins (d := 80) (Sub.nil _) (ZQ rfl e0)) (ZQ rfl e15)) (ZQ rfl e16));refine Yb ha rfl rfl (cA3 cF57 rfl rfl rfl) (QCP hdk.st (Yr (d := ⟨sAt l q p k, p.take k⟩) (u := false) (n := n) hqk) (by rw [Zk (d := ⟨sAt l q p k, p.take k⟩) hwn]; exact hsum) (by rw [Zk (d := ⟨sAt l q p k, p.take k⟩) hwn, show (sAt l q p k).t0 + n - (sAt l q p k).t0 = n by omega]; exact (htk.below (hb.mono (Nat.le_refl _)))) hb.size (by have := hf; unfold QBE at this; rw [htwa] at this; exact this)) rfl ?_
         rintro e w' ⟨rfl, hb'⟩
         exact ⟨_, rfl, hb', rfl⟩
        | 18, _ =>
         intro val fl w1 a hb ha hd hfl;have e17 : val 17 = _ := hd 17 (ZA.1 rfl);have ha := ha.s1 (d := 97) rfl e17
         exact ZD ha rfl rfl (x_move rfl) rfl rfl
        | 19, _ =>
         intro val fl w1 a hb ha hd hfl;have e18 : val 18 = _ := hd 18 (ZA.1 rfl);have ha := ha.s1 (d := 79) rfl e18
         exact ZD ha rfl rfl (ZP rfl rfl) rfl rfl
        | 20, _ =>
         intro val fl w1 a hb ha hd hfl;have e18 : val 18 = _ := hd 18 (ZA.1 rfl);have ha := ha.s1 (d := 79) rfl e18
         exact ZD ha rfl rfl (ZP rfl rfl) rfl rfl
        | 21, _ =>
         intro val fl w1 a hb ha hd hfl;have e18 : val 18 = _ := hd 18 (ZA.1 rfl);have ha := ha.s1 (d := 79) rfl e18
         exact ZD ha rfl rfl (ZP rfl rfl) rfl rfl
        | 22, _ =>
         intro val fl w1 a hb ha hd hfl;have ha := ha.sub (Sub.nil _)
         exact YG ha rfl rfl QAG (fun g w' hq _ hge => ⟨g, rfl, Nat.le_trans hb.size hge, fun _ => hq⟩)
        | 23, _ =>
         intro val fl w1 a hb ha hd hfl;have ha := ha.sub (Sub.nil _)
         exact YG ha rfl rfl QCz (fun g w' hq _ hge => ⟨g, rfl, Nat.le_trans hb.size hge, fun _ => hq⟩)
        | 24, _ =>
         exact absurd (by simp) hs_
        | 25, _ =>
         exact absurd (by simp) hs_
        | k + 26, h => exact absurd h (by omega)
       ·simp only [List.mem_cons, List.not_mem_nil, or_false] at hi_; rcases hi_ with rfl | rfl
        ·
         intro val fl w1 a hb hfi ha hd hfl;obtain ⟨g22_, e22, hg22_, q22_⟩ := hd 22 (ZA.1 rfl);change val 22 = _ at e22;have e19 : val 19 = _ := hd 19 (ZA.1 rfl);have ha := ha.s2 (d := 98) (e := 18) rfl e19 rfl e22;refine ZY ha rfl rfl rfl (q22_ hfi) Z5 rfl rfl rfl rfl ?_;intro w' hq hgr;refine ⟨undef, rfl, hgr.size, ZE hb hgr hg22_, ⟨g22_, e22, hq⟩, fun j _ hj hn hA => ?_⟩
         exact ZF (C := fun j => j ≠ 24 ∧ 24 ∉ clsAt [[], [], [1], [1, 2], [], [], [4, 5], [4, 5, 6], [], [], [8, 9], [8, 9, 10], [], [12], [8, 9, 10, 11, 12, 13], [1, 2, 3, 4, 5, 6, 7, 8, 9, 10, 11, 12, 13, 14], [], [0, 1, 2, 3, 4, 5, 6, 7, 8, 9, 10, 11, 12, 13, 14, 15, 16], [0, 1, 2, 3, 4, 5, 6, 7, 8, 9, 10, 11, 12, 13, 14, 15, 16, 17], [0, 1, 2, 3, 4, 5, 6, 7, 8, 9, 10, 11, 12, 13, 14, 15, 16, 17, 18], [0, 1, 2, 3, 4, 5, 6, 7, 8, 9, 10, 11, 12, 13, 14, 15, 16, 17, 18], [0, 1, 2, 3, 4, 5, 6, 7, 8, 9, 10, 11, 12, 13, 14, 15, 16, 17, 18], [], [], [0, 1, 2, 3, 4, 5, 6, 7, 8, 9, 10, 11, 12, 13, 14, 15, 16, 17, 18, 19, 22, 23], [0, 1, 2, 3, 4, 5, 6, 7, 8, 9, 10, 11, 12, 13, 14, 15, 16, 17, 18, 19, 20, 22, 23, 24], [0, 1, 2, 3, 4, 5, 6, 7, 8, 9, 10, 11, 12, 13, 14, 15, 16, 17, 18, 19, 20, 21, 22, 23, 24, 25]] j ∧ ∀ p ∈ [22, 23], (p = j ∨ p ∈ clsAt [[], [], [1], [1, 2], [], [], [4, 5], [4, 5, 6], [], [], [8, 9], [8, 9, 10], [], [12], [8, 9, 10, 11, 12, 13], [1, 2, 3, 4, 5, 6, 7, 8, 9, 10, 11, 12, 13, 14], [], [0, 1, 2, 3, 4, 5, 6, 7, 8, 9, 10, 11, 12, 13, 14, 15, 16], [0, 1, 2, 3, 4, 5, 6, 7, 8, 9, 10, 11, 12, 13, 14, 15, 16, 17], [0, 1, 2, 3, 4, 5, 6, 7, 8, 9, 10, 11, 12, 13, 14, 15, 16, 17, 18], [0, 1, 2, 3, 4, 5, 6, 7, 8, 9, 10, 11, 12, 13, 14, 15, 16, 17, 18], [0, 1, 2, 3, 4, 5, 6, 7, 8, 9, 10, 11, 12, 13, 14, 15, 16, 17, 18], [], [], [0, 1, 2, 3, 4, 5, 6, 7, 8, 9, 10, 11, 12, 13, 14, 15, 16, 17, 18, 19, 22, 23], [0, 1, 2, 3, 4, 5, 6, 7, 8, 9, 10, 11, 12, 13, 14, 15, 16, 17, 18, 19, 20, 22, 23, 24], [0, 1, 2, 3, 4, 5, 6, 7, 8, 9, 10, 11, 12, 13, 14, 15, 16, 17, 18, 19, 20, 21, 22, 23, 24, 25]] j) → ∀ q ∈ [22, 23], (q = 24 ∨ q ∈ clsAt [[], [], [1], [1, 2], [], [], [4, 5], [4, 5, 6], [], [], [8, 9], [8, 9, 10], [], [12], [8, 9, 10, 11, 12, 13], [1, 2, 3, 4, 5, 6, 7, 8, 9, 10, 11, 12, 13, 14], [], [0, 1, 2, 3, 4, 5, 6, 7, 8, 9, 10, 11, 12, 13, 14, 15, 16], [0, 1, 2, 3, 4, 5, 6, 7, 8, 9, 10, 11, 12, 13, 14, 15, 16, 17], [0, 1, 2, 3, 4, 5, 6, 7, 8, 9, 10, 11, 12, 13, 14, 15, 16, 17, 18], [0, 1, 2, 3, 4, 5, 6, 7, 8, 9, 10, 11, 12, 13, 14, 15, 16, 17, 18], [0, 1, 2, 3, 4, 5, 6, 7, 8, 9, 10, 11, 12, 13, 14, 15, 16, 17, 18], [], [], [0, 1, 2, 3, 4, 5, 6, 7, 8, 9, 10, 11, 12, 13, 14, 15, 16, 17, 18, 19, 22, 23], [0, 1, 2, 3, 4, 5, 6, 7, 8, 9, 10, 11, 12, 13, 14, 15, 16, 17, 18, 19, 20, 22, 23, 24], [0, 1, 2, 3, 4, 5, 6, 7, 8, 9, 10, 11, 12, 13, 14, 15, 16, 17, 18, 19, 20, 21, 22, 23, 24, 25]] 24) → p ≠ q → val p ≠ val q) (fun _ ⟨g, h1, h2, _⟩ => ⟨g, h1, h2, fun h => by rw [ZR] at h; cases h⟩) (ZF (fun hc ⟨g, h1, h2, h3⟩ => ⟨g, h1, h2, fun h => (h3 (by rwa [Z2 rfl] at h)).grown hgr (fun h => hc.2.2 23 (by simp) (.inl rfl) 22 (by simp) (.inr (ZA.1 rfl)) (by simp) (by have h1' : val 23 = _ := h1; rw [h1', e22]; injection h with h; rw [h]))⟩) (ZF (fun hc => absurd rfl hc.1) (ZF (fun hc ⟨g, h1, h2⟩ => ⟨g, h1, h2.grown hgr (fun h => hc.2.2 23 (by simp) (.inr (ZA.1 rfl)) 22 (by simp) (.inr (ZA.1 rfl)) (by simp) (by have h1' : val 23 = _ := h1; rw [h1', e22]; injection h with h; rw [h]))⟩) (fun _ _ h => h)))) j ⟨hj, hn, hA⟩
        ·
         intro val fl w1 a hb hfi ha hd hfl;obtain ⟨g23_, e23, hg23_, q23_⟩ := hd 23 (ZA.1 rfl);change val 23 = _ at e23;have e20 : val 20 = _ := hd 20 (ZA.1 rfl);have ha := ha.s2 (d := 99) (e := 19) rfl e20 rfl e23;refine ZY ha rfl rfl rfl (q23_ hfi) QAm rfl rfl rfl rfl ?_;intro w' hq hgr;refine ⟨undef, rfl, hgr.size, ZE hb hgr hg23_, ⟨g23_, e23, hq⟩, fun j _ hj hn hA => ?_⟩
         exact ZF (C := fun j => j ≠ 25 ∧ 25 ∉ clsAt [[], [], [1], [1, 2], [], [], [4, 5], [4, 5, 6], [], [], [8, 9], [8, 9, 10], [], [12], [8, 9, 10, 11, 12, 13], [1, 2, 3, 4, 5, 6, 7, 8, 9, 10, 11, 12, 13, 14], [], [0, 1, 2, 3, 4, 5, 6, 7, 8, 9, 10, 11, 12, 13, 14, 15, 16], [0, 1, 2, 3, 4, 5, 6, 7, 8, 9, 10, 11, 12, 13, 14, 15, 16, 17], [0, 1, 2, 3, 4, 5, 6, 7, 8, 9, 10, 11, 12, 13, 14, 15, 16, 17, 18], [0, 1, 2, 3, 4, 5, 6, 7, 8, 9, 10, 11, 12, 13, 14, 15, 16, 17, 18], [0, 1, 2, 3, 4, 5, 6, 7, 8, 9, 10, 11, 12, 13, 14, 15, 16, 17, 18], [], [], [0, 1, 2, 3, 4, 5, 6, 7, 8, 9, 10, 11, 12, 13, 14, 15, 16, 17, 18, 19, 22, 23], [0, 1, 2, 3, 4, 5, 6, 7, 8, 9, 10, 11, 12, 13, 14, 15, 16, 17, 18, 19, 20, 22, 23, 24], [0, 1, 2, 3, 4, 5, 6, 7, 8, 9, 10, 11, 12, 13, 14, 15, 16, 17, 18, 19, 20, 21, 22, 23, 24, 25]] j ∧ ∀ p ∈ [22, 23], (p = j ∨ p ∈ clsAt [[], [], [1], [1, 2], [], [], [4, 5], [4, 5, 6], [], [], [8, 9], [8, 9, 10], [], [12], [8, 9, 10, 11, 12, 13], [1, 2, 3, 4, 5, 6, 7, 8, 9, 10, 11, 12, 13, 14], [], [0, 1, 2, 3, 4, 5, 6, 7, 8, 9, 10, 11, 12, 13, 14, 15, 16], [0, 1, 2, 3, 4, 5, 6, 7, 8, 9, 10, 11, 12, 13, 14, 15, 16, 17], [0, 1, 2, 3, 4, 5, 6, 7, 8, 9, 10, 11, 12, 13, 14, 15, 16, 17, 18], [0, 1, 2, 3, 4, 5, 6, 7, 8, 9, 10, 11, 12, 13, 14, 15, 16, 17, 18], [0, 1, 2, 3, 4, 5, 6, 7, 8, 9, 10, 11, 12, 13, 14, 15, 16, 17, 18], [], [], [0, 1, 2, 3, 4, 5, 6, 7, 8, 9, 10, 11, 12, 13, 14, 15, 16, 17, 18, 19, 22, 23], [0, 1, 2, 3, 4, 5, 6, 7, 8, 9, 10, 11, 12, 13, 14, 15, 16, 17, 18, 19, 20, 22, 23, 24], [0, 1, 2, 3, 4, 5, 6, 7, 8, 9, 10, 11, 12, 13, 14, 15, 16, 17, 18, 19, 20, 21, 22, 23, 24, 25]] j) → ∀ q ∈ [22, 23], (q = 25 ∨ q ∈ clsAt [[], [], [1], [1, 2], [], [], [4, 5], [4, 5, 6], [], [], [8, 9], [8, 9, 10], [], [12], [8, 9, 10, 11, 12, 13], [1, 2, 3, 4, 5, 6, 7, 8, 9, 10, 11, 12, 13, 14], [], [0, 1, 2, 3, 4, 5, 6, 7, 8, 9, 10, 11, 12, 13, 14, 15, 16], [0, 1, 2, 3, 4, 5, 6, 7, 8, 9, 10, 11, 12, 13, 14, 15, 16, 17], [0, 1, 2, 3, 4, 5, 6, 7, 8, 9, 10, 11, 12, 13, 14, 15, 16, 17, 18], [0, 1, 2, 3, 4, 5, 6, 7, 8, 9, 10, 11, 12, 13, 14, 15, 16, 17, 18], [0, 1, 2, 3, 4, 5, 6, 7, 8, 9, 10, 11, 12, 13, 14, 15, 16, 17, 18], [], [], [0, 1, 2, 3, 4, 5, 6, 7, 8, 9, 10, 11, 12, 13, 14, 15, 16, 17, 18, 19, 22, 23], [0, 1, 2, 3, 4, 5, 6, 7, 8, 9, 10, 11, 12, 13, 14, 15, 16, 17, 18, 19, 20, 22, 23, 24], [0, 1, 2, 3, 4, 5, 6, 7, 8, 9, 10, 11, 12, 13, 14, 15, 16, 17, 18, 19, 20, 21, 22, 23, 24, 25]] 25) → p ≠ q → val p ≠ val q) (fun hc ⟨g, h1, h2, h3⟩ => ⟨g, h1, h2, fun h => (h3 (by rwa [Z2 rfl] at h)).grown hgr (fun h => hc.2.2 22 (by simp) (.inl rfl) 23 (by simp) (.inr (ZA.1 rfl)) (by simp) (by have h1' : val 22 = _ := h1; rw [h1', e23]; injection h with h; rw [h]))⟩) (ZF (fun _ ⟨g, h1, h2, _⟩ => ⟨g, h1, h2, fun h => by rw [ZR] at h; cases h⟩) (ZF (fun hc ⟨g, h1, h2⟩ => ⟨g, h1, h2.grown hgr (fun h => hc.2.2 22 (by simp) (.inr (ZA.1 rfl)) 23 (by simp) (.inr (ZA.1 rfl)) (by simp) (by have h1' : val 22 = _ := h1; rw [h1', e23]; injection h with h; rw [h]))⟩) (ZF (fun hc => absurd rfl hc.1) (fun _ _ h => h)))) j ⟨hj, hn, hA⟩
       ·intro val fl wR21 hfl hb halc hd
        have e0 : val 0 = _ := hd 0 (by omega)
        have e1 : val 1 = _ := hd 1 (by omega)
        have e2 : val 2 = _ := hd 2 (by omega)
        have e3 : val 3 = _ := hd 3 (by omega)
        have e4 : val 4 = _ := hd 4 (by omega)
        have e5 : val 5 = _ := hd 5 (by omega)
        have e6 : val 6 = _ := hd 6 (by omega)
        have e7 : val 7 = _ := hd 7 (by omega)
        have e8 : val 8 = _ := hd 8 (by omega)
        have e9 : val 9 = _ := hd 9 (by omega)
        have e10 : val 10 = _ := hd 10 (by omega)
        have e11 : val 11 = _ := hd 11 (by omega)
        have e12 : val 12 = _ := hd 12 (by omega)
        have e13 : val 13 = _ := hd 13 (by omega)
        have e14 : val 14 = _ := hd 14 (by omega)
        have e15 : val 15 = _ := hd 15 (by omega)
        have e16 : val 16 = _ := hd 16 (by omega)
        have e17 : val 17 = _ := hd 17 (by omega)
        have e18 : val 18 = _ := hd 18 (by omega)
        have e19 : val 19 = _ := hd 19 (by omega)
        have e20 : val 20 = _ := hd 20 (by omega)
        have e21 : val 21 = _ := hd 21 (by omega)
        obtain ⟨ga22_21, e22, qa22_21⟩ := hd 24 (by omega)
        change val 22 = _ at e22;obtain ⟨ga23_21, e23, qa23_21⟩ := hd 25 (by omega)
        change val 23 = _ at e23;refine EL.ends (cs := [_, _, _, _, _, _, _, _, _, _, _, _, _, _, _, _, _, _, _, _, _, _, _, _, val 24, val 25]) ⟨e0, e1, e2, e3, e4, e5, e6, e7, e8, e9, e10, e11, e12, e13, e14, e15, e16, e17, e18, e19, e20, e21, e22, e23, rfl, rfl, trivial⟩ rfl ?_;replace qs6 := qs6.bl hb;replace qs10 := qs10.bl hb;replace q23 := q23.bl hb;replace hq0 := ZB hq0 hb (Nat.le_refl _);replace hq1 := ZB hq1 hb (Nat.le_refl _);replace hrn := ZB hrn hb (Nat.le_refl _);have bge29 := Yc halc (i := 22) rfl rfl e22;have n2_29 : g2 ≠ ga22_21 := Nat.ne_of_lt (Nat.lt_of_lt_of_le lt_2 bge29);have n5_29 : g5 ≠ ga22_21 := Nat.ne_of_lt (Nat.lt_of_lt_of_le lt_5 bge29);have n23_29 : g23 ≠ ga22_21 := Nat.ne_of_lt (Nat.lt_of_lt_of_le lt_23 bge29);have bhbw_29 := Nat.le_trans hbw.size bge29;have bge30 := Yc halc (i := 23) rfl rfl e23;have n2_30 : g2 ≠ ga23_21 := Nat.ne_of_lt (Nat.lt_of_lt_of_le lt_2 bge30);have n5_30 : g5 ≠ ga23_21 := Nat.ne_of_lt (Nat.lt_of_lt_of_le lt_5 bge30);have n23_30 : g23 ≠ ga23_21 := Nat.ne_of_lt (Nat.lt_of_lt_of_le lt_23 bge30);have n29_30 : ga22_21 ≠ ga23_21 := QBe halc (i := 22) (j := 23) rfl rfl rfl rfl rfl e22 e23;have bhbw_30 := Nat.le_trans hbw.size bge30;replace hbw := bo_ hbw hb;have hnr : ∀ b, (.slice Ar k cr : Value).ownBlock = some b → b ≠ ga23_21 := fun b hb => Nat.ne_of_lt (Nat.lt_of_lt_of_le (hrl b hb).2 bge30)
        clear hrl;refine EL.as rfl rfl (EL.nil (EX.seq (EC.seq (EC.seq (EC.region (EL.mv rfl rfl (EL.val (ZX rfl) rfl (EL.nil (EX.seq ?_)))))))));refine EC.no rfl (EC.skip (EX.seq ?_));have hn19 : ∀ b, (.slice Ar k cr : Value).ownBlock = some b → b ≠ ga23_21 := hnr;have hW := ZM hrn (w1 := wR21) ⟨rfl, rfl, rfl, Nat.le_refl _, fun _ _ _ => rfl⟩ hbw.size
        clear hW;have lt_2 := qs6.lt;have lt_5 := qs10.lt;have lt_23 := q23.lt;have lt_29 := qa22_21.lt;refine EC.regionS [[], [], [], [2], [1, 2, 3], [0, 1, 2, 3, 4], [0, 1, 2, 3, 4, 5]] 5 [] [4] (fun fl w_ => wR21.grownBy w_ ((.slice Ar k cr) : Value).ownBlock ∧ (fl 4 = false → w_.ownsRow w.heap.size 49 2 (.slice Ar k cr) k (rnsC (QBC l q p k)))) (phiS (fun i_ r => match i_ with | 0 => r 0 = (stA (tkS (sAt l q p k) ((waitL q (sAt l q p k) false).take n) false)) | 1 => r 1 = .slice Ar k cr | 2 => r 2 = .agg #[.int .i64 (runT (sAt l q p k) ((waitL q (sAt l q p k) false).take n) false).start, .int .i64 (runT (sAt l q p k) ((waitL q (sAt l q p k) false).take n) false).stop] | _ => True) [(3, fun fl r w_ => fl 4 = false → (∃ g_, r 3 = .slice (some ⟨g_, 0, none⟩) 1 1 ∧ Blk w_ g_ 49 #[.int .i64 (runT (sAt l q p k) ((waitL q (sAt l q p k) false).take n) false).start, .int .i64 (runT (sAt l q p k) ((waitL q (sAt l q p k) false).take n) false).stop] ∧ wR21.heap.size ≤ g_)), (4, fun _ r w_ => w_.ownsRow w.heap.size 49 2 (r 4) (k + 1) ((rnsC (QBC l q p k)) ++ [.int .i64 (runT (sAt l q p k) ((waitL q (sAt l q p k) false).take n) false).start, .int .i64 (runT (sAt l q p k) ((waitL q (sAt l q p k) false).take n) false).stop]) ∧ ∀ b, (r 4).ownBlock = some b → ((.slice Ar k cr) : Value).ownBlock = some b ∨ wR21.heap.size ≤ b)]) (by kernel_rfl) rfl rfl (by intro i hi; simp at hi; subst hi; exact ⟨by simp, by omega⟩) (QBc hrn) (ZL (QAS QAL) (ZL (QAq (e := 4) (C := fun u_ => ∀ b, u_.ownBlock = some b → ((.slice Ar k cr) : Value).ownBlock = some b ∨ wR21.heap.size ≤ b)) (Zd))) (fun i_ hi_ hs_ => ?_) (fun i_ hi_ => ?_) ?_
        ·match i_, hi_ with
         | 0, _ =>
          intro val fl w1 a hb ha hd hfl;obtain ⟨hgb, hg0⟩ := hb;have hb := ZM hrn hgb hbw.size;have ha := ha.s0 (d := 18) rfl
          exact ZD ha rfl rfl (Z8 rfl ((ZK qa22_21 hrn rfl hgb).at (j := 0) rfl) ((ZK qa22_21 hrn rfl hgb).at (j := 1) rfl) ((ZK qa22_21 hrn rfl hgb).at (j := 2) rfl) ((ZK qa22_21 hrn rfl hgb).at (j := 3) rfl) ((ZK qa22_21 hrn rfl hgb).at (j := 4) rfl) ((ZK qa22_21 hrn rfl hgb).at (j := 5) rfl) ((ZK qa22_21 hrn rfl hgb).at (j := 6) rfl) ((ZK qa22_21 hrn rfl hgb).at (j := 7) rfl) ((ZK qa22_21 hrn rfl hgb).at (j := 8) rfl) ((ZK qa22_21 hrn rfl hgb).at (j := 9) rfl) ((ZK qa22_21 hrn rfl hgb).at (j := 10) rfl) ((ZK qa22_21 hrn rfl hgb).at (j := 11) rfl) ((ZK qa22_21 hrn rfl hgb).at (j := 12) rfl) ((ZK qa22_21 hrn rfl hgb).at (j := 13) rfl) ((ZK qa22_21 hrn rfl hgb).at (j := 14) rfl)) rfl rfl
         | 1, _ =>
          intro val fl w1 a hb ha hd hfl;obtain ⟨hgb, hg0⟩ := hb;have hb := ZM hrn hgb hbw.size;have ha := ha.s0 (d := 7) rfl
          exact ZD ha rfl rfl (x_move rfl) rfl rfl
         | 2, _ =>
          intro val fl w1 a hb ha hd hfl;obtain ⟨hgb, hg0⟩ := hb;have hb := ZM hrn hgb hbw.size;have ha := ha.s0 (d := 19) rfl
          exact ZD ha rfl rfl (QDE rfl ((qa23_21.grown hgb (fun e => hn19 _ e.symm rfl)).at (j := 0) rfl) ((qa23_21.grown hgb (fun e => hn19 _ e.symm rfl)).at (j := 1) rfl)) rfl rfl
         | 3, _ =>
          intro val fl w1 a hb ha hd hfl;obtain ⟨hgb, hg0⟩ := hb;have hb := ZM hrn hgb hbw.size;have e2 : val 2 = _ := hd 2 (ZA.1 rfl);have ha := ha.s1 (d := 106) rfl e2
          exact QCQ ha rfl rfl (QIH rfl) rfl (fun g w' hq _ hge => fun _ => ⟨g, rfl, hq, Nat.le_trans hgb.size hge⟩)
         | 4, _ =>
          exact absurd (by simp) hs_
         | k + 5, h => exact absurd h (by omega)
        ·simp only [List.mem_singleton] at hi_; subst hi_
         intro val fl w1 a hb hfi ha hd hfl;obtain ⟨hgb, hg0⟩ := hb;have hb := ZM hrn hgb hbw.size;have e1 : val 1 = _ := hd 1 (ZA.1 rfl);obtain ⟨g3_, e3, q3_, h3_⟩ := hd 3 (ZA.1 rfl) hfi;change val 3 = _ at e3;have ha := ha.s2 (d := 107) (e := 105) rfl e3 rfl e1;refine QCM QHd ha rfl rfl rfl (hg0 hfi) (QAE (l := [.int .i64 (runT (sAt l q p k) ((waitL q (sAt l q p k) false).take n) false).start, .int .i64 (runT (sAt l q p k) ((waitL q (sAt l q p k) false).take n) false).stop]) q3_ rfl) (by intro u hu; simp only [List.mem_cons, List.not_mem_nil, or_false] at hu; rcases hu with rfl | rfl <;> rfl) (by omega) rfl (Nat.le_trans hbw.size hgb.size) ?_
         intro v' w' ho' hgr hat;refine ⟨v', rfl, hgr.size, ⟨Zm hgb hgr, fun h => by rw [ZR] at h; cases h⟩, ⟨ho', fun b hb' => ?_⟩, fun j _ hj hn hA => ?_⟩
         ·rcases hat with h | h
          ·exact .inl (h ▸ hb')
          ·refine .inr ?_
           change v'.ownBlock = some b at hb';rw [h] at hb'
           injection hb' with hb'
           have := hgb.size
           omega
         ·exact ZF (C := fun j => j ≠ 4 ∧ 4 ∉ clsAt [[], [], [], [2], [1, 2, 3], [0, 1, 2, 3, 4], [0, 1, 2, 3, 4, 5]] j) (fun _ _ h => by rw [ZR] at h; cases h) (ZF (fun hc => absurd rfl hc.1) (fun _ _ h => h)) j ⟨hj, hn⟩
        ·intro val fl w' hfl hb halc hd
         obtain ⟨hgb, _⟩ := hb;have hb := ZM hrn hgb hbw.size;have e0 : val 0 = _ := hd 0 (by omega)
         have e1 : val 1 = _ := hd 1 (by omega)
         have e2 : val 2 = _ := hd 2 (by omega)
         obtain ⟨ho4, hn4⟩ := hd 4 (by omega)
         change w'.ownsRow _ _ _ (val 4) _ _ at ho4;refine EL.ends (cs := [_, _, _, val 3, val 4]) ⟨e0, e1, e2, rfl, rfl, trivial⟩ rfl ?_;replace qs6 := ZK qs6 hrn rfl hgb;replace qs10 := ZK qs10 hrn rfl hgb;replace q23 := ZK q23 hrn rfl hgb;replace qa22_21 := ZK qa22_21 hrn rfl hgb;replace hq0 := Zl hq0 hrn rfl hgb;replace hq1 := Zl hq1 hrn rfl hgb;replace hbw := hbw.trans (hb.mono (Nat.le_refl _));refine EL.store rfl rfl qs6 Z5 rfl rfl rfl rfl ?_;intro w31 hq31 hg31;replace qs10 := qs10.gr hg31 n2_5.symm;replace q23 := q23.gr hg31 n2_23.symm;replace qa22_21 := qa22_21.gr hg31 n2_29.symm;replace hq0 := ZG hq0 qs6 rfl hg31;replace hq1 := ZG hq1 qs6 rfl hg31;replace ho4 := ZG ho4 qs6 rfl hg31;replace hbw := ZE hbw hg31 bhbw_2;replace qs6 := hq31;clear hg31 hq31;refine EL.as rfl rfl (EL.nil (EX.blk (EX.seq (EC.region ?_))));refine EL.val (x_add rfl rfl (c := ((k + 1 : Nat) : Int)) ((IntWalk.i64_in _ ⟨by first | omega | (simp only; omega), by first | omega | (simp only; omega)⟩).trans (by first | omega | (simp only; omega)))) rfl ?_
         refine EL.mv rfl rfl (EL.nil ?_);refine EX.roundD (k + 1, _) ⟨rfl, rfl, trivial⟩ (by repeat first | with_reducible exact .refl _ | refine sp_ rfl ?_ | exact .refl _ | refine sd_ rfl ?_ | refine sn_ ?_) ⟨hltk, (QDZ hfa hf), by rw [hss]; exact qs6, qs10, hq0, hq1, by rw [QDx, QGG, hrs]; exact ho4, hbw⟩ (show p.length - (k + 1) < p.length - k by omega)
     ·
      have hdu := hdt true;have hle := hdk.le true;change (((sAt l q p k).t1 : Nat) : Int) = _ at hdu;change (sAt l q p k).t1 ≤ _ at hle
      unfold Zb at hin2
      have hwn : n ≤ (waitL q (sAt l q p k) true).length := by rw [YW]; show n ≤ (q true).length - (sAt l q p k).t1; omega
      have hsum := QBy (d := ⟨sAt l q p k, p.take k⟩) hqk hdk hwn;have htwa : twAt l q p k = ((waitL q (sAt l q p k) true).take n) := by unfold twAt; rw [hpx]; rfl
      have hss := QCS (l := l) (q := q) hltk;rw [htwa, hpx] at hss;have hrs : QEr l q p k = runT (sAt l q p k) ((waitL q (sAt l q p k) true).take n) true := by unfold QEr; rw [htwa, hpx]
      cases hf : QBE l q p k
      ·
       obtain ⟨gq, cq_, eq_⟩ := Z6 hq1 (show 0 < (q true).length by omega)
       injection eq_ with eA_ _ eC_
       subst eA_ eC_;have hcap := QCY hq1;obtain ⟨_, hre, _⟩ := QBG (A' := some ⟨gq, 0 + (sAt l q p k).t1 * 5, none⟩) hq1 (lo := (sAt l q p k).t1) hle (by unfold QDC; simp only [Option.map_some]; rw [if_neg (by omega)]) rfl
       have htk := Y_ hre (k := n) (by omega)
       rw [← Ym] at htk;have hrl := hrn.lt;have lt_2 := qs6.lt;have lt_5 := qs10.lt;have lt_23 := q23.lt;refine EC.regionS [[], [], [1], [1, 2], [], [], [4, 5], [4, 5, 6], [], [], [8, 9], [8, 9, 10], [], [12], [8, 9, 10, 11, 12, 13], [1, 2, 3, 4, 5, 6, 7, 8, 9, 10, 11, 12, 13, 14], [], [0, 1, 2, 3, 4, 5, 6, 7, 8, 9, 10, 11, 12, 13, 14, 15, 16], [0, 1, 2, 3, 4, 5, 6, 7, 8, 9, 10, 11, 12, 13, 14, 15, 16, 17], [0, 1, 2, 3, 4, 5, 6, 7, 8, 9, 10, 11, 12, 13, 14, 15, 16, 17, 18], [0, 1, 2, 3, 4, 5, 6, 7, 8, 9, 10, 11, 12, 13, 14, 15, 16, 17, 18], [0, 1, 2, 3, 4, 5, 6, 7, 8, 9, 10, 11, 12, 13, 14, 15, 16, 17, 18], [], [], [0, 1, 2, 3, 4, 5, 6, 7, 8, 9, 10, 11, 12, 13, 14, 15, 16, 17, 18, 19, 22, 23], [0, 1, 2, 3, 4, 5, 6, 7, 8, 9, 10, 11, 12, 13, 14, 15, 16, 17, 18, 19, 20, 22, 23, 24], [0, 1, 2, 3, 4, 5, 6, 7, 8, 9, 10, 11, 12, 13, 14, 15, 16, 17, 18, 19, 20, 21, 22, 23, 24, 25]] 26 [22, 23] [24, 25] (fun _ w_ => Below w25.heap.size w25 w_) (phiS (fun i_ r => match i_ with | 0 => r 0 = (stA (sAt l q p k)) | 1 => r 1 = .int .i64 (wyB true) | 2 => r 2 = .pointer (some ⟨g5, 0 + 1, none⟩) | 3 => r 3 = .slice (some ⟨gq, 0, none⟩) (q true).length c1 | 4 => r 4 = .int .i64 (wyB true) | 5 => r 5 = .pointer (some ⟨g2, 12, none⟩) | 6 => r 6 = .pointer (some ⟨g2, 12 + 1, none⟩) | 7 => r 7 = .int .i64 ((sAt l q p k).t1 : Nat) | 8 => r 8 = .int .i64 (wyB true) | 9 => r 9 = .pointer (some ⟨g2, 12, none⟩) | 10 => r 10 = .pointer (some ⟨g2, 12 + 1, none⟩) | 11 => r 11 = .int .i64 ((sAt l q p k).t1 : Nat) | 12 => r 12 = .pointer (some ⟨g23, 1, none⟩) | 13 => r 13 = .int .i64 (n : Nat) | 14 => r 14 = .int .i64 (((sAt l q p k).t1 + n) : Nat) | 15 => r 15 = .slice (some ⟨gq, 0 + (sAt l q p k).t1 * 5, none⟩) ((sAt l q p k).t1 + n - (sAt l q p k).t1) (c1 - (sAt l q p k).t1) | 16 => r 16 = .int .i64 (wyB true) | 17 => r 17 = .tuple #[(stA (sAt l q p k)), .agg #[.int .i64 rn0.start, .int .i64 rn0.stop], .bool false] | 18 => r 18 = .tuple #[(stA (sAt l q p k)), .agg #[.int .i64 rn0.start, .int .i64 rn0.stop], .bool false] | 19 => r 19 = (stA (sAt l q p k)) | 20 => r 20 = .agg #[.int .i64 rn0.start, .int .i64 rn0.stop] | 21 => r 21 = .bool false | _ => True) [(22, fun fl r w_ => ∃ g_, r 22 = .pointer (some ⟨g_, 0, none⟩) ∧ w25.heap.size ≤ g_ ∧ (fl 24 = false → Blk w_ g_ 114 #[.int .i64 0, .int .i64 0, .int .i64 0, .int .i64 0, .int .i64 0, .bool false, .int .i64 0, .int .i64 0, .int .i64 0, .int .i64 0, .int .i64 0, .int .i64 0, .int .i64 0, .int .i64 0, .int .i64 0])), (23, fun fl r w_ => ∃ g_, r 23 = .pointer (some ⟨g_, 0, none⟩) ∧ w25.heap.size ≤ g_ ∧ (fl 25 = false → Blk w_ g_ 49 #[.int .i64 0, .int .i64 0])), (24, fun _ r w_ => ∃ g_, r 22 = .pointer (some ⟨g_, 0, none⟩) ∧ Blk w_ g_ 114 (stB (sAt l q p k))), (25, fun _ r w_ => ∃ g_, r 23 = .pointer (some ⟨g_, 0, none⟩) ∧ Blk w_ g_ 49 #[.int .i64 rn0.start, .int .i64 rn0.stop])]) (by kernel_rfl) rfl rfl (by intro i hi; simp at hi; first | (subst hi; exact ⟨by simp, by omega⟩) | (rcases hi with rfl | rfl | rfl <;> exact ⟨by simp, by omega⟩) | (rcases hi with rfl | rfl <;> exact ⟨by simp, by omega⟩)) (YZ w25) (ZL Zi (ZL Zi (ZL Zh (ZL Zh (Zd))))) (fun i_ hi_ hs_ => ?_) (fun i_ hi_ => ?_) ?_
       ·match i_, hi_ with
        | 0, _ =>
         intro val fl w1 a hb ha hd hfl;have ha := ha.s0 (d := 6) rfl
         exact ZD ha rfl rfl (Z8 rfl ((qs6.below hb qs6.lt).at (j := 0) rfl) ((qs6.below hb qs6.lt).at (j := 1) rfl) ((qs6.below hb qs6.lt).at (j := 2) rfl) ((qs6.below hb qs6.lt).at (j := 3) rfl) ((qs6.below hb qs6.lt).at (j := 4) rfl) ((qs6.below hb qs6.lt).at (j := 5) rfl) ((qs6.below hb qs6.lt).at (j := 6) rfl) ((qs6.below hb qs6.lt).at (j := 7) rfl) ((qs6.below hb qs6.lt).at (j := 8) rfl) ((qs6.below hb qs6.lt).at (j := 9) rfl) ((qs6.below hb qs6.lt).at (j := 10) rfl) ((qs6.below hb qs6.lt).at (j := 11) rfl) ((qs6.below hb qs6.lt).at (j := 12) rfl) ((qs6.below hb qs6.lt).at (j := 13) rfl) ((qs6.below hb qs6.lt).at (j := 14) rfl)) rfl rfl
        | 1, _ =>
         intro val fl w1 a hb ha hd hfl;have ha := ha.s0 (d := 17) rfl
         exact ZD ha rfl rfl (x_move rfl) rfl rfl
        | 2, _ =>
         intro val fl w1 a hb ha hd hfl;have e1 : val 1 = _ := hd 1 (ZA.1 rfl);have ha := ha.sub (Sub.ins (d := 81) (Sub.ins (d := 10) (Sub.nil _) rfl) (ZQ rfl e1))
         exact ZD ha rfl rfl (YD (k := 1) rfl rfl (by omega)) rfl rfl
        | 3, _ =>
         intro val fl w1 a hb ha hd hfl;have e2 : val 2 = _ := hd 2 (ZA.1 rfl);have ha := ha.s1 (d := 82) rfl e2
         exact ZD ha rfl rfl (QAI rfl ((qs10.below hb qs10.lt).at (j := 1) rfl)) rfl rfl
        | 4, _ =>
         intro val fl w1 a hb ha hd hfl;have ha := ha.s0 (d := 17) rfl
         exact ZD ha rfl rfl (x_move rfl) rfl rfl
        | 5, _ =>
         intro val fl w1 a hb ha hd hfl;have ha := ha.s0 (d := 6) rfl
         exact ZD ha rfl rfl (Zp rfl) rfl rfl
        | 6, _ =>
         intro val fl w1 a hb ha hd hfl;have e5 : val 5 = _ := hd 5 (ZA.1 rfl);have e4 : val 4 = _ := hd 4 (ZA.1 rfl);have ha := ha.s2 (d := 84) (e := 85) rfl e4 rfl e5
         exact ZD ha rfl rfl (Zj (k := 1) rfl rfl (by omega)) rfl rfl
        | 7, _ =>
         intro val fl w1 a hb ha hd hfl;have e6 : val 6 = _ := hd 6 (ZA.1 rfl);have ha := ha.s1 (d := 86) rfl e6
         exact ZD ha rfl rfl (ld_3 rfl ((qs6.below hb qs6.lt).at (j := 13) rfl)) rfl rfl
        | 8, _ =>
         intro val fl w1 a hb ha hd hfl;have ha := ha.s0 (d := 17) rfl
         exact ZD ha rfl rfl (x_move rfl) rfl rfl
        | 9, _ =>
         intro val fl w1 a hb ha hd hfl;have ha := ha.s0 (d := 6) rfl
         exact ZD ha rfl rfl (Zp rfl) rfl rfl
        | 10, _ =>
         intro val fl w1 a hb ha hd hfl;have e9 : val 9 = _ := hd 9 (ZA.1 rfl);have e8 : val 8 = _ := hd 8 (ZA.1 rfl);have ha := ha.s2 (d := 88) (e := 89) rfl e8 rfl e9
         exact ZD ha rfl rfl (Zj (k := 1) rfl rfl (by omega)) rfl rfl
        | 11, _ =>
         intro val fl w1 a hb ha hd hfl;have e10 : val 10 = _ := hd 10 (ZA.1 rfl);have ha := ha.s1 (d := 90) rfl e10
         exact ZD ha rfl rfl (ld_3 rfl ((qs6.below hb qs6.lt).at (j := 13) rfl)) rfl rfl
        | 12, _ =>
         intro val fl w1 a hb ha hd hfl;have ha := ha.s0 (d := 16) rfl
         exact ZD ha rfl rfl (Y7 rfl) rfl rfl
        | 13, _ =>
         intro val fl w1 a hb ha hd hfl;have e12 : val 12 = _ := hd 12 (ZA.1 rfl);have ha := ha.s1 (d := 92) rfl e12
         exact ZD ha rfl rfl (ld_3 rfl ((q23.below hb q23.lt).at (j := 1) rfl)) rfl rfl
        | 14, _ =>
         intro val fl w1 a hb ha hd hfl;have e11 : val 11 = _ := hd 11 (ZA.1 rfl);have e13 : val 13 = _ := hd 13 (ZA.1 rfl);have ha := ha.s2 (d := 93) (e := 91) rfl e13 rfl e11
         exact ZD ha rfl rfl (x_add rfl rfl (c := (((sAt l q p k).t1 + n : Nat) : Int)) ((IntWalk.i64_in _ ⟨by omega, by omega⟩).trans (by omega))) rfl rfl
        | 15, _ =>
         intro val fl w1 a hb ha hd hfl;have e3 : val 3 = _ := hd 3 (ZA.1 rfl);have e7 : val 7 = _ := hd 7 (ZA.1 rfl);have e14 : val 14 = _ := hd 14 (ZA.1 rfl);have ha := ha.sub (Sub.ins (d := 94) (Sub.ins (d := 87) (Sub.ins (d := 83) (Sub.nil _) (ZQ rfl e3)) (ZQ rfl e7)) (ZQ rfl e14))
         exact ZD ha rfl rfl (QHa rfl rfl rfl (by omega) (by omega) (if_neg (by omega))) rfl rfl
        | 16, _ =>
         intro val fl w1 a hb ha hd hfl;have ha := ha.s0 (d := 17) rfl
         exact ZD ha rfl rfl (x_move rfl) rfl rfl
        | 17, _ =>
         intro val fl w1 a hb ha hd hfl;have e0 : val 0 = _ := hd 0 (ZA.1 rfl);have e15 : val 15 = _ := hd 15 (ZA.1 rfl);have e16 : val 16 = _ := hd 16 (ZA.1 rfl);have ha := ha.sub (Sub.ins (d := 96) (Sub.ins (d := 95) (Sub.ins (d := 80) (Sub.nil _) (ZQ rfl e0)) (ZQ rfl e15)) (ZQ rfl e16));refine Yb ha rfl rfl (cA3 cF57 rfl rfl rfl) (QDT hdk.st (Yr (d := ⟨sAt l q p k, p.take k⟩) (u := true) (n := n) hqk) (by rw [Zk (d := ⟨sAt l q p k, p.take k⟩) hwn]; exact hsum) (by rw [Zk (d := ⟨sAt l q p k, p.take k⟩) hwn, show (sAt l q p k).t1 + n - (sAt l q p k).t1 = n by omega]; exact (htk.below (hb.mono (Nat.le_refl _)))) hb.size (by have := hf; unfold QBE at this; rw [htwa] at this; exact this)) rfl ?_
         rintro e w' ⟨rfl, hb'⟩
         exact ⟨_, rfl, hb', rfl⟩
        | 18, _ =>
         intro val fl w1 a hb ha hd hfl;have e17 : val 17 = _ := hd 17 (ZA.1 rfl);have ha := ha.s1 (d := 97) rfl e17
         exact ZD ha rfl rfl (x_move rfl) rfl rfl
        | 19, _ =>
         intro val fl w1 a hb ha hd hfl;have e18 : val 18 = _ := hd 18 (ZA.1 rfl);have ha := ha.s1 (d := 79) rfl e18
         exact ZD ha rfl rfl (ZP rfl rfl) rfl rfl
        | 20, _ =>
         intro val fl w1 a hb ha hd hfl;have e18 : val 18 = _ := hd 18 (ZA.1 rfl);have ha := ha.s1 (d := 79) rfl e18
         exact ZD ha rfl rfl (ZP rfl rfl) rfl rfl
        | 21, _ =>
         intro val fl w1 a hb ha hd hfl;have e18 : val 18 = _ := hd 18 (ZA.1 rfl);have ha := ha.s1 (d := 79) rfl e18
         exact ZD ha rfl rfl (ZP rfl rfl) rfl rfl
        | 22, _ =>
         intro val fl w1 a hb ha hd hfl;have ha := ha.sub (Sub.nil _)
         exact YG ha rfl rfl QAG (fun g w' hq _ hge => ⟨g, rfl, Nat.le_trans hb.size hge, fun _ => hq⟩)
        | 23, _ =>
         intro val fl w1 a hb ha hd hfl;have ha := ha.sub (Sub.nil _)
         exact YG ha rfl rfl QCz (fun g w' hq _ hge => ⟨g, rfl, Nat.le_trans hb.size hge, fun _ => hq⟩)
        | 24, _ =>
         exact absurd (by simp) hs_
        | 25, _ =>
         exact absurd (by simp) hs_
        | k + 26, h => exact absurd h (by omega)
       ·simp only [List.mem_cons, List.not_mem_nil, or_false] at hi_; rcases hi_ with rfl | rfl
        ·
         intro val fl w1 a hb hfi ha hd hfl;obtain ⟨g22_, e22, hg22_, q22_⟩ := hd 22 (ZA.1 rfl);change val 22 = _ at e22;have e19 : val 19 = _ := hd 19 (ZA.1 rfl);have ha := ha.s2 (d := 98) (e := 18) rfl e19 rfl e22;refine ZY ha rfl rfl rfl (q22_ hfi) Z5 rfl rfl rfl rfl ?_;intro w' hq hgr;refine ⟨undef, rfl, hgr.size, ZE hb hgr hg22_, ⟨g22_, e22, hq⟩, fun j _ hj hn hA => ?_⟩
         exact ZF (C := fun j => j ≠ 24 ∧ 24 ∉ clsAt [[], [], [1], [1, 2], [], [], [4, 5], [4, 5, 6], [], [], [8, 9], [8, 9, 10], [], [12], [8, 9, 10, 11, 12, 13], [1, 2, 3, 4, 5, 6, 7, 8, 9, 10, 11, 12, 13, 14], [], [0, 1, 2, 3, 4, 5, 6, 7, 8, 9, 10, 11, 12, 13, 14, 15, 16], [0, 1, 2, 3, 4, 5, 6, 7, 8, 9, 10, 11, 12, 13, 14, 15, 16, 17], [0, 1, 2, 3, 4, 5, 6, 7, 8, 9, 10, 11, 12, 13, 14, 15, 16, 17, 18], [0, 1, 2, 3, 4, 5, 6, 7, 8, 9, 10, 11, 12, 13, 14, 15, 16, 17, 18], [0, 1, 2, 3, 4, 5, 6, 7, 8, 9, 10, 11, 12, 13, 14, 15, 16, 17, 18], [], [], [0, 1, 2, 3, 4, 5, 6, 7, 8, 9, 10, 11, 12, 13, 14, 15, 16, 17, 18, 19, 22, 23], [0, 1, 2, 3, 4, 5, 6, 7, 8, 9, 10, 11, 12, 13, 14, 15, 16, 17, 18, 19, 20, 22, 23, 24], [0, 1, 2, 3, 4, 5, 6, 7, 8, 9, 10, 11, 12, 13, 14, 15, 16, 17, 18, 19, 20, 21, 22, 23, 24, 25]] j ∧ ∀ p ∈ [22, 23], (p = j ∨ p ∈ clsAt [[], [], [1], [1, 2], [], [], [4, 5], [4, 5, 6], [], [], [8, 9], [8, 9, 10], [], [12], [8, 9, 10, 11, 12, 13], [1, 2, 3, 4, 5, 6, 7, 8, 9, 10, 11, 12, 13, 14], [], [0, 1, 2, 3, 4, 5, 6, 7, 8, 9, 10, 11, 12, 13, 14, 15, 16], [0, 1, 2, 3, 4, 5, 6, 7, 8, 9, 10, 11, 12, 13, 14, 15, 16, 17], [0, 1, 2, 3, 4, 5, 6, 7, 8, 9, 10, 11, 12, 13, 14, 15, 16, 17, 18], [0, 1, 2, 3, 4, 5, 6, 7, 8, 9, 10, 11, 12, 13, 14, 15, 16, 17, 18], [0, 1, 2, 3, 4, 5, 6, 7, 8, 9, 10, 11, 12, 13, 14, 15, 16, 17, 18], [], [], [0, 1, 2, 3, 4, 5, 6, 7, 8, 9, 10, 11, 12, 13, 14, 15, 16, 17, 18, 19, 22, 23], [0, 1, 2, 3, 4, 5, 6, 7, 8, 9, 10, 11, 12, 13, 14, 15, 16, 17, 18, 19, 20, 22, 23, 24], [0, 1, 2, 3, 4, 5, 6, 7, 8, 9, 10, 11, 12, 13, 14, 15, 16, 17, 18, 19, 20, 21, 22, 23, 24, 25]] j) → ∀ q ∈ [22, 23], (q = 24 ∨ q ∈ clsAt [[], [], [1], [1, 2], [], [], [4, 5], [4, 5, 6], [], [], [8, 9], [8, 9, 10], [], [12], [8, 9, 10, 11, 12, 13], [1, 2, 3, 4, 5, 6, 7, 8, 9, 10, 11, 12, 13, 14], [], [0, 1, 2, 3, 4, 5, 6, 7, 8, 9, 10, 11, 12, 13, 14, 15, 16], [0, 1, 2, 3, 4, 5, 6, 7, 8, 9, 10, 11, 12, 13, 14, 15, 16, 17], [0, 1, 2, 3, 4, 5, 6, 7, 8, 9, 10, 11, 12, 13, 14, 15, 16, 17, 18], [0, 1, 2, 3, 4, 5, 6, 7, 8, 9, 10, 11, 12, 13, 14, 15, 16, 17, 18], [0, 1, 2, 3, 4, 5, 6, 7, 8, 9, 10, 11, 12, 13, 14, 15, 16, 17, 18], [], [], [0, 1, 2, 3, 4, 5, 6, 7, 8, 9, 10, 11, 12, 13, 14, 15, 16, 17, 18, 19, 22, 23], [0, 1, 2, 3, 4, 5, 6, 7, 8, 9, 10, 11, 12, 13, 14, 15, 16, 17, 18, 19, 20, 22, 23, 24], [0, 1, 2, 3, 4, 5, 6, 7, 8, 9, 10, 11, 12, 13, 14, 15, 16, 17, 18, 19, 20, 21, 22, 23, 24, 25]] 24) → p ≠ q → val p ≠ val q) (fun _ ⟨g, h1, h2, _⟩ => ⟨g, h1, h2, fun h => by rw [ZR] at h; cases h⟩) (ZF (fun hc ⟨g, h1, h2, h3⟩ => ⟨g, h1, h2, fun h => (h3 (by rwa [Z2 rfl] at h)).grown hgr (fun h => hc.2.2 23 (by simp) (.inl rfl) 22 (by simp) (.inr (ZA.1 rfl)) (by simp) (by have h1' : val 23 = _ := h1; rw [h1', e22]; injection h with h; rw [h]))⟩) (ZF (fun hc => absurd rfl hc.1) (ZF (fun hc ⟨g, h1, h2⟩ => ⟨g, h1, h2.grown hgr (fun h => hc.2.2 23 (by simp) (.inr (ZA.1 rfl)) 22 (by simp) (.inr (ZA.1 rfl)) (by simp) (by have h1' : val 23 = _ := h1; rw [h1', e22]; injection h with h; rw [h]))⟩) (fun _ _ h => h)))) j ⟨hj, hn, hA⟩
        ·
         intro val fl w1 a hb hfi ha hd hfl;obtain ⟨g23_, e23, hg23_, q23_⟩ := hd 23 (ZA.1 rfl);change val 23 = _ at e23;have e20 : val 20 = _ := hd 20 (ZA.1 rfl);have ha := ha.s2 (d := 99) (e := 19) rfl e20 rfl e23;refine ZY ha rfl rfl rfl (q23_ hfi) QAm rfl rfl rfl rfl ?_;intro w' hq hgr;refine ⟨undef, rfl, hgr.size, ZE hb hgr hg23_, ⟨g23_, e23, hq⟩, fun j _ hj hn hA => ?_⟩
         exact ZF (C := fun j => j ≠ 25 ∧ 25 ∉ clsAt [[], [], [1], [1, 2], [], [], [4, 5], [4, 5, 6], [], [], [8, 9], [8, 9, 10], [], [12], [8, 9, 10, 11, 12, 13], [1, 2, 3, 4, 5, 6, 7, 8, 9, 10, 11, 12, 13, 14], [], [0, 1, 2, 3, 4, 5, 6, 7, 8, 9, 10, 11, 12, 13, 14, 15, 16], [0, 1, 2, 3, 4, 5, 6, 7, 8, 9, 10, 11, 12, 13, 14, 15, 16, 17], [0, 1, 2, 3, 4, 5, 6, 7, 8, 9, 10, 11, 12, 13, 14, 15, 16, 17, 18], [0, 1, 2, 3, 4, 5, 6, 7, 8, 9, 10, 11, 12, 13, 14, 15, 16, 17, 18], [0, 1, 2, 3, 4, 5, 6, 7, 8, 9, 10, 11, 12, 13, 14, 15, 16, 17, 18], [], [], [0, 1, 2, 3, 4, 5, 6, 7, 8, 9, 10, 11, 12, 13, 14, 15, 16, 17, 18, 19, 22, 23], [0, 1, 2, 3, 4, 5, 6, 7, 8, 9, 10, 11, 12, 13, 14, 15, 16, 17, 18, 19, 20, 22, 23, 24], [0, 1, 2, 3, 4, 5, 6, 7, 8, 9, 10, 11, 12, 13, 14, 15, 16, 17, 18, 19, 20, 21, 22, 23, 24, 25]] j ∧ ∀ p ∈ [22, 23], (p = j ∨ p ∈ clsAt [[], [], [1], [1, 2], [], [], [4, 5], [4, 5, 6], [], [], [8, 9], [8, 9, 10], [], [12], [8, 9, 10, 11, 12, 13], [1, 2, 3, 4, 5, 6, 7, 8, 9, 10, 11, 12, 13, 14], [], [0, 1, 2, 3, 4, 5, 6, 7, 8, 9, 10, 11, 12, 13, 14, 15, 16], [0, 1, 2, 3, 4, 5, 6, 7, 8, 9, 10, 11, 12, 13, 14, 15, 16, 17], [0, 1, 2, 3, 4, 5, 6, 7, 8, 9, 10, 11, 12, 13, 14, 15, 16, 17, 18], [0, 1, 2, 3, 4, 5, 6, 7, 8, 9, 10, 11, 12, 13, 14, 15, 16, 17, 18], [0, 1, 2, 3, 4, 5, 6, 7, 8, 9, 10, 11, 12, 13, 14, 15, 16, 17, 18], [], [], [0, 1, 2, 3, 4, 5, 6, 7, 8, 9, 10, 11, 12, 13, 14, 15, 16, 17, 18, 19, 22, 23], [0, 1, 2, 3, 4, 5, 6, 7, 8, 9, 10, 11, 12, 13, 14, 15, 16, 17, 18, 19, 20, 22, 23, 24], [0, 1, 2, 3, 4, 5, 6, 7, 8, 9, 10, 11, 12, 13, 14, 15, 16, 17, 18, 19, 20, 21, 22, 23, 24, 25]] j) → ∀ q ∈ [22, 23], (q = 25 ∨ q ∈ clsAt [[], [], [1], [1, 2], [], [], [4, 5], [4, 5, 6], [], [], [8, 9], [8, 9, 10], [], [12], [8, 9, 10, 11, 12, 13], [1, 2, 3, 4, 5, 6, 7, 8, 9, 10, 11, 12, 13, 14], [], [0, 1, 2, 3, 4, 5, 6, 7, 8, 9, 10, 11, 12, 13, 14, 15, 16], [0, 1, 2, 3, 4, 5, 6, 7, 8, 9, 10, 11, 12, 13, 14, 15, 16, 17], [0, 1, 2, 3, 4, 5, 6, 7, 8, 9, 10, 11, 12, 13, 14, 15, 16, 17, 18], [0, 1, 2, 3, 4, 5, 6, 7, 8, 9, 10, 11, 12, 13, 14, 15, 16, 17, 18], [0, 1, 2, 3, 4, 5, 6, 7, 8, 9, 10, 11, 12, 13, 14, 15, 16, 17, 18], [], [], [0, 1, 2, 3, 4, 5, 6, 7, 8, 9, 10, 11, 12, 13, 14, 15, 16, 17, 18, 19, 22, 23], [0, 1, 2, 3, 4, 5, 6, 7, 8, 9, 10, 11, 12, 13, 14, 15, 16, 17, 18, 19, 20, 22, 23, 24], [0, 1, 2, 3, 4, 5, 6, 7, 8, 9, 10, 11, 12, 13, 14, 15, 16, 17, 18, 19, 20, 21, 22, 23, 24, 25]] 25) → p ≠ q → val p ≠ val q) (fun hc ⟨g, h1, h2, h3⟩ => ⟨g, h1, h2, fun h => (h3 (by rwa [Z2 rfl] at h)).grown hgr (fun h => hc.2.2 22 (by simp) (.inl rfl) 23 (by simp) (.inr (ZA.1 rfl)) (by simp) (by have h1' : val 22 = _ := h1; rw [h1', e23]; injection h with h; rw [h]))⟩) (ZF (fun _ ⟨g, h1, h2, _⟩ => ⟨g, h1, h2, fun h => by rw [ZR] at h; cases h⟩) (ZF (fun hc ⟨g, h1, h2⟩ => ⟨g, h1, h2.grown hgr (fun h => hc.2.2 22 (by simp) (.inr (ZA.1 rfl)) 23 (by simp) (.inr (ZA.1 rfl)) (by simp) (by have h1' : val 22 = _ := h1; rw [h1', e23]; injection h with h; rw [h]))⟩) (ZF (fun hc => absurd rfl hc.1) (fun _ _ h => h)))) j ⟨hj, hn, hA⟩
       ·intro val fl wR21 hfl hb halc hd
        have e0 : val 0 = _ := hd 0 (by omega)
        have e1 : val 1 = _ := hd 1 (by omega)
        have e2 : val 2 = _ := hd 2 (by omega)
        have e3 : val 3 = _ := hd 3 (by omega)
        have e4 : val 4 = _ := hd 4 (by omega)
        have e5 : val 5 = _ := hd 5 (by omega)
        have e6 : val 6 = _ := hd 6 (by omega)
        have e7 : val 7 = _ := hd 7 (by omega)
        have e8 : val 8 = _ := hd 8 (by omega)
        have e9 : val 9 = _ := hd 9 (by omega)
        have e10 : val 10 = _ := hd 10 (by omega)
        have e11 : val 11 = _ := hd 11 (by omega)
        have e12 : val 12 = _ := hd 12 (by omega)
        have e13 : val 13 = _ := hd 13 (by omega)
        have e14 : val 14 = _ := hd 14 (by omega)
        have e15 : val 15 = _ := hd 15 (by omega)
        have e16 : val 16 = _ := hd 16 (by omega)
        have e17 : val 17 = _ := hd 17 (by omega)
        have e18 : val 18 = _ := hd 18 (by omega)
        have e19 : val 19 = _ := hd 19 (by omega)
        have e20 : val 20 = _ := hd 20 (by omega)
        have e21 : val 21 = _ := hd 21 (by omega)
        obtain ⟨ga22_21, e22, qa22_21⟩ := hd 24 (by omega)
        change val 22 = _ at e22;obtain ⟨ga23_21, e23, qa23_21⟩ := hd 25 (by omega)
        change val 23 = _ at e23;refine EL.ends (cs := [_, _, _, _, _, _, _, _, _, _, _, _, _, _, _, _, _, _, _, _, _, _, _, _, val 24, val 25]) ⟨e0, e1, e2, e3, e4, e5, e6, e7, e8, e9, e10, e11, e12, e13, e14, e15, e16, e17, e18, e19, e20, e21, e22, e23, rfl, rfl, trivial⟩ rfl ?_;replace qs6 := qs6.bl hb;replace qs10 := qs10.bl hb;replace q23 := q23.bl hb;replace hq0 := ZB hq0 hb (Nat.le_refl _);replace hq1 := ZB hq1 hb (Nat.le_refl _);replace hrn := ZB hrn hb (Nat.le_refl _);have bge32 := Yc halc (i := 22) rfl rfl e22;have n2_32 : g2 ≠ ga22_21 := Nat.ne_of_lt (Nat.lt_of_lt_of_le lt_2 bge32);have n5_32 : g5 ≠ ga22_21 := Nat.ne_of_lt (Nat.lt_of_lt_of_le lt_5 bge32);have n23_32 : g23 ≠ ga22_21 := Nat.ne_of_lt (Nat.lt_of_lt_of_le lt_23 bge32);have bhbw_32 := Nat.le_trans hbw.size bge32;have bge33 := Yc halc (i := 23) rfl rfl e23;have n2_33 : g2 ≠ ga23_21 := Nat.ne_of_lt (Nat.lt_of_lt_of_le lt_2 bge33);have n5_33 : g5 ≠ ga23_21 := Nat.ne_of_lt (Nat.lt_of_lt_of_le lt_5 bge33);have n23_33 : g23 ≠ ga23_21 := Nat.ne_of_lt (Nat.lt_of_lt_of_le lt_23 bge33);have n32_33 : ga22_21 ≠ ga23_21 := QBe halc (i := 22) (j := 23) rfl rfl rfl rfl rfl e22 e23;have bhbw_33 := Nat.le_trans hbw.size bge33;replace hbw := bo_ hbw hb;have hnr : ∀ b, (.slice Ar k cr : Value).ownBlock = some b → b ≠ ga23_21 := fun b hb => Nat.ne_of_lt (Nat.lt_of_lt_of_le (hrl b hb).2 bge33)
        clear hrl;refine EL.as rfl rfl (EL.nil (EX.seq (EC.seq (EC.seq (EC.region (EL.mv rfl rfl (EL.val (ZX rfl) rfl (EL.nil (EX.seq ?_)))))))));refine EC.yes rfl (EC.seq (EC.region (EL.val (Z8 rfl (qs6.at (j := 0) rfl) (qs6.at (j := 1) rfl) (qs6.at (j := 2) rfl) (qs6.at (j := 3) rfl) (qs6.at (j := 4) rfl) (qs6.at (j := 5) rfl) (qs6.at (j := 6) rfl) (qs6.at (j := 7) rfl) (qs6.at (j := 8) rfl) (qs6.at (j := 9) rfl) (qs6.at (j := 10) rfl) (qs6.at (j := 11) rfl) (qs6.at (j := 12) rfl) (qs6.at (j := 13) rfl) (qs6.at (j := 14) rfl)) rfl (EL.store rfl rfl qs6 Z5 rfl rfl rfl rfl ?_))));intro w34 hq34 hg34;replace qs10 := qs10.gr hg34 n2_5.symm;replace q23 := q23.gr hg34 n2_23.symm;replace qa22_21 := qa22_21.gr hg34 n2_32.symm;replace qa23_21 := qa23_21.gr hg34 n2_33.symm;replace hq0 := ZG hq0 qs6 rfl hg34;replace hq1 := ZG hq1 qs6 rfl hg34;replace hrn := ZG hrn qs6 rfl hg34;replace hbw := ZE hbw hg34 bhbw_2;replace qs6 := hq34;clear hg34 hq34;refine EL.as rfl rfl (EL.as rfl rfl (EL.nil (EX.seq (EC.ret (EX.seq_ret (EX.blk_ret (EX.seq_ret (EX.seq_ret (EX.blk_ret ?_)))))))));refine EX.seq_ret ?_
        exact EX.done (QB_ rfl rfl rfl rfl (QAF (qs6.at (j := 0) rfl) (qs6.at (j := 1) rfl) (qs6.at (j := 2) rfl) (qs6.at (j := 3) rfl) (qs6.at (j := 4) rfl) (qs6.at (j := 5) rfl) (qs6.at (j := 6) rfl) (qs6.at (j := 7) rfl) (qs6.at (j := 8) rfl) (qs6.at (j := 9) rfl) (qs6.at (j := 10) rfl) (qs6.at (j := 11) rfl) (qs6.at (j := 12) rfl) (qs6.at (j := 13) rfl) (qs6.at (j := 14) rfl))) ⟨sAt l q p k, _, by rw [QCv ht (by rw [← hqe]; exact hoc) (by rw [← hqe]; exact QDn hltk hf)]; rfl, fun he => absurd he (by rw [QCv ht (by rw [← hqe]; exact hoc) (by rw [← hqe]; exact QDn hltk hf)]; decide), hbw⟩
      ·
       obtain ⟨gq, cq_, eq_⟩ := Z6 hq1 (show 0 < (q true).length by omega)
       injection eq_ with eA_ _ eC_
       subst eA_ eC_;have hcap := QCY hq1;obtain ⟨_, hre, _⟩ := QBG (A' := some ⟨gq, 0 + (sAt l q p k).t1 * 5, none⟩) hq1 (lo := (sAt l q p k).t1) hle (by unfold QDC; simp only [Option.map_some]; rw [if_neg (by omega)]) rfl
       have htk := Y_ hre (k := n) (by omega)
       rw [← Ym] at htk;have hrl := hrn.lt;have lt_2 := qs6.lt;have lt_5 := qs10.lt;have lt_23 := q23.lt;refine EC.regionS [[], [], [1], [1, 2], [], [], [4, 5], [4, 5, 6], [], [], [8, 9], [8, 9, 10], [], [12], [8, 9, 10, 11, 12, 13], [1, 2, 3, 4, 5, 6, 7, 8, 9, 10, 11, 12, 13, 14], [], [0, 1, 2, 3, 4, 5, 6, 7, 8, 9, 10, 11, 12, 13, 14, 15, 16], [0, 1, 2, 3, 4, 5, 6, 7, 8, 9, 10, 11, 12, 13, 14, 15, 16, 17], [0, 1, 2, 3, 4, 5, 6, 7, 8, 9, 10, 11, 12, 13, 14, 15, 16, 17, 18], [0, 1, 2, 3, 4, 5, 6, 7, 8, 9, 10, 11, 12, 13, 14, 15, 16, 17, 18], [0, 1, 2, 3, 4, 5, 6, 7, 8, 9, 10, 11, 12, 13, 14, 15, 16, 17, 18], [], [], [0, 1, 2, 3, 4, 5, 6, 7, 8, 9, 10, 11, 12, 13, 14, 15, 16, 17, 18, 19, 22, 23], [0, 1, 2, 3, 4, 5, 6, 7, 8, 9, 10, 11, 12, 13, 14, 15, 16, 17, 18, 19, 20, 22, 23, 24], [0, 1, 2, 3, 4, 5, 6, 7, 8, 9, 10, 11, 12, 13, 14, 15, 16, 17, 18, 19, 20, 21, 22, 23, 24, 25]] 26 [22, 23] [24, 25] (fun _ w_ => Below w25.heap.size w25 w_) (phiS (fun i_ r => match i_ with | 0 => r 0 = (stA (sAt l q p k)) | 1 => r 1 = .int .i64 (wyB true) | 2 => r 2 = .pointer (some ⟨g5, 0 + 1, none⟩) | 3 => r 3 = .slice (some ⟨gq, 0, none⟩) (q true).length c1 | 4 => r 4 = .int .i64 (wyB true) | 5 => r 5 = .pointer (some ⟨g2, 12, none⟩) | 6 => r 6 = .pointer (some ⟨g2, 12 + 1, none⟩) | 7 => r 7 = .int .i64 ((sAt l q p k).t1 : Nat) | 8 => r 8 = .int .i64 (wyB true) | 9 => r 9 = .pointer (some ⟨g2, 12, none⟩) | 10 => r 10 = .pointer (some ⟨g2, 12 + 1, none⟩) | 11 => r 11 = .int .i64 ((sAt l q p k).t1 : Nat) | 12 => r 12 = .pointer (some ⟨g23, 1, none⟩) | 13 => r 13 = .int .i64 (n : Nat) | 14 => r 14 = .int .i64 (((sAt l q p k).t1 + n) : Nat) | 15 => r 15 = .slice (some ⟨gq, 0 + (sAt l q p k).t1 * 5, none⟩) ((sAt l q p k).t1 + n - (sAt l q p k).t1) (c1 - (sAt l q p k).t1) | 16 => r 16 = .int .i64 (wyB true) | 17 => r 17 = .tuple #[(stA (tkS (sAt l q p k) ((waitL q (sAt l q p k) true).take n) true)), .agg #[.int .i64 (runT (sAt l q p k) ((waitL q (sAt l q p k) true).take n) true).start, .int .i64 (runT (sAt l q p k) ((waitL q (sAt l q p k) true).take n) true).stop], .bool true] | 18 => r 18 = .tuple #[(stA (tkS (sAt l q p k) ((waitL q (sAt l q p k) true).take n) true)), .agg #[.int .i64 (runT (sAt l q p k) ((waitL q (sAt l q p k) true).take n) true).start, .int .i64 (runT (sAt l q p k) ((waitL q (sAt l q p k) true).take n) true).stop], .bool true] | 19 => r 19 = (stA (tkS (sAt l q p k) ((waitL q (sAt l q p k) true).take n) true)) | 20 => r 20 = .agg #[.int .i64 (runT (sAt l q p k) ((waitL q (sAt l q p k) true).take n) true).start, .int .i64 (runT (sAt l q p k) ((waitL q (sAt l q p k) true).take n) true).stop] | 21 => r 21 = .bool true | _ => True) [(22, fun fl r w_ => ∃ g_, r 22 = .pointer (some ⟨g_, 0, none⟩) ∧ w25.heap.size ≤ g_ ∧ (fl 24 = false → Blk w_ g_ 114 #[.int .i64 0, .int .i64 0, .int .i64 0, .int .i64 0, .int .i64 0, .bool false, .int .i64 0, .int .i64 0, .int .i64 0, .int .i64 0, .int .i64 0, .int .i64 0, .int .i64 0, .int .i64 0, .int .i64 0])), (23, fun fl r w_ => ∃ g_, r 23 = .pointer (some ⟨g_, 0, none⟩) ∧ w25.heap.size ≤ g_ ∧ (fl 25 = false → Blk w_ g_ 49 #[.int .i64 0, .int .i64 0])), (24, fun _ r w_ => ∃ g_, r 22 = .pointer (some ⟨g_, 0, none⟩) ∧ Blk w_ g_ 114 (stB (tkS (sAt l q p k) ((waitL q (sAt l q p k) true).take n) true))), (25, fun _ r w_ => ∃ g_, r 23 = .pointer (some ⟨g_, 0, none⟩) ∧ Blk w_ g_ 49 #[.int .i64 (runT (sAt l q p k) ((waitL q (sAt l q p k) true).take n) true).start, .int .i64 (runT (sAt l q p k) ((waitL q (sAt l q p k) true).take n) true).stop])]) (by kernel_rfl) rfl rfl (by intro i hi; simp at hi; first | (subst hi; exact ⟨by simp, by omega⟩) | (rcases hi with rfl | rfl | rfl <;> exact ⟨by simp, by omega⟩) | (rcases hi with rfl | rfl <;> exact ⟨by simp, by omega⟩)) (YZ w25) (ZL Zi (ZL Zi (ZL Zh (ZL Zh (Zd))))) (fun i_ hi_ hs_ => ?_) (fun i_ hi_ => ?_) ?_
       ·match i_, hi_ with
        | 0, _ =>
         intro val fl w1 a hb ha hd hfl;have ha := ha.s0 (d := 6) rfl
         exact ZD ha rfl rfl (Z8 rfl ((qs6.below hb qs6.lt).at (j := 0) rfl) ((qs6.below hb qs6.lt).at (j := 1) rfl) ((qs6.below hb qs6.lt).at (j := 2) rfl) ((qs6.below hb qs6.lt).at (j := 3) rfl) ((qs6.below hb qs6.lt).at (j := 4) rfl) ((qs6.below hb qs6.lt).at (j := 5) rfl) ((qs6.below hb qs6.lt).at (j := 6) rfl) ((qs6.below hb qs6.lt).at (j := 7) rfl) ((qs6.below hb qs6.lt).at (j := 8) rfl) ((qs6.below hb qs6.lt).at (j := 9) rfl) ((qs6.below hb qs6.lt).at (j := 10) rfl) ((qs6.below hb qs6.lt).at (j := 11) rfl) ((qs6.below hb qs6.lt).at (j := 12) rfl) ((qs6.below hb qs6.lt).at (j := 13) rfl) ((qs6.below hb qs6.lt).at (j := 14) rfl)) rfl rfl
        | 1, _ =>
         intro val fl w1 a hb ha hd hfl;have ha := ha.s0 (d := 17) rfl
         exact ZD ha rfl rfl (x_move rfl) rfl rfl
        | 2, _ =>
         intro val fl w1 a hb ha hd hfl;have e1 : val 1 = _ := hd 1 (ZA.1 rfl);have ha := ha.sub (Sub.ins (d := 81) (Sub.ins (d := 10) (Sub.nil _) rfl) (ZQ rfl e1))
         exact ZD ha rfl rfl (YD (k := 1) rfl rfl (by omega)) rfl rfl
        | 3, _ =>
         intro val fl w1 a hb ha hd hfl;have e2 : val 2 = _ := hd 2 (ZA.1 rfl);have ha := ha.s1 (d := 82) rfl e2
         exact ZD ha rfl rfl (QAI rfl ((qs10.below hb qs10.lt).at (j := 1) rfl)) rfl rfl
        | 4, _ =>
         intro val fl w1 a hb ha hd hfl;have ha := ha.s0 (d := 17) rfl
         exact ZD ha rfl rfl (x_move rfl) rfl rfl
        | 5, _ =>
         intro val fl w1 a hb ha hd hfl;have ha := ha.s0 (d := 6) rfl
         exact ZD ha rfl rfl (Zp rfl) rfl rfl
        | 6, _ =>
         intro val fl w1 a hb ha hd hfl;have e5 : val 5 = _ := hd 5 (ZA.1 rfl);have e4 : val 4 = _ := hd 4 (ZA.1 rfl);have ha := ha.s2 (d := 84) (e := 85) rfl e4 rfl e5
         exact ZD ha rfl rfl (Zj (k := 1) rfl rfl (by omega)) rfl rfl
        | 7, _ =>
         intro val fl w1 a hb ha hd hfl;have e6 : val 6 = _ := hd 6 (ZA.1 rfl);have ha := ha.s1 (d := 86) rfl e6
         exact ZD ha rfl rfl (ld_3 rfl ((qs6.below hb qs6.lt).at (j := 13) rfl)) rfl rfl
        | 8, _ =>
         intro val fl w1 a hb ha hd hfl;have ha := ha.s0 (d := 17) rfl
         exact ZD ha rfl rfl (x_move rfl) rfl rfl
        | 9, _ =>
         intro val fl w1 a hb ha hd hfl;have ha := ha.s0 (d := 6) rfl
         exact ZD ha rfl rfl (Zp rfl) rfl rfl
        | 10, _ =>
         intro val fl w1 a hb ha hd hfl;have e9 : val 9 = _ := hd 9 (ZA.1 rfl);have e8 : val 8 = _ := hd 8 (ZA.1 rfl);have ha := ha.s2 (d := 88) (e := 89) rfl e8 rfl e9
         exact ZD ha rfl rfl (Zj (k := 1) rfl rfl (by omega)) rfl rfl
        | 11, _ =>
         intro val fl w1 a hb ha hd hfl;have e10 : val 10 = _ := hd 10 (ZA.1 rfl);have ha := ha.s1 (d := 90) rfl e10
         exact ZD ha rfl rfl (ld_3 rfl ((qs6.below hb qs6.lt).at (j := 13) rfl)) rfl rfl
        | 12, _ =>
         intro val fl w1 a hb ha hd hfl;have ha := ha.s0 (d := 16) rfl
         exact ZD ha rfl rfl (Y7 rfl) rfl rfl
        | 13, _ =>
         intro val fl w1 a hb ha hd hfl;have e12 : val 12 = _ := hd 12 (ZA.1 rfl);have ha := ha.s1 (d := 92) rfl e12
         exact ZD ha rfl rfl (ld_3 rfl ((q23.below hb q23.lt).at (j := 1) rfl)) rfl rfl
        | 14, _ =>
         intro val fl w1 a hb ha hd hfl;have e11 : val 11 = _ := hd 11 (ZA.1 rfl);have e13 : val 13 = _ := hd 13 (ZA.1 rfl);have ha := ha.s2 (d := 93) (e := 91) rfl e13 rfl e11
         exact ZD ha rfl rfl (x_add rfl rfl (c := (((sAt l q p k).t1 + n : Nat) : Int)) ((IntWalk.i64_in _ ⟨by omega, by omega⟩).trans (by omega))) rfl rfl
        | 15, _ =>
         intro val fl w1 a hb ha hd hfl;have e3 : val 3 = _ := hd 3 (ZA.1 rfl);have e7 : val 7 = _ := hd 7 (ZA.1 rfl);have e14 : val 14 = _ := hd 14 (ZA.1 rfl);have ha := ha.sub (Sub.ins (d := 94) (Sub.ins (d := 87) (Sub.ins (d := 83) (Sub.nil _) (ZQ rfl e3)) (ZQ rfl e7)) (ZQ rfl e14))
         exact ZD ha rfl rfl (QHa rfl rfl rfl (by omega) (by omega) (if_neg (by omega))) rfl rfl
        | 16, _ =>
         intro val fl w1 a hb ha hd hfl;have ha := ha.s0 (d := 17) rfl
         exact ZD ha rfl rfl (x_move rfl) rfl rfl
        | 17, _ =>
         intro val fl w1 a hb ha hd hfl;have e0 : val 0 = _ := hd 0 (ZA.1 rfl);have e15 : val 15 = _ := hd 15 (ZA.1 rfl);have e16 : val 16 = _ := hd 16 (ZA.1 rfl);have ha := ha.sub (Sub.ins (d := 96) (Sub.ins (d := 95) (Sub.ins (d := 80) (Sub.nil _) (ZQ rfl e0)) (ZQ rfl e15)) (ZQ rfl e16));refine Yb ha rfl rfl (cA3 cF57 rfl rfl rfl) (QCP hdk.st (Yr (d := ⟨sAt l q p k, p.take k⟩) (u := true) (n := n) hqk) (by rw [Zk (d := ⟨sAt l q p k, p.take k⟩) hwn]; exact hsum) (by rw [Zk (d := ⟨sAt l q p k, p.take k⟩) hwn, show (sAt l q p k).t1 + n - (sAt l q p k).t1 = n by omega]; exact (htk.below (hb.mono (Nat.le_refl _)))) hb.size (by have := hf; unfold QBE at this; rw [htwa] at this; exact this)) rfl ?_
         rintro e w' ⟨rfl, hb'⟩
         exact ⟨_, rfl, hb', rfl⟩
        | 18, _ =>
         intro val fl w1 a hb ha hd hfl;have e17 : val 17 = _ := hd 17 (ZA.1 rfl);have ha := ha.s1 (d := 97) rfl e17
         exact ZD ha rfl rfl (x_move rfl) rfl rfl
        | 19, _ =>
         intro val fl w1 a hb ha hd hfl;have e18 : val 18 = _ := hd 18 (ZA.1 rfl);have ha := ha.s1 (d := 79) rfl e18
         exact ZD ha rfl rfl (ZP rfl rfl) rfl rfl
        | 20, _ =>
         intro val fl w1 a hb ha hd hfl;have e18 : val 18 = _ := hd 18 (ZA.1 rfl);have ha := ha.s1 (d := 79) rfl e18
         exact ZD ha rfl rfl (ZP rfl rfl) rfl rfl
        | 21, _ =>
         intro val fl w1 a hb ha hd hfl;have e18 : val 18 = _ := hd 18 (ZA.1 rfl);have ha := ha.s1 (d := 79) rfl e18
         exact ZD ha rfl rfl (ZP rfl rfl) rfl rfl
        | 22, _ =>
         intro val fl w1 a hb ha hd hfl;have ha := ha.sub (Sub.nil _)
         exact YG ha rfl rfl QAG (fun g w' hq _ hge => ⟨g, rfl, Nat.le_trans hb.size hge, fun _ => hq⟩)
        | 23, _ =>
         intro val fl w1 a hb ha hd hfl;have ha := ha.sub (Sub.nil _)
         exact YG ha rfl rfl QCz (fun g w' hq _ hge => ⟨g, rfl, Nat.le_trans hb.size hge, fun _ => hq⟩)
        | 24, _ =>
         exact absurd (by simp) hs_
        | 25, _ =>
         exact absurd (by simp) hs_
        | k + 26, h => exact absurd h (by omega)
       ·simp only [List.mem_cons, List.not_mem_nil, or_false] at hi_; rcases hi_ with rfl | rfl
        ·
         intro val fl w1 a hb hfi ha hd hfl;obtain ⟨g22_, e22, hg22_, q22_⟩ := hd 22 (ZA.1 rfl);change val 22 = _ at e22;have e19 : val 19 = _ := hd 19 (ZA.1 rfl);have ha := ha.s2 (d := 98) (e := 18) rfl e19 rfl e22;refine ZY ha rfl rfl rfl (q22_ hfi) Z5 rfl rfl rfl rfl ?_;intro w' hq hgr;refine ⟨undef, rfl, hgr.size, ZE hb hgr hg22_, ⟨g22_, e22, hq⟩, fun j _ hj hn hA => ?_⟩
         exact ZF (C := fun j => j ≠ 24 ∧ 24 ∉ clsAt [[], [], [1], [1, 2], [], [], [4, 5], [4, 5, 6], [], [], [8, 9], [8, 9, 10], [], [12], [8, 9, 10, 11, 12, 13], [1, 2, 3, 4, 5, 6, 7, 8, 9, 10, 11, 12, 13, 14], [], [0, 1, 2, 3, 4, 5, 6, 7, 8, 9, 10, 11, 12, 13, 14, 15, 16], [0, 1, 2, 3, 4, 5, 6, 7, 8, 9, 10, 11, 12, 13, 14, 15, 16, 17], [0, 1, 2, 3, 4, 5, 6, 7, 8, 9, 10, 11, 12, 13, 14, 15, 16, 17, 18], [0, 1, 2, 3, 4, 5, 6, 7, 8, 9, 10, 11, 12, 13, 14, 15, 16, 17, 18], [0, 1, 2, 3, 4, 5, 6, 7, 8, 9, 10, 11, 12, 13, 14, 15, 16, 17, 18], [], [], [0, 1, 2, 3, 4, 5, 6, 7, 8, 9, 10, 11, 12, 13, 14, 15, 16, 17, 18, 19, 22, 23], [0, 1, 2, 3, 4, 5, 6, 7, 8, 9, 10, 11, 12, 13, 14, 15, 16, 17, 18, 19, 20, 22, 23, 24], [0, 1, 2, 3, 4, 5, 6, 7, 8, 9, 10, 11, 12, 13, 14, 15, 16, 17, 18, 19, 20, 21, 22, 23, 24, 25]] j ∧ ∀ p ∈ [22, 23], (p = j ∨ p ∈ clsAt [[], [], [1], [1, 2], [], [], [4, 5], [4, 5, 6], [], [], [8, 9], [8, 9, 10], [], [12], [8, 9, 10, 11, 12, 13], [1, 2, 3, 4, 5, 6, 7, 8, 9, 10, 11, 12, 13, 14], [], [0, 1, 2, 3, 4, 5, 6, 7, 8, 9, 10, 11, 12, 13, 14, 15, 16], [0, 1, 2, 3, 4, 5, 6, 7, 8, 9, 10, 11, 12, 13, 14, 15, 16, 17], [0, 1, 2, 3, 4, 5, 6, 7, 8, 9, 10, 11, 12, 13, 14, 15, 16, 17, 18], [0, 1, 2, 3, 4, 5, 6, 7, 8, 9, 10, 11, 12, 13, 14, 15, 16, 17, 18], [0, 1, 2, 3, 4, 5, 6, 7, 8, 9, 10, 11, 12, 13, 14, 15, 16, 17, 18], [], [], [0, 1, 2, 3, 4, 5, 6, 7, 8, 9, 10, 11, 12, 13, 14, 15, 16, 17, 18, 19, 22, 23], [0, 1, 2, 3, 4, 5, 6, 7, 8, 9, 10, 11, 12, 13, 14, 15, 16, 17, 18, 19, 20, 22, 23, 24], [0, 1, 2, 3, 4, 5, 6, 7, 8, 9, 10, 11, 12, 13, 14, 15, 16, 17, 18, 19, 20, 21, 22, 23, 24, 25]] j) → ∀ q ∈ [22, 23], (q = 24 ∨ q ∈ clsAt [[], [], [1], [1, 2], [], [], [4, 5], [4, 5, 6], [], [], [8, 9], [8, 9, 10], [], [12], [8, 9, 10, 11, 12, 13], [1, 2, 3, 4, 5, 6, 7, 8, 9, 10, 11, 12, 13, 14], [], [0, 1, 2, 3, 4, 5, 6, 7, 8, 9, 10, 11, 12, 13, 14, 15, 16], [0, 1, 2, 3, 4, 5, 6, 7, 8, 9, 10, 11, 12, 13, 14, 15, 16, 17], [0, 1, 2, 3, 4, 5, 6, 7, 8, 9, 10, 11, 12, 13, 14, 15, 16, 17, 18], [0, 1, 2, 3, 4, 5, 6, 7, 8, 9, 10, 11, 12, 13, 14, 15, 16, 17, 18], [0, 1, 2, 3, 4, 5, 6, 7, 8, 9, 10, 11, 12, 13, 14, 15, 16, 17, 18], [], [], [0, 1, 2, 3, 4, 5, 6, 7, 8, 9, 10, 11, 12, 13, 14, 15, 16, 17, 18, 19, 22, 23], [0, 1, 2, 3, 4, 5, 6, 7, 8, 9, 10, 11, 12, 13, 14, 15, 16, 17, 18, 19, 20, 22, 23, 24], [0, 1, 2, 3, 4, 5, 6, 7, 8, 9, 10, 11, 12, 13, 14, 15, 16, 17, 18, 19, 20, 21, 22, 23, 24, 25]] 24) → p ≠ q → val p ≠ val q) (fun _ ⟨g, h1, h2, _⟩ => ⟨g, h1, h2, fun h => by rw [ZR] at h; cases h⟩) (ZF (fun hc ⟨g, h1, h2, h3⟩ => ⟨g, h1, h2, fun h => (h3 (by rwa [Z2 rfl] at h)).grown hgr (fun h => hc.2.2 23 (by simp) (.inl rfl) 22 (by simp) (.inr (ZA.1 rfl)) (by simp) (by have h1' : val 23 = _ := h1; rw [h1', e22]; injection h with h; rw [h]))⟩) (ZF (fun hc => absurd rfl hc.1) (ZF (fun hc ⟨g, h1, h2⟩ => ⟨g, h1, h2.grown hgr (fun h => hc.2.2 23 (by simp) (.inr (ZA.1 rfl)) 22 (by simp) (.inr (ZA.1 rfl)) (by simp) (by have h1' : val 23 = _ := h1; rw [h1', e22]; injection h with h; rw [h]))⟩) (fun _ _ h => h)))) j ⟨hj, hn, hA⟩
        ·
         intro val fl w1 a hb hfi ha hd hfl;obtain ⟨g23_, e23, hg23_, q23_⟩ := hd 23 (ZA.1 rfl);change val 23 = _ at e23;have e20 : val 20 = _ := hd 20 (ZA.1 rfl);have ha := ha.s2 (d := 99) (e := 19) rfl e20 rfl e23;refine ZY ha rfl rfl rfl (q23_ hfi) QAm rfl rfl rfl rfl ?_;intro w' hq hgr;refine ⟨undef, rfl, hgr.size, ZE hb hgr hg23_, ⟨g23_, e23, hq⟩, fun j _ hj hn hA => ?_⟩
         exact ZF (C := fun j => j ≠ 25 ∧ 25 ∉ clsAt [[], [], [1], [1, 2], [], [], [4, 5], [4, 5, 6], [], [], [8, 9], [8, 9, 10], [], [12], [8, 9, 10, 11, 12, 13], [1, 2, 3, 4, 5, 6, 7, 8, 9, 10, 11, 12, 13, 14], [], [0, 1, 2, 3, 4, 5, 6, 7, 8, 9, 10, 11, 12, 13, 14, 15, 16], [0, 1, 2, 3, 4, 5, 6, 7, 8, 9, 10, 11, 12, 13, 14, 15, 16, 17], [0, 1, 2, 3, 4, 5, 6, 7, 8, 9, 10, 11, 12, 13, 14, 15, 16, 17, 18], [0, 1, 2, 3, 4, 5, 6, 7, 8, 9, 10, 11, 12, 13, 14, 15, 16, 17, 18], [0, 1, 2, 3, 4, 5, 6, 7, 8, 9, 10, 11, 12, 13, 14, 15, 16, 17, 18], [], [], [0, 1, 2, 3, 4, 5, 6, 7, 8, 9, 10, 11, 12, 13, 14, 15, 16, 17, 18, 19, 22, 23], [0, 1, 2, 3, 4, 5, 6, 7, 8, 9, 10, 11, 12, 13, 14, 15, 16, 17, 18, 19, 20, 22, 23, 24], [0, 1, 2, 3, 4, 5, 6, 7, 8, 9, 10, 11, 12, 13, 14, 15, 16, 17, 18, 19, 20, 21, 22, 23, 24, 25]] j ∧ ∀ p ∈ [22, 23], (p = j ∨ p ∈ clsAt [[], [], [1], [1, 2], [], [], [4, 5], [4, 5, 6], [], [], [8, 9], [8, 9, 10], [], [12], [8, 9, 10, 11, 12, 13], [1, 2, 3, 4, 5, 6, 7, 8, 9, 10, 11, 12, 13, 14], [], [0, 1, 2, 3, 4, 5, 6, 7, 8, 9, 10, 11, 12, 13, 14, 15, 16], [0, 1, 2, 3, 4, 5, 6, 7, 8, 9, 10, 11, 12, 13, 14, 15, 16, 17], [0, 1, 2, 3, 4, 5, 6, 7, 8, 9, 10, 11, 12, 13, 14, 15, 16, 17, 18], [0, 1, 2, 3, 4, 5, 6, 7, 8, 9, 10, 11, 12, 13, 14, 15, 16, 17, 18], [0, 1, 2, 3, 4, 5, 6, 7, 8, 9, 10, 11, 12, 13, 14, 15, 16, 17, 18], [], [], [0, 1, 2, 3, 4, 5, 6, 7, 8, 9, 10, 11, 12, 13, 14, 15, 16, 17, 18, 19, 22, 23], [0, 1, 2, 3, 4, 5, 6, 7, 8, 9, 10, 11, 12, 13, 14, 15, 16, 17, 18, 19, 20, 22, 23, 24], [0, 1, 2, 3, 4, 5, 6, 7, 8, 9, 10, 11, 12, 13, 14, 15, 16, 17, 18, 19, 20, 21, 22, 23, 24, 25]] j) → ∀ q ∈ [22, 23], (q = 25 ∨ q ∈ clsAt [[], [], [1], [1, 2], [], [], [4, 5], [4, 5, 6], [], [], [8, 9], [8, 9, 10], [], [12], [8, 9, 10, 11, 12, 13], [1, 2, 3, 4, 5, 6, 7, 8, 9, 10, 11, 12, 13, 14], [], [0, 1, 2, 3, 4, 5, 6, 7, 8, 9, 10, 11, 12, 13, 14, 15, 16], [0, 1, 2, 3, 4, 5, 6, 7, 8, 9, 10, 11, 12, 13, 14, 15, 16, 17], [0, 1, 2, 3, 4, 5, 6, 7, 8, 9, 10, 11, 12, 13, 14, 15, 16, 17, 18], [0, 1, 2, 3, 4, 5, 6, 7, 8, 9, 10, 11, 12, 13, 14, 15, 16, 17, 18], [0, 1, 2, 3, 4, 5, 6, 7, 8, 9, 10, 11, 12, 13, 14, 15, 16, 17, 18], [], [], [0, 1, 2, 3, 4, 5, 6, 7, 8, 9, 10, 11, 12, 13, 14, 15, 16, 17, 18, 19, 22, 23], [0, 1, 2, 3, 4, 5, 6, 7, 8, 9, 10, 11, 12, 13, 14, 15, 16, 17, 18, 19, 20, 22, 23, 24], [0, 1, 2, 3, 4, 5, 6, 7, 8, 9, 10, 11, 12, 13, 14, 15, 16, 17, 18, 19, 20, 21, 22, 23, 24, 25]] 25) → p ≠ q → val p ≠ val q) (fun hc ⟨g, h1, h2, h3⟩ => ⟨g, h1, h2, fun h => (h3 (by rwa [Z2 rfl] at h)).grown hgr (fun h => hc.2.2 22 (by simp) (.inl rfl) 23 (by simp) (.inr (ZA.1 rfl)) (by simp) (by have h1' : val 22 = _ := h1; rw [h1', e23]; injection h with h; rw [h]))⟩) (ZF (fun _ ⟨g, h1, h2, _⟩ => ⟨g, h1, h2, fun h => by rw [ZR] at h; cases h⟩) (ZF (fun hc ⟨g, h1, h2⟩ => ⟨g, h1, h2.grown hgr (fun h => hc.2.2 22 (by simp) (.inr (ZA.1 rfl)) 23 (by simp) (.inr (ZA.1 rfl)) (by simp) (by have h1' : val 22 = _ := h1; rw [h1', e23]; injection h with h; rw [h]))⟩) (ZF (fun hc => absurd rfl hc.1) (fun _ _ h => h)))) j ⟨hj, hn, hA⟩
       ·intro val fl wR21 hfl hb halc hd
        have e0 : val 0 = _ := hd 0 (by omega)
        have e1 : val 1 = _ := hd 1 (by omega)
        have e2 : val 2 = _ := hd 2 (by omega)
        have e3 : val 3 = _ := hd 3 (by omega)
        have e4 : val 4 = _ := hd 4 (by omega)
        have e5 : val 5 = _ := hd 5 (by omega)
        have e6 : val 6 = _ := hd 6 (by omega)
        have e7 : val 7 = _ := hd 7 (by omega)
        have e8 : val 8 = _ := hd 8 (by omega)
        have e9 : val 9 = _ := hd 9 (by omega)
        have e10 : val 10 = _ := hd 10 (by omega)
        have e11 : val 11 = _ := hd 11 (by omega)
        have e12 : val 12 = _ := hd 12 (by omega)
        have e13 : val 13 = _ := hd 13 (by omega)
        have e14 : val 14 = _ := hd 14 (by omega)
        have e15 : val 15 = _ := hd 15 (by omega)
        have e16 : val 16 = _ := hd 16 (by omega)
        have e17 : val 17 = _ := hd 17 (by omega)
        have e18 : val 18 = _ := hd 18 (by omega)
        have e19 : val 19 = _ := hd 19 (by omega)
        have e20 : val 20 = _ := hd 20 (by omega)
        have e21 : val 21 = _ := hd 21 (by omega)
        obtain ⟨ga22_21, e22, qa22_21⟩ := hd 24 (by omega)
        change val 22 = _ at e22;obtain ⟨ga23_21, e23, qa23_21⟩ := hd 25 (by omega)
        change val 23 = _ at e23;refine EL.ends (cs := [_, _, _, _, _, _, _, _, _, _, _, _, _, _, _, _, _, _, _, _, _, _, _, _, val 24, val 25]) ⟨e0, e1, e2, e3, e4, e5, e6, e7, e8, e9, e10, e11, e12, e13, e14, e15, e16, e17, e18, e19, e20, e21, e22, e23, rfl, rfl, trivial⟩ rfl ?_;replace qs6 := qs6.bl hb;replace qs10 := qs10.bl hb;replace q23 := q23.bl hb;replace hq0 := ZB hq0 hb (Nat.le_refl _);replace hq1 := ZB hq1 hb (Nat.le_refl _);replace hrn := ZB hrn hb (Nat.le_refl _);have bge35 := Yc halc (i := 22) rfl rfl e22;have n2_35 : g2 ≠ ga22_21 := Nat.ne_of_lt (Nat.lt_of_lt_of_le lt_2 bge35);have n5_35 : g5 ≠ ga22_21 := Nat.ne_of_lt (Nat.lt_of_lt_of_le lt_5 bge35);have n23_35 : g23 ≠ ga22_21 := Nat.ne_of_lt (Nat.lt_of_lt_of_le lt_23 bge35);have bhbw_35 := Nat.le_trans hbw.size bge35;have bge36 := Yc halc (i := 23) rfl rfl e23;have n2_36 : g2 ≠ ga23_21 := Nat.ne_of_lt (Nat.lt_of_lt_of_le lt_2 bge36);have n5_36 : g5 ≠ ga23_21 := Nat.ne_of_lt (Nat.lt_of_lt_of_le lt_5 bge36);have n23_36 : g23 ≠ ga23_21 := Nat.ne_of_lt (Nat.lt_of_lt_of_le lt_23 bge36);have n35_36 : ga22_21 ≠ ga23_21 := QBe halc (i := 22) (j := 23) rfl rfl rfl rfl rfl e22 e23;have bhbw_36 := Nat.le_trans hbw.size bge36;replace hbw := bo_ hbw hb;have hnr : ∀ b, (.slice Ar k cr : Value).ownBlock = some b → b ≠ ga23_21 := fun b hb => Nat.ne_of_lt (Nat.lt_of_lt_of_le (hrl b hb).2 bge36)
        clear hrl;refine EL.as rfl rfl (EL.nil (EX.seq (EC.seq (EC.seq (EC.region (EL.mv rfl rfl (EL.val (ZX rfl) rfl (EL.nil (EX.seq ?_)))))))));refine EC.no rfl (EC.skip (EX.seq ?_));have hn19 : ∀ b, (.slice Ar k cr : Value).ownBlock = some b → b ≠ ga23_21 := hnr;have hW := ZM hrn (w1 := wR21) ⟨rfl, rfl, rfl, Nat.le_refl _, fun _ _ _ => rfl⟩ hbw.size
        clear hW;have lt_2 := qs6.lt;have lt_5 := qs10.lt;have lt_23 := q23.lt;have lt_35 := qa22_21.lt;refine EC.regionS [[], [], [], [2], [1, 2, 3], [0, 1, 2, 3, 4], [0, 1, 2, 3, 4, 5]] 5 [] [4] (fun fl w_ => wR21.grownBy w_ ((.slice Ar k cr) : Value).ownBlock ∧ (fl 4 = false → w_.ownsRow w.heap.size 49 2 (.slice Ar k cr) k (rnsC (QBC l q p k)))) (phiS (fun i_ r => match i_ with | 0 => r 0 = (stA (tkS (sAt l q p k) ((waitL q (sAt l q p k) true).take n) true)) | 1 => r 1 = .slice Ar k cr | 2 => r 2 = .agg #[.int .i64 (runT (sAt l q p k) ((waitL q (sAt l q p k) true).take n) true).start, .int .i64 (runT (sAt l q p k) ((waitL q (sAt l q p k) true).take n) true).stop] | _ => True) [(3, fun fl r w_ => fl 4 = false → (∃ g_, r 3 = .slice (some ⟨g_, 0, none⟩) 1 1 ∧ Blk w_ g_ 49 #[.int .i64 (runT (sAt l q p k) ((waitL q (sAt l q p k) true).take n) true).start, .int .i64 (runT (sAt l q p k) ((waitL q (sAt l q p k) true).take n) true).stop] ∧ wR21.heap.size ≤ g_)), (4, fun _ r w_ => w_.ownsRow w.heap.size 49 2 (r 4) (k + 1) ((rnsC (QBC l q p k)) ++ [.int .i64 (runT (sAt l q p k) ((waitL q (sAt l q p k) true).take n) true).start, .int .i64 (runT (sAt l q p k) ((waitL q (sAt l q p k) true).take n) true).stop]) ∧ ∀ b, (r 4).ownBlock = some b → ((.slice Ar k cr) : Value).ownBlock = some b ∨ wR21.heap.size ≤ b)]) (by kernel_rfl) rfl rfl (by intro i hi; simp at hi; subst hi; exact ⟨by simp, by omega⟩) (QBc hrn) (ZL (QAS QAL) (ZL (QAq (e := 4) (C := fun u_ => ∀ b, u_.ownBlock = some b → ((.slice Ar k cr) : Value).ownBlock = some b ∨ wR21.heap.size ≤ b)) (Zd))) (fun i_ hi_ hs_ => ?_) (fun i_ hi_ => ?_) ?_
        ·match i_, hi_ with
         | 0, _ =>
          intro val fl w1 a hb ha hd hfl;obtain ⟨hgb, hg0⟩ := hb;have hb := ZM hrn hgb hbw.size;have ha := ha.s0 (d := 18) rfl
          exact ZD ha rfl rfl (Z8 rfl ((ZK qa22_21 hrn rfl hgb).at (j := 0) rfl) ((ZK qa22_21 hrn rfl hgb).at (j := 1) rfl) ((ZK qa22_21 hrn rfl hgb).at (j := 2) rfl) ((ZK qa22_21 hrn rfl hgb).at (j := 3) rfl) ((ZK qa22_21 hrn rfl hgb).at (j := 4) rfl) ((ZK qa22_21 hrn rfl hgb).at (j := 5) rfl) ((ZK qa22_21 hrn rfl hgb).at (j := 6) rfl) ((ZK qa22_21 hrn rfl hgb).at (j := 7) rfl) ((ZK qa22_21 hrn rfl hgb).at (j := 8) rfl) ((ZK qa22_21 hrn rfl hgb).at (j := 9) rfl) ((ZK qa22_21 hrn rfl hgb).at (j := 10) rfl) ((ZK qa22_21 hrn rfl hgb).at (j := 11) rfl) ((ZK qa22_21 hrn rfl hgb).at (j := 12) rfl) ((ZK qa22_21 hrn rfl hgb).at (j := 13) rfl) ((ZK qa22_21 hrn rfl hgb).at (j := 14) rfl)) rfl rfl
         | 1, _ =>
          intro val fl w1 a hb ha hd hfl;obtain ⟨hgb, hg0⟩ := hb;have hb := ZM hrn hgb hbw.size;have ha := ha.s0 (d := 7) rfl
          exact ZD ha rfl rfl (x_move rfl) rfl rfl
         | 2, _ =>
          intro val fl w1 a hb ha hd hfl;obtain ⟨hgb, hg0⟩ := hb;have hb := ZM hrn hgb hbw.size;have ha := ha.s0 (d := 19) rfl
          exact ZD ha rfl rfl (QDE rfl ((qa23_21.grown hgb (fun e => hn19 _ e.symm rfl)).at (j := 0) rfl) ((qa23_21.grown hgb (fun e => hn19 _ e.symm rfl)).at (j := 1) rfl)) rfl rfl
         | 3, _ =>
          intro val fl w1 a hb ha hd hfl;obtain ⟨hgb, hg0⟩ := hb;have hb := ZM hrn hgb hbw.size;have e2 : val 2 = _ := hd 2 (ZA.1 rfl);have ha := ha.s1 (d := 106) rfl e2
          exact QCQ ha rfl rfl (QIH rfl) rfl (fun g w' hq _ hge => fun _ => ⟨g, rfl, hq, Nat.le_trans hgb.size hge⟩)
         | 4, _ =>
          exact absurd (by simp) hs_
         | k + 5, h => exact absurd h (by omega)
        ·simp only [List.mem_singleton] at hi_; subst hi_
         intro val fl w1 a hb hfi ha hd hfl;obtain ⟨hgb, hg0⟩ := hb;have hb := ZM hrn hgb hbw.size;have e1 : val 1 = _ := hd 1 (ZA.1 rfl);obtain ⟨g3_, e3, q3_, h3_⟩ := hd 3 (ZA.1 rfl) hfi;change val 3 = _ at e3;have ha := ha.s2 (d := 107) (e := 105) rfl e3 rfl e1;refine QCM QHd ha rfl rfl rfl (hg0 hfi) (QAE (l := [.int .i64 (runT (sAt l q p k) ((waitL q (sAt l q p k) true).take n) true).start, .int .i64 (runT (sAt l q p k) ((waitL q (sAt l q p k) true).take n) true).stop]) q3_ rfl) (by intro u hu; simp only [List.mem_cons, List.not_mem_nil, or_false] at hu; rcases hu with rfl | rfl <;> rfl) (by omega) rfl (Nat.le_trans hbw.size hgb.size) ?_
         intro v' w' ho' hgr hat;refine ⟨v', rfl, hgr.size, ⟨Zm hgb hgr, fun h => by rw [ZR] at h; cases h⟩, ⟨ho', fun b hb' => ?_⟩, fun j _ hj hn hA => ?_⟩
         ·rcases hat with h | h
          ·exact .inl (h ▸ hb')
          ·refine .inr ?_
           change v'.ownBlock = some b at hb';rw [h] at hb'
           injection hb' with hb'
           have := hgb.size
           omega
         ·exact ZF (C := fun j => j ≠ 4 ∧ 4 ∉ clsAt [[], [], [], [2], [1, 2, 3], [0, 1, 2, 3, 4], [0, 1, 2, 3, 4, 5]] j) (fun _ _ h => by rw [ZR] at h; cases h) (ZF (fun hc => absurd rfl hc.1) (fun _ _ h => h)) j ⟨hj, hn⟩
        ·intro val fl w' hfl hb halc hd
         obtain ⟨hgb, _⟩ := hb;have hb := ZM hrn hgb hbw.size;have e0 : val 0 = _ := hd 0 (by omega)
         have e1 : val 1 = _ := hd 1 (by omega)
         have e2 : val 2 = _ := hd 2 (by omega)
         obtain ⟨ho4, hn4⟩ := hd 4 (by omega)
         change w'.ownsRow _ _ _ (val 4) _ _ at ho4;refine EL.ends (cs := [_, _, _, val 3, val 4]) ⟨e0, e1, e2, rfl, rfl, trivial⟩ rfl ?_;replace qs6 := ZK qs6 hrn rfl hgb;replace qs10 := ZK qs10 hrn rfl hgb;replace q23 := ZK q23 hrn rfl hgb;replace qa22_21 := ZK qa22_21 hrn rfl hgb;replace hq0 := Zl hq0 hrn rfl hgb;replace hq1 := Zl hq1 hrn rfl hgb;replace hbw := hbw.trans (hb.mono (Nat.le_refl _));refine EL.store rfl rfl qs6 Z5 rfl rfl rfl rfl ?_;intro w37 hq37 hg37;replace qs10 := qs10.gr hg37 n2_5.symm;replace q23 := q23.gr hg37 n2_23.symm;replace qa22_21 := qa22_21.gr hg37 n2_35.symm;replace hq0 := ZG hq0 qs6 rfl hg37;replace hq1 := ZG hq1 qs6 rfl hg37;replace ho4 := ZG ho4 qs6 rfl hg37;replace hbw := ZE hbw hg37 bhbw_2;replace qs6 := hq37;clear hg37 hq37;refine EL.as rfl rfl (EL.nil (EX.blk (EX.seq (EC.region ?_))));refine EL.val (x_add rfl rfl (c := ((k + 1 : Nat) : Int)) ((IntWalk.i64_in _ ⟨by first | omega | (simp only; omega), by first | omega | (simp only; omega)⟩).trans (by first | omega | (simp only; omega)))) rfl ?_
         refine EL.mv rfl rfl (EL.nil ?_);refine EX.roundD (k + 1, _) ⟨rfl, rfl, trivial⟩ (by repeat first | with_reducible exact .refl _ | refine sp_ rfl ?_ | exact .refl _ | refine sd_ rfl ?_ | refine sn_ ?_) ⟨hltk, (QDZ hfa hf), by rw [hss]; exact qs6, qs10, hq0, hq1, by rw [QDx, QGG, hrs]; exact ho4, hbw⟩ (show p.length - (k + 1) < p.length - k by omega)
    ·
     obtain rfl : k = p.length := by omega
     refine EC.seq (EC.region ?_);refine EL.val (ZO (r := false) rfl rfl (decide_eq_false (by omega))) rfl ?_
     refine EL.nil (EX.seq (EC.seq (EC.no rfl (EC.exit (EX.seq_exit (EX.seq_exit (EX.blk_here (EX.seq (EC.seq ?_)))))))));refine EC.region (EL.val (Z8 rfl (qs6.at (j := 0) rfl) (qs6.at (j := 1) rfl) (qs6.at (j := 2) rfl) (qs6.at (j := 3) rfl) (qs6.at (j := 4) rfl) (qs6.at (j := 5) rfl) (qs6.at (j := 6) rfl) (qs6.at (j := 7) rfl) (qs6.at (j := 8) rfl) (qs6.at (j := 9) rfl) (qs6.at (j := 10) rfl) (qs6.at (j := 11) rfl) (qs6.at (j := 12) rfl) (qs6.at (j := 13) rfl) (qs6.at (j := 14) rfl)) rfl (EL.mv rfl rfl (EL.store rfl rfl qs6 Z5 rfl rfl rfl rfl ?_)));intro w38 hq38 hg38;replace qs10 := qs10.gr hg38 n2_5.symm;replace hq0 := ZG hq0 qs6 rfl hg38;replace hq1 := ZG hq1 qs6 rfl hg38;replace hrn := ZG hrn qs6 rfl hg38;replace hbw := ZE hbw hg38 bhbw_2;replace qs6 := hq38;clear hg38 hq38;refine EL.as rfl rfl (EL.as rfl rfl (EL.nil (EX.seq (EC.ret ?_))))
     exact EX.done (QB_ rfl rfl rfl rfl (QAF (qs6.at (j := 0) rfl) (qs6.at (j := 1) rfl) (qs6.at (j := 2) rfl) (qs6.at (j := 3) rfl) (qs6.at (j := 4) rfl) (qs6.at (j := 5) rfl) (qs6.at (j := 6) rfl) (qs6.at (j := 7) rfl) (qs6.at (j := 8) rfl) (qs6.at (j := 9) rfl) (qs6.at (j := 10) rfl) (qs6.at (j := 11) rfl) (qs6.at (j := 12) rfl) (qs6.at (j := 13) rfl) (qs6.at (j := 14) rfl))) ⟨sAt l q p p.length, _, by rw [QKS ht (by rw [← hqe]; exact hoc) (by rw [← hqe]; exact QFz hfa)]; rfl, fun _ => ⟨by rw [← hqe], by rw [← hqe]; exact hrn⟩, hbw⟩
   ·
    refine EL.val (QI2 (r := true) rfl rfl (decide_eq_true hz)) rfl (EL.nil (EX.seq (EC.yes rfl (EC.seq (EC.region (EL.val (Z8 rfl (q2.at (j := 0) rfl) (q2.at (j := 1) rfl) (q2.at (j := 2) rfl) (q2.at (j := 3) rfl) (q2.at (j := 4) rfl) (q2.at (j := 5) rfl) (q2.at (j := 6) rfl) (q2.at (j := 7) rfl) (q2.at (j := 8) rfl) (q2.at (j := 9) rfl) (q2.at (j := 10) rfl) (q2.at (j := 11) rfl) (q2.at (j := 12) rfl) (q2.at (j := 13) rfl) (q2.at (j := 14) rfl)) rfl (EL.store rfl rfl q2 Z5 rfl rfl rfl rfl ?_)))))));intro w39 hq39 hg39;replace q1 := q1.gr hg39 n1_2;replace q5 := q5.gr hg39 n2_5.symm;replace q7 := q7.gr hg39 n2_7.symm;replace hq0 := ZG hq0 q2 rfl hg39;replace hq1 := ZG hq1 q2 rfl hg39;replace hbw := ZE hbw hg39 bhbw_2;replace q2 := hq39;clear hg39 hq39;refine EL.as rfl rfl (EL.as rfl rfl (EL.nil (EX.seq (EC.ret (EX.seq_ret ?_)))))
    exact EX.done (QB_ rfl rfl rfl rfl (QAF (q2.at (j := 0) rfl) (q2.at (j := 1) rfl) (q2.at (j := 2) rfl) (q2.at (j := 3) rfl) (q2.at (j := 4) rfl) (q2.at (j := 5) rfl) (q2.at (j := 6) rfl) (q2.at (j := 7) rfl) (q2.at (j := 8) rfl) (q2.at (j := 9) rfl) (q2.at (j := 10) rfl) (q2.at (j := 11) rfl) (q2.at (j := 12) rfl) (q2.at (j := 13) rfl) (q2.at (j := 14) rfl))) ⟨st0, _, by rw [QAy ht (by rw [← hqe]; exact QGP hz)]; rfl, fun he => absurd he (by rw [QAy ht (by rw [← hqe]; exact QGP hz)]; decide), hbw⟩
 ·
  refine EL.val (Zn (r := true) rfl rfl (decide_eq_true (by omega))) rfl ?_
  refine EL.nil (EX.seq (EC.yes rfl (EC.seq (EC.region (EL.val (Z8 rfl (q2.at (j := 0) rfl) (q2.at (j := 1) rfl) (q2.at (j := 2) rfl) (q2.at (j := 3) rfl) (q2.at (j := 4) rfl) (q2.at (j := 5) rfl) (q2.at (j := 6) rfl) (q2.at (j := 7) rfl) (q2.at (j := 8) rfl) (q2.at (j := 9) rfl) (q2.at (j := 10) rfl) (q2.at (j := 11) rfl) (q2.at (j := 12) rfl) (q2.at (j := 13) rfl) (q2.at (j := 14) rfl)) rfl (EL.mv rfl rfl (EL.store rfl rfl q2 Z5 rfl rfl rfl rfl ?_)))))));intro w40 hq40 hg40;replace q1 := q1.gr hg40 n1_2;replace hbw := ZE hbw hg40 bhbw_2;replace q2 := hq40;clear hg40 hq40;refine EL.as rfl rfl (EL.as rfl rfl (EL.nil (EX.seq (EC.ret (EX.seq_ret ?_)))))
  exact EX.done (QB_ rfl rfl rfl rfl (QAF (q2.at (j := 0) rfl) (q2.at (j := 1) rfl) (q2.at (j := 2) rfl) (q2.at (j := 3) rfl) (q2.at (j := 4) rfl) (q2.at (j := 5) rfl) (q2.at (j := 6) rfl) (q2.at (j := 7) rfl) (q2.at (j := 8) rfl) (q2.at (j := 9) rfl) (q2.at (j := 10) rfl) (q2.at (j := 11) rfl) (q2.at (j := 12) rfl) (q2.at (j := 13) rfl) (q2.at (j := 14) rfl))) ⟨st0, _, by rw [QGm ht]; rfl, fun he => absurd ((QGm ht).symm.trans he) ht, hbw⟩
section
variable {n : Nat} {σ : Sg} {w : World} {dst : Option Tmp} {ty : TypeId} {pos : String} {af : Array Edge} {g : Option (Nat × Bool)} {x y z : Operand} {at' : Array TypeId}
theorem cF40 : cF 40 := fun _ _ => by simp [go_sem]
theorem QL7 (a : Act) (_ : Env n σ a) : (execOp a.eval ⟨dst, .alloc 35, ty, pos, af, g⟩).run Try.prog w = .ok (.value (.pointer (some ⟨w.heap.size, 0, none⟩))) (w.alloc (.cells #[.int .i64 0, .int .i64 0, .int .i64 0, .int .i64 0] 35)) := by
 simp only [execOp]
 simp [go_sem]
theorem QL0 {b o : Nat} {v0 v1 v2 v3 : Value} (hx : evS σ x = some (.pointer (some ⟨b, o, none⟩))) (c0 : w.cell? ⟨b, o, none⟩ = some v0) (c1 : w.cell? ⟨b, o + 1, none⟩ = some v1) (c2 : w.cell? ⟨b, o + 2, none⟩ = some v2) (c3 : w.cell? ⟨b, o + 3, none⟩ = some v3) : ZI Try.prog n σ w ⟨dst, .load 35 x, ty, pos, af, g⟩ (.agg #[v0, v1, v2, v3]) := fun a ha => by
 simp only [execOp, ha.eval hx]
 simp [go_sem, c0, c1, c2, c3]
theorem QJF : (Try.prog.info? 35).map (·.size) = some 4 := by kernel_rfl
theorem QLx {b o : Nat} {v0 v1 v2 v3 : Value} (c0 : w.cell? ⟨b, o, none⟩ = some v0) (c1 : w.cell? ⟨b, o + 1, none⟩ = some v1) (c2 : w.cell? ⟨b, o + 2, none⟩ = some v2) (c3 : w.cell? ⟨b, o + 3, none⟩ = some v3) : (loadVar 35 ⟨b, o, none⟩).run Try.prog w = .ok (.agg #[v0, v1, v2, v3]) w := by
 simp [go_sem, loadVar, c0, c1, c2, c3]
theorem QMr    : ZI Try.prog n σ w ⟨dst, .build 35 #[], ty, pos, af, g⟩ (.agg #[.int .i64 0, .int .i64 0, .int .i64 0, .int .i64 0]) := fun a _ => by
 simp only [execOp, List.map_toArray, List.map_nil]
 go_simp
end
theorem res4 {P : Program} {n : Nat} {σ : Sg} {w : World} {fn : Func} {t s r q : Tmp} {v u x y : Value} (h : fn.results = #[.tmp t, .tmp s, .tmp r, .tmp q]) (ht : σ t = some v) (hs : σ s = some u) (hr : σ r = some x) (hq : σ q = some y) (a : Act) (ha : Env n σ a) : (results fn a.tmps).run P w = .ok (.tuple #[v, u, x, y]) w := by
 have e1 : a.tmps.getD t undef = v := ha.eval (x := .tmp t) ht;have e2 : a.tmps.getD s undef = u := ha.eval (x := .tmp s) hs;have e3 : a.tmps.getD r undef = x := ha.eval (x := .tmp r) hr;have e4 : a.tmps.getD q undef = y := ha.eval (x := .tmp q) hq;rw [Array.getD_eq_getD_getElem?] at e1 e2 e3 e4
 simp [results, h, e1, e2, e3, e4]
def endP (l : LK) (ts : List TW) (p : List SP) : ST := if Z0 l ts p = 0 then sAt l (qL ts) p p.length else st0
def QGF (l : LK) (ts : List TW) (p : List SP) : List RN := if Z0 l ts p = 0 then QBC l (qL ts) p p.length else []
section
variable {l : LK} {ts : List TW} {p : List SP}
theorem QLX (h : Z0 l ts p = 0) : (endP l ts p).cost = (sAt l (qL ts) p p.length).cost := by unfold endP; rw [if_pos h]
theorem QM2 (h : Z0 l ts p = 0) : (endP l ts p).mv = (sAt l (qL ts) p p.length).mv := by unfold endP; rw [if_pos h]
theorem QMl (h : Z0 l ts p = 0) : endP l ts p = sAt l (qL ts) p p.length := if_pos h
theorem QHH (h : ¬Z0 l ts p = 0) : endP l ts p = st0 := if_neg h
theorem QLY (h : ¬Z0 l ts p = 0) : (endP l ts p).cost = 0 := by rw [QHH h]; rfl
theorem QM3 (h : ¬Z0 l ts p = 0) : (endP l ts p).mv = 0 := by rw [QHH h]; rfl
theorem QKu (h : Z0 l ts p = 0) : QGF l ts p = QBC l (qL ts) p p.length := if_pos h
theorem QKv (h : ¬Z0 l ts p = 0) : QGF l ts p = [] := if_neg h
end
theorem QLo {l : LK} {ts : List TW} {p : List SP} {v vp : Value} {w : World} {B : Nat} (hr : Rd w B 5 v ts.length (twsC ts)) (hp : Rd w B 2 vp p.length (spsC p)) (hB : B ≤ w.heap.size) (hpn : p.length ≤ 1000000) :
  Calls Try.prog 16 #[.agg #[.int .i64 l.length, .int .i64 l.cycle, .int .i64 l.turn, .int .i64 l.fill, .int .i64 l.save, .bool l.high], v, vp] w fun e w' => ∃ sl, e = .returned (.tuple #[sl, .int .i64 (endP l ts p).cost, .int .i64 (endP l ts p).mv, .int .i64 (Z0 l ts p)]) ∧ w'.ownsRow w.heap.size 49 2 sl (QGF l ts p).length (rnsC (QGF l ts p)) ∧ Below w.heap.size w w' := by
 obtain ⟨At, ct, rfl, _⟩ := hr.shape;obtain ⟨Ap, cp, rfl, _⟩ := hp.shape;have hbw := Below.refl w.heap.size w;refine EC.enter 29 Try.func16 rfl rfl rfl (EC.seq (EC.region (EL.newP (QDN rfl) rfl ?_)));intro g1 w1 q1 hb1 hg1 hl1;have bhbw_1 := Nat.le_trans hbw.size hg1;replace hbw := bo_ hbw hb1;clear hb1 hg1 hl1;refine EL.as rfl rfl (EL.as rfl rfl (EL.as rfl rfl (EL.as rfl rfl (EL.nil (EX.seq (EC.seq (EC.region (EL.val (QB2 rfl (q1.at (j := 0) rfl) (q1.at (j := 1) rfl) (q1.at (j := 2) rfl) (q1.at (j := 3) rfl) (q1.at (j := 4) rfl) (q1.at (j := 5) rfl)) rfl (EL.mv rfl rfl ?_)))))))));refine EL.mv rfl rfl (EL.call (cA3 cF40 rfl rfl rfl) rfl (QE7 (hr.below (hbw.mono hB)) (hp.below (hbw.mono hB)) (Nat.le_trans hB hbw.size) hpn) ?_)
 rintro e w2 ⟨s, sl, rfl, hok, hc2⟩
 refine ⟨_, rfl, ?_⟩
 unfold stV
 have hrn := fun he => YI (hok he).2 hbw.size
 replace q1 := q1.bl hc2;replace hbw := bo_ hbw hc2;clear hc2;refine EL.mv rfl rfl (EL.val (ZP (v := .agg (stC s).toArray) rfl rfl) rfl (EL.val (ZP (v := sl) rfl rfl) rfl (EL.val (ZP (v := .int .i64 (Z0 l ts p)) rfl rfl) rfl (EL.newP QAG rfl ?_))));intro g3 w3 q3 hb3 hg3 hl3;have n1_3 := q1.na hg3;have bhbw_3 := Nat.le_trans hbw.size hg3;replace q1 := q1.bl hb3;replace hrn := fun he => ZB (hrn he) hb3 (Nat.le_refl _)
 replace hbw := bo_ hbw hb3;clear hb3 hg3 hl3;refine EL.store rfl rfl q3 Z5 rfl rfl rfl rfl ?_;intro w4 hq4 hg4;replace q1 := q1.gr hg4 n1_3;replace hrn := fun he => ZG (hrn he) q3 rfl hg4
 replace hbw := ZE hbw hg4 bhbw_3;replace q3 := hq4;clear hg4 hq4;refine EL.as rfl rfl (EL.as rfl rfl (EL.nil (EX.seq (EC.seq (EC.seq (EC.region (EL.mv rfl rfl ?_)))))))
 by_cases he : Z0 l ts p = 0
 ·
  obtain ⟨hs, _⟩ := hok he;replace hrn := hrn he;clear hok;refine EL.val (Zn (r := false) rfl rfl (decide_eq_false (by omega))) rfl ?_
  refine EL.nil (EX.seq (EC.no rfl (EC.skip (EX.seq (EC.seq ?_)))));refine EC.regionQ (by kernel_rfl) (by kernel_rfl) ?_
  refine EQ.mv rfl rfl ?_;refine EQ.val (fun _ hw => (YS rfl)) rfl ?_
  refine EQ.val (fun _ hw => (ld_3 rfl (ZC hw (q3.at (j := 14) rfl)))) rfl ?_
  refine EQ.val (fun _ hw => (ZN rfl)) rfl ?_
  refine EQ.val (fun _ hw => (ZW rfl)) rfl ?_
  refine EQ.val (fun _ hw => (QBa rfl)) rfl ?_
  refine EQ.val (fun _ hw => (ld_3 rfl (ZC hw (q3.at (j := 10) rfl)))) rfl ?_
  refine EQ.val (fun _ hw => (ZZ rfl)) rfl ?_
  refine EQ.val (fun _ hw => (ZZ rfl)) rfl ?_
  refine EQ.val (fun _ hw => (ZZ rfl)) rfl ?_
  refine EQ.val (fun _ hw => (ZZ rfl)) rfl ?_
  refine EQ.fin (fun w5 hw_ => ?_)
  replace q1 := q1.bl hw_;replace q3 := q3.bl hw_;replace hrn := ZB hrn hw_ (Nat.le_refl _);replace hbw := bo_ hbw hw_;clear hw_;refine EX.seq (EC.ret ?_)
  exact EX.done (res4 rfl rfl rfl rfl rfl) ⟨_, by rw [QLX he, QM2 he, ← hs, he], by rw [QKu he]; unfold QBC at hrn ⊢; rw [List.length_map, List.length_range]; exact hrn, hbw⟩
 ·
  clear hrn;refine EL.val (Zn (r := true) rfl rfl (decide_eq_true (by omega))) rfl ?_
  refine EL.nil (EX.seq (EC.yes rfl (EC.seq (EC.region (EL.mv rfl rfl (EL.as rfl rfl (EL.as rfl rfl (EL.as rfl rfl (EL.as rfl rfl ?_)))))))));refine EL.nil (EX.seq (EC.ret (EX.seq_ret ?_)))
  exact EX.done (res4 rfl rfl rfl rfl rfl) ⟨_, by rw [QLY he, QM3 he], by rw [QKv he]; exact Yv _ _ _ _, hbw⟩
theorem QI0 {l : LK} {ts : List TW} {p : List SP} {v vp : Value} {w : World} {B : Nat} (hr : Rd w B 5 v ts.length (twsC ts)) (hp : Rd w B 2 vp p.length (spsC p)) (hB : B ≤ w.heap.size) (hpn : p.length ≤ 1000000) :
  Calls Try.prog 17 #[.agg #[.int .i64 l.length, .int .i64 l.cycle, .int .i64 l.turn, .int .i64 l.fill, .int .i64 l.save, .bool l.high], v, vp] w fun e w' => e = .returned (.tuple #[.agg #[.int .i64 (endP l ts p).up, .int .i64 (endP l ts p).lo, .int .i64 (endP l ts p).ch, .int .i64 (endP l ts p).ba], .int .i64 (Z0 l ts p)]) ∧ Below w.heap.size w w' := by
 obtain ⟨At, ct, rfl, _⟩ := hr.shape;obtain ⟨Ap, cp, rfl, _⟩ := hp.shape;have hbw := Below.refl w.heap.size w;refine EC.enter 27 Try.func17 rfl rfl rfl (EC.seq (EC.region (EL.newP (QDN rfl) rfl ?_)));intro g1 w1 q1 hb1 hg1 hl1;have bhbw_1 := Nat.le_trans hbw.size hg1;replace hbw := bo_ hbw hb1;clear hb1 hg1 hl1;refine EL.newP QL7 rfl ?_;intro g2 w2 q2 hb2 hg2 hl2;have n1_2 := q1.na hg2;have bhbw_2 := Nat.le_trans hbw.size hg2;replace q1 := q1.bl hb2;replace hbw := bo_ hbw hb2;clear hb2 hg2 hl2;refine EL.as rfl rfl (EL.nil (EX.seq (EC.seq (EC.region (EL.val (QB2 rfl (q1.at (j := 0) rfl) (q1.at (j := 1) rfl) (q1.at (j := 2) rfl) (q1.at (j := 3) rfl) (q1.at (j := 4) rfl) (q1.at (j := 5) rfl)) rfl (EL.mv rfl rfl (EL.mv rfl rfl (EL.call (cA3 cF40 rfl rfl rfl) rfl (QE7 (hr.below (hbw.mono hB)) (hp.below (hbw.mono hB)) (Nat.le_trans hB hbw.size) hpn) ?_))))))))
 rintro e w3 ⟨s, sl, rfl, hok, hc3⟩
 refine ⟨_, rfl, ?_⟩
 unfold stV
 have hrn := fun he => YI (hok he).2 hbw.size
 replace q1 := q1.bl hc3;replace q2 := q2.bl hc3;replace hbw := bo_ hbw hc3;clear hc3;refine EL.mv rfl rfl (EL.val (ZP (v := .agg (stC s).toArray) rfl rfl) rfl (EL.val (ZP (v := sl) rfl rfl) rfl (EL.val (ZP (v := .int .i64 (Z0 l ts p)) rfl rfl) rfl (EL.newP QAG rfl ?_))));intro g4 w4 q4 hb4 hg4 hl4;have n1_4 := q1.na hg4;have n2_4 := q2.na hg4;have bhbw_4 := Nat.le_trans hbw.size hg4;replace q1 := q1.bl hb4;replace q2 := q2.bl hb4;replace hrn := fun he => ZB (hrn he) hb4 (Nat.le_refl _)
 replace hbw := bo_ hbw hb4;clear hb4 hg4 hl4;refine EL.store rfl rfl q4 Z5 rfl rfl rfl rfl ?_;intro w5 hq5 hg5;replace q1 := q1.gr hg5 n1_4;replace q2 := q2.gr hg5 n2_4;replace hrn := fun he => ZG (hrn he) q4 rfl hg5
 replace hbw := ZE hbw hg5 bhbw_4;replace q4 := hq5;clear hg5 hq5;refine EL.as rfl rfl (EL.as rfl rfl (EL.nil (EX.seq (EC.seq (EC.seq (EC.region (EL.mv rfl rfl ?_)))))))
 by_cases he : Z0 l ts p = 0
 ·
  obtain ⟨hs, _⟩ := hok he;replace hrn := hrn he;clear hok;refine EL.val (Zn (r := false) rfl rfl (decide_eq_false (by omega))) rfl ?_
  refine EL.nil (EX.seq (EC.no rfl (EC.skip (EX.seq (EC.seq (EC.region (EL.val (ZN rfl) rfl (EL.val (ZW rfl) rfl (EL.val (Zf rfl) rfl ?_)))))))));refine EL.val (QL0 rfl (q4.at (j := 6) rfl) (q4.at (j := 7) rfl) (q4.at (j := 8) rfl) (q4.at (j := 9) rfl)) rfl (EL.store rfl rfl q2 QJF rfl rfl rfl rfl ?_);intro w6 hq6 hg6;replace q1 := q1.gr hg6 n1_2;replace q4 := q4.gr hg6 n2_4.symm;replace hrn := ZG hrn q2 rfl hg6;replace hbw := ZE hbw hg6 bhbw_2;replace q2 := hq6;clear hg6 hq6;refine EL.as rfl rfl (EL.nil (EX.seq (EC.ret ?_)))
  exact EX.done (QLu rfl rfl rfl (QLx (q2.at (j := 0) rfl) (q2.at (j := 1) rfl) (q2.at (j := 2) rfl) (q2.at (j := 3) rfl))) ⟨by rw [QMl he, ← hs, he], hbw⟩
 ·
  clear hrn;refine EL.val (Zn (r := true) rfl rfl (decide_eq_true (by omega))) rfl ?_
  refine EL.nil (EX.seq (EC.yes rfl (EC.seq (EC.region (EL.val (QMr) rfl (EL.mv rfl rfl (EL.store rfl rfl q2 QJF rfl rfl rfl rfl ?_)))))));intro w7 hq7 hg7;replace q1 := q1.gr hg7 n1_2;replace q4 := q4.gr hg7 n2_4.symm;replace hbw := ZE hbw hg7 bhbw_2;replace q2 := hq7;clear hg7 hq7;refine EL.as rfl rfl (EL.nil (EX.seq (EC.ret (EX.seq_ret ?_))))
  exact EX.done (QLu rfl rfl rfl (QLx (q2.at (j := 0) rfl) (q2.at (j := 1) rfl) (q2.at (j := 2) rfl) (q2.at (j := 3) rfl))) ⟨by rw [QHH he]; rfl, hbw⟩
section
variable {n : Nat} {σ : Sg} {w : World} {dst : Option Tmp} {ty : TypeId} {pos : String} {af : Array Edge} {g : Option (Nat × Bool)} {x y z : Operand} {at' : Array TypeId}
theorem QLa (a : Act) (_ : Env n σ a) : (execOp a.eval ⟨dst, .buildSlice 73 0 #[], ty, pos, af, g⟩).run Try.prog w = .ok (.value (.slice (some ⟨w.heap.size, 0, none⟩) 0 0)) (w.alloc (.cells #[] 67)) := by
 simp only [execOp]
 go_simp
theorem cF48 : cF 48 := fun _ _ => by simp [go_sem]
theorem QAC {b o m c k : Nat} (hx : evS σ x = some (.slice (some ⟨b, o, none⟩) m c)) (hy : evS σ y = some (.int .i64 (k : Int))) (hk : k < m) : ZI Try.prog n σ w ⟨dst, .indexAddr 73 x y, ty, pos, af, g⟩ (.pointer (some ⟨b, o + k * 2, none⟩)) := fun a ha => by
 have k0 : (0 : Int) ≤ (k : Int) := Int.natCast_nonneg _;have k1 : (k : Int) < (m : Int) := by omega
 simp only [execOp, ha.eval hx, ha.eval hy]
 simp [go_sem, k0, k1]
theorem QL6 (a : Act) (_ : Env n σ a) : (execOp a.eval ⟨dst, .alloc 69, ty, pos, af, g⟩).run Try.prog w = .ok (.value (.pointer (some ⟨w.heap.size, 0, none⟩))) (w.alloc (.cells #[.int .i64 0, .int .i64 0, .int .i64 0, .int .i64 0] 69)) := by
 simp only [execOp]
 simp [go_sem]
theorem QLs : (Try.prog.info? 69).map (·.size) = some 4 := by kernel_rfl
theorem cF49 : cF 49 := fun _ _ => by simp [go_sem]
theorem cF50 : cF 50 := fun _ _ => by simp [go_sem]
theorem QNO (a : Act) (_ : Env n σ a) : (execOp a.eval ⟨dst, .alloc 71, ty, pos, af, g⟩).run Try.prog w = .ok (.value (.pointer (some ⟨w.heap.size, 0, none⟩))) (w.alloc (.cells #[.int .i64 0, .int .i64 0, .int .i64 0] 71)) := by
 simp only [execOp]
 simp [go_sem]
theorem QMx : (Try.prog.info? 71).map (·.size) = some 3 := by kernel_rfl
theorem cF52 : cF 52 := fun _ _ => by simp [go_sem]
theorem cF51 : cF 51 := fun _ _ => by simp [go_sem]
theorem QLb {x0 : Operand} {A0 : Option Addr} {m0 c0 : Nat} (h0 : evS σ x0 = some (.slice A0 m0 c0)) (a : Act) (ha : Env n σ a) : (execOp a.eval ⟨dst, .buildSlice 61 1 #[(0, x0)], ty, pos, af, g⟩).run Try.prog w = .ok (.value (.slice (some ⟨w.heap.size, 0, none⟩) 1 1)) (w.alloc (.cells #[.slice A0 m0 c0] 73)) := by
 simp only [execOp, List.map_toArray, List.map_cons, List.map_nil, ha.eval h0]
 go_simp
end
theorem QJR {P : Program} {w : World} {t e : TypeId} {b o m c : Nat} (ht : P.underlying t = some (.slice e)) : (binOp .eql t (.slice (some ⟨b, o, none⟩) m c) (.slice none 0 0)).run P w = .ok (.bool false) w := by
 have h : ∀ d : Nat, (Op.equalIn (d + 1) t (.slice (some ⟨b, o, none⟩) m c) (.slice none 0 0)).run P w = .ok false w := fun d => by
  simp [Op.equalIn, run_underlying ht]
 simp only [binOp]
 simp [Op.equal, Op.maxDepth, h 9999]
theorem QL_ {P : Program} {n : Nat} {σ : Sg} {w : World} {dst : Option Tmp} {ty t t' e : TypeId} {pos : String} {af : Array Edge} {g : Option (Nat × Bool)} {x y : Operand} {b o m c : Nat} (ht : P.underlying t = some (.slice e)) (hx : evS σ x = some (.slice (some ⟨b, o, none⟩) m c)) (hy : evS σ y = some (.slice none 0 0)) : ZI P n σ w ⟨dst, .binOp .eql t x y t', ty, pos, af, g⟩ (.bool false) := fun a ha => by
 simp only [execOp, ha.eval hx, ha.eval hy]
 simp [QJR ht, Result.andThen, eqGuard, ha.eval hx, ha.eval hy]
theorem EL.copy {P : Program} {n : Nat} {L : List Oper} {Q : Exit → Act → World → Prop} {rest : List Oper} {σ : Sg} {w : World} {d ty t e size bytes base B mm g : Nat} {s x : Operand} {pos : String} {af : Array Edge} (E : Elem P t e size bytes) {src : Value} {news : List Value} (hs : evS σ s = some (.slice (some ⟨g, 0, none⟩) 0 0)) (hx : evS σ x = some src)
  (hq : Blk w g e #[]) (hg : base ≤ g) (hr : Rd w B size src mm news) (h1 : ∀ u ∈ news, u.oneCell' = true) (hm : mm ≤ 1048576) (hby : bytes ≤ 1048576) (hbase : base ≤ w.heap.size) (hd : Nat.blt d n = true)
  (next : ∀ v' w', w'.ownsRow base e size v' mm news → Below w.heap.size w w' → EL P n L Q rest (ins σ d v') w') : EL P n L Q (⟨some d, .call { callee := .builtin .append, args := #[s, x], argTypes := #[t, t] }, ty, pos, af, none⟩ :: rest) σ w := fun a ha => by
 obtain ⟨v', w', h2, h3, h4⟩ := QJS (P := P) (ty := ty) E hq hg hr h1 hm hby hbase
 exact QA2 (ZU rfl _) (YQ rfl (ha.eval hs) (ha.eval hx) h2) (next v' w' h3 h4 _ (ha.put hd _))
theorem QIK : (Try.prog.info? 67).map (fun i => (i.zero, i.size, i.bytes)) = some (some (.agg #[.int .i64 0, .int .i64 0]), 2, 16) := by kernel_rfl
theorem QLi : Elem Try.prog 73 67 2 16 := Elem.mk' Try.underlying73 QIK rfl (by omega)
theorem QLg : (Try.prog.info? 73).map (fun i => (i.zero, i.size, i.bytes)) = some (some (.slice none 0 0), 1, 24) := by kernel_rfl
theorem QLh : Elem Try.prog 61 73 1 24 := Elem.mk' Try.underlying61 QLg rfl (by omega)
theorem QHR {l : List Bd} {g c : Nat} {w : World} {B : Nat} (hr : Rd w B 2 (.slice (some ⟨g, 0, none⟩) l.length c) l.length (bdsC l)) (hB : B ≤ w.heap.size) (hn : l.length ≤ 1000) :
  Calls Try.prog 49 #[.slice (some ⟨g, 0, none⟩) l.length c] w fun e w' => (∃ v, e = .returned v ∧ w'.ownsRow w.heap.size 67 2 v l.length (bdsC l)) ∧ Below w.heap.size w w' := by
 have hbw := Below.refl w.heap.size w;refine EC.enter 8 Try.func49 rfl rfl rfl (EC.seq (EC.region (EL.as rfl rfl (EL.nil (EX.seq (EC.seq (EC.seq (EC.region (EL.mv rfl rfl ?_)))))))));refine EL.val (QL_ Try.underlying73 rfl rfl) rfl (EL.nil (EX.seq (EC.no rfl (EC.skip (EX.seq (EC.seq (EC.region ?_)))))));have hsz := hbw.size;refine EL.newS QLa rfl ?_;intro g1 w1 q1 hb1 hg1 hl1;have bhbw_1 := Nat.le_trans hbw.size hg1;replace hbw := bo_ hbw hb1;clear hb1 hl1;have hsz2 := hbw.size;refine EL.mv rfl rfl ?_;refine EL.copy QLi rfl rfl (base := w.heap.size) q1 (Nat.le_trans hsz hg1) (hr.below (hbw.mono hB)) (QKY l) (by omega) (by omega) hbw.size rfl ?_
 intro v2 w2 ho hb2;replace hbw := bo_ hbw hb2;clear hb2;refine EL.as rfl rfl (EL.nil (EX.seq (EC.ret ?_)))
 exact EX.done (res1 rfl rfl) ⟨⟨_, rfl, ho⟩, hbw⟩
theorem QLB (n : Nat) : (madeCells (Value.agg #[.int .i64 0, .int .i64 0]).cells (n * 2)).toList = bdsC (List.replicate n bd0) := by
 have h1 : bdsC (List.replicate n bd0) = List.replicate (n * 2) (.int .i64 0) := by
  induction n with
  | zero => rfl
  | succ n ih =>
   rw [List.replicate_succ, Nat.succ_mul, List.replicate_succ', List.replicate_succ', ← ih];have e : ∀ m, List.replicate m (Value.int .i64 0) ++ [.int .i64 0] = .int .i64 0 :: List.replicate m (.int .i64 0) := fun m => by rw [← List.replicate_succ', List.replicate_succ]
   rw [ih, e, List.cons_append, e, ← ih]
   rfl
 rw [h1]
 apply List.ext_getElem?
 intro i
 by_cases h : i < n * 2
 ·have h2 : i % 2 = 0 ∨ i % 2 = 1 := by omega
  rcases h2 with h2 | h2 <;> simp [madeCells, Value.cells, h, h2]
 ·simp [madeCells, h]
theorem EL.makeB {n : Nat} {L : List Oper} {Q : Exit → Act → World → Prop} {rest : List Oper} {σ : Sg} {w : World} {d ty base m : Nat} {x : Operand} {pos : String} {af : Array Edge} (hx : evS σ x = some (.int .i64 (m : Nat))) (hm : m ≤ 1048576) (hbase : base ≤ w.heap.size) (hd : Nat.blt d n = true)
  (next : ∀ g w', w'.ownsRow base 67 2 (.slice (some ⟨g, 0, none⟩) m m) m (bdsC (List.replicate m bd0)) → Below w.heap.size w w' → w.heap.size ≤ g → EL Try.prog n L Q rest (ins σ d (.slice (some ⟨g, 0, none⟩) m m)) w') : EL Try.prog n L Q (⟨some d, .makeSlice 73 x x, ty, pos, af, none⟩ :: rest) σ w := by
 intro a ha;obtain ⟨i0, hi, hz, hs, hb⟩ := info_parts QIK;obtain ⟨w', h1, h2, h3⟩ := run_make_full (P := Try.prog) (w := w) base 73 67 i0 (.agg #[.int .i64 0, .int .i64 0]) 2 Try.underlying73 hi hz hs .i64 .i64 m (by rw [hb]; omega) (by unfold maxLen; omega) hbase
 rw [QLB] at h2;refine QA2 (ZU rfl _) (w' := w') (v := .slice (some ⟨w.heap.size, 0, none⟩) m m) ?_ (next _ _ h2 ((Below.refl w.heap.size w).grown h3 (Nat.le_refl _) fun g h => by cases h) (Nat.le_refl _) _ (ha.put hd _))
 simp only [execOp, ha.eval hx, Sem.run_bind, h1, Result.andThen_ok]
 rfl
/-- lists of bounds of one's own -/
structure OwnLL (w : World) (base : Nat) (sl : Value) (us : List Value) (ls : List (List Bd)) : Prop where
 len : us.length = ls.length
 rd : w.ownsRow base 73 1 sl ls.length us
 row : ∀ i, i < ls.length → w.ownsRow base 67 2 (us.getD i undef) (ls.getD i []).length (bdsC (ls.getD i []))
section
variable {w w' : World} {base : Nat} {sl : Value} {us : List Value} {ls : List (List Bd)}
theorem OwnLL.below (h : OwnLL w base sl us ls) (hb : Below w.heap.size w w') : OwnLL w' base sl us ls := ⟨h.len, ZB h.rd hb (Nat.le_refl _), fun i hi => ZB (h.row i hi) hb (Nat.le_refl _)⟩
theorem OwnLL.box {g T : Nat} {cs : Array Value} (h : OwnLL w base sl us ls) (hq : Blk w g T cs) (h1 : Nat.beq T 73 = false) (h2 : Nat.beq T 67 = false) (hg : w.grownBy w' (some g)) : OwnLL w' base sl us ls := ⟨h.len, ZG h.rd hq h1 hg, fun i hi => ZG (h.row i hi) hq h2 hg⟩
theorem OwnLL.apart {g : Nat} (h : OwnLL w base sl us ls) (hg : w.heap.size ≤ g) : (∀ b, sl.ownBlock = some b → b ≠ g) ∧ ∀ i, i < ls.length → ∀ b, (us.getD i undef).ownBlock = some b → b ≠ g :=
 ⟨fun b hb => Nat.ne_of_lt (Nat.lt_of_lt_of_le (h.rd.lt b hb).2 hg), fun i hi b hb => Nat.ne_of_lt (Nat.lt_of_lt_of_le ((h.row i hi).lt b hb).2 hg)⟩
theorem OwnLL.kept {g : Nat} (h : OwnLL w base sl us ls) (hg : w.grownBy w' (some g)) (ha : (∀ b, sl.ownBlock = some b → b ≠ g) ∧ ∀ i, i < ls.length → ∀ b, (us.getD i undef).ownBlock = some b → b ≠ g) : OwnLL w' base sl us ls :=
 ⟨h.len, Yd h.rd hg (fun b hb e => ha.1 b hb (Option.some.inj e).symm), fun i hi => Yd (h.row i hi) hg (fun b hb e => ha.2 i hi b hb (Option.some.inj e).symm)⟩
end
theorem OwnLL.push {w w' : World} {base d : Nat} {sl vo v : Value} {us : List Value} {x : List LR} {y : List LT} (h : OwnLL w base sl us (YK x y d)) (hrd : w.ownsRow base 73 1 sl d us) (hn : w.ownsRow base 67 2 v x.length (bdsC (volL x y (d + 1)))) (ho : w'.ownsRow base 73 1 vo (d + 1) (us ++ [v])) (hg : w.grownBy w' sl.ownBlock) : OwnLL w' base vo (us ++ [v]) (YK x y (d + 1)) := by
 have hl := h.len;rw [Zt] at hl;refine ⟨by rw [List.length_append, Zt, hl]; rfl, by rw [Zt]; exact ho, fun i hi => ?_⟩
 rw [Zt] at hi
 by_cases e : i < d
 ·have h1 := h.row i (by rw [Zt]; exact e)
  rw [YY e] at h1;rw [YY hi, QHM (by omega)]
  exact Zl h1 hrd rfl hg
 ·obtain rfl : i = d := by omega
  rw [YY hi, Zc];have e2 : (us ++ [v]).getD i undef = v := by
   have := QIN (a := us) (b := [v]) (d := undef) (n := 0);rw [hl] at this
   exact this
  rw [e2]
  exact Zl hn hrd rfl hg
set_option maxHeartbeats 1000000 in
set_option maxRecDepth 100000 in
theorem QEa {x : List LR} {y : List LT} {vx vy : Value} {days : Int} {w : World} {B : Nat} (hx : Rd w B 4 vx x.length (lrsC x)) (hy : Rd w B 3 vy y.length (ltsC y)) (hB : B ≤ w.heap.size) (hyn : y.length ≤ 9223372036854775806) :
  Calls Try.prog 26 #[vx, vy, .int .i64 days] w fun e w' => ∃ sl us, e = .returned (.tuple #[sl, .int .i64 (chE x y days)]) ∧ (chE x y days = 0 → OwnLL w' w.heap.size sl us (YK x y days.toNat)) ∧ (chE x y days ≠ 0 → sl = .slice none 0 0) ∧ Below w.heap.size w w' := by
 obtain ⟨Ax, cx, rfl, _⟩ := hx.shape;obtain ⟨Ay, cy, rfl, _⟩ := hy.shape;have hbw := Below.refl w.heap.size w;refine EC.enter 102 Try.func26 rfl rfl rfl (EC.seq (EC.region (EL.as rfl rfl (EL.as rfl rfl (EL.nil (EX.seq (EC.seq (EC.seq (EC.region ?_)))))))));refine EL.mv rfl rfl (EL.mv rfl rfl (EL.mv rfl rfl (EL.call (cA3 cF48 rfl rfl rfl) rfl (QEM (hx.below (hbw.mono hB)) (hy.below (hbw.mono hB)) (Nat.le_trans hB hbw.size) hyn) ?_)))
 rintro e w1 ⟨rfl, hc1⟩
 refine ⟨_, rfl, ?_⟩;replace hbw := bo_ hbw hc1;clear hc1;refine EL.as rfl rfl (EL.nil (EX.seq (EC.seq (EC.region (EL.mv rfl rfl ?_)))))
 by_cases he : chE x y days = 0
 ·
  have hch := QEP he;have hxn := hch.n10;have hyl := hch.yl;obtain ⟨N, rfl⟩ : ∃ N : Nat, days = N := ⟨days.toNat, (Int.toNat_of_nonneg hch.days.1).symm⟩;have hN := hch.days.2;obtain ⟨n, hn⟩ : ∃ n, n = x.length := ⟨_, rfl⟩;refine EL.val (Zn (r := false) rfl rfl (decide_eq_false (by omega))) rfl ?_
  refine EL.nil (EX.seq (EC.no rfl (EC.skip (EX.seq (EC.seq (EC.region (EL.mv rfl rfl (EL.val (QAB rfl) rfl ?_))))))));refine EL.makeB (base := w.heap.size) rfl (by omega) hbw.size rfl ?_
  intro gn w2 hnw hb2 hgn;rw [← firstL_zero x y] at hnw;replace hbw := bo_ hbw hb2;clear hb2;refine EL.as rfl rfl (EL.nil (EX.seq (EC.seq (EC.seq (EC.region (EL.mv rfl rfl (EL.val (QAB rfl) rfl (EL.mv rfl rfl (EL.nil ?_)))))))));refine EX.seq (EC.block ?_);refine EC.loopD [10, 11, 28, 29, 30, 31, 32, 33, 34, 35, 36, 37, 38, 39, 40, 41] (fun k : Nat => [(28, .int .i64 (k : Nat))]) (fun k W => k ≤ x.length ∧ W.ownsRow w.heap.size 67 2 (.slice (some ⟨gn, 0, none⟩) x.length x.length) x.length (bdsC (firstL x y k)) ∧ Below w.heap.size w W) (fun k => x.length - k) 0 ⟨Nat.zero_le _, hnw, hbw⟩ ⟨rfl, trivial⟩ ?_
  clear hnw hbw
  rintro k wk ⟨hk, hnw, hbw⟩
  by_cases hltk : k < x.length
  ·
   obtain ⟨b, o, rfl, _, cc⟩ := Yp x k hltk w B _ _ _ hx;refine EC.seq (EC.region ?_);refine EL.val (ZO (r := true) rfl rfl (decide_eq_true (by omega))) rfl ?_
   refine EL.nil (EX.seq (EC.seq (EC.yes rfl (EC.skip (EX.seq (EC.seq (EC.block (EC.seq (EC.region ?_)))))))));refine EL.mv rfl rfl (EL.val (QB3 rfl rfl hltk) rfl (EL.val (QJ0 rfl (ZC hbw cc.c0) (ZC hbw cc.c1) (ZC hbw cc.c2) (ZC hbw cc.c3)) rfl (EL.newP QL6 rfl ?_)));intro g3 w3 q3 hb3 hg3 hl3;have bhbw_3 := Nat.le_trans hbw.size hg3;replace hnw := ZB hnw hb3 (Nat.le_refl _);replace hbw := bo_ hbw hb3;clear hb3 hg3 hl3;refine EL.as rfl rfl (EL.store rfl rfl q3 QLs rfl rfl rfl rfl ?_);intro w4 hq4 hg4;replace hnw := ZG hnw q3 rfl hg4;replace hbw := ZE hbw hg4 bhbw_3;replace q3 := hq4;clear hg4 hq4;refine EL.nil (EX.seq (EC.region (EL.mv rfl rfl (EL.mv rfl rfl (EL.val (QCl rfl) rfl (EL.val (ld_3 rfl (q3.at (j := 0) rfl)) rfl (EL.val (QCl rfl) rfl (EL.val (ld_3 rfl (q3.at (j := 0) rfl)) rfl (EL.val (YM rfl rfl) rfl ?_)))))))));refine EL.val (QAC rfl rfl hltk) rfl ?_;refine EL.storeRow (l' := [.int .i64 (x.getD k lr0).vol, .int .i64 (x.getD k lr0).vol]) rfl rfl hnw QDB rfl rfl (by rw [QCw, QEK]; omega) rfl ?_
   intro w5 ho2 hgr;rw [Nat.zero_add] at ho2;replace ho2 := QAx ho2 (QAo QBw _ _ (by rw [QEK]; omega) ⟨(x.getD k lr0).vol, (x.getD k lr0).vol⟩)
   rw [← QEk x y k, QGh hltk] at ho2;replace q3 := q3.grown hgr (fun h => QDW hnw q3 rfl (Option.some.inj h))
   replace hbw := hbw.trans (ZM hnw hgr hbw.size);clear hnw hgr;have hnw := ho2;clear ho2;refine EL.nil (EX.blk (EX.seq (EC.region ?_)));refine EL.val (x_add rfl rfl (c := ((k + 1 : Nat) : Int)) ((IntWalk.i64_in _ ⟨by first | omega | (simp only; omega), by first | omega | (simp only; omega)⟩).trans (by first | omega | (simp only; omega)))) rfl ?_
   refine EL.mv rfl rfl (EL.nil ?_);refine EX.roundD (k + 1) ⟨rfl, trivial⟩ (by repeat first | with_reducible exact .refl _ | refine sp_ rfl ?_ | exact .refl _ | refine sd_ rfl ?_ | refine sn_ ?_) ⟨hltk, hnw, hbw⟩ (by omega)
  ·
   obtain rfl : k = x.length := by omega
   rw [QHG] at hnw;refine EC.seq (EC.region ?_);refine EL.val (ZO (r := false) rfl rfl (decide_eq_false (by omega))) rfl ?_
   refine EL.nil (EX.seq (EC.seq (EC.no rfl (EC.exit (EX.seq_exit (EX.seq_exit (EX.blk_here (EX.seq (EC.seq ?_)))))))));refine EC.seq (EC.region (EL.mv rfl rfl (EL.mv rfl rfl (EL.nil (EX.seq (EC.block ?_))))));have hout : OwnLL wk w.heap.size (.slice none 0 0) [] (YK x y 0) := ⟨rfl, Yv _ _ _ _, fun i hi => absurd hi (Nat.not_lt_zero i)⟩
   refine EC.loopD [6, 9, 12, 13, 14, 15, 43, 44, 45, 46, 47, 48, 49, 50, 51, 52, 53, 54, 55, 56, 57, 58, 59, 60, 61, 62, 63, 64, 65, 66, 67, 68, 69, 70, 71, 72, 73, 74, 75, 76, 77, 78, 79, 80, 81, 82, 83, 84, 85, 86, 87, 88, 89, 90, 91, 92, 93, 94, 95, 96, 97, 98, 99, 100] (fun x_ : Nat × Value × Value × List Value => [(43, .int .i64 (x_.1 : Nat)), (9, x_.2.1), (6, x_.2.2.1)]) (fun x_ W => x_.1 ≤ N ∧ W.ownsRow w.heap.size 67 2 (x_.2.1) x.length (bdsC (volL x y x_.1)) ∧ OwnLL W w.heap.size x_.2.2.1 x_.2.2.2 (YK x y x_.1) ∧ Below w.heap.size w W) (fun x_ => N - x_.1) (0, .slice (some ⟨gn, 0, none⟩) x.length x.length, .slice none 0 0, []) ⟨Nat.zero_le _, hnw, hout, hbw⟩ ⟨rfl, rfl, rfl, trivial⟩ ?_
   clear hnw hout hbw
   rintro ⟨dd, vn, so, us⟩ wk ⟨hk, hnw, hout, hbw⟩
   dsimp only at hk hnw hout
   obtain ⟨gv, cv, rfl⟩ := Z6 hnw (by omega)
   by_cases hltd : dd < N
   ·
    refine EC.seq (EC.region ?_);refine EL.val (ZO (r := true) rfl rfl (decide_eq_true (by omega))) rfl ?_
    refine EL.nil (EX.seq (EC.seq (EC.yes rfl (EC.skip (EX.seq (EC.seq (EC.block (EC.seq (EC.region ?_)))))))));refine EL.mv rfl rfl ?_;have hrv := Rd.of_own hnw;have hvl := Zc x y dd;rw [← hvl] at hrv;refine EL.call (cA1 cF49 rfl) rfl (by have h_ := QHR hrv (Nat.le_refl _) (by omega); rw [hvl] at h_; exact h_) ?_
    rintro e w6 ⟨⟨v9, rfl, hnc⟩, hc6⟩
    refine ⟨_, rfl, ?_⟩;obtain ⟨gc, cc9, rfl⟩ := Z6 hnc (by omega)
    have hgc := (hnc.lt _ rfl).1;have hap := hout.apart hgc;replace hnc := YI hnc hbw.size;rw [← QE1] at hnc;clear hrv;replace hout := hout.below hc6;replace hbw := bo_ hbw hc6;clear hc6 hnw;refine EL.as rfl rfl (EL.nil (EX.seq (EC.seq (EC.seq (EC.region (EL.mv rfl rfl (EL.val (QAB rfl) rfl (EL.mv rfl rfl (EL.nil ?_)))))))));refine EX.seq (EC.block ?_);refine EC.loopD [12, 13, 49, 50, 51, 52, 53, 54, 55, 56, 57, 58, 59, 60, 61, 62, 63, 64] (fun k : Nat => [(49, .int .i64 (k : Nat))]) (fun k W => k ≤ x.length ∧ W.ownsRow w.heap.size 67 2 (.slice (some ⟨gc, 0, none⟩) x.length cc9) x.length (bdsC (infL x y dd k)) ∧ OwnLL W w.heap.size so us (YK x y dd) ∧ Below w.heap.size w W) (fun k => x.length - k) 0 ⟨Nat.zero_le _, hnc, hout, hbw⟩ ⟨rfl, trivial⟩ ?_
    clear hnc hout hbw
    rintro k wj49 ⟨hkj, hnc, hout, hbw⟩
    by_cases hltk : k < x.length
    ·
     obtain ⟨b, o, rfl, _, cc⟩ := Yp x k hltk w B _ _ _ hx;have hm1 := (QCe hch hltk (show dd ≤ 60 by omega)).mono (show (100000000000000 : Int) ≤ 1000000000000000 by omega)
     have hm2 := (QD_ (hch.lr _ (Zo hltk lr0))).2.mono (show (1000000000000 : Int) ≤ 1000000000000000 by omega)
     refine EC.seq (EC.region ?_);refine EL.val (ZO (r := true) rfl rfl (decide_eq_true (by omega))) rfl ?_
     refine EL.nil (EX.seq (EC.seq (EC.yes rfl (EC.skip (EX.seq (EC.seq (EC.block (EC.seq (EC.region ?_)))))))));refine EL.mv rfl rfl (EL.val (QB3 rfl rfl hltk) rfl (EL.val (QJ0 rfl (ZC hbw cc.c0) (ZC hbw cc.c1) (ZC hbw cc.c2) (ZC hbw cc.c3)) rfl (EL.newP QL6 rfl ?_)));intro g7 w7 q7 hb7 hg7 hl7;have bhbw_7 := Nat.le_trans hbw.size hg7;replace hnc := ZB hnc hb7 (Nat.le_refl _);replace hout := hout.below hb7;replace hbw := bo_ hbw hb7;clear hb7 hg7 hl7;refine EL.as rfl rfl (EL.store rfl rfl q7 QLs rfl rfl rfl rfl ?_);intro w8 hq8 hg8;replace hnc := ZG hnc q7 rfl hg8;replace hout := hout.box q7 rfl rfl hg8;replace hbw := ZE hbw hg8 bhbw_7;replace q7 := hq8;clear hg8 hq8;refine EL.nil (EX.seq ?_);obtain ⟨bn, on, eb_, _, cn⟩ := YL _ k (by rw [QAU]; exact hltk) _ _ _ _ _ (Rd.of_own hnc)
     injection eb_ with eb_
     injection eb_ with eb1_ eb2_
     subst eb1_ eb2_;rw [QDc hltk] at cn;have lt_7 := q7.lt;refine EC.regionP [[], [], [], [], [2, 3], [2, 3, 4], [], [6], [2, 3, 4, 5, 6, 7], [0, 1, 2, 3, 4, 5, 6, 7, 8], [0, 1, 2, 3, 4, 5, 6, 7, 8, 9]] 9 [] (phi (fun i_ r => match i_ with | 0 => r 0 = .slice (some ⟨gc, 0, none⟩) x.length cc9 | 1 => r 1 = .int .i64 (k : Nat) | 2 => r 2 = .slice (some ⟨gc, 0, none⟩) x.length cc9 | 3 => r 3 = .int .i64 (k : Nat) | 4 => r 4 = .pointer (some ⟨gc, 0 + k * 2, none⟩) | 5 => r 5 = .agg #[.int .i64 ((volD x y k dd)).lo, .int .i64 ((volD x y k dd)).hi] | 6 => r 6 = .pointer (some ⟨g7, 2, none⟩) | 7 => r 7 = .agg #[.int .i64 (x.getD k lr0).inf.lo, .int .i64 (x.getD k lr0).inf.hi] | 8 => r 8 = .agg #[.int .i64 (plusB (volD x y k dd) (x.getD k lr0).inf).lo, .int .i64 (plusB (volD x y k dd) (x.getD k lr0).inf).hi] | _ => True) []) (by kernel_rfl) rfl rfl (Yu) (fun i_ hi_ => ?_) ?_
     ·match i_, hi_ with
      | 0, _ =>
       intro val w1 a hb ha hd;have ha := ha.s0 (d := 9) rfl
       exact ZJ ha rfl rfl (x_move rfl) rfl rfl
      | 1, _ =>
       intro val w1 a hb ha hd;have ha := ha.s0 (d := 12) rfl
       exact ZJ ha rfl rfl (x_move rfl) rfl rfl
      | 2, _ =>
       intro val w1 a hb ha hd;have ha := ha.s0 (d := 9) rfl
       exact ZJ ha rfl rfl (x_move rfl) rfl rfl
      | 3, _ =>
       intro val w1 a hb ha hd;have ha := ha.s0 (d := 12) rfl
       exact ZJ ha rfl rfl (x_move rfl) rfl rfl
      | 4, _ =>
       intro val w1 a hb ha hd;have e2 : val 2 = _ := hd 2 (ZA.1 rfl);have e3 : val 3 = _ := hd 3 (ZA.1 rfl);have ha := ha.s2 (d := 57) (e := 56) rfl e3 rfl e2
       exact ZJ ha rfl rfl (QAC rfl rfl hltk) rfl rfl
      | 5, _ =>
       intro val w1 a hb ha hd;have e4 : val 4 = _ := hd 4 (ZA.1 rfl);have ha := ha.s1 (d := 58) rfl e4
       exact ZJ ha rfl rfl (QBV rfl (ZC hb cn.c0) (ZC hb cn.c1)) rfl rfl
      | 6, _ =>
       intro val w1 a hb ha hd;have ha := ha.s0 (d := 13) rfl
       exact ZJ ha rfl rfl (QFf rfl) rfl rfl
      | 7, _ =>
       intro val w1 a hb ha hd;have e6 : val 6 = _ := hd 6 (ZA.1 rfl);have ha := ha.s1 (d := 60) rfl e6
       exact ZJ ha rfl rfl (QBV rfl ((q7.below hb q7.lt).at (j := 2) rfl) ((q7.below hb q7.lt).at (j := 3) rfl)) rfl rfl
      | 8, _ =>
       intro val w1 a hb ha hd;have e5 : val 5 = _ := hd 5 (ZA.1 rfl);have e7 : val 7 = _ := hd 7 (ZA.1 rfl);have ha := ha.s2 (d := 61) (e := 59) rfl e7 rfl e5;refine QAc ha rfl rfl (cA2 cF50 rfl rfl) (QD2 (volD x y k dd) (x.getD k lr0).inf _ hm1.1 hm1.2 hm2.1 hm2.2) rfl ?_
       rintro e w' ⟨rfl, hb'⟩
       exact ⟨_, rfl, hb', rfl⟩
      | k + 9, h => exact absurd h (by omega)
     ·intro val wR16 hb halc hd
      have e0 : val 0 = _ := hd 0 (by omega)
      have e1 : val 1 = _ := hd 1 (by omega)
      have e2 : val 2 = _ := hd 2 (by omega)
      have e3 : val 3 = _ := hd 3 (by omega)
      have e4 : val 4 = _ := hd 4 (by omega)
      have e5 : val 5 = _ := hd 5 (by omega)
      have e6 : val 6 = _ := hd 6 (by omega)
      have e7 : val 7 = _ := hd 7 (by omega)
      have e8 : val 8 = _ := hd 8 (by omega)
      refine EL.ends (cs := [_, _, _, _, _, _, _, _, _]) ⟨e0, e1, e2, e3, e4, e5, e6, e7, e8, trivial⟩ rfl ?_;replace q7 := q7.bl hb;replace hnc := ZB hnc hb (Nat.le_refl _);replace hout := hout.below hb;replace hbw := bo_ hbw hb;clear hb;refine EL.val (QAC rfl rfl hltk) rfl ?_;refine EL.storeRow (l' := [.int .i64 (plusB (volD x y k dd) (x.getD k lr0).inf).lo, .int .i64 (plusB (volD x y k dd) (x.getD k lr0).inf).hi]) rfl rfl hnc QDB rfl rfl (by rw [QCw, QAU]; omega) rfl ?_
      intro w9 ho2 hgr;rw [Nat.zero_add] at ho2;replace ho2 := QAx ho2 (QAo QBw _ _ (by rw [QAU]; omega) (plusB (volD x y k dd) (x.getD k lr0).inf))
      rw [QE2 hltk] at ho2;replace hout := hout.kept hgr hap;replace q7 := q7.grown hgr (fun h => QDW hnc q7 rfl (Option.some.inj h))
      replace hbw := hbw.trans (ZM hnc hgr hbw.size);clear hnc hgr;have hnc := ho2;clear ho2;refine EL.nil (EX.blk (EX.seq (EC.region ?_)));refine EL.val (x_add rfl rfl (c := ((k + 1 : Nat) : Int)) ((IntWalk.i64_in _ ⟨by first | omega | (simp only; omega), by first | omega | (simp only; omega)⟩).trans (by first | omega | (simp only; omega)))) rfl ?_
      refine EL.mv rfl rfl (EL.nil ?_);refine EX.roundD (k + 1) ⟨rfl, trivial⟩ (by repeat first | with_reducible exact .refl _ | refine sp_ rfl ?_ | exact .refl _ | refine sd_ rfl ?_ | refine sn_ ?_) ⟨hltk, hnc, hout, hbw⟩ (by omega)
    ·
     obtain rfl : k = x.length := by omega
     rw [QGe] at hnc;refine EC.seq (EC.region ?_);refine EL.val (ZO (r := false) rfl rfl (decide_eq_false (by omega))) rfl ?_
     refine EL.nil (EX.seq (EC.seq (EC.no rfl (EC.exit (EX.seq_exit (EX.seq_exit (EX.blk_here (EX.seq (EC.seq ?_)))))))));refine EC.seq (EC.region (EL.mv rfl rfl (EL.val (QGa rfl) rfl (EL.mv rfl rfl (EL.nil (EX.seq (EC.block ?_)))))));refine EC.loopD [14, 15, 67, 68, 69, 70, 71, 72, 73, 74, 75, 76, 77, 78, 79, 80, 81, 82, 83, 84, 85, 86, 87, 88, 89, 90, 91, 92, 93, 94, 95] (fun k : Nat => [(67, .int .i64 (k : Nat))]) (fun k W => k ≤ y.length ∧ W.ownsRow w.heap.size 67 2 (.slice (some ⟨gc, 0, none⟩) x.length cc9) x.length (bdsC (lockL x y dd k)) ∧ OwnLL W w.heap.size so us (YK x y dd) ∧ Below w.heap.size w W) (fun k => y.length - k) 0 ⟨Nat.zero_le _, hnc, hout, hbw⟩ ⟨rfl, trivial⟩ ?_
     clear hnc hout hbw
     rintro k wj67 ⟨hkj, hnc, hout, hbw⟩
     by_cases hltk : k < y.length
     ·
      obtain ⟨b, o, rfl, _, cc⟩ := QAO y k hltk w B _ _ _ hy;obtain ⟨bn, on, eb_, _, cn⟩ := YL _ k (by rw [YA]; omega) _ _ _ _ _ (Rd.of_own hnc)
      injection eb_ with eb_
      injection eb_ with eb1_ eb2_
      subst eb1_ eb2_;obtain ⟨bm, om, eb_, _, cm⟩ := YL _ (k + 1) (by rw [YA]; omega) _ _ _ _ _ (Rd.of_own hnc)
      injection eb_ with eb_
      injection eb_ with eb1_ eb2_
      subst eb1_ eb2_;have hlt := hch.lt _ (Zo hltk lt0);have hs1 := QEA (x := x) (y := y) (d := dd) (j := k) (by omega)
      have hm1 := (QD8 hch k (show k < x.length by omega) (show dd ≤ 60 by omega)).mono (show (200000000000000 : Int) ≤ 1000000000000000 by omega)
      rw [← QBU (by omega)] at hm1
      have hm2 := (QD8 hch k (show k + 1 < x.length by omega) (show dd ≤ 60 by omega)).mono (show (200000000000000 : Int) ≤ 1000000000000000 by omega)
      rw [← QBU (by omega)] at hm2
      have hm3 := (QJm hlt).mono (show (100000000 : Int) ≤ 1000000000000000 by omega)
      have hm4 := hm3.opp;obtain ⟨V1, hV1⟩ : ∃ V1, (lockL x y dd k).getD k bd0 = V1 := ⟨_, rfl⟩;obtain ⟨V2, hV2⟩ : ∃ V2, (lockL x y dd k).getD (k + 1) bd0 = V2 := ⟨_, rfl⟩;rw [hV1] at hm1 cn hs1;rw [hV2] at hm2 cm hs1
      generalize y.getD k lt0 = kk at *
      refine EC.seq (EC.region ?_);refine EL.val (ZO (r := true) rfl rfl (decide_eq_true (by omega))) rfl ?_
      refine EL.nil (EX.seq (EC.seq (EC.yes rfl (EC.skip (EX.seq (EC.seq (EC.block (EC.seq (EC.region ?_)))))))));refine EL.mv rfl rfl (EL.val (QH3 rfl rfl hltk) rfl (EL.val (QH2 rfl (ZC hbw cc.c0) (ZC hbw cc.c1) (ZC hbw cc.c2)) rfl (EL.newP QNO rfl ?_)));intro g10 w10 q10 hb10 hg10 hl10;have bhbw_10 := Nat.le_trans hbw.size hg10;replace hnc := ZB hnc hb10 (Nat.le_refl _);replace hout := hout.below hb10;replace hbw := bo_ hbw hb10;clear hb10 hg10 hl10;refine EL.as rfl rfl (EL.store rfl rfl q10 QMx rfl rfl rfl rfl ?_);intro w11 hq11 hg11;replace hnc := ZG hnc q10 rfl hg11;replace hout := hout.box q10 rfl rfl hg11;replace hbw := ZE hbw hg11 bhbw_10;replace q10 := hq11;clear hg11 hq11;refine EL.nil (EX.seq ?_);have nr10_nw : g10 ≠ gc := QDW hnc q10 rfl;have lb_nw : w.heap.size ≤ gc := (hnc.lt _ rfl).1;refine EC.regionS [[], [], [], [], [3], [], [], [5, 6], [5, 6, 7], [], [9], [9, 10], [5, 6, 7, 8, 9, 10, 11], [], [], [14], [13, 14, 15], [13, 14, 15, 16], [], [5, 6, 7, 8, 9, 10, 11, 12, 18], [5, 6, 7, 8, 9, 10, 11, 12, 13, 14, 15, 16, 17, 18, 19], [0, 1, 5, 6, 7, 8, 9, 10, 11, 12, 13, 14, 15, 16, 17, 18, 19, 20], [0, 1, 5, 6, 7, 8, 9, 10, 11, 12, 13, 14, 15, 16, 17, 18, 19, 20, 21], [0, 1, 2, 3, 4, 5, 6, 7, 8, 9, 10, 11, 12, 13, 14, 15, 16, 17, 18, 19, 20, 21, 22], [0, 1, 2, 3, 4, 5, 6, 7, 8, 9, 10, 11, 12, 13, 14, 15, 16, 17, 18, 19, 20, 21, 22, 23]] 23 [] [22] (fun fl w_ => Touch w11 w_ [gc] ∧ (fl 22 = false → w_.ownsRow w.heap.size 67 2 (.slice (some ⟨gc, 0, none⟩) x.length cc9) x.length (bdsC (lockL x y dd k)))) (phiS (fun i_ r => match i_ with | 0 => r 0 = .slice (some ⟨gc, 0, none⟩) x.length cc9 | 1 => r 1 = .int .i64 (k : Nat) | 2 => r 2 = .slice (some ⟨gc, 0, none⟩) x.length cc9 | 3 => r 3 = .int .i64 (k : Nat) | 4 => r 4 = .int .i64 ((k + 1) : Nat) | 5 => r 5 = .slice (some ⟨gc, 0, none⟩) x.length cc9 | 6 => r 6 = .int .i64 (k : Nat) | 7 => r 7 = .pointer (some ⟨gc, 0 + k * 2, none⟩) | 8 => r 8 = .agg #[.int .i64 (V1).lo, .int .i64 (V1).hi] | 9 => r 9 = .agg #[.int .i64 kk.fill, .int .i64 kk.cyc.lo, .int .i64 kk.cyc.hi] | 10 => r 10 = .agg #[.int .i64 ((movT kk)).lo, .int .i64 ((movT kk)).hi] | 11 => r 11 = .agg #[.int .i64 (oppB (movT kk)).lo, .int .i64 (oppB (movT kk)).hi] | 12 => r 12 = .agg #[.int .i64 (plusB V1 (oppB (movT kk))).lo, .int .i64 (plusB V1 (oppB (movT kk))).hi] | 13 => r 13 = .slice (some ⟨gc, 0, none⟩) x.length cc9 | 14 => r 14 = .int .i64 (k : Nat) | 15 => r 15 = .int .i64 ((k + 1) : Nat) | 16 => r 16 = .pointer (some ⟨gc, 0 + (k + 1) * 2, none⟩) | 17 => r 17 = .agg #[.int .i64 (V2).lo, .int .i64 (V2).hi] | 18 => r 18 = .agg #[.int .i64 kk.fill, .int .i64 kk.cyc.lo, .int .i64 kk.cyc.hi] | 19 => r 19 = .agg #[.int .i64 ((movT kk)).lo, .int .i64 ((movT kk)).hi] | 20 => r 20 = .agg #[.int .i64 (plusB V2 (movT kk)).lo, .int .i64 (plusB V2 (movT kk)).hi] | 21 => r 21 = .pointer (some ⟨gc, 0 + k * 2, none⟩) | _ => True) [(22, fun fl _ w_ => fl 22 = true ∧ w_.ownsRow w.heap.size 67 2 (.slice (some ⟨gc, 0, none⟩) x.length cc9) x.length (bdsC ((lockL x y dd k).set k (plusB V1 (oppB (movT kk))))))]) (by kernel_rfl) rfl rfl (by intro i hi; simp at hi; rcases hi with rfl <;> exact ⟨by simp, by omega⟩) ⟨fun _ _ => ⟨Touch.start _ _, fun _ => QBo hnc 1⟩, fun _ _ _ ⟨hT, hA0_⟩ hb => ⟨hT.below hb, fun h => ZB (hA0_ h) hb (Nat.le_refl _)⟩, fun _ _ h => h.1.size⟩ (ZL (fun _ _ _ _ hb ⟨h1, h2⟩ => ⟨h1, ZB h2 hb (Nat.le_refl _)⟩) (Zd)) (fun i_ hi_ hs_ => ?_) (fun i_ hi_ => ?_) ?_
      ·match i_, hi_ with
       | 0, _ =>
        intro val fl w1 a hb ha hd hfl;obtain ⟨hT, hA0_⟩ := hb;have ha := ha.s0 (d := 9) rfl
        exact ZD ha rfl rfl (x_move rfl) rfl rfl
       | 1, _ =>
        intro val fl w1 a hb ha hd hfl;obtain ⟨hT, hA0_⟩ := hb;have ha := ha.s0 (d := 14) rfl
        exact ZD ha rfl rfl (x_move rfl) rfl rfl
       | 2, _ =>
        intro val fl w1 a hb ha hd hfl;obtain ⟨hT, hA0_⟩ := hb;have ha := ha.s0 (d := 9) rfl
        exact ZD ha rfl rfl (x_move rfl) rfl rfl
       | 3, _ =>
        intro val fl w1 a hb ha hd hfl;obtain ⟨hT, hA0_⟩ := hb;have ha := ha.s0 (d := 14) rfl
        exact ZD ha rfl rfl (x_move rfl) rfl rfl
       | 4, _ =>
        intro val fl w1 a hb ha hd hfl;obtain ⟨hT, hA0_⟩ := hb;have e3 : val 3 = _ := hd 3 (ZA.1 rfl);have ha := ha.s1 (d := 75) rfl e3
        exact ZD ha rfl rfl (x_add rfl rfl (c := ((k + 1 : Nat) : Int)) ((IntWalk.i64_in _ ⟨by first | omega | (simp only; omega), by first | omega | (simp only; omega)⟩).trans (by first | omega | (simp only; omega)))) rfl rfl
       | 5, _ =>
        intro val fl w1 a hb ha hd hfl;obtain ⟨hT, hA0_⟩ := hb;have ha := ha.s0 (d := 9) rfl
        exact ZD ha rfl rfl (x_move rfl) rfl rfl
       | 6, _ =>
        intro val fl w1 a hb ha hd hfl;obtain ⟨hT, hA0_⟩ := hb;have ha := ha.s0 (d := 14) rfl
        exact ZD ha rfl rfl (x_move rfl) rfl rfl
       | 7, _ =>
        intro val fl w1 a hb ha hd hfl;obtain ⟨hT, hA0_⟩ := hb;have e5 : val 5 = _ := hd 5 (ZA.1 rfl);have e6 : val 6 = _ := hd 6 (ZA.1 rfl);have ha := ha.s2 (d := 78) (e := 77) rfl e6 rfl e5
        exact ZD ha rfl rfl (QAC rfl rfl (show k < x.length by omega)) rfl rfl
       | 8, _ =>
        intro val fl w1 a hb ha hd hfl;obtain ⟨hT, hA0_⟩ := hb;have e7 : val 7 = _ := hd 7 (ZA.1 rfl);have ha := ha.s1 (d := 79) rfl e7;have hr0 := hA0_ (hfl 22 (by simp) (ZA.1 rfl))
        exact ZD ha rfl rfl (by obtain ⟨b_, o_, e_, _, c_⟩ := YL _ (k) (by rw [YA]; omega) _ _ _ _ _ (Rd.of_own hr0); injection e_ with e_; injection e_ with e1_ e2_; subst e1_ e2_; rw [hV1] at c_; exact QBV rfl c_.c0 c_.c1) rfl rfl
       | 9, _ =>
        intro val fl w1 a hb ha hd hfl;obtain ⟨hT, hA0_⟩ := hb;have ha := ha.s0 (d := 15) rfl
        exact ZD ha rfl rfl (QH2 rfl ((q10.touch hT (by simp only [List.mem_cons, List.not_mem_nil, or_false, not_or]; exact nr10_nw)).at (j := 0) rfl) ((q10.touch hT (by simp only [List.mem_cons, List.not_mem_nil, or_false, not_or]; exact nr10_nw)).at (j := 1) rfl) ((q10.touch hT (by simp only [List.mem_cons, List.not_mem_nil, or_false, not_or]; exact nr10_nw)).at (j := 2) rfl)) rfl rfl
       | 10, _ =>
        intro val fl w1 a hb ha hd hfl;obtain ⟨hT, hA0_⟩ := hb;have e9 : val 9 = _ := hd 9 (ZA.1 rfl);have ha := ha.s1 (d := 81) rfl e9;refine Yb ha rfl rfl (cA1 cF52 rfl) (QEv kk _ hlt) rfl ?_
        rintro e w' ⟨rfl, hb'⟩
        exact ⟨_, rfl, hb', rfl⟩
       | 11, _ =>
        intro val fl w1 a hb ha hd hfl;obtain ⟨hT, hA0_⟩ := hb;have e10 : val 10 = _ := hd 10 (ZA.1 rfl);have ha := ha.s1 (d := 82) rfl e10;refine Yb ha rfl rfl (cA1 cF51 rfl) (QFS (movT kk) _ hm3.1 hm3.2) rfl ?_
        rintro e w' ⟨rfl, hb'⟩
        exact ⟨_, rfl, hb', rfl⟩
       | 12, _ =>
        intro val fl w1 a hb ha hd hfl;obtain ⟨hT, hA0_⟩ := hb;have e8 : val 8 = _ := hd 8 (ZA.1 rfl);have e11 : val 11 = _ := hd 11 (ZA.1 rfl);have ha := ha.s2 (d := 83) (e := 80) rfl e11 rfl e8;refine Yb ha rfl rfl (cA2 cF50 rfl rfl) (QD2 V1 (oppB (movT kk)) _ hm1.1 hm1.2 hm4.1 hm4.2) rfl ?_
        rintro e w' ⟨rfl, hb'⟩
        exact ⟨_, rfl, hb', rfl⟩
       | 13, _ =>
        intro val fl w1 a hb ha hd hfl;obtain ⟨hT, hA0_⟩ := hb;have ha := ha.s0 (d := 9) rfl
        exact ZD ha rfl rfl (x_move rfl) rfl rfl
       | 14, _ =>
        intro val fl w1 a hb ha hd hfl;obtain ⟨hT, hA0_⟩ := hb;have ha := ha.s0 (d := 14) rfl
        exact ZD ha rfl rfl (x_move rfl) rfl rfl
       | 15, _ =>
        intro val fl w1 a hb ha hd hfl;obtain ⟨hT, hA0_⟩ := hb;have e14 : val 14 = _ := hd 14 (ZA.1 rfl);have ha := ha.s1 (d := 86) rfl e14
        exact ZD ha rfl rfl (x_add rfl rfl (c := ((k + 1 : Nat) : Int)) ((IntWalk.i64_in _ ⟨by first | omega | (simp only; omega), by first | omega | (simp only; omega)⟩).trans (by first | omega | (simp only; omega)))) rfl rfl
       | 16, _ =>
        intro val fl w1 a hb ha hd hfl;obtain ⟨hT, hA0_⟩ := hb;have e13 : val 13 = _ := hd 13 (ZA.1 rfl);have e15 : val 15 = _ := hd 15 (ZA.1 rfl);have ha := ha.s2 (d := 87) (e := 85) rfl e15 rfl e13
        exact ZD ha rfl rfl (QAC rfl rfl (show k + 1 < x.length by omega)) rfl rfl
       | 17, _ =>
        intro val fl w1 a hb ha hd hfl;obtain ⟨hT, hA0_⟩ := hb;have e16 : val 16 = _ := hd 16 (ZA.1 rfl);have ha := ha.s1 (d := 88) rfl e16;have hr0 := hA0_ (hfl 22 (by simp) (ZA.1 rfl))
        exact ZD ha rfl rfl (by obtain ⟨b_, o_, e_, _, c_⟩ := YL _ (k + 1) (by rw [YA]; omega) _ _ _ _ _ (Rd.of_own hr0); injection e_ with e_; injection e_ with e1_ e2_; subst e1_ e2_; rw [hV2] at c_; exact QBV rfl c_.c0 c_.c1) rfl rfl
       | 18, _ =>
        intro val fl w1 a hb ha hd hfl;obtain ⟨hT, hA0_⟩ := hb;have ha := ha.s0 (d := 15) rfl
        exact ZD ha rfl rfl (QH2 rfl ((q10.touch hT (by simp only [List.mem_cons, List.not_mem_nil, or_false, not_or]; exact nr10_nw)).at (j := 0) rfl) ((q10.touch hT (by simp only [List.mem_cons, List.not_mem_nil, or_false, not_or]; exact nr10_nw)).at (j := 1) rfl) ((q10.touch hT (by simp only [List.mem_cons, List.not_mem_nil, or_false, not_or]; exact nr10_nw)).at (j := 2) rfl)) rfl rfl
       | 19, _ =>
        intro val fl w1 a hb ha hd hfl;obtain ⟨hT, hA0_⟩ := hb;have e18 : val 18 = _ := hd 18 (ZA.1 rfl);have ha := ha.s1 (d := 90) rfl e18;refine Yb ha rfl rfl (cA1 cF52 rfl) (QEv kk _ hlt) rfl ?_
        rintro e w' ⟨rfl, hb'⟩
        exact ⟨_, rfl, hb', rfl⟩
       | 20, _ =>
        intro val fl w1 a hb ha hd hfl;obtain ⟨hT, hA0_⟩ := hb;have e17 : val 17 = _ := hd 17 (ZA.1 rfl);have e19 : val 19 = _ := hd 19 (ZA.1 rfl);have ha := ha.s2 (d := 91) (e := 89) rfl e19 rfl e17;refine Yb ha rfl rfl (cA2 cF50 rfl rfl) (QD2 V2 (movT kk) _ hm2.1 hm2.2 hm3.1 hm3.2) rfl ?_
        rintro e w' ⟨rfl, hb'⟩
        exact ⟨_, rfl, hb', rfl⟩
       | 21, _ =>
        intro val fl w1 a hb ha hd hfl;obtain ⟨hT, hA0_⟩ := hb;have e0 : val 0 = _ := hd 0 (ZA.1 rfl);have e1 : val 1 = _ := hd 1 (ZA.1 rfl);have ha := ha.s2 (d := 73) (e := 72) rfl e1 rfl e0
        exact ZD ha rfl rfl (QAC rfl rfl (show k < x.length by omega)) rfl rfl
       | 22, _ =>
        exact absurd (by simp) hs_
       | k + 23, h => exact absurd h (by omega)
      ·simp only [List.mem_cons, List.not_mem_nil, or_false] at hi_
       subst hi_;intro val fl w1 a hb hfi ha hd hfl;obtain ⟨hT, hA0_⟩ := hb;have e21 : val 21 = _ := hd 21 (ZA.1 rfl);have e12 : val 12 = _ := hd 12 (ZA.1 rfl);have ha := ha.s2 (d := 84) (e := 93) rfl e12 rfl e21;refine QBI (l' := [.int .i64 (plusB V1 (oppB (movT kk))).lo, .int .i64 (plusB V1 (oppB (movT kk))).hi]) ha rfl rfl rfl (hA0_ hfi) QDB rfl rfl (by rw [QCw, YA]; omega) rfl ?_
       intro w' ho2 hgr;rw [Nat.zero_add] at ho2;replace ho2 := QAx ho2 (QAo QBw _ _ (by rw [YA]; omega) (plusB V1 (oppB (movT kk))))
       refine ⟨undef, rfl, hgr.size, ⟨hT.grown hgr (by simp), (fun h => by rw [ZR] at h; cases h)⟩, ⟨ZR, ho2⟩, fun j _ hj hn hA => ?_⟩
       exact ZF (C := fun j => j ≠ 22 ∧ 22 ∉ clsAt [[], [], [], [], [3], [], [], [5, 6], [5, 6, 7], [], [9], [9, 10], [5, 6, 7, 8, 9, 10, 11], [], [], [14], [13, 14, 15], [13, 14, 15, 16], [], [5, 6, 7, 8, 9, 10, 11, 12, 18], [5, 6, 7, 8, 9, 10, 11, 12, 13, 14, 15, 16, 17, 18, 19], [0, 1, 5, 6, 7, 8, 9, 10, 11, 12, 13, 14, 15, 16, 17, 18, 19, 20], [0, 1, 5, 6, 7, 8, 9, 10, 11, 12, 13, 14, 15, 16, 17, 18, 19, 20, 21], [0, 1, 2, 3, 4, 5, 6, 7, 8, 9, 10, 11, 12, 13, 14, 15, 16, 17, 18, 19, 20, 21, 22], [0, 1, 2, 3, 4, 5, 6, 7, 8, 9, 10, 11, 12, 13, 14, 15, 16, 17, 18, 19, 20, 21, 22, 23]] j) (fun hc => absurd rfl hc.1) (fun _ _ h => h) j ⟨hj, hn⟩
      ·intro val fl wR21 hfl hb halc hd
       obtain ⟨hT, _⟩ := hb;have hz_nw := (hd 22 (by omega)).2
       change wR21.ownsRow w.heap.size 67 2 (.slice (some ⟨gc, 0, none⟩) x.length cc9) x.length (bdsC ((lockL x y dd k).set k (plusB V1 (oppB (movT kk))))) at hz_nw;have e0 : val 0 = _ := hd 0 (by omega)
       have e1 : val 1 = _ := hd 1 (by omega)
       have e2 : val 2 = _ := hd 2 (by omega)
       have e3 : val 3 = _ := hd 3 (by omega)
       have e4 : val 4 = _ := hd 4 (by omega)
       have e5 : val 5 = _ := hd 5 (by omega)
       have e6 : val 6 = _ := hd 6 (by omega)
       have e7 : val 7 = _ := hd 7 (by omega)
       have e8 : val 8 = _ := hd 8 (by omega)
       have e9 : val 9 = _ := hd 9 (by omega)
       have e10 : val 10 = _ := hd 10 (by omega)
       have e11 : val 11 = _ := hd 11 (by omega)
       have e12 : val 12 = _ := hd 12 (by omega)
       have e13 : val 13 = _ := hd 13 (by omega)
       have e14 : val 14 = _ := hd 14 (by omega)
       have e15 : val 15 = _ := hd 15 (by omega)
       have e16 : val 16 = _ := hd 16 (by omega)
       have e17 : val 17 = _ := hd 17 (by omega)
       have e18 : val 18 = _ := hd 18 (by omega)
       have e19 : val 19 = _ := hd 19 (by omega)
       have e20 : val 20 = _ := hd 20 (by omega)
       have e21 : val 21 = _ := hd 21 (by omega)
       refine EL.ends (cs := [_, _, _, _, _, _, _, _, _, _, _, _, _, _, _, _, _, _, _, _, _, _, val 22]) ⟨e0, e1, e2, e3, e4, e5, e6, e7, e8, e9, e10, e11, e12, e13, e14, e15, e16, e17, e18, e19, e20, e21, rfl, trivial⟩ rfl ?_;replace q10 := q10.touch hT (by simp only [List.mem_cons, List.not_mem_nil, or_false, not_or]; exact nr10_nw)
       replace hout := hout.kept (QBJ hT) hap;replace hbw := Touch.anchor hT hbw (fun g hg => by simp only [List.mem_cons, List.not_mem_nil, or_false] at hg; rcases hg with rfl <;> omega)
       clear hT hnc;have hnc := hz_nw;clear hz_nw;refine EL.val (QAC rfl rfl (show k + 1 < x.length by omega)) rfl ?_
       refine EL.storeRow (l' := [.int .i64 (plusB V2 (movT kk)).lo, .int .i64 (plusB V2 (movT kk)).hi]) rfl rfl hnc QDB rfl rfl (by rw [QCw, List.length_set, YA]; omega) rfl ?_
       intro w12 ho2 hgr;rw [Nat.zero_add] at ho2;replace ho2 := QAx ho2 (QAo QBw _ _ (by rw [List.length_set, YA]; omega) (plusB V2 (movT kk)))
       rw [hs1] at ho2;replace hout := hout.kept hgr hap;replace q10 := q10.grown hgr (fun h => QDW hnc q10 rfl (Option.some.inj h))
       replace hbw := hbw.trans (ZM hnc hgr hbw.size);clear hnc hgr;have hnc := ho2;clear ho2;refine EL.nil (EX.blk (EX.seq (EC.region ?_)));refine EL.val (x_add rfl rfl (c := ((k + 1 : Nat) : Int)) ((IntWalk.i64_in _ ⟨by first | omega | (simp only; omega), by first | omega | (simp only; omega)⟩).trans (by first | omega | (simp only; omega)))) rfl ?_
       refine EL.mv rfl rfl (EL.nil ?_);refine EX.roundD (k + 1) ⟨rfl, trivial⟩ (by repeat first | with_reducible exact .refl _ | refine sp_ rfl ?_ | exact .refl _ | refine sd_ rfl ?_ | refine sn_ ?_) ⟨hltk, hnc, hout, hbw⟩ (by omega)
     ·
      obtain rfl : k = y.length := by omega
      refine EC.seq (EC.region ?_);refine EL.val (ZO (r := false) rfl rfl (decide_eq_false (by omega))) rfl ?_
      refine EL.nil (EX.seq (EC.seq (EC.no rfl (EC.exit (EX.seq_exit (EX.seq_exit (EX.blk_here (EX.seq (EC.region ?_)))))))));refine EL.mv rfl rfl (EL.mv rfl rfl (EL.newS (QLb rfl) rfl ?_));intro g13 w13 q13 hb13 hg13 hl13;have bhbw_13 := Nat.le_trans hbw.size hg13;replace hnc := ZB hnc hb13 (Nat.le_refl _);replace hout := hout.below hb13;replace hbw := bo_ hbw hb13;clear hb13 hg13 hl13;have hrd := hout.rd;rw [Zt] at hrd;refine EL.push QLh rfl rfl hrd (QAE (l := [.slice (some ⟨gc, 0, none⟩) x.length cc9]) q13 rfl) (by intro u hu; rw [List.mem_singleton.1 hu]; rfl) (by omega) rfl hbw.size rfl ?_
      intro vo w9 ho9 hgr hb_ hat;rw [lockL_all] at hnc;have hout2 := hout.push hrd hnc ho9 hgr;replace hnc := Zl hnc hrd rfl hgr;replace hbw := hbw.trans hb_;clear hout hgr hb_ hat ho9 hrd;refine EL.as rfl rfl (EL.nil (EX.blk (EX.seq (EC.region ?_))));refine EL.val (x_add rfl rfl (c := ((dd + 1 : Nat) : Int)) ((IntWalk.i64_in _ ⟨by first | omega | (simp only; omega), by first | omega | (simp only; omega)⟩).trans (by first | omega | (simp only; omega)))) rfl ?_
      refine EL.mv rfl rfl (EL.nil ?_);refine EX.roundD (dd + 1, _, _, _) ⟨rfl, rfl, rfl, trivial⟩ (by repeat first | with_reducible exact .refl _ | refine sp_ rfl ?_ | exact .refl _ | refine sd_ rfl ?_ | refine sn_ ?_) ⟨hltd, hnc, hout2, hbw⟩ (show N - (dd + 1) < N - dd by omega)
   ·
    obtain rfl : dd = N := by omega
    refine EC.seq (EC.region ?_);refine EL.val (ZO (r := false) rfl rfl (decide_eq_false (by omega))) rfl ?_
    refine EL.nil (EX.seq (EC.seq (EC.no rfl (EC.exit (EX.seq_exit (EX.seq_exit (EX.blk_here (EX.seq (EC.seq ?_)))))))));refine EC.region (EL.mv rfl rfl (EL.as rfl rfl (EL.as rfl rfl (EL.nil (EX.seq (EC.ret ?_))))))
    exact EX.done (res2 rfl rfl rfl) ⟨_, us, by rw [he], fun _ => hout, fun h => absurd he h, hbw⟩
 ·
  refine EL.val (Zn (r := true) rfl rfl (decide_eq_true (by omega))) rfl ?_
  refine EL.nil (EX.seq (EC.yes rfl (EC.seq (EC.region (EL.mv rfl rfl (EL.as rfl rfl (EL.as rfl rfl (EL.nil (EX.seq ?_)))))))));refine EC.ret (EX.seq_ret ?_)
  exact EX.done (res2 rfl rfl rfl) ⟨_, [], rfl, fun h => absurd h he, fun _ => rfl, hbw⟩
section
variable {n : Nat} {σ : Sg} {w : World} {dst : Option Tmp} {ty : TypeId} {pos : String} {af : Array Edge} {g : Option (Nat × Bool)} {x y z : Operand} {at' : Array TypeId}
theorem cF26 : cF 26 := fun _ _ => by simp [go_sem]
theorem QHy {A : Option Addr} {m c : Nat} (hx : evS σ x = some (.slice A m c)) : ZI Try.prog n σ w ⟨dst, .call { callee := .builtin .len, args := #[x], argTypes := #[61] }, ty, pos, af, g⟩ (.int .i64 (m : Int)) := fun a ha => by
 simp only [execOp, resolve, List.map_toArray, List.map_cons, List.map_nil, ha.eval hx]
 simp [go_sem]
theorem QAu {b o m c k : Nat} (hx : evS σ x = some (.slice (some ⟨b, o, none⟩) m c)) (hy : evS σ y = some (.int .i64 (k : Int))) (hk : k < m) : ZI Try.prog n σ w ⟨dst, .indexAddr 61 x y, ty, pos, af, g⟩ (.pointer (some ⟨b, o + k, none⟩)) := fun a ha => by
 have k0 : (0 : Int) ≤ (k : Int) := Int.natCast_nonneg _;have k1 : (k : Int) < (m : Int) := by omega
 simp only [execOp, ha.eval hx, ha.eval hy]
 simp [go_sem, k0, k1]
theorem QAs {b o : Nat} {v0 : Value} (hx : evS σ x = some (.pointer (some ⟨b, o, none⟩))) (c0 : w.cell? ⟨b, o, none⟩ = some v0) : ZI Try.prog n σ w ⟨dst, .load 73 x, ty, pos, af, g⟩ (v0) := fun a ha => by
 simp only [execOp, ha.eval hx]
 simp [go_sem, c0]
theorem QHx {A : Option Addr} {m c : Nat} (hx : evS σ x = some (.slice A m c)) : ZI Try.prog n σ w ⟨dst, .call { callee := .builtin .len, args := #[x], argTypes := #[73] }, ty, pos, af, g⟩ (.int .i64 (m : Int)) := fun a ha => by
 simp only [execOp, resolve, List.map_toArray, List.map_cons, List.map_nil, ha.eval hx]
 simp [go_sem]
end
theorem QGQ (x : List LR) (y : List LT) : Yj x y 0 0 := ⟨fun e i h1 h2 => by omega, fun i h => by omega⟩
theorem QHl {x : List LR} {y : List LT} {d k : Nat} (h : Yj x y d k) (hs : Y6 x y (d + 1) k = false) : Yj x y d (k + 1) := ⟨h.1, fun i hi => by
 rcases Nat.lt_or_ge i k with h1 | h1
 ·exact h.2 i h1
 ·rw [show i = k by omega]; exact hs⟩
theorem QJf {x : List LR} {y : List LT} {d : Nat} (h : Yj x y d x.length) : Yj x y (d + 1) 0 := ⟨fun e i h1 h2 hi => by
 rcases Nat.lt_or_ge e (d + 1) with h3 | h3
 ·exact h.1 e i h1 (by omega) hi
 ·rw [show e = d + 1 by omega]; exact h.2 i hi, fun i hi => by omega⟩
/-- the first day and reach on which there can be too little water -/
def QC0 (x : List LR) (y : List LT) (N : Nat) (day reach : Int) (sure : Bool) : Prop :=
 (∃ d i : Nat, d < N ∧ i < x.length ∧ Yj x y d i ∧ Y6 x y (d + 1) i = true ∧ day = ((d + 1 : Nat) : Int) ∧ reach = ((i : Nat) : Int) ∧ sure = decide ((volD x y i (d + 1)).hi < (x.getD i lr0).least)) ∨ (Yj x y N 0 ∧ day = 0 ∧ reach = 0 ∧ sure = false)
theorem QE_ {x : List LR} {y : List LT} {vx vy : Value} {days : Int} {w : World} {B : Nat} (hx : Rd w B 4 vx x.length (lrsC x)) (hy : Rd w B 3 vy y.length (ltsC y)) (hB : B ≤ w.heap.size) (hyn : y.length ≤ 9223372036854775806) :
  Calls Try.prog 27 #[vx, vy, .int .i64 days] w fun e w' => ∃ day reach sure, e = .returned (.tuple #[.int .i64 day, .int .i64 reach, .bool sure, .int .i64 (chE x y days)]) ∧ (chE x y days = 0 → QC0 x y days.toNat day reach sure) ∧ (chE x y days ≠ 0 → day = 0 ∧ reach = 0 ∧ sure = false) ∧ Below w.heap.size w w' := by
 obtain ⟨Ax, cx, rfl, _⟩ := hx.shape;obtain ⟨Ay, cy, rfl, _⟩ := hy.shape;have hbw := Below.refl w.heap.size w;refine EC.enter 58 Try.func27 rfl rfl rfl (EC.seq (EC.region (EL.as rfl rfl (EL.as rfl rfl (EL.as rfl rfl (EL.as rfl rfl (EL.nil (EX.seq (EC.seq ?_)))))))));refine EC.region (EL.mv rfl rfl (EL.mv rfl rfl (EL.mv rfl rfl (EL.call (cA3 cF26 rfl rfl rfl) rfl (QEa (hx.below (hbw.mono hB)) (hy.below (hbw.mono hB)) (Nat.le_trans hB hbw.size) hyn) ?_))))
 rintro e w1 ⟨sl, us, rfl, hout, hsl, hc1⟩
 refine ⟨_, rfl, ?_⟩;replace hbw := bo_ hbw hc1;clear hc1;refine EL.mv rfl rfl (EL.val (ZP (v := sl) rfl rfl) rfl (EL.val (ZP (v := .int .i64 (chE x y days)) rfl rfl) rfl (EL.as rfl rfl (EL.as rfl rfl (EL.nil (EX.seq (EC.seq (EC.seq (EC.region ?_)))))))));refine EL.mv rfl rfl ?_
 by_cases he : chE x y days = 0
 ·
  replace hout := hout he;have hch := QEP he;obtain ⟨N, rfl⟩ : ∃ N : Nat, days = N := ⟨days.toNat, (Int.toNat_of_nonneg hch.days.1).symm⟩;have hN := hch.days.2;have hxn := hch.n10;have hyl := hch.yl;change OwnLL _ _ sl us (YK x y N) at hout;have hrd0 := hout.rd;rw [Zt] at hrd0;obtain ⟨As, cs, rfl, _⟩ := (Rd.of_own hrd0).shape;clear hrd0;refine EL.val (Zn (r := false) rfl rfl (decide_eq_false (by omega))) rfl ?_
  refine EL.nil (EX.seq (EC.no rfl (EC.skip (EX.seq (EC.seq (EC.seq (EC.region (EL.mv rfl rfl (EL.val (QHy rfl) rfl ?_)))))))));refine EL.mv rfl rfl (EL.nil (EX.seq (EC.block ?_)));refine EC.loopD [6, 7, 8, 9, 11, 12, 13, 14, 15, 28, 29, 30, 31, 32, 33, 34, 35, 36, 37, 38, 39, 40, 41, 42, 43, 44, 45, 46, 47, 48, 49, 50, 51, 52, 53, 54, 55, 56, 57] (fun dd : Nat => [(28, .int .i64 (dd : Nat))]) (fun dd W => dd ≤ N ∧ Yj x y dd 0 ∧ OwnLL W w.heap.size (.slice As N cs) us (YK x y N) ∧ Below w.heap.size w W) (fun dd => N - dd) 0 ⟨Nat.zero_le _, QGQ x y, hout, hbw⟩ ⟨rfl, trivial⟩ ?_
  clear hout hbw
  rintro dd wdd ⟨hk, hns, hout, hbw⟩
  by_cases hltdd : dd < N
  ·
   have hlD := Zt x y N;obtain ⟨bq, oq, eq_, _, cq⟩ := QBR (Rd.of_own (hlD ▸ hout.rd)) (k := dd) (by rw [hout.len, hlD]; exact hltdd)
   subst eq_;have hrow := hout.row dd (by rw [hlD]; exact hltdd)
   rw [YY hltdd, Zc] at hrow;obtain ⟨gr, cr, er⟩ := Z6 hrow (by omega)
   rw [er] at cq;clear hrow;refine EC.seq (EC.region ?_);refine EL.val (ZO (r := true) rfl rfl (decide_eq_true (by omega))) rfl ?_
   refine EL.nil (EX.seq (EC.seq (EC.yes rfl (EC.skip (EX.seq (EC.seq (EC.block (EC.seq (EC.region ?_)))))))));refine EL.mv rfl rfl (EL.val (QAu rfl rfl hltdd) rfl (EL.val (QAs rfl cq) rfl (EL.as rfl rfl (EL.as rfl rfl (EL.nil (EX.seq (EC.seq (EC.region (EL.mv rfl rfl ?_)))))))));refine EL.val (QHx rfl) rfl (EL.mv rfl rfl (EL.nil (EX.seq (EC.block ?_))));refine EC.loopD [6, 7, 8, 9, 13, 14, 15, 35, 36, 37, 38, 39, 40, 41, 42, 43, 44, 45, 46, 47, 48, 49, 50, 51, 52, 53, 54, 55, 56] (fun k : Nat => [(35, .int .i64 (k : Nat))]) (fun k W => k ≤ x.length ∧ Yj x y dd k ∧ OwnLL W w.heap.size (.slice (some ⟨bq, oq, none⟩) N cs) us (YK x y N) ∧ Below w.heap.size w W) (fun k => x.length - k) 0 ⟨Nat.zero_le _, hns, hout, hbw⟩ ⟨rfl, trivial⟩ ?_
   clear hns hout hbw
   rintro k wk ⟨hkx, hns, hout, hbw⟩
   by_cases hltk : k < x.length
   ·
    have hrow := hout.row dd (by rw [Zt]; exact hltdd)
    rw [YY hltdd, Zc, er] at hrow;obtain ⟨bn, on, eb_, _, cn⟩ := YL _ k (by rw [Zc]; exact hltk) _ _ _ _ _ (Rd.of_own hrow)
    injection eb_ with eb_
    injection eb_ with eb1_ eb2_
    subst eb1_ eb2_;rw [show (volL x y (dd + 1)).getD k bd0 = volD x y k (dd + 1) from YC _ hltk] at cn;obtain ⟨b, o, rfl, _, cc⟩ := Yp x k hltk w B _ _ _ hx;clear hrow;refine EC.seq (EC.region ?_);refine EL.val (ZO (r := true) rfl rfl (decide_eq_true (by omega))) rfl ?_
    refine EL.nil (EX.seq (EC.seq (EC.yes rfl (EC.skip (EX.seq (EC.seq (EC.block (EC.seq (EC.region ?_)))))))));refine EL.mv rfl rfl (EL.val (QAC rfl rfl hltk) rfl (EL.val (QBV rfl cn.c0 cn.c1) rfl (EL.newP QIP rfl ?_)));intro g2 w2 q2 hb2 hg2 hl2;have bhbw_2 := Nat.le_trans hbw.size hg2;have hap2 := hout.apart hg2;replace hout := hout.below hb2;replace hbw := bo_ hbw hb2;clear hb2 hg2 hl2;refine EL.as rfl rfl (EL.store rfl rfl q2 QDB rfl rfl rfl rfl ?_);intro w3 hq3 hg3;replace hout := hout.kept hg3 hap2;replace hbw := ZE hbw hg3 bhbw_2;replace q2 := hq3;clear hg3 hq3;refine EL.nil (EX.seq (EC.seq (EC.region (EL.mv rfl rfl (EL.mv rfl rfl (EL.val (QB3 rfl rfl hltk) rfl (EL.val (QCk rfl) rfl (EL.val (ld_3 rfl (ZC hbw cc.c1)) rfl (EL.as rfl rfl ?_)))))))));refine EL.nil (EX.seq (EC.seq (EC.region (EL.val (YE rfl) rfl (EL.val (ld_3 rfl (q2.at (j := 0) rfl)) rfl (EL.mv rfl rfl ?_))))))
    by_cases hsh : (volD x y k (dd + 1)).lo < (x.getD k lr0).least
    ·
     have hst : Y6 x y (dd + 1) k = true := decide_eq_true hsh;refine EL.val (ZO (r := true) rfl rfl (decide_eq_true (by omega))) rfl ?_
     refine EL.nil (EX.seq (EC.yes rfl (EC.seq ?_)));refine EC.regionQ (by kernel_rfl) (by kernel_rfl) ?_
     refine EQ.mv rfl rfl ?_;refine EQ.val (fun _ hw => (x_add rfl rfl (c := ((dd + 1 : Nat) : Int)) ((IntWalk.i64_in _ ⟨by first | omega | (simp only; omega), by first | omega | (simp only; omega)⟩).trans (by first | omega | (simp only; omega))))) rfl ?_
     refine EQ.mv rfl rfl ?_;refine EQ.val (fun _ hw => (YP rfl)) rfl ?_
     refine EQ.val (fun _ hw => (ld_3 rfl (ZC hw (q2.at (j := 1) rfl)))) rfl ?_
     refine EQ.mv rfl rfl ?_;refine EQ.val (fun _ hw => (ZO rfl rfl rfl)) rfl ?_
     refine EQ.val (fun _ hw => (ZZ rfl)) rfl ?_
     refine EQ.val (fun _ hw => (ZZ rfl)) rfl ?_
     refine EQ.val (fun _ hw => (ZZ rfl)) rfl ?_
     refine EQ.val (fun _ hw => (ZZ rfl)) rfl ?_
     refine EQ.fin (fun w4 hw_ => ?_)
     replace q2 := q2.bl hw_;replace hout := hout.below hw_;replace hbw := bo_ hbw hw_;clear hw_;refine EX.seq (EC.ret (EX.blk_ret (EX.seq_ret (EX.seq_ret (EX.blk_ret (EX.blk_ret (EX.seq_ret (EX.seq_ret (EX.blk_ret ?_)))))))));refine EX.seq_ret ?_
     exact EX.done (res4 rfl rfl rfl rfl rfl) ⟨_, _, _, by rw [he], fun _ => .inl ⟨dd, k, hltdd, hltk, hns, hst, rfl, rfl, rfl⟩, fun h => absurd he h, hbw⟩
    ·
     have hst : Y6 x y (dd + 1) k = false := decide_eq_false hsh;refine EL.val (ZO (r := false) rfl rfl (decide_eq_false (by omega))) rfl ?_
     refine EL.nil (EX.seq (EC.no rfl (EC.skip (EX.blk (EX.seq (EC.region ?_))))));refine EL.val (x_add rfl rfl (c := ((k + 1 : Nat) : Int)) ((IntWalk.i64_in _ ⟨by first | omega | (simp only; omega), by first | omega | (simp only; omega)⟩).trans (by first | omega | (simp only; omega)))) rfl ?_
     refine EL.mv rfl rfl (EL.nil ?_);refine EX.roundD (k + 1) ⟨rfl, trivial⟩ (by repeat first | with_reducible exact .refl _ | refine sp_ rfl ?_ | exact .refl _ | refine sd_ rfl ?_ | refine sn_ ?_) ⟨hltk, QHl hns hst, hout, hbw⟩ (by omega)
   ·
    obtain rfl : k = x.length := by omega
    replace hns := QJf hns;refine EC.seq (EC.region ?_);refine EL.val (ZO (r := false) rfl rfl (decide_eq_false (by omega))) rfl ?_
    refine EL.nil (EX.seq (EC.seq (EC.no rfl (EC.exit (EX.seq_exit (EX.seq_exit (EX.blk_here (EX.blk (EX.seq ?_)))))))));refine EC.region ?_;refine EL.val (x_add rfl rfl (c := ((dd + 1 : Nat) : Int)) ((IntWalk.i64_in _ ⟨by first | omega | (simp only; omega), by first | omega | (simp only; omega)⟩).trans (by first | omega | (simp only; omega)))) rfl ?_
    refine EL.mv rfl rfl (EL.nil ?_);refine EX.roundD (dd + 1) ⟨rfl, trivial⟩ (by repeat first | with_reducible exact .refl _ | refine sp_ rfl ?_ | exact .refl _ | refine sd_ rfl ?_ | refine sn_ ?_) ⟨hltdd, hns, hout, hbw⟩ (by omega)
  ·
   obtain rfl : dd = N := by omega
   refine EC.seq (EC.region ?_);refine EL.val (ZO (r := false) rfl rfl (decide_eq_false (by omega))) rfl ?_
   refine EL.nil (EX.seq (EC.seq (EC.no rfl (EC.exit (EX.seq_exit (EX.seq_exit (EX.blk_here (EX.seq (EC.seq ?_)))))))));refine EC.region (EL.as rfl rfl (EL.as rfl rfl (EL.as rfl rfl (EL.as rfl rfl (EL.nil (EX.seq (EC.ret ?_)))))))
   exact EX.done (res4 rfl rfl rfl rfl rfl) ⟨0, 0, false, by rw [he], fun _ => .inr ⟨hns, rfl, rfl, rfl⟩, fun h => absurd he h, hbw⟩
 ·
  clear hout;refine EL.val (Zn (r := true) rfl rfl (decide_eq_true (by omega))) rfl ?_
  refine EL.nil (EX.seq (EC.yes rfl (EC.seq (EC.region (EL.mv rfl rfl (EL.as rfl rfl (EL.as rfl rfl (EL.as rfl rfl (EL.as rfl rfl ?_)))))))));refine EL.nil (EX.seq (EC.ret (EX.seq_ret ?_)))
  exact EX.done (res4 rfl rfl rfl rfl rfl) ⟨_, _, _, rfl, fun h => absurd h he, fun _ => ⟨rfl, rfl, rfl⟩, hbw⟩
def oneK : LK := ⟨100, 20, 10, 1000, 40, false⟩
def Z9 : List TW := [⟨true, 0, 60, 1, 500⟩, ⟨false, 5, 80, 2, 300⟩, ⟨true, 10, 30, 1, 0⟩]
def QAa : List SP := [⟨true, 1⟩, ⟨false, 1⟩, ⟨true, 1⟩]
def xK : List LR := [⟨10000, 8000, ⟨500, 600⟩⟩, ⟨5000, 0, ⟨0, 0⟩⟩]
def yK : List LT := [⟨1000, ⟨1, 2⟩⟩]
theorem QHJ : QB4 oneK Z9 = ([⟨true, 2⟩, ⟨false, 1⟩], 140, 0) := by kernel_rfl
theorem QFG : Y5 oneK Z9 140 = ([⟨true, 2⟩, ⟨false, 1⟩], 140, 0) := by kernel_rfl
theorem QDM : Z0 oneK Z9 QAa = 0 := by kernel_rfl
theorem QE4 : (endP oneK Z9 QAa).up = -1800 ∧ (endP oneK Z9 QAa).lo = 800 ∧ (endP oneK Z9 QAa).ch = 1000 ∧ (endP oneK Z9 QAa).ba = 0 ∧ (endP oneK Z9 QAa).cost = 140 ∧ (endP oneK Z9 QAa).mv = 3 := ⟨by kernel_rfl, by kernel_rfl, by kernel_rfl, by kernel_rfl, by kernel_rfl, by kernel_rfl⟩
theorem QG4 : QGF oneK Z9 QAa = [⟨0, 20⟩, ⟨20, 40⟩, ⟨40, 60⟩] := by kernel_rfl
theorem QCu : chE xK yK 2 = 0 := by kernel_rfl
theorem QEj : volL xK yK 1 = [⟨8500, 9600⟩, ⟨6000, 7000⟩] ∧ volL xK yK 2 = [⟨7000, 9200⟩, ⟨7000, 9000⟩] := ⟨by kernel_rfl, by kernel_rfl⟩
theorem QGD {day reach : Int} {sure : Bool} (h : QC0 xK yK 2 day reach sure) : day = 2 ∧ reach = 0 ∧ sure = false := by
 have h1 : Y6 xK yK 1 0 = false := by kernel_rfl
 have h2 : Y6 xK yK 1 1 = false := by kernel_rfl
 have h3 : Y6 xK yK 2 0 = true := by kernel_rfl
 have h4 : decide ((volD xK yK 0 2).hi < (xK.getD 0 lr0).least) = false := by kernel_rfl
 rcases h with ⟨d, i, hd, hi, hn, hs, rfl, rfl, rfl⟩ | ⟨hn, _⟩
 ·have hi2 : i < 2 := hi
  have hd2 : d = 0 ∨ d = 1 := by omega
  have hi3 : i = 0 ∨ i = 1 := by omega
  rcases hd2 with rfl | rfl
  ·rcases hi3 with rfl | rfl
   ·rw [h1] at hs; cases hs
   ·rw [h2] at hs; cases hs
  ·rcases hi3 with rfl | rfl
   ·exact ⟨rfl, rfl, h4⟩
   ·have := hn.2 0 (by omega)
    rw [h3] at this
    cases this
 ·have := hn.1 2 0 (by omega) (by omega) (by decide)
  rw [h3] at this
  cases this
section
variable {n : Nat} {σ : Sg} {w : World} {dst : Option Tmp} {ty : TypeId} {pos : String} {af : Array Edge} {g : Option (Nat × Bool)} {x y z : Operand} {at' : Array TypeId}
theorem QNR (a : Act) (_ : Env n σ a) : (execOp a.eval ⟨dst, .alloc 23, ty, pos, af, g⟩).run Try.prog w = .ok (.value (.pointer (some ⟨w.heap.size, 0, none⟩))) (w.alloc (.cells #[.int .i64 0, .int .i64 0, .int .i64 0, .int .i64 0, .int .i64 0, .bool false] 23)) := by
 simp only [execOp]
 simp [go_sem]
theorem QDS {x0 x1 x2 x3 x4 : Operand} {z0 : Int} {z1 : Int} {z2 : Int} {z3 : Int} {z4 : Int} (h0 : evS σ x0 = some (.int .i64 z0)) (h1 : evS σ x1 = some (.int .i64 z1)) (h2 : evS σ x2 = some (.int .i64 z2)) (h3 : evS σ x3 = some (.int .i64 z3)) (h4 : evS σ x4 = some (.int .i64 z4)) : ZI Try.prog n σ w ⟨dst, .build 23 #[(0, x0), (1, x1), (2, x2), (3, x3), (4, x4)], ty, pos, af, g⟩ (.agg #[.int .i64 z0, .int .i64 z1, .int .i64 z2, .int .i64 z3, .int .i64 z4, .bool false]) := fun a ha => by
 simp only [execOp, List.map_toArray, List.map_cons, List.map_nil, ha.eval h0, ha.eval h1, ha.eval h2, ha.eval h3, ha.eval h4]
 go_simp
theorem QM4 {b o : Nat} {v0 v1 v2 v3 v4 v5 : Value} (c0 : w.cell? ⟨b, o, none⟩ = some v0) (c1 : w.cell? ⟨b, o + 1, none⟩ = some v1) (c2 : w.cell? ⟨b, o + 2, none⟩ = some v2) (c3 : w.cell? ⟨b, o + 3, none⟩ = some v3) (c4 : w.cell? ⟨b, o + 4, none⟩ = some v4) (c5 : w.cell? ⟨b, o + 5, none⟩ = some v5) : (loadVar 23 ⟨b, o, none⟩).run Try.prog w = .ok (.agg #[v0, v1, v2, v3, v4, v5]) w := by
 simp [go_sem, loadVar, c0, c1, c2, c3, c4, c5]
theorem QEh {x0 x1 x2 x3 : Operand} {b0 : Bool} {z1 : Int} {z2 : Int} {z3 : Int} (h0 : evS σ x0 = some (.bool b0)) (h1 : evS σ x1 = some (.int .i64 z1)) (h2 : evS σ x2 = some (.int .i64 z2)) (h3 : evS σ x3 = some (.int .i64 z3)) : ZI Try.prog n σ w ⟨dst, .build 39 #[(0, x0), (2, x1), (3, x2), (4, x3)], ty, pos, af, g⟩ (.agg #[.bool b0, .int .i64 0, .int .i64 z1, .int .i64 z2, .int .i64 z3]) := fun a ha => by
 simp only [execOp, List.map_toArray, List.map_cons, List.map_nil, ha.eval h0, ha.eval h1, ha.eval h2, ha.eval h3]
 go_simp
theorem QEg {x0 x1 x2 x3 : Operand} {z0 : Int} {z1 : Int} {z2 : Int} {z3 : Int} (h0 : evS σ x0 = some (.int .i64 z0)) (h1 : evS σ x1 = some (.int .i64 z1)) (h2 : evS σ x2 = some (.int .i64 z2)) (h3 : evS σ x3 = some (.int .i64 z3)) : ZI Try.prog n σ w ⟨dst, .build 39 #[(1, x0), (2, x1), (3, x2), (4, x3)], ty, pos, af, g⟩ (.agg #[.bool false, .int .i64 z0, .int .i64 z1, .int .i64 z2, .int .i64 z3]) := fun a ha => by
 simp only [execOp, List.map_toArray, List.map_cons, List.map_nil, ha.eval h0, ha.eval h1, ha.eval h2, ha.eval h3]
 go_simp
theorem QEi {x0 x1 x2 x3 : Operand} {b0 : Bool} {z1 : Int} {z2 : Int} {z3 : Int} (h0 : evS σ x0 = some (.bool b0)) (h1 : evS σ x1 = some (.int .i64 z1)) (h2 : evS σ x2 = some (.int .i64 z2)) (h3 : evS σ x3 = some (.int .i64 z3)) : ZI Try.prog n σ w ⟨dst, .build 39 #[(0, x0), (1, x1), (2, x2), (3, x3)], ty, pos, af, g⟩ (.agg #[.bool b0, .int .i64 z1, .int .i64 z2, .int .i64 z3, .int .i64 0]) := fun a ha => by
 simp only [execOp, List.map_toArray, List.map_cons, List.map_nil, ha.eval h0, ha.eval h1, ha.eval h2, ha.eval h3]
 go_simp
theorem QLf {x0 x1 x2 : Operand} {v0_0 v0_1 v0_2 v0_3 v0_4 v1_0 v1_1 v1_2 v1_3 v1_4 v2_0 v2_1 v2_2 v2_3 v2_4 : Value} (h0 : evS σ x0 = some (.agg #[v0_0, v0_1, v0_2, v0_3, v0_4])) (h1 : evS σ x1 = some (.agg #[v1_0, v1_1, v1_2, v1_3, v1_4])) (h2 : evS σ x2 = some (.agg #[v2_0, v2_1, v2_2, v2_3, v2_4]))  (a : Act) (ha : Env n σ a) : (execOp a.eval ⟨dst, .buildSlice 24 3 #[(0, x0), (1, x1), (2, x2)], ty, pos, af, g⟩).run Try.prog w = .ok (.value (.slice (some ⟨w.heap.size, 0, none⟩) 3 3)) (w.alloc (.cells #[v0_0, v0_1, v0_2, v0_3, v0_4, v1_0, v1_1, v1_2, v1_3, v1_4, v2_0, v2_1, v2_2, v2_3, v2_4] 39)) := by
 simp only [execOp, List.map_toArray, List.map_cons, List.map_nil, ha.eval h0, ha.eval h1, ha.eval h2]
 go_simp
theorem QDO {x0 x1 x2 : Operand} {z0 : Int} {z1 : Int} {v2_0 : Value} {v2_1 : Value} (h0 : evS σ x0 = some (.int .i64 z0)) (h1 : evS σ x1 = some (.int .i64 z1)) (h2 : evS σ x2 = some (.agg #[v2_0, v2_1])) : ZI Try.prog n σ w ⟨dst, .build 69 #[(0, x0), (1, x1), (2, x2)], ty, pos, af, g⟩ (.agg #[.int .i64 z0, .int .i64 z1, v2_0, v2_1]) := fun a ha => by
 simp only [execOp, List.map_toArray, List.map_cons, List.map_nil, ha.eval h0, ha.eval h1, ha.eval h2]
 go_simp
theorem QLj {x0 : Operand} {z0 : Int} (h0 : evS σ x0 = some (.int .i64 z0)) : ZI Try.prog n σ w ⟨dst, .build 69 #[(0, x0)], ty, pos, af, g⟩ (.agg #[.int .i64 z0, .int .i64 0, .int .i64 0, .int .i64 0]) := fun a ha => by
 simp only [execOp, List.map_toArray, List.map_cons, List.map_nil, ha.eval h0]
 go_simp
theorem QLc {x0 x1 : Operand} {v0_0 v0_1 v0_2 v0_3 v1_0 v1_1 v1_2 v1_3 : Value} (h0 : evS σ x0 = some (.agg #[v0_0, v0_1, v0_2, v0_3])) (h1 : evS σ x1 = some (.agg #[v1_0, v1_1, v1_2, v1_3]))  (a : Act) (ha : Env n σ a) : (execOp a.eval ⟨dst, .buildSlice 59 2 #[(0, x0), (1, x1)], ty, pos, af, g⟩).run Try.prog w = .ok (.value (.slice (some ⟨w.heap.size, 0, none⟩) 2 2)) (w.alloc (.cells #[v0_0, v0_1, v0_2, v0_3, v1_0, v1_1, v1_2, v1_3] 69)) := by
 simp only [execOp, List.map_toArray, List.map_cons, List.map_nil, ha.eval h0, ha.eval h1]
 go_simp
theorem QC_ {x0 x1 : Operand} {z0 : Int} {v1_0 : Value} {v1_1 : Value} (h0 : evS σ x0 = some (.int .i64 z0)) (h1 : evS σ x1 = some (.agg #[v1_0, v1_1])) : ZI Try.prog n σ w ⟨dst, .build 71 #[(0, x0), (1, x1)], ty, pos, af, g⟩ (.agg #[.int .i64 z0, v1_0, v1_1]) := fun a ha => by
 simp only [execOp, List.map_toArray, List.map_cons, List.map_nil, ha.eval h0, ha.eval h1]
 go_simp
theorem QFu {x0 : Operand} {v0_0 v0_1 v0_2 : Value} (h0 : evS σ x0 = some (.agg #[v0_0, v0_1, v0_2]))  (a : Act) (ha : Env n σ a) : (execOp a.eval ⟨dst, .buildSlice 60 1 #[(0, x0)], ty, pos, af, g⟩).run Try.prog w = .ok (.value (.slice (some ⟨w.heap.size, 0, none⟩) 1 1)) (w.alloc (.cells #[v0_0, v0_1, v0_2] 71)) := by
 simp only [execOp, List.map_toArray, List.map_cons, List.map_nil, ha.eval h0]
 go_simp
theorem QMk {a0 a1 a2 a3 b0 b1 b2 b3 : Int} {r : Bool} (hx : evS σ x = some (.agg #[.int .i64 a0, .int .i64 a1, .int .i64 a2, .int .i64 a3])) (hy : evS σ y = some (.agg #[.int .i64 b0, .int .i64 b1, .int .i64 b2, .int .i64 b3])) (hc : decide (a0 = b0 ∧ a1 = b1 ∧ a2 = b2 ∧ a3 = b3) = r) : ZI Try.prog n σ w ⟨dst, .binOp .eql 35 x y 35, ty, pos, af, g⟩ (.bool r) := fun a ha => by
 subst hc
 simp only [execOp, ha.eval hx, ha.eval hy]
 go_simp
 repeat' split
 all_goals simp_all
theorem QNC {b o m c k : Nat} (hx : evS σ x = some (.slice (some ⟨b, o, none⟩) m c)) (hy : evS σ y = some (.int .i64 (k : Int))) (hk : k < m) : ZI Try.prog n σ w ⟨dst, .indexAddr 31 x y, ty, pos, af, g⟩ (.pointer (some ⟨b, o + k * 2, none⟩)) := fun a ha => by
 have k0 : (0 : Int) ≤ (k : Int) := Int.natCast_nonneg _;have k1 : (k : Int) < (m : Int) := by omega
 simp only [execOp, ha.eval hx, ha.eval hy]
 simp [go_sem, k0, k1]
theorem QMj {a0 a1 b0 b1 : Int} {r : Bool} (hx : evS σ x = some (.agg #[.int .i64 a0, .int .i64 a1])) (hy : evS σ y = some (.agg #[.int .i64 b0, .int .i64 b1])) (hc : decide (a0 = b0 ∧ a1 = b1) = r) : ZI Try.prog n σ w ⟨dst, .binOp .eql 49 x y 49, ty, pos, af, g⟩ (.bool r) := fun a ha => by
 subst hc
 simp only [execOp, ha.eval hx, ha.eval hy]
 go_simp
 repeat' split
 all_goals simp_all
theorem QKG {a0 a1 b0 b1 : Int} {r : Bool} (hx : evS σ x = some (.agg #[.int .i64 a0, .int .i64 a1])) (hy : evS σ y = some (.agg #[.int .i64 b0, .int .i64 b1])) (hc : decide (a0 = b0 ∧ a1 = b1) = r) : ZI Try.prog n σ w ⟨dst, .binOp .eql 67 x y 67, ty, pos, af, g⟩ (.bool r) := fun a ha => by
 subst hc
 simp only [execOp, ha.eval hx, ha.eval hy]
 go_simp
 repeat' split
 all_goals simp_all
theorem cA0 {F : FuncId} (hF : cF F)  (a : Act) (_ : Env n σ a) : (execOp a.eval ⟨dst, .call { callee := .value (.func F), args := #[], argTypes := at' }, ty, pos, af, g⟩).run Try.prog w = .ok (.enter F #[]) w := by
 simp only [execOp, resolve, List.map_toArray, List.map_nil]
 simp [go_sem, Act.eval, hF _ _]
theorem cF36 : cF 36 := fun _ _ => by simp [go_sem]
theorem cF37 : cF 37 := fun _ _ => by simp [go_sem]
theorem cF23 : cF 23 := fun _ _ => by simp [go_sem]
theorem QIL {x0 : Operand} {z0 : Int} (h0 : evS σ x0 = some (.int .i64 z0)) : ZI Try.prog n σ w ⟨dst, .build 87 #[(1, x0)], ty, pos, af, g⟩ (.agg #[.bool false, .int .i64 z0]) := fun a ha => by
 simp only [execOp, List.map_toArray, List.map_cons, List.map_nil, ha.eval h0]
 go_simp
theorem QLe {x0 x1 x2 : Operand} {v0_0 v0_1 v1_0 v1_1 v2_0 v2_1 : Value} (h0 : evS σ x0 = some (.agg #[v0_0, v0_1])) (h1 : evS σ x1 = some (.agg #[v1_0, v1_1])) (h2 : evS σ x2 = some (.agg #[v2_0, v2_1]))  (a : Act) (ha : Env n σ a) : (execOp a.eval ⟨dst, .buildSlice 25 3 #[(0, x0), (1, x1), (2, x2)], ty, pos, af, g⟩).run Try.prog w = .ok (.value (.slice (some ⟨w.heap.size, 0, none⟩) 3 3)) (w.alloc (.cells #[v0_0, v0_1, v1_0, v1_1, v2_0, v2_1] 87)) := by
 simp only [execOp, List.map_toArray, List.map_cons, List.map_nil, ha.eval h0, ha.eval h1, ha.eval h2]
 go_simp
theorem cF17 : cF 17 := fun _ _ => by simp [go_sem]
theorem cF16 : cF 16 := fun _ _ => by simp [go_sem]
theorem cF25 : cF 25 := fun _ _ => by simp [go_sem]
theorem cF38 : cF 38 := fun _ _ => by simp [go_sem]
theorem cF27 : cF 27 := fun _ _ => by simp [go_sem]
theorem QM6 {A : Option Addr} {m c : Nat} (hx : evS σ x = some (.slice A m c)) : ZI Try.prog n σ w ⟨dst, .call { callee := .builtin .len, args := #[x], argTypes := #[31] }, ty, pos, af, g⟩ (.int .i64 (m : Int)) := fun a ha => by
 simp only [execOp, resolve, List.map_toArray, List.map_cons, List.map_nil, ha.eval hx]
 simp [go_sem]
theorem QGr {x0 x1 x2 : Operand} {z0 : Int} {z1 : Int} {z2 : Int} (h0 : evS σ x0 = some (.int .i64 z0)) (h1 : evS σ x1 = some (.int .i64 z1)) (h2 : evS σ x2 = some (.int .i64 z2)) : ZI Try.prog n σ w ⟨dst, .build 35 #[(0, x0), (1, x1), (2, x2)], ty, pos, af, g⟩ (.agg #[.int .i64 z0, .int .i64 z1, .int .i64 z2, .int .i64 0]) := fun a ha => by
 simp only [execOp, List.map_toArray, List.map_cons, List.map_nil, ha.eval h0, ha.eval h1, ha.eval h2]
 go_simp
theorem QIw {x0 x1 : Operand} {z0 : Int} {z1 : Int} (h0 : evS σ x0 = some (.int .i64 z0)) (h1 : evS σ x1 = some (.int .i64 z1)) : ZI Try.prog n σ w ⟨dst, .build 49 #[(0, x0), (1, x1)], ty, pos, af, g⟩ (.agg #[.int .i64 z0, .int .i64 z1]) := fun a ha => by
 simp only [execOp, List.map_toArray, List.map_cons, List.map_nil, ha.eval h0, ha.eval h1]
 go_simp
end
theorem QDY (w : World) : Calls Try.prog 36 #[] w fun e w' => e = .returned (.agg #[.int .i64 100, .int .i64 20, .int .i64 10, .int .i64 1000, .int .i64 40, .bool false]) ∧ Below w.heap.size w w' := by
 have hbw := Below.refl w.heap.size w;refine EC.enter 2 Try.func36 rfl rfl rfl (EC.seq (EC.region (EL.newP QNR rfl ?_)));intro g1 w1 q1 hb1 hg1 hl1;have bhbw_1 := Nat.le_trans hbw.size hg1;replace hbw := bo_ hbw hb1;clear hb1 hg1 hl1;refine EL.nil (EX.seq (EC.seq (EC.region (EL.val (QDS rfl rfl rfl rfl rfl) rfl (EL.store rfl rfl q1 QJI rfl rfl rfl rfl ?_)))));intro w2 hq2 hg2;replace hbw := ZE hbw hg2 bhbw_1;replace q1 := hq2;clear hg2 hq2;refine EL.nil (EX.seq (EC.ret ?_))
 exact EX.done (QGH rfl rfl (QM4 (q1.at (j := 0) rfl) (q1.at (j := 1) rfl) (q1.at (j := 2) rfl) (q1.at (j := 3) rfl) (q1.at (j := 4) rfl) (q1.at (j := 5) rfl))) ⟨rfl, hbw⟩
theorem QBj (w : World) : Calls Try.prog 37 #[] w fun e w' => (∃ g, e = .returned (.slice (some ⟨g, 0, none⟩) 3 3) ∧ Blk w' g 39 (twsC Z9).toArray) ∧ Below w.heap.size w w' := by
 have hbw := Below.refl w.heap.size w;refine EC.enter 5 Try.func37 rfl rfl rfl (EC.seq (EC.region (EL.as rfl rfl (EL.nil (EX.seq (EC.seq (EC.region (EL.val (QEh rfl rfl rfl rfl) rfl (EL.val (QEg rfl rfl rfl rfl) rfl ?_)))))))));refine EL.val (QEi rfl rfl rfl rfl) rfl (EL.newS (QLf rfl rfl rfl) rfl ?_);intro g1 w1 q1 hb1 hg1 hl1;have bhbw_1 := Nat.le_trans hbw.size hg1;replace hbw := bo_ hbw hb1;clear hb1 hg1 hl1;refine EL.as rfl rfl (EL.nil (EX.seq (EC.ret ?_)))
 exact EX.done (res1 rfl rfl) ⟨⟨_, rfl, q1⟩, hbw⟩
theorem QIu (w : World) : Calls Try.prog 38 #[] w fun e w' => (∃ g h, e = .returned (.tuple #[.slice (some ⟨g, 0, none⟩) 2 2, .slice (some ⟨h, 0, none⟩) 1 1]) ∧ Blk w' g 69 (lrsC xK).toArray ∧ Blk w' h 71 (ltsC yK).toArray) ∧ Below w.heap.size w w' := by
 have hbw := Below.refl w.heap.size w;refine EC.enter 9 Try.func38 rfl rfl rfl (EC.seq (EC.region (EL.as rfl rfl (EL.as rfl rfl (EL.nil (EX.seq (EC.seq (EC.region (EL.val (YM rfl rfl) rfl ?_)))))))));refine EL.val (QDO rfl rfl rfl) rfl (EL.val (QLj rfl) rfl (EL.newS (QLc rfl rfl) rfl ?_));intro g1 w1 q1 hb1 hg1 hl1;have bhbw_1 := Nat.le_trans hbw.size hg1;replace hbw := bo_ hbw hb1;clear hb1 hg1 hl1;refine EL.val (YM rfl rfl) rfl (EL.val (QC_ rfl rfl) rfl (EL.newS (QFu rfl) rfl ?_));intro g2 w2 q2 hb2 hg2 hl2;have n1_2 := q1.na hg2;have bhbw_2 := Nat.le_trans hbw.size hg2;replace q1 := q1.bl hb2;replace hbw := bo_ hbw hb2;clear hb2 hg2 hl2;refine EL.as rfl rfl (EL.as rfl rfl (EL.nil (EX.seq (EC.ret ?_))))
 exact EX.done (res2 rfl rfl rfl) ⟨⟨_, _, rfl, q1, q2⟩, hbw⟩
theorem QMp {v : Value} {w : World} {B : Nat} (hr : Rd w B 5 v 3 (twsC Z9)) (hB : B ≤ w.heap.size) : Calls Try.prog 23 #[.agg #[.int .i64 100, .int .i64 20, .int .i64 10, .int .i64 1000, .int .i64 40, .bool false], v] w fun e w' => ∃ g c, e = .returned (.tuple #[.slice (some ⟨g, 0, none⟩) 2 c, .int .i64 140, .int .i64 0]) ∧ w'.ownsRow w.heap.size 87 2 (.slice (some ⟨g, 0, none⟩) 2 c) 2 (spsC [⟨true, 2⟩, ⟨false, 1⟩]) ∧ Below w.heap.size w w' :=
 (QKe (l := oneK) (ts := Z9) hr hB).mono fun e w' ⟨sl, he, ho, hb⟩ => by
  rw [QHJ] at he ho;obtain ⟨g, c, rfl⟩ := Z6 ho (by decide)
  exact ⟨g, c, he, ho, hb⟩
theorem QI8 {v : Value} {w : World} {B : Nat} (hr : Rd w B 5 v 3 (twsC Z9)) (hB : B ≤ w.heap.size) : Calls Try.prog 25 #[.agg #[.int .i64 100, .int .i64 20, .int .i64 10, .int .i64 1000, .int .i64 40, .bool false], v, .int .i64 140] w fun e w' => ∃ g c, e = .returned (.tuple #[.slice (some ⟨g, 0, none⟩) 2 c, .int .i64 140, .int .i64 0]) ∧ w'.ownsRow w.heap.size 87 2 (.slice (some ⟨g, 0, none⟩) 2 c) 2 (spsC [⟨true, 2⟩, ⟨false, 1⟩]) ∧ Below w.heap.size w w' :=
 (QHQ (l := oneK) (ts := Z9) hr hB).mono fun e w' ⟨sl, he, ho, hb⟩ => by
  rw [QFG] at he ho;obtain ⟨g, c, rfl⟩ := Z6 ho (by decide)
  exact ⟨g, c, he, ho, hb⟩
theorem QMy {v vp : Value} {w : World} {B : Nat} (hr : Rd w B 5 v 3 (twsC Z9)) (hp : Rd w B 2 vp 3 (spsC QAa)) (hB : B ≤ w.heap.size) : Calls Try.prog 16 #[.agg #[.int .i64 100, .int .i64 20, .int .i64 10, .int .i64 1000, .int .i64 40, .bool false], v, vp] w fun e w' => ∃ g c, e = .returned (.tuple #[.slice (some ⟨g, 0, none⟩) 3 c, .int .i64 140, .int .i64 3, .int .i64 0]) ∧ w'.ownsRow w.heap.size 49 2 (.slice (some ⟨g, 0, none⟩) 3 c) 3 (rnsC [⟨0, 20⟩, ⟨20, 40⟩, ⟨40, 60⟩]) ∧ Below w.heap.size w w' :=
 (QLo (l := oneK) (ts := Z9) (p := QAa) hr hp hB (by decide)).mono fun e w' ⟨sl, he, ho, hb⟩ => by
  obtain ⟨_, _, _, _, e5, e6⟩ := QE4;rw [QDM, e5, e6] at he;rw [QG4] at ho;obtain ⟨g, c, rfl⟩ := Z6 ho (by decide)
  exact ⟨g, c, he, ho, hb⟩
theorem QKh {v vp : Value} {w : World} {B : Nat} (hr : Rd w B 5 v 3 (twsC Z9)) (hp : Rd w B 2 vp 3 (spsC QAa)) (hB : B ≤ w.heap.size) : Calls Try.prog 17 #[.agg #[.int .i64 100, .int .i64 20, .int .i64 10, .int .i64 1000, .int .i64 40, .bool false], v, vp] w fun e w' => e = .returned (.tuple #[.agg #[.int .i64 (-1800), .int .i64 800, .int .i64 1000, .int .i64 0], .int .i64 0]) ∧ Below w.heap.size w w' :=
 (QI0 (l := oneK) (ts := Z9) (p := QAa) hr hp hB (by decide)).mono fun e w' ⟨he, hb⟩ => by
  obtain ⟨e1, e2, e3, e4, _, _⟩ := QE4;rw [QDM, e1, e2, e3, e4] at he
  exact ⟨he, hb⟩
theorem QMm {vx vy : Value} {w : World} {B : Nat} (hx : Rd w B 4 vx 2 (lrsC xK)) (hy : Rd w B 3 vy 1 (ltsC yK)) (hB : B ≤ w.heap.size) : Calls Try.prog 26 #[vx, vy, .int .i64 2] w fun e w' => ∃ g c g0 c0 g1 c1, e = .returned (.tuple #[.slice (some ⟨g, 0, none⟩) 2 c, .int .i64 0]) ∧ w'.ownsRow w.heap.size 73 1 (.slice (some ⟨g, 0, none⟩) 2 c) 2 [.slice (some ⟨g0, 0, none⟩) 2 c0, .slice (some ⟨g1, 0, none⟩) 2 c1] ∧ w'.ownsRow w.heap.size 67 2 (.slice (some ⟨g0, 0, none⟩) 2 c0) 2 (bdsC [⟨8500, 9600⟩, ⟨6000, 7000⟩]) ∧ w'.ownsRow w.heap.size 67 2 (.slice (some ⟨g1, 0, none⟩) 2 c1) 2 (bdsC [⟨7000, 9200⟩, ⟨7000, 9000⟩]) ∧ Below w.heap.size w w' :=
 (QEa (x := xK) (y := yK) (days := 2) hx hy hB (by decide)).mono fun e w' ⟨sl, us, he, ho, _, hb⟩ => by
  rw [QCu] at he;have h := ho QCu;have h0 := h.row 0 (by decide)
  have h1 := h.row 1 (by decide)
  have hl := h.len;have hd := h.rd;rw [show (YK xK yK (2 : Int).toNat).getD 0 [] = volL xK yK 1 from rfl, QEj.1] at h0;rw [show (YK xK yK (2 : Int).toNat).getD 1 [] = volL xK yK 2 from rfl, QEj.2] at h1
  match us, hl with
  | [a, b], _ =>
   obtain ⟨g0, c0, e0⟩ := Z6 h0 (by decide)
   obtain ⟨g1, c1, e1⟩ := Z6 h1 (by decide)
   obtain ⟨g, c, rfl⟩ := Z6 hd (by decide)
   have ea : a = .slice (some ⟨g0, 0, none⟩) 2 c0 := e0;have eb : b = .slice (some ⟨g1, 0, none⟩) 2 c1 := e1;subst ea eb
   exact ⟨g, c, g0, c0, g1, c1, he, hd, h0, h1, hb⟩
theorem QKt {vx vy : Value} {w : World} {B : Nat} (hx : Rd w B 4 vx 2 (lrsC xK)) (hy : Rd w B 3 vy 1 (ltsC yK)) (hB : B ≤ w.heap.size) : Calls Try.prog 27 #[vx, vy, .int .i64 2] w fun e w' => e = .returned (.tuple #[.int .i64 2, .int .i64 0, .bool false, .int .i64 0]) ∧ Below w.heap.size w w' :=
 (QE_ (x := xK) (y := yK) (days := 2) hx hy hB (by decide)).mono fun e w' ⟨day, reach, sure, he, hs, _, hb⟩ => by
  obtain ⟨rfl, rfl, rfl⟩ := QGD (hs QCu);rw [QCu] at he
  exact ⟨he, hb⟩
section
variable {n : Nat} {σ : Sg} {w : World} {dst : Option Tmp} {ty : TypeId} {pos : String} {af : Array Edge} {g : Option (Nat × Bool)} {x y : Operand}
theorem eqSP {a b : Bool} {m k : Int} {r : Bool} (hx : evS σ x = some (.agg #[.bool a, .int .i64 m])) (hy : evS σ y = some (.agg #[.bool b, .int .i64 k])) (hc : decide (a = b ∧ m = k) = r) : ZI Try.prog n σ w ⟨dst, .binOp .eql 87 x y 87, ty, pos, af, g⟩ (.bool r) := fun _ ha => by
 subst hc
 simp only [execOp, ha.eval hx, ha.eval hy]
 go_simp
 repeat' split
 all_goals simp_all
end
theorem Yf {w : World} {base e z g m c : Nat} {xs : List Value} {j : Nat} {u : Value} (h : w.ownsRow base e z (.slice (some ⟨g, 0, none⟩) m c) m xs) (hj : xs[j]? = some u) : w.cell? ⟨g, 0 + j, none⟩ = some u := by
 obtain ⟨_, A, c2, e1, _, h1⟩ := Rd.of_own h
 injection e1 with e1 _ _
 subst e1;have hm : 0 < m := by
  rcases Nat.eq_zero_or_pos m with h0 | h0
  ·have := h.1
   rw [h0, Nat.zero_mul] at this;rw [List.eq_nil_of_length_eq_zero this] at hj
   cases hj
  ·exact h0
 obtain ⟨b, off, e2, _, h2⟩ := h1 hm
 injection e2 with e2
 injection e2 with e3 e4
 subst e3 e4
 exact h2 j u hj
set_option maxRecDepth 100000 in
theorem QC5 (w : World) : Calls Try.prog 12 #[] w fun e w' => e = .returned (.bool true) ∧ Below w.heap.size w w' := by
 have hbw := Below.refl w.heap.size w;refine EC.enter 196 Try.func12 rfl rfl rfl (EC.seq (EC.region (EL.as rfl rfl (EL.nil (EX.seq (EC.seq (EC.region (EL.call (cA0 cF36) rfl (QDY _) ?_))))))))
 rintro e w1 ⟨rfl, hc1⟩
 refine ⟨_, rfl, ?_⟩;replace hbw := bo_ hbw hc1;clear hc1;refine EL.call (cA0 cF37) rfl (QBj _) ?_
 rintro e w2 ⟨⟨g3, rfl, q3⟩, hc2⟩
 refine ⟨_, rfl, ?_⟩;replace hbw := bo_ hbw hc2;clear hc2;refine EL.call (cA2 cF23 rfl rfl) rfl (QMp (Yt (k := 3) (l := twsC Z9) q3 rfl) (Nat.le_refl _)) ?_
 rintro e w3 ⟨gb, cb, rfl, hob, hc3⟩
 refine ⟨_, rfl, ?_⟩;replace hbw := bo_ hbw hc3;clear hc3;refine EL.mv rfl rfl (EL.xt rfl rfl rfl (EL.xt rfl rfl rfl (EL.xt rfl rfl rfl (EL.as rfl rfl (EL.as rfl rfl (EL.as rfl rfl (EL.nil (EX.seq (EC.seq ?_)))))))));refine EC.region (EL.val (QAz rfl rfl) rfl (EL.val (QIL rfl) rfl (EL.val (QAz rfl rfl) rfl (EL.newS (QLe rfl rfl rfl) rfl ?_))));intro g4 w4 q4 hb4 hg4 hl4;have bhbw_4 := Nat.le_trans hbw.size hg4;replace hob := ZB hob hb4 (Nat.le_refl _);replace hbw := bo_ hbw hb4;clear hb4 hg4 hl4;refine EL.as rfl rfl (EL.nil (EX.seq (EC.seq (EC.region (EL.call (cA0 cF36) rfl (QDY _) ?_)))))
 rintro e w5 ⟨rfl, hc5⟩
 refine ⟨_, rfl, ?_⟩;replace q4 := q4.bl hc5;replace hob := ZB hob hc5 (Nat.le_refl _);replace hbw := bo_ hbw hc5;clear hc5;refine EL.call (cA0 cF37) rfl (QBj _) ?_
 rintro e w6 ⟨⟨g3, rfl, q3⟩, hc6⟩
 refine ⟨_, rfl, ?_⟩;replace q4 := q4.bl hc6;replace hob := ZB hob hc6 (Nat.le_refl _);replace hbw := bo_ hbw hc6;clear hc6;refine EL.mv rfl rfl (EL.call (cA3 cF17 rfl rfl rfl) rfl (QKh (Yt (k := 3) (l := twsC Z9) q3 rfl) (Yt (k := 3) (l := spsC QAa) q4 rfl) (Nat.le_refl _)) ?_)
 rintro e w7 ⟨rfl, hc7⟩
 refine ⟨_, rfl, ?_⟩;replace q4 := q4.bl hc7;replace hob := ZB hob hc7 (Nat.le_refl _);replace hbw := bo_ hbw hc7;clear hc7;refine EL.mv rfl rfl (EL.xt rfl rfl rfl (EL.xt rfl rfl rfl (EL.newP QL7 rfl ?_)));intro g8 w8 q8 hb8 hg8 hl8;have n4_8 := q4.na hg8;have bhbw_8 := Nat.le_trans hbw.size hg8;replace q4 := q4.bl hb8;replace hob := ZB hob hb8 (Nat.le_refl _);replace hbw := bo_ hbw hb8;clear hb8 hg8 hl8;refine EL.store rfl rfl q8 QJF rfl rfl rfl rfl ?_;intro w9 hq9 hg9;replace q4 := q4.gr hg9 n4_8;replace hob := ZG hob q8 rfl hg9;replace hbw := ZE hbw hg9 bhbw_8;replace q8 := hq9;clear hg9 hq9;refine EL.as rfl rfl (EL.nil (EX.seq (EC.seq (EC.region (EL.call (cA0 cF36) rfl (QDY _) ?_)))))
 rintro e w10 ⟨rfl, hc10⟩
 refine ⟨_, rfl, ?_⟩;replace q4 := q4.bl hc10;replace q8 := q8.bl hc10;replace hob := ZB hob hc10 (Nat.le_refl _);replace hbw := bo_ hbw hc10;clear hc10;refine EL.call (cA0 cF37) rfl (QBj _) ?_
 rintro e w11 ⟨⟨g3, rfl, q3⟩, hc11⟩
 refine ⟨_, rfl, ?_⟩;replace q4 := q4.bl hc11;replace q8 := q8.bl hc11;replace hob := ZB hob hc11 (Nat.le_refl _);replace hbw := bo_ hbw hc11;clear hc11;refine EL.mv rfl rfl (EL.call (cA3 cF16 rfl rfl rfl) rfl (QMy (Yt (k := 3) (l := twsC Z9) q3 rfl) (Yt (k := 3) (l := spsC QAa) q4 rfl) (Nat.le_refl _)) ?_)
 rintro e w12 ⟨gr, cr, rfl, hor, hc12⟩
 refine ⟨_, rfl, ?_⟩;replace q4 := q4.bl hc12;replace q8 := q8.bl hc12;replace hob := ZB hob hc12 (Nat.le_refl _);replace hbw := bo_ hbw hc12;clear hc12;refine EL.mv rfl rfl (EL.xt rfl rfl rfl (EL.xt rfl rfl rfl (EL.xt rfl rfl rfl (EL.xt rfl rfl rfl (EL.as rfl rfl (EL.as rfl rfl (EL.as rfl rfl (EL.as rfl rfl (EL.nil ?_)))))))));refine EX.seq (EC.seq (EC.region (EL.call (cA0 cF36) rfl (QDY _) ?_)))
 rintro e w13 ⟨rfl, hc13⟩
 refine ⟨_, rfl, ?_⟩;replace q4 := q4.bl hc13;replace q8 := q8.bl hc13;replace hob := ZB hob hc13 (Nat.le_refl _);replace hor := ZB hor hc13 (Nat.le_refl _);replace hbw := bo_ hbw hc13;clear hc13;refine EL.call (cA0 cF37) rfl (QBj _) ?_
 rintro e w14 ⟨⟨g3, rfl, q3⟩, hc14⟩
 refine ⟨_, rfl, ?_⟩;replace q4 := q4.bl hc14;replace q8 := q8.bl hc14;replace hob := ZB hob hc14 (Nat.le_refl _);replace hor := ZB hor hc14 (Nat.le_refl _);replace hbw := bo_ hbw hc14;clear hc14;refine EL.call (cA3 cF25 rfl rfl rfl) rfl (QI8 (Yt (k := 3) (l := twsC Z9) q3 rfl) (Nat.le_refl _)) ?_
 rintro e w15 ⟨gt, ct, rfl, hot, hc15⟩
 refine ⟨_, rfl, ?_⟩;replace q4 := q4.bl hc15;replace q8 := q8.bl hc15;replace hob := ZB hob hc15 (Nat.le_refl _);replace hor := ZB hor hc15 (Nat.le_refl _);replace hbw := bo_ hbw hc15;clear hc15;refine EL.mv rfl rfl (EL.xt rfl rfl rfl (EL.xt rfl rfl rfl (EL.xt rfl rfl rfl (EL.as rfl rfl (EL.as rfl rfl (EL.as rfl rfl (EL.nil (EX.seq (EC.seq ?_)))))))));refine EC.region (EL.call (cA0 cF38) rfl (QIu _) ?_)
 rintro e w16 ⟨⟨gx, gy, rfl, qx, qy⟩, hc16⟩
 refine ⟨_, rfl, ?_⟩;replace q4 := q4.bl hc16;replace q8 := q8.bl hc16;replace hob := ZB hob hc16 (Nat.le_refl _);replace hor := ZB hor hc16 (Nat.le_refl _);replace hot := ZB hot hc16 (Nat.le_refl _);replace hbw := bo_ hbw hc16;clear hc16;refine EL.mv rfl rfl (EL.xt rfl rfl rfl (EL.xt rfl rfl rfl (EL.as rfl rfl (EL.as rfl rfl (EL.nil (EX.seq (EC.seq (EC.region (EL.mv rfl rfl ?_)))))))));refine EL.mv rfl rfl (EL.call (cA3 cF26 rfl rfl rfl) rfl (QMm (Yt (k := 2) (l := lrsC xK) qx rfl) (Yt (k := 1) (l := ltsC yK) qy rfl) (Nat.le_refl _)) ?_)
 rintro e w19 ⟨gd, cd, gd0, cd0, gd1, cd1, rfl, hod, hod0, hod1, hc19⟩
 refine ⟨_, rfl, ?_⟩;replace q4 := q4.bl hc19;replace q8 := q8.bl hc19;replace qx := qx.bl hc19;replace qy := qy.bl hc19;replace hob := ZB hob hc19 (Nat.le_refl _);replace hor := ZB hor hc19 (Nat.le_refl _);replace hot := ZB hot hc19 (Nat.le_refl _);replace hbw := bo_ hbw hc19;clear hc19;refine EL.mv rfl rfl (EL.xt rfl rfl rfl (EL.xt rfl rfl rfl (EL.as rfl rfl (EL.as rfl rfl (EL.nil (EX.seq (EC.seq (EC.region (EL.mv rfl rfl ?_)))))))));refine EL.mv rfl rfl (EL.call (cA3 cF27 rfl rfl rfl) rfl (QKt (Yt (k := 2) (l := lrsC xK) qx rfl) (Yt (k := 1) (l := ltsC yK) qy rfl) (Nat.le_refl _)) ?_)
 rintro e w20 ⟨rfl, hc20⟩
 refine ⟨_, rfl, ?_⟩;replace q4 := q4.bl hc20;replace q8 := q8.bl hc20;replace qx := qx.bl hc20;replace qy := qy.bl hc20;replace hob := ZB hob hc20 (Nat.le_refl _);replace hor := ZB hor hc20 (Nat.le_refl _);replace hot := ZB hot hc20 (Nat.le_refl _);replace hod := ZB hod hc20 (Nat.le_refl _);replace hod0 := ZB hod0 hc20 (Nat.le_refl _);replace hod1 := ZB hod1 hc20 (Nat.le_refl _);replace hbw := bo_ hbw hc20;clear hc20;refine EL.mv rfl rfl (EL.xt rfl rfl rfl (EL.xt rfl rfl rfl (EL.xt rfl rfl rfl (EL.xt rfl rfl rfl (EL.as rfl rfl (EL.as rfl rfl (EL.as rfl rfl (EL.as rfl rfl (EL.nil ?_)))))))));refine EX.seq (EC.seq (EC.seq (EC.region (EL.mv rfl rfl ?_))));refine EL.val (Zn (r := false) rfl rfl (by decide)) rfl ?_
 refine EL.mv rfl rfl (EL.mg rfl rfl rfl rfl ?_);refine EL.valg rfl rfl (Zn (r := false) rfl rfl (by decide)) rfl ?_
 refine EL.pf rfl rfl rfl (EL.mv rfl rfl (EL.mg rfl rfl rfl rfl ?_));refine EL.valg rfl rfl (Zn (r := false) rfl rfl (by decide)) rfl ?_
 refine EL.pf rfl rfl rfl (EL.mv rfl rfl (EL.mg rfl rfl rfl rfl ?_));refine EL.valg rfl rfl (Zn (r := false) rfl rfl (by decide)) rfl ?_
 refine EL.pf rfl rfl rfl (EL.mv rfl rfl (EL.mg rfl rfl rfl rfl ?_));refine EL.valg rfl rfl (Zn (r := false) rfl rfl (by decide)) rfl ?_
 refine EL.pf rfl rfl rfl (EL.mv rfl rfl (EL.mg rfl rfl rfl rfl ?_));refine EL.valg rfl rfl (Zn (r := false) rfl rfl (by decide)) rfl ?_
 refine EL.pf rfl rfl rfl (EL.mv rfl rfl (EL.mg rfl rfl rfl rfl (EL.valg rfl rfl (QB0 rfl) rfl ?_)));refine EL.valg rfl rfl (Zn (r := false) rfl rfl (by decide)) rfl ?_
 refine EL.pf rfl rfl rfl (EL.mv rfl rfl (EL.mg rfl rfl rfl rfl (EL.valg rfl rfl (QB0 rfl) rfl ?_)));refine EL.valg rfl rfl (Zn (r := false) rfl rfl (by decide)) rfl ?_
 refine EL.pf rfl rfl rfl (EL.mv rfl rfl (EL.mg rfl rfl rfl rfl (EL.valg rfl rfl (QM6 rfl) rfl ?_)));refine EL.valg rfl rfl (Zn (r := false) rfl rfl (by decide)) rfl ?_
 refine EL.pf rfl rfl rfl (EL.mv rfl rfl (EL.mg rfl rfl rfl rfl (EL.valg rfl rfl (QHy rfl) rfl ?_)));refine EL.valg rfl rfl (Zn (r := false) rfl rfl (by decide)) rfl ?_
 refine EL.pf rfl rfl rfl (EL.mv rfl rfl (EL.mg rfl rfl rfl rfl ?_));refine EL.valg rfl rfl (QAu (k := 0) rfl rfl (by omega)) rfl ?_
 refine EL.valg rfl rfl (QAs rfl (QAK hod (k := 0) (Nat.zero_lt_succ _))) rfl (EL.valg rfl rfl (QHx rfl) rfl ?_);refine EL.valg rfl rfl (Zn (r := false) rfl rfl (by decide)) rfl ?_
 refine EL.pf rfl rfl rfl (EL.mv rfl rfl (EL.mg rfl rfl rfl rfl ?_));refine EL.valg rfl rfl (QAu (k := 1) rfl rfl (by omega)) rfl ?_
 refine EL.valg rfl rfl (QAs rfl (QAK hod (k := 1) (Nat.lt_succ_self _))) rfl (EL.valg rfl rfl (QHx rfl) rfl ?_);refine EL.valg rfl rfl (Zn (r := false) rfl rfl (by decide)) rfl ?_
 refine EL.pf rfl rfl rfl (EL.nil (EX.seq (EC.no rfl (EC.skip (EX.seq (EC.seq (EC.region (EL.mv rfl rfl ?_))))))));refine EL.val (QE0 (k := 0) rfl rfl (by omega)) rfl ?_
 refine EL.val (QDD rfl (Yf hob (j := 0) rfl) (Yf hob (j := 1) rfl)) rfl (EL.val (QAz rfl rfl) rfl ?_);refine EL.val (eqSP (r := true) rfl rfl (by decide)) rfl ?_
 refine EL.mv rfl rfl (EL.mg rfl rfl rfl rfl ?_);refine EL.valg rfl rfl (Zx (r := true) rfl rfl (by decide)) rfl ?_
 refine EL.pt rfl rfl rfl (EL.mv rfl rfl (EL.valg rfl rfl (QL0 rfl (q8.at (j := 0) rfl) (q8.at (j := 1) rfl) (q8.at (j := 2) rfl) (q8.at (j := 3) rfl)) rfl (EL.valg rfl rfl (QGr rfl rfl rfl) rfl ?_)));refine EL.valg rfl rfl (QMk (r := true) rfl rfl (by decide)) rfl ?_
 refine EL.pt rfl rfl rfl (EL.mv rfl rfl (EL.mg rfl rfl rfl rfl ?_));refine EL.valg rfl rfl (QNC (k := 2) rfl rfl (by omega)) rfl ?_
 refine EL.valg rfl rfl (QDE rfl (Yf hor (j := 4) rfl) (Yf hor (j := 5) rfl)) rfl (EL.valg rfl rfl (QIw rfl rfl) rfl ?_);refine EL.valg rfl rfl (QMj (r := true) rfl rfl (by decide)) rfl ?_
 refine EL.pt rfl rfl rfl (EL.mv rfl rfl (EL.mg rfl rfl rfl rfl ?_));refine EL.valg rfl rfl (Zx (r := true) rfl rfl (by decide)) rfl ?_
 refine EL.pt rfl rfl rfl (EL.mv rfl rfl (EL.mg rfl rfl rfl rfl ?_));refine EL.valg rfl rfl (Zx (r := true) rfl rfl (by decide)) rfl ?_
 refine EL.pt rfl rfl rfl (EL.mv rfl rfl (EL.mg rfl rfl rfl rfl ?_));refine EL.valg rfl rfl (QE0 (k := 1) rfl rfl (by omega)) rfl ?_
 refine EL.valg rfl rfl (QDD rfl (Yf hot (j := 2) rfl) (Yf hot (j := 3) rfl)) rfl (EL.valg rfl rfl (QIL rfl) rfl ?_);refine EL.valg rfl rfl (eqSP (r := true) rfl rfl (by decide)) rfl ?_
 refine EL.pt rfl rfl rfl (EL.mv rfl rfl (EL.mg rfl rfl rfl rfl ?_));refine EL.valg rfl rfl (QAu (k := 0) rfl rfl (by omega)) rfl ?_
 refine EL.valg rfl rfl (QAs rfl (QAK hod (k := 0) (Nat.zero_lt_succ _))) rfl ?_;refine EL.valg rfl rfl (QAC (k := 1) rfl rfl (by omega)) rfl ?_
 refine EL.valg rfl rfl (QBV rfl (Yf hod0 (j := 2) rfl) (Yf hod0 (j := 3) rfl)) rfl (EL.valg rfl rfl (YM rfl rfl) rfl ?_);refine EL.valg rfl rfl (QKG (r := true) rfl rfl (by decide)) rfl ?_
 refine EL.pt rfl rfl rfl (EL.mv rfl rfl (EL.mg rfl rfl rfl rfl ?_));refine EL.valg rfl rfl (QAu (k := 1) rfl rfl (by omega)) rfl ?_
 refine EL.valg rfl rfl (QAs rfl (QAK hod (k := 1) (Nat.lt_succ_self _))) rfl ?_;refine EL.valg rfl rfl (QAC (k := 0) rfl rfl (by omega)) rfl ?_
 refine EL.valg rfl rfl (QBV rfl (Yf hod1 (j := 0) rfl) (Yf hod1 (j := 1) rfl)) rfl (EL.valg rfl rfl (YM rfl rfl) rfl ?_);refine EL.valg rfl rfl (QKG (r := true) rfl rfl (by decide)) rfl ?_
 refine EL.pt rfl rfl rfl (EL.mv rfl rfl (EL.mg rfl rfl rfl rfl ?_));refine EL.valg rfl rfl (Zx (r := true) rfl rfl (by decide)) rfl ?_
 refine EL.pt rfl rfl rfl (EL.mv rfl rfl (EL.mg rfl rfl rfl rfl ?_));refine EL.valg rfl rfl (Zx (r := true) rfl rfl (by decide)) rfl ?_
 refine EL.pt rfl rfl rfl (EL.mv rfl rfl (EL.mg rfl rfl rfl rfl (EL.valg rfl rfl (ZX rfl) rfl (EL.pt rfl rfl rfl (EL.as rfl rfl (EL.nil (EX.seq (EC.ret ?_))))))))
 exact EX.done (res1 rfl rfl) ⟨rfl, hbw⟩
section
variable {x : List LR} {y : List LT} {days : Int}
end
theorem QEq {x : List LR} {y : List LT} {N : Nat} {a b a2 b2 : Int} {s s2 : Bool} (h : QC0 x y N a b s) (k : QC0 x y N a2 b2 s2) : a = a2 ∧ b = b2 ∧ s = s2 := by
 have key : ∀ {d i e j : Nat}, Yj x y d i → i < x.length → Y6 x y (e + 1) j = true → j < x.length → d < e ∨ (d = e ∧ i ≤ j) := fun {d i e j} hn hi hs hj => by
  rcases Nat.lt_trichotomy d e with h1 | h1 | h1
  ·exact .inl h1
  ·subst h1
   rcases Nat.lt_or_ge j i with h2 | h2
   ·rw [hn.2 j h2] at hs; cases hs
   ·exact .inr ⟨rfl, h2⟩
  ·rw [hn.1 (e + 1) j (by omega) (by omega) hj] at hs; cases hs
 rcases h with ⟨d, i, hd, hi, hn, hs, rfl, rfl, rfl⟩ | ⟨hn, rfl, rfl, rfl⟩ <;> rcases k with ⟨e, j, he, hj, hm, ht, rfl, rfl, rfl⟩ | ⟨hm, rfl, rfl, rfl⟩
 ·have h1 := key hn hi ht hj
  have h2 := key hm hj hs hi;obtain rfl : d = e := by omega
  obtain rfl : i = j := by omega
  exact ⟨rfl, rfl, rfl⟩
 ·rw [hm.1 (d + 1) i (by omega) (by omega) hi] at hs; cases hs
 ·rw [hn.1 (e + 1) j (by omega) (by omega) hj] at ht; cases ht
 ·exact ⟨rfl, rfl, rfl⟩
section
variable {n : Nat} {σ : Sg} {w : World} {dst : Option Tmp} {ty : TypeId} {pos : String} {af : Array Edge} {g : Option (Nat × Bool)} {x y z : Operand} {at' : Array TypeId}
theorem cF12 : cF 12 := fun _ _ => by simp [go_sem]
theorem QFw (a : Act) (_ : Env n σ a) : (execOp a.eval ⟨dst, .buildSlice 59 0 #[], ty, pos, af, g⟩).run Try.prog w = .ok (.value (.slice (some ⟨w.heap.size, 0, none⟩) 0 0)) (w.alloc (.cells #[] 69)) := by
 simp only [execOp]
 go_simp
theorem QFv (a : Act) (_ : Env n σ a) : (execOp a.eval ⟨dst, .buildSlice 60 0 #[], ty, pos, af, g⟩).run Try.prog w = .ok (.value (.slice (some ⟨w.heap.size, 0, none⟩) 0 0)) (w.alloc (.cells #[] 71)) := by
 simp only [execOp]
 go_simp
end
theorem QLG : (Try.prog.info? 69).map (fun i => (i.zero, i.size, i.bytes)) = some (some (.agg #[.int .i64 0, .int .i64 0, .int .i64 0, .int .i64 0]), 4, 32) := by kernel_rfl
theorem QFY : Elem Try.prog 59 69 4 32 := Elem.mk' Try.underlying59 QLG rfl (by omega)
theorem QLC : (Try.prog.info? 71).map (fun i => (i.zero, i.size, i.bytes)) = some (some (.agg #[.int .i64 0, .int .i64 0, .int .i64 0]), 3, 24) := by kernel_rfl
theorem QDb : Elem Try.prog 60 71 3 24 := Elem.mk' Try.underlying60 QLC rfl (by omega)
theorem OwnLL.mono {w : World} {base b : Nat} {sl : Value} {us : List Value} {ls : List (List Bd)} (h : OwnLL w base sl us ls) (hb : b ≤ base) : OwnLL w b sl us ls := ⟨h.len, YI h.rd hb, fun i hi => YI (h.row i hi) hb⟩
section
variable {n : Nat} {σ : Sg} {w : World} {dst : Option Tmp} {ty : TypeId} {pos : String} {af : Array Edge} {g : Option (Nat × Bool)} {x y : Operand}
end
section
variable {n : Nat} {σ : Sg} {w : World} {dst : Option Tmp} {ty : TypeId} {pos : String} {af : Array Edge} {g : Option (Nat × Bool)} {x y z : Operand} {at' : Array TypeId}
theorem Yl {m : Int} (hx : evS σ x = some (.int .u8 m)) (hm : IntKind.i64.wrap m = m) : ZI Try.prog n σ w ⟨dst, .convert 5 3 x, ty, pos, af, g⟩ (.int .i64 m) := fun a ha => by
 simp only [execOp, ha.eval hx]
 simp [go_sem, hm]
theorem ld_5 {b o : Nat} {v0 : Value} (hx : evS σ x = some (.pointer (some ⟨b, o, none⟩))) (c0 : w.cell? ⟨b, o, none⟩ = some v0) : ZI Try.prog n σ w ⟨dst, .load 5 x, ty, pos, af, g⟩ (v0) := fun a ha => by
 simp only [execOp, ha.eval hx]
 simp [go_sem, c0]
end
section
variable {n : Nat} {σ : Sg} {w : World} {dst : Option Tmp} {ty : TypeId} {pos : String} {af : Array Edge} {g : Option (Nat × Bool)} {x y z : Operand} {at' : Array TypeId}
theorem QBW {b o k : Nat} (hx : evS σ x = some (.pointer (some ⟨b, o, none⟩))) (hy : evS σ y = some (.int .i64 (k : Int))) (hk : k < 3) : ZI Try.prog n σ w ⟨dst, .indexAddr 93 x y, ty, pos, af, g⟩ (.pointer (some ⟨b, o + k, none⟩)) := fun a ha => by
 have k0 : (0 : Int) ≤ (k : Int) := Int.natCast_nonneg _;have k1 : (k : Int) < 3 := by omega
 simp only [execOp, ha.eval hx, ha.eval hy]
 simp [go_sem, k0, k1]
end
section
variable {n : Nat} {σ : Sg} {w : World} {dst : Option Tmp} {ty : TypeId} {pos : String} {af : Array Edge} {g : Option (Nat × Bool)} {x y z : Operand} {at' : Array TypeId}
theorem QJz {b o : Nat} {v0 : Value} (hx : evS σ x = some (.pointer (some ⟨b, o, none⟩))) (c0 : w.cell? ⟨b, o, none⟩ = some v0) : ZI Try.prog n σ w ⟨dst, .load 99 x, ty, pos, af, g⟩ (v0) := fun a ha => by
 simp only [execOp, ha.eval hx]
 simp [go_sem, c0]
theorem QLy {A : Option Addr} {m c : Nat} (hx : evS σ x = some (.slice A m c)) : ZI Try.prog n σ w ⟨dst, .call { callee := .builtin .len, args := #[x], argTypes := #[99] }, ty, pos, af, g⟩ (.int .i64 (m : Int)) := fun a ha => by
 simp only [execOp, resolve, List.map_toArray, List.map_cons, List.map_nil, ha.eval hx]
 simp [go_sem]
theorem QM_ {b o m c k : Nat} (hx : evS σ x = some (.slice (some ⟨b, o, none⟩) m c)) (hy : evS σ y = some (.int .i64 (k : Int))) (hk : k < m) : ZI Try.prog n σ w ⟨dst, .indexAddr 99 x y, ty, pos, af, g⟩ (.pointer (some ⟨b, o + k, none⟩)) := fun a ha => by
 have k0 : (0 : Int) ≤ (k : Int) := Int.natCast_nonneg _;have k1 : (k : Int) < (m : Int) := by omega
 simp only [execOp, ha.eval hx, ha.eval hy]
 simp [go_sem, k0, k1]
end
end Go.Proofs.Ytlbfnimilcnihaa
