/- X25, ExX26, X26, ExX27, X27: what LockRunsProof needs of them (merged by trimpack.py). -/
import Derived.Test.YtlbfnimilcnihaaRunsT6
set_option linter.unusedVariables false
set_option linter.unusedSimpArgs false
namespace Go.Proofs.Ytlbfnimilcnihaa
open Go Go.RowKit
structure RunV where
 k : Nat
 Au : Option Addr
 nu : Nat
 cu : Nat
 Ad : Option Addr
 nd : Nat
 cd : Nat
 Ar : Option Addr
 nr : Nat
 cr : Nat
theorem QHl (a b : Bool) : (a = true ∧ b = true) ∨ (a = false ∧ b = true) ∨ (a = true ∧ b = false) ∨ (a = false ∧ b = false) := by cases a <;> cases b <;> decide
theorem QDo (q : QS) (s : ST) (ts : List TW) (u v : Bool) : waitL q (tkS s ts u) v = if v = u then (waitL q s u).drop ts.length else waitL q s v := by
 unfold waitL
 rw [QFn]
 by_cases h : v = u
 ·rw [if_pos h, if_pos h, List.drop_drop, h]
 ·rw [if_neg h, if_neg h]
theorem QIE {w : World} {B m c lo : Nat} {A : Option Addr} {ts : List TW} (hr : Rd w B 5 (.slice A m c) m (twsC ts)) (hlo : lo ≤ m) : Rd w B 5 (.slice (YS A c lo) (m - lo) (c - lo)) (m - lo) (twsC (ts.drop lo)) := by
 have hl := hr.len;obtain ⟨_, A2, c2, e, hc2, hrr⟩ := hr
 injection e with e1 _ e3
 subst e1 e3;have hd : twsC (ts.drop lo) = (twsC ts).drop (lo * 5) := QCe QAu ts lo;refine ⟨by rw [hd, List.length_drop, hl]; omega, _, _, rfl, by omega, fun h0 => ?_⟩
 obtain ⟨b, off, e2, hb2, hcell⟩ := hrr (by omega)
 subst e2;refine ⟨b, _, rfl, hb2, fun j u hu => ?_⟩
 rw [if_neg (by omega)]
 rw [hd, List.getElem?_drop] at hu;have := hcell (lo * 5 + j) u hu;rw [← Nat.add_assoc] at this
 exact this
theorem Yy (l : LK) (q : QS) (p : List SP) (k : Nat) : (ZU l q p k).length = k := by simp [ZU]
theorem QG4 {l : LK} {q : QS} {p : List SP} (h : ∀ i, i < p.length → QA0 l q p i = true) : fitC l q p = true := QHs h
theorem QD0 {l : LK} {q : QS} {p : List SP} {k : Nat} (hk : k < p.length) (h : QA0 l q p k = false) : fitC l q p = false := QDM hk h
theorem QHQ {l : LK} {q : QS} {p : List SP} {k : Nat} (hQ : QOk l q) (hc : okC q p = true) (hk : k < p.length) (hf : ∀ i, i < k → QA0 l q p i = true) :
  StOk l (sAt l q p k) ∧ (∀ t ∈ twAt l q p k, twB l t = true) ∧ (sAt l q p k).t0 + (sAt l q p k).t1 + (twAt l q p k).length ≤ 8 ∧ 1 ≤ (twAt l q p k).length ∧ (twAt l q p k).length ≤ (waitL q (sAt l q p k) (p.getD k sp0).up).length ∧ (waitL q (sAt l q p k) (p.getD k sp0).up).take (twAt l q p k).length = twAt l q p k ∧ (p.getD k sp0).tows = (((twAt l q p k).length : Nat) : Int) := by
 have ho := (QDx hc).1;obtain ⟨hd, ht⟩ := QEy hQ (Nat.le_of_lt hk) (fun i hi => QE4 ho (Nat.lt_trans hi hk)) hf
 obtain ⟨a, b⟩ := QAD (QE4 ho hk);have hu := ht (p.getD k sp0).up;have hw : (p.getD k sp0).tows.toNat ≤ (waitL q (sAt l q p k) (p.getD k sp0).up).length := by
  rw [Yb]
  unfold Zc at b
  omega
 have hl : (twAt l q p k).length = (p.getD k sp0).tows.toNat := Zr (d := ⟨sAt l q p k, p.take k⟩) hw;refine ⟨hd.st, Yj (d := ⟨sAt l q p k, p.take k⟩) hQ, ?_, by omega, by omega, by rw [hl]; rfl, by omega⟩
 rw [hl]
 exact QBn hQ hd hw
set_option maxHeartbeats 1000000 in
set_option maxRecDepth 100000 in
theorem QGl {l : LK} {ts : List TW} {p : List SP} {v vp : Value} {w : World} {B : Nat} (hr : Rd w B 5 v ts.length (twsC ts)) (hp : Rd w B 2 vp p.length (spsC p)) (hB : B ≤ w.heap.size) (he0 : towE l ts = 0) (hc : okC (qL ts) p = true) :
  Calls Try.prog 22 #[.agg #[.int .i64 l.length, .int .i64 l.cycle, .int .i64 l.turn, .int .i64 l.fill, .int .i64 l.save, .bool l.high], v, vp] w fun e w' => (∃ S, e = .returned (.tuple #[S, .bool (fitC l (qL ts) p)]) ∧ (fitC l (qL ts) p = false → ∃ Au nu cu Ad nd cd Ar nr cr s', S = rsV (.slice Au nu cu) (.slice Ad nd cd) (.slice Ar nr cr) s') ∧ (fitC l (qL ts) p = true → ∃ Au nu cu Ad nd cd Ar cr, S = rsV (.slice Au nu cu) (.slice Ad nd cd) (.slice Ar p.length cr) (sAt l (qL ts) p p.length) ∧ w'.ownsRow w.heap.size 49 2 (.slice Ar p.length cr) p.length (rnsC (ZU l (qL ts) p p.length)))) ∧ Below w.heap.size w w' := by
 obtain ⟨At, ct, rfl, _⟩ := hr.shape;obtain ⟨Ap, cp, rfl, _⟩ := hp.shape;have hQ := QFw he0;have hts8 := (QBD he0).2.1;have hlen0 := QEZ hQ hc;have hbw := Below.refl w.heap.size w;refine EC.enter 36 Try.func22 rfl rfl rfl (EC.seq (EC.region (EL.newP (QAQ rfl) rfl ?_)));intro g1 w1 q1 hb1 hg1 hl1;have bhbw_1 := Nat.le_trans hbw.size hg1;replace hbw := bo_ hbw hb1;clear hb1 hg1 hl1;refine EL.newP QBO rfl ?_;intro g2 w2 q2 hb2 hg2 hl2;have n1_2 := q1.na hg2;have bhbw_2 := Nat.le_trans hbw.size hg2;replace q1 := q1.bl hb2;replace hbw := bo_ hbw hb2;clear hb2 hg2 hl2;refine EL.as rfl rfl (EL.nil (EX.seq (EC.seq (EC.region (EL.val (YC rfl (q1.at (j := 0) rfl) (q1.at (j := 1) rfl) (q1.at (j := 2) rfl) (q1.at (j := 3) rfl) (q1.at (j := 4) rfl) (q1.at (j := 5) rfl)) rfl (EL.mv rfl rfl ?_))))));refine EL.call (cA2 cF43 rfl rfl) rfl (QHZ (l := l) (hr.below (hbw.mono hB)) (Nat.le_trans hB hbw.size) (by omega)) ?_
 rintro e w3 ⟨⟨Au0, cu0, Ad0, cd0, rfl, hou, hod⟩, hc3⟩
 refine ⟨_, rfl, ?_⟩;replace q1 := q1.bl hc3;replace q2 := q2.bl hc3;replace hbw := bo_ hbw hc3;clear hc3;have hu2 := Rd.of_own hou;have hd2 := Rd.of_own hod;clear hou hod;have hb2 := Below.refl w3.heap.size w3;refine EL.newP QBO rfl ?_;intro g4 w4 q4 hb4 hg4 hl4;have n1_4 := q1.na hg4;have n2_4 := q2.na hg4;have bhbw_4 := Nat.le_trans hbw.size hg4;have bhb2_4 := Nat.le_trans hb2.size hg4;replace q1 := q1.bl hb4;replace q2 := q2.bl hb4;replace hbw := bo_ hbw hb4;replace hb2 := bo_ hb2 hb4;clear hb4 hg4 hl4;refine EL.store rfl rfl q4 YW rfl rfl rfl rfl ?_;intro w5 hq5 hg5;replace q1 := q1.gr hg5 n1_4;replace q2 := q2.gr hg5 n2_4;replace hbw := ZE hbw hg5 bhbw_4;replace hb2 := ZE hb2 hg5 bhb2_4;replace q4 := hq5;clear hg5 hq5;refine EL.nil (EX.seq (EC.seq (EC.seq (EC.region (EL.as rfl rfl (EL.nil (EX.seq (EC.block ?_))))))));refine EC.loopD [7, 9, 10, 11, 15, 16, 17, 18, 19, 20, 21, 22, 23, 24, 25, 26, 27, 28, 29, 30, 31, 32, 33, 34] (fun i : RunV => [(9, .int .i64 (i.k : Nat))]) (fun i W => i.k ≤ p.length ∧ (∀ j, j < i.k → QA0 l (qL ts) p j = true) ∧ i.nu = (waitL (qL ts) (sAt l (qL ts) p i.k) true).length ∧ Rd w3 w3.heap.size 5 (.slice i.Au i.nu i.cu) i.nu (twsC (waitL (qL ts) (sAt l (qL ts) p i.k) true)) ∧ i.nd = (waitL (qL ts) (sAt l (qL ts) p i.k) false).length ∧ Rd w3 w3.heap.size 5 (.slice i.Ad i.nd i.cd) i.nd (twsC (waitL (qL ts) (sAt l (qL ts) p i.k) false)) ∧ i.nr = (ZU l (qL ts) p i.k).length ∧ W.ownsRow w.heap.size 49 2 (.slice i.Ar i.nr i.cr) i.nr (rnsC (ZU l (qL ts) p i.k)) ∧ Blk W g1 23 #[.int .i64 l.length, .int .i64 l.cycle, .int .i64 l.turn, .int .i64 l.fill, .int .i64 l.save, .bool l.high] ∧ Blk W g2 45 #[.slice none 0 0, .slice none 0 0, .int .i64 0, .bool false, .slice none 0 0, .int .i64 0, .int .i64 0, .int .i64 0, .int .i64 0, .int .i64 0, .int .i64 0] ∧ Blk W g4 45 #[.slice i.Au i.nu i.cu, .slice i.Ad i.nd i.cd, .int .i64 (sAt l (qL ts) p i.k).fr, .bool (sAt l (qL ts) p i.k).lk.high, .slice i.Ar i.nr i.cr, .int .i64 (sAt l (qL ts) p i.k).cost, .int .i64 (sAt l (qL ts) p i.k).mv, .int .i64 (sAt l (qL ts) p i.k).up, .int .i64 (sAt l (qL ts) p i.k).lo, .int .i64 (sAt l (qL ts) p i.k).ch, .int .i64 (sAt l (qL ts) p i.k).ba] ∧ Below w3.heap.size w3 W ∧ Below w.heap.size w W) (fun i => p.length - i.k) ⟨0, Au0, _, cu0, Ad0, _, cd0, none, 0, 0⟩ ⟨Nat.zero_le _, (fun j hj => absurd hj (Nat.not_lt_zero j)), rfl, hu2, rfl, hd2, rfl, Yk _ _ _ _, q1, q2, q4, hb2, hbw⟩ ⟨rfl, trivial⟩ ?_
 clear hu2 hd2 q1 q2 q4 hb2 hbw
 rintro ⟨k, Au, nu, cu, Ad, nd, cd, Ar, nr, cr⟩ wk ⟨hkp, hft, hnu, hu2, hnd, hd2, hnr, hrn, q1, q2, q4, hb2, hbw⟩
 dsimp only at hkp hft hnu hu2 hnd hd2 hnr hrn q4
 subst hnu hnd hnr
 by_cases hltk : k < p.length
 ·
  obtain ⟨hst, htw, h8, hT1, hTn, hTp, hTt⟩ := QHQ hQ hc hltk hft;have hrl := Yy l (qL ts) p k;obtain ⟨bp, op, rfl, _, cc⟩ := Yq p k hltk w B _ _ _ hp;have c0 := cc.c0;have c1 := cc.c1;rw [hTt] at c1;have hsuc := QBr (l := l) (q := qL ts) hltk;have hrsu := QCX l (qL ts) p k;have hlen8 := QEZ hQ hc;have hfa : QA0 l (qL ts) p k = fitB (sAt l (qL ts) p k).lk.length (twAt l (qL ts) p k) := rfl;have hkl : (sAt l (qL ts) p k).lk.length = l.length := by rw [hst.lk]; rfl
  rw [hkl] at hfa;have hra : QEO l (qL ts) p k = runT (sAt l (qL ts) p k) (twAt l (qL ts) p k) (p.getD k sp0).up := rfl;clear cc;refine EC.seq (EC.seq (EC.region (EL.mv rfl rfl (EL.mv rfl rfl (EL.val (Y3 rfl) rfl ?_)))));refine EL.val (ZQ rfl rfl (decide_eq_true (show (((k : Nat) : Int) < ((p.length : Nat) : Int)) by omega))) rfl ?_
  refine EL.nil (EX.seq (EC.yes rfl (EC.skip (EX.seq (EC.seq (EC.block (EC.seq ?_)))))))
  rcases QHl (p.getD k sp0).up (fitB l.length (twAt l (qL ts) p k)) with ⟨hup, hfit⟩ | ⟨hup, hfit⟩ | ⟨hup, hfit⟩ | ⟨hup, hfit⟩
  ·
   rw [hup] at c0 hTn hTp hsuc hra;have hwt := fun v => QDo (qL ts) (sAt l (qL ts) p k) (twAt l (qL ts) p k) true v
   have hszk := hbw.size;have hrU := hu2.more (Nat.le_refl _);have hrW := (hrU.below hb2).more hb2.size;have hrN := Rd.of_own hrn;have lt_1 := q1.lt;have lt_2 := q2.lt;have lt_4 := q4.lt;refine EC.regionS [[], [], [], [], [2, 3], [2, 3, 4], [0, 1, 2, 3, 4, 5], [0, 1, 2, 3, 4, 5, 6], [0, 1, 2, 3, 4, 5, 6, 7], [0, 1, 2, 3, 4, 5, 6, 7], [], [0, 1, 2, 3, 4, 5, 6, 7, 8, 10], [0, 1, 2, 3, 4, 5, 6, 7, 8, 9, 10, 11]] 12 [10] [11] (fun _ w_ => Below wk.heap.size wk w_) (phiS (fun i_ r => match i_ with | 0 => r 0 = .agg #[.int .i64 l.length, .int .i64 l.cycle, .int .i64 l.turn, .int .i64 l.fill, .int .i64 l.save, .bool l.high] | 1 => r 1 = .agg #[.slice Au (waitL (qL ts) (sAt l (qL ts) p k) true).length cu, .slice Ad (waitL (qL ts) (sAt l (qL ts) p k) false).length cd, .int .i64 (sAt l (qL ts) p k).fr, .bool (sAt l (qL ts) p k).lk.high, .slice Ar (ZU l (qL ts) p k).length cr, .int .i64 (sAt l (qL ts) p k).cost, .int .i64 (sAt l (qL ts) p k).mv, .int .i64 (sAt l (qL ts) p k).up, .int .i64 (sAt l (qL ts) p k).lo, .int .i64 (sAt l (qL ts) p k).ch, .int .i64 (sAt l (qL ts) p k).ba] | 2 => r 2 = .slice (some ⟨bp, op, none⟩) p.length cp | 3 => r 3 = .int .i64 (k : Nat) | 4 => r 4 = .pointer (some ⟨bp, op + k * 2, none⟩) | 5 => r 5 = .agg #[.bool true, .int .i64 ((twAt l (qL ts) p k).length : Nat)] | _ => True) [(6, fun _ r w_ => ∃ A_ c_, r 6 = .tuple #[.agg #[.slice (YS Au cu (twAt l (qL ts) p k).length) ((waitL (qL ts) (sAt l (qL ts) p k) true).length - (twAt l (qL ts) p k).length) (cu - (twAt l (qL ts) p k).length), .slice Ad (waitL (qL ts) (sAt l (qL ts) p k) false).length cd, .int .i64 (tkS (sAt l (qL ts) p k) (twAt l (qL ts) p k) true).fr, .bool (tkS (sAt l (qL ts) p k) (twAt l (qL ts) p k) true).lk.high, .slice A_ ((ZU l (qL ts) p k).length + 1) c_, .int .i64 (tkS (sAt l (qL ts) p k) (twAt l (qL ts) p k) true).cost, .int .i64 (tkS (sAt l (qL ts) p k) (twAt l (qL ts) p k) true).mv, .int .i64 (tkS (sAt l (qL ts) p k) (twAt l (qL ts) p k) true).up, .int .i64 (tkS (sAt l (qL ts) p k) (twAt l (qL ts) p k) true).lo, .int .i64 (tkS (sAt l (qL ts) p k) (twAt l (qL ts) p k) true).ch, .int .i64 (tkS (sAt l (qL ts) p k) (twAt l (qL ts) p k) true).ba], .bool true] ∧ w_.ownsRow wk.heap.size 49 2 (.slice A_ ((ZU l (qL ts) p k).length + 1) c_) ((ZU l (qL ts) p k).length + 1) (rnsC (ZU l (qL ts) p k) ++ [.int .i64 (runT (sAt l (qL ts) p k) (twAt l (qL ts) p k) true).start, .int .i64 (runT (sAt l (qL ts) p k) (twAt l (qL ts) p k) true).stop])), (7, fun _ r w_ => ∃ A_ c_, r 7 = .tuple #[.agg #[.slice (YS Au cu (twAt l (qL ts) p k).length) ((waitL (qL ts) (sAt l (qL ts) p k) true).length - (twAt l (qL ts) p k).length) (cu - (twAt l (qL ts) p k).length), .slice Ad (waitL (qL ts) (sAt l (qL ts) p k) false).length cd, .int .i64 (tkS (sAt l (qL ts) p k) (twAt l (qL ts) p k) true).fr, .bool (tkS (sAt l (qL ts) p k) (twAt l (qL ts) p k) true).lk.high, .slice A_ ((ZU l (qL ts) p k).length + 1) c_, .int .i64 (tkS (sAt l (qL ts) p k) (twAt l (qL ts) p k) true).cost, .int .i64 (tkS (sAt l (qL ts) p k) (twAt l (qL ts) p k) true).mv, .int .i64 (tkS (sAt l (qL ts) p k) (twAt l (qL ts) p k) true).up, .int .i64 (tkS (sAt l (qL ts) p k) (twAt l (qL ts) p k) true).lo, .int .i64 (tkS (sAt l (qL ts) p k) (twAt l (qL ts) p k) true).ch, .int .i64 (tkS (sAt l (qL ts) p k) (twAt l (qL ts) p k) true).ba], .bool true] ∧ w_.ownsRow wk.heap.size 49 2 (.slice A_ ((ZU l (qL ts) p k).length + 1) c_) ((ZU l (qL ts) p k).length + 1) (rnsC (ZU l (qL ts) p k) ++ [.int .i64 (runT (sAt l (qL ts) p k) (twAt l (qL ts) p k) true).start, .int .i64 (runT (sAt l (qL ts) p k) (twAt l (qL ts) p k) true).stop])), (8, fun _ r w_ => ∃ A_ c_, r 8 = .agg #[.slice (YS Au cu (twAt l (qL ts) p k).length) ((waitL (qL ts) (sAt l (qL ts) p k) true).length - (twAt l (qL ts) p k).length) (cu - (twAt l (qL ts) p k).length), .slice Ad (waitL (qL ts) (sAt l (qL ts) p k) false).length cd, .int .i64 (tkS (sAt l (qL ts) p k) (twAt l (qL ts) p k) true).fr, .bool (tkS (sAt l (qL ts) p k) (twAt l (qL ts) p k) true).lk.high, .slice A_ ((ZU l (qL ts) p k).length + 1) c_, .int .i64 (tkS (sAt l (qL ts) p k) (twAt l (qL ts) p k) true).cost, .int .i64 (tkS (sAt l (qL ts) p k) (twAt l (qL ts) p k) true).mv, .int .i64 (tkS (sAt l (qL ts) p k) (twAt l (qL ts) p k) true).up, .int .i64 (tkS (sAt l (qL ts) p k) (twAt l (qL ts) p k) true).lo, .int .i64 (tkS (sAt l (qL ts) p k) (twAt l (qL ts) p k) true).ch, .int .i64 (tkS (sAt l (qL ts) p k) (twAt l (qL ts) p k) true).ba] ∧ w_.ownsRow wk.heap.size 49 2 (.slice A_ ((ZU l (qL ts) p k).length + 1) c_) ((ZU l (qL ts) p k).length + 1) (rnsC (ZU l (qL ts) p k) ++ [.int .i64 (runT (sAt l (qL ts) p k) (twAt l (qL ts) p k) true).start, .int .i64 (runT (sAt l (qL ts) p k) (twAt l (qL ts) p k) true).stop])), (9, fun _ r w_ => r 9 = .bool true), (10, fun fl r w_ => ∃ g_, r 10 = .pointer (some ⟨g_, 0, none⟩) ∧ wk.heap.size ≤ g_ ∧ (fl 11 = false → Blk w_ g_ 45 #[.slice none 0 0, .slice none 0 0, .int .i64 0, .bool false, .slice none 0 0, .int .i64 0, .int .i64 0, .int .i64 0, .int .i64 0, .int .i64 0, .int .i64 0])), (11, fun _ r w_ => ∃ g_ A_ c_, r 10 = .pointer (some ⟨g_, 0, none⟩) ∧ Blk w_ g_ 45 #[.slice (YS Au cu (twAt l (qL ts) p k).length) ((waitL (qL ts) (sAt l (qL ts) p k) true).length - (twAt l (qL ts) p k).length) (cu - (twAt l (qL ts) p k).length), .slice Ad (waitL (qL ts) (sAt l (qL ts) p k) false).length cd, .int .i64 (tkS (sAt l (qL ts) p k) (twAt l (qL ts) p k) true).fr, .bool (tkS (sAt l (qL ts) p k) (twAt l (qL ts) p k) true).lk.high, .slice A_ ((ZU l (qL ts) p k).length + 1) c_, .int .i64 (tkS (sAt l (qL ts) p k) (twAt l (qL ts) p k) true).cost, .int .i64 (tkS (sAt l (qL ts) p k) (twAt l (qL ts) p k) true).mv, .int .i64 (tkS (sAt l (qL ts) p k) (twAt l (qL ts) p k) true).up, .int .i64 (tkS (sAt l (qL ts) p k) (twAt l (qL ts) p k) true).lo, .int .i64 (tkS (sAt l (qL ts) p k) (twAt l (qL ts) p k) true).ch, .int .i64 (tkS (sAt l (qL ts) p k) (twAt l (qL ts) p k) true).ba] ∧ w_.ownsRow wk.heap.size 49 2 (.slice A_ ((ZU l (qL ts) p k).length + 1) c_) ((ZU l (qL ts) p k).length + 1) (rnsC (ZU l (qL ts) p k) ++ [.int .i64 (runT (sAt l (qL ts) p k) (twAt l (qL ts) p k) true).start, .int .i64 (runT (sAt l (qL ts) p k) (twAt l (qL ts) p k) true).stop]) ∧ wk.heap.size ≤ g_)]) (by kernel_rfl) rfl rfl (by intro i hi; simp at hi; first | (subst hi; exact ⟨by simp, by omega⟩) | (rcases hi with rfl | rfl | rfl <;> exact ⟨by simp, by omega⟩) | (rcases hi with rfl | rfl <;> exact ⟨by simp, by omega⟩)) (Zz wk) (ZH (fun _ _ _ _ hb ⟨A, c, h1, h2⟩ => ⟨A, c, h1, ZC h2 hb (Nat.le_refl _)⟩) (ZH (fun _ _ _ _ hb ⟨A, c, h1, h2⟩ => ⟨A, c, h1, ZC h2 hb (Nat.le_refl _)⟩) (ZH (fun _ _ _ _ hb ⟨A, c, h1, h2⟩ => ⟨A, c, h1, ZC h2 hb (Nat.le_refl _)⟩) (ZH (fun _ _ _ _ _ h => h) (ZH Zb (ZH (fun _ _ _ _ hb ⟨g, A, c9, h1, h2, h3, h4⟩ => ⟨g, A, c9, h1, h2.below hb h2.lt, ZC h3 hb (Nat.le_refl _), h4⟩) (ZZ))))))) (fun i_ hi_ hs_ => ?_) (fun i_ hi_ => ?_) ?_
   ·match i_, hi_ with
    | 0, _ =>
     intro val fl w1 a hb ha hd hfl;have ha := ha.s0 (d := 3) rfl
     exact ZD ha rfl rfl (YC rfl ((q1.below hb q1.lt).at (j := 0) rfl) ((q1.below hb q1.lt).at (j := 1) rfl) ((q1.below hb q1.lt).at (j := 2) rfl) ((q1.below hb q1.lt).at (j := 3) rfl) ((q1.below hb q1.lt).at (j := 4) rfl) ((q1.below hb q1.lt).at (j := 5) rfl)) rfl rfl
    | 1, _ =>
     intro val fl w1 a hb ha hd hfl;have ha := ha.s0 (d := 8) rfl
     exact ZD ha rfl rfl (Ys rfl ((q4.below hb q4.lt).at (j := 0) rfl) ((q4.below hb q4.lt).at (j := 1) rfl) ((q4.below hb q4.lt).at (j := 2) rfl) ((q4.below hb q4.lt).at (j := 3) rfl) ((q4.below hb q4.lt).at (j := 4) rfl) ((q4.below hb q4.lt).at (j := 5) rfl) ((q4.below hb q4.lt).at (j := 6) rfl) ((q4.below hb q4.lt).at (j := 7) rfl) ((q4.below hb q4.lt).at (j := 8) rfl) ((q4.below hb q4.lt).at (j := 9) rfl) ((q4.below hb q4.lt).at (j := 10) rfl)) rfl rfl
    | 2, _ =>
     intro val fl w1 a hb ha hd hfl;have ha := ha.s0 (d := 2) rfl
     exact ZD ha rfl rfl (x_move rfl) rfl rfl
    | 3, _ =>
     intro val fl w1 a hb ha hd hfl;have ha := ha.s0 (d := 9) rfl
     exact ZD ha rfl rfl (x_move rfl) rfl rfl
    | 4, _ =>
     intro val fl w1 a hb ha hd hfl;have e2 : val 2 = _ := hd 2 (ZA.1 rfl);have e3 : val 3 = _ := hd 3 (ZA.1 rfl);have ha := ha.s2 (d := 25) (e := 24) rfl e3 rfl e2
     exact ZD ha rfl rfl (QAM rfl rfl hltk) rfl rfl
    | 5, _ =>
     intro val fl w1 a hb ha hd hfl;have e4 : val 4 = _ := hd 4 (ZA.1 rfl);have ha := ha.s1 (d := 26) rfl e4
     exact ZD ha rfl rfl (QAy rfl (ZB (hbw.trans (hb.mono hbw.size)) c0) (ZB (hbw.trans (hb.mono hbw.size)) c1)) rfl rfl
    | 6, _ =>
     intro val fl w1 a hb ha hd hfl;have e0 : val 0 = _ := hd 0 (ZA.1 rfl);have e1 : val 1 = _ := hd 1 (ZA.1 rfl);have e5 : val 5 = _ := hd 5 (ZA.1 rfl);have ha := ha.sub (Sub.ins (d := 27) (Sub.ins (d := 23) (Sub.ins (d := 22) (Sub.nil _) (ZN rfl e0)) (ZN rfl e1)) (ZN rfl e5));refine YA ha rfl rfl (cA3 cF44 rfl rfl rfl) (QCC (u := true) (ls := (waitL (qL ts) (sAt l (qL ts) p k) true)) hst htw h8 hT1 hTn hTp (by omega) (fun _ => rfl) (fun h => by cases h) (hrW.below hb) (hrN.below hb) hb.size) rfl ?_
     rintro e w' ⟨⟨he, _⟩, hb'⟩
     obtain ⟨A9, c9, rfl, ho⟩ := he hfit
     exact ⟨_, rfl, hb', A9, c9, rfl, YB ho hb.size⟩
    | 7, _ =>
     intro val fl w1 a hb ha hd hfl;obtain ⟨A6_, c6_, e6, o6_⟩ := hd 6 (ZA.1 rfl);have ha := ha.s1 (d := 28) rfl e6
     exact ZD ha rfl rfl (x_move rfl) ⟨A6_, c6_, rfl, o6_⟩ rfl
    | 8, _ =>
     intro val fl w1 a hb ha hd hfl;obtain ⟨A7_, c7_, e7, o7_⟩ := hd 7 (ZA.1 rfl);have ha := ha.s1 (d := 21) rfl e7
     exact ZD ha rfl rfl (ZM (v := .agg #[.slice (YS Au cu (twAt l (qL ts) p k).length) ((waitL (qL ts) (sAt l (qL ts) p k) true).length - (twAt l (qL ts) p k).length) (cu - (twAt l (qL ts) p k).length), .slice Ad (waitL (qL ts) (sAt l (qL ts) p k) false).length cd, .int .i64 (tkS (sAt l (qL ts) p k) (twAt l (qL ts) p k) true).fr, .bool (tkS (sAt l (qL ts) p k) (twAt l (qL ts) p k) true).lk.high, .slice A7_ ((ZU l (qL ts) p k).length + 1) c7_, .int .i64 (tkS (sAt l (qL ts) p k) (twAt l (qL ts) p k) true).cost, .int .i64 (tkS (sAt l (qL ts) p k) (twAt l (qL ts) p k) true).mv, .int .i64 (tkS (sAt l (qL ts) p k) (twAt l (qL ts) p k) true).up, .int .i64 (tkS (sAt l (qL ts) p k) (twAt l (qL ts) p k) true).lo, .int .i64 (tkS (sAt l (qL ts) p k) (twAt l (qL ts) p k) true).ch, .int .i64 (tkS (sAt l (qL ts) p k) (twAt l (qL ts) p k) true).ba]) rfl rfl) ⟨A7_, c7_, rfl, o7_⟩ rfl
    | 9, _ =>
     intro val fl w1 a hb ha hd hfl;obtain ⟨A7_, c7_, e7, o7_⟩ := hd 7 (ZA.1 rfl);have ha := ha.s1 (d := 21) rfl e7
     exact ZD ha rfl rfl (ZM (v := .bool true) rfl rfl) rfl rfl
    | 10, _ =>
     intro val fl w1 a hb ha hd hfl;have ha := ha.sub (Sub.nil _)
     exact Z2 ha rfl rfl QBO (fun g w' hq _ hge => ⟨g, rfl, Nat.le_trans hb.size hge, fun _ => hq⟩)
    | 11, _ =>
     exact absurd (by simp) hs_
    | k + 12, h => exact absurd h (by omega)
   ·simp only [List.mem_singleton] at hi_; subst hi_
    intro val fl w1 a hb hfi ha hd hfl;obtain ⟨g10_, e10, hg10_, q10_⟩ := hd 10 (ZA.1 rfl);change val 10 = _ at e10;obtain ⟨A8_, c8_, e8, o8_⟩ := hd 8 (ZA.1 rfl);have ha := ha.s2 (d := 29) (e := 10) rfl e8 rfl e10;refine ZY ha rfl rfl rfl (q10_ hfi) YW rfl rfl rfl rfl ?_;intro w' hq hgr;refine ⟨undef, rfl, hgr.size, ZE hb hgr hg10_, ⟨g10_, A8_, c8_, e10, hq, ZG o8_ (q10_ hfi) rfl hgr, hg10_⟩, fun j _ hj hn hA => ?_⟩
    exact ZF (C := fun j => j ≠ 11 ∧ 11 ∉ clsAt [[], [], [], [], [2, 3], [2, 3, 4], [0, 1, 2, 3, 4, 5], [0, 1, 2, 3, 4, 5, 6], [0, 1, 2, 3, 4, 5, 6, 7], [0, 1, 2, 3, 4, 5, 6, 7], [], [0, 1, 2, 3, 4, 5, 6, 7, 8, 10], [0, 1, 2, 3, 4, 5, 6, 7, 8, 9, 10, 11]] j ∧ ∀ p ∈ [10], (p = j ∨ p ∈ clsAt [[], [], [], [], [2, 3], [2, 3, 4], [0, 1, 2, 3, 4, 5], [0, 1, 2, 3, 4, 5, 6], [0, 1, 2, 3, 4, 5, 6, 7], [0, 1, 2, 3, 4, 5, 6, 7], [], [0, 1, 2, 3, 4, 5, 6, 7, 8, 10], [0, 1, 2, 3, 4, 5, 6, 7, 8, 9, 10, 11]] j) → ∀ q ∈ [10], (q = 11 ∨ q ∈ clsAt [[], [], [], [], [2, 3], [2, 3, 4], [0, 1, 2, 3, 4, 5], [0, 1, 2, 3, 4, 5, 6], [0, 1, 2, 3, 4, 5, 6, 7], [0, 1, 2, 3, 4, 5, 6, 7], [], [0, 1, 2, 3, 4, 5, 6, 7, 8, 10], [0, 1, 2, 3, 4, 5, 6, 7, 8, 9, 10, 11]] 11) → p ≠ q → val p ≠ val q) (fun _ ⟨A, c, h1, h2⟩ => ⟨A, c, h1, ZG h2 (q10_ hfi) rfl hgr⟩) (ZF (fun _ ⟨A, c, h1, h2⟩ => ⟨A, c, h1, ZG h2 (q10_ hfi) rfl hgr⟩) (ZF (fun _ ⟨A, c, h1, h2⟩ => ⟨A, c, h1, ZG h2 (q10_ hfi) rfl hgr⟩) (ZF (fun _ h => h) (ZF (fun _ ⟨g, h1, h2, _⟩ => ⟨g, h1, h2, fun h => by rw [ZS] at h; cases h⟩) (ZF (fun hc => absurd rfl hc.1) (fun _ _ h => h)))))) j ⟨hj, hn, hA⟩
   ·intro val fl wR5 hfl hb halc hd
    have e0 : val 0 = _ := hd 0 (by omega)
    have e1 : val 1 = _ := hd 1 (by omega)
    have e2 : val 2 = _ := hd 2 (by omega)
    have e3 : val 3 = _ := hd 3 (by omega)
    have e4 : val 4 = _ := hd 4 (by omega)
    have e5 : val 5 = _ := hd 5 (by omega)
    obtain ⟨A6_, c6_, e6, o6_⟩ := hd 6 (by omega)
    change val 6 = _ at e6;obtain ⟨A7_, c7_, e7, o7_⟩ := hd 7 (by omega)
    change val 7 = _ at e7;obtain ⟨A8_, c8_, e8, o8_⟩ := hd 8 (by omega)
    change val 8 = _ at e8;obtain e9 := hd 9 (by omega)
    change val 9 = _ at e9;obtain ⟨ga10_5, Af, cf, e10, qa10_5, hrn2, hga10_5⟩ := hd 11 (by omega)
    change val 10 = _ at e10;refine EL.ends (cs := [_, _, _, _, _, _, _, _, _, _, _, val 11]) ⟨e0, e1, e2, e3, e4, e5, e6, e7, e8, e9, e10, rfl, trivial⟩ rfl ?_;replace q1 := q1.bl hb;replace q2 := q2.bl hb;replace q4 := q4.bl hb;replace hrn := ZC hrn hb (Nat.le_refl _);have bge6 := YP halc (i := 10) rfl rfl e10;have n1_6 : g1 ≠ ga10_5 := Nat.ne_of_lt (Nat.lt_of_lt_of_le lt_1 bge6);have n2_6 : g2 ≠ ga10_5 := Nat.ne_of_lt (Nat.lt_of_lt_of_le lt_2 bge6);have n4_6 : g4 ≠ ga10_5 := Nat.ne_of_lt (Nat.lt_of_lt_of_le lt_4 bge6);have bhbw_6 := Nat.le_trans hbw.size bge6;have bhb2_6 := Nat.le_trans hb2.size bge6;replace hbw := bo_ hbw hb;replace hb2 := bo_ hb2 hb;replace hrn2 := YB hrn2 hszk;refine EL.as rfl rfl (EL.nil (EX.seq (EC.seq (EC.seq (EC.region (EL.mv rfl rfl (EL.val (ZT rfl) rfl (EL.nil (EX.seq ?_)))))))));refine EC.no rfl (EC.skip (EX.seq (EC.region (EL.val (Ys rfl (qa10_5.at (j := 0) rfl) (qa10_5.at (j := 1) rfl) (qa10_5.at (j := 2) rfl) (qa10_5.at (j := 3) rfl) (qa10_5.at (j := 4) rfl) (qa10_5.at (j := 5) rfl) (qa10_5.at (j := 6) rfl) (qa10_5.at (j := 7) rfl) (qa10_5.at (j := 8) rfl) (qa10_5.at (j := 9) rfl) (qa10_5.at (j := 10) rfl)) rfl (EL.store rfl rfl q4 YW rfl rfl rfl rfl ?_)))));intro w7 hq7 hg7;replace q1 := q1.gr hg7 n1_4;replace q2 := q2.gr hg7 n2_4;replace qa10_5 := qa10_5.gr hg7 n4_6.symm;replace hrn2 := ZG hrn2 q4 rfl hg7;replace hbw := ZE hbw hg7 bhbw_4;replace hb2 := ZE hb2 hg7 bhb2_4;replace q4 := hq7;clear hg7 hq7;refine EL.nil (EX.blk (EX.seq (EC.region (EL.mv rfl rfl ?_))));refine EL.val (ZR rfl rfl (c := ((k + 1 : Nat) : Int)) ((IntWalk.i64_in _ ⟨by first | omega | (simp only; omega), by first | omega | (simp only; omega)⟩).trans (by first | omega | (simp only; omega)))) rfl ?_
    refine EL.as rfl rfl (EL.nil ?_);refine EX.roundD ⟨k + 1, (YS Au cu (twAt l (qL ts) p k).length), ((waitL (qL ts) (sAt l (qL ts) p k) true).length - (twAt l (qL ts) p k).length), (cu - (twAt l (qL ts) p k).length), Ad, _, cd, Af, (ZU l (qL ts) p k).length + 1, cf⟩ ⟨rfl, trivial⟩ (by repeat first | with_reducible exact .refl _ | refine sp_ rfl ?_ | exact .refl _ | refine sd_ rfl ?_ | refine sn_ ?_) ⟨hltk, QAa hft (hfa.trans hfit), (by rw [hsuc, hwt, if_pos rfl, List.length_drop]), (by rw [hsuc, hwt, if_pos rfl]; exact QIE hu2 hTn), (by rw [hsuc, hwt, if_neg (by decide)]), (by rw [hsuc, hwt, if_neg (by decide)]; exact hd2), (by rw [hrsu, List.length_append]; rfl), (by rw [hrsu, QCp, hra]; exact hrn2), q1, q2, (by rw [hsuc]; exact q4), hb2, hbw⟩ (show p.length - (k + 1) < p.length - k by omega)
  ·
   rw [hup] at c0 hTn hTp hsuc hra;have hwt := fun v => QDo (qL ts) (sAt l (qL ts) p k) (twAt l (qL ts) p k) false v
   have hszk := hbw.size;have hrU := hd2.more (Nat.le_refl _);have hrW := (hrU.below hb2).more hb2.size;have hrN := Rd.of_own hrn;have lt_1 := q1.lt;have lt_2 := q2.lt;have lt_4 := q4.lt;refine EC.regionS [[], [], [], [], [2, 3], [2, 3, 4], [0, 1, 2, 3, 4, 5], [0, 1, 2, 3, 4, 5, 6], [0, 1, 2, 3, 4, 5, 6, 7], [0, 1, 2, 3, 4, 5, 6, 7], [], [0, 1, 2, 3, 4, 5, 6, 7, 8, 10], [0, 1, 2, 3, 4, 5, 6, 7, 8, 9, 10, 11]] 12 [10] [11] (fun _ w_ => Below wk.heap.size wk w_) (phiS (fun i_ r => match i_ with | 0 => r 0 = .agg #[.int .i64 l.length, .int .i64 l.cycle, .int .i64 l.turn, .int .i64 l.fill, .int .i64 l.save, .bool l.high] | 1 => r 1 = .agg #[.slice Au (waitL (qL ts) (sAt l (qL ts) p k) true).length cu, .slice Ad (waitL (qL ts) (sAt l (qL ts) p k) false).length cd, .int .i64 (sAt l (qL ts) p k).fr, .bool (sAt l (qL ts) p k).lk.high, .slice Ar (ZU l (qL ts) p k).length cr, .int .i64 (sAt l (qL ts) p k).cost, .int .i64 (sAt l (qL ts) p k).mv, .int .i64 (sAt l (qL ts) p k).up, .int .i64 (sAt l (qL ts) p k).lo, .int .i64 (sAt l (qL ts) p k).ch, .int .i64 (sAt l (qL ts) p k).ba] | 2 => r 2 = .slice (some ⟨bp, op, none⟩) p.length cp | 3 => r 3 = .int .i64 (k : Nat) | 4 => r 4 = .pointer (some ⟨bp, op + k * 2, none⟩) | 5 => r 5 = .agg #[.bool false, .int .i64 ((twAt l (qL ts) p k).length : Nat)] | _ => True) [(6, fun _ r w_ => ∃ A_ c_, r 6 = .tuple #[.agg #[.slice Au (waitL (qL ts) (sAt l (qL ts) p k) true).length cu, .slice (YS Ad cd (twAt l (qL ts) p k).length) ((waitL (qL ts) (sAt l (qL ts) p k) false).length - (twAt l (qL ts) p k).length) (cd - (twAt l (qL ts) p k).length), .int .i64 (tkS (sAt l (qL ts) p k) (twAt l (qL ts) p k) false).fr, .bool (tkS (sAt l (qL ts) p k) (twAt l (qL ts) p k) false).lk.high, .slice A_ ((ZU l (qL ts) p k).length + 1) c_, .int .i64 (tkS (sAt l (qL ts) p k) (twAt l (qL ts) p k) false).cost, .int .i64 (tkS (sAt l (qL ts) p k) (twAt l (qL ts) p k) false).mv, .int .i64 (tkS (sAt l (qL ts) p k) (twAt l (qL ts) p k) false).up, .int .i64 (tkS (sAt l (qL ts) p k) (twAt l (qL ts) p k) false).lo, .int .i64 (tkS (sAt l (qL ts) p k) (twAt l (qL ts) p k) false).ch, .int .i64 (tkS (sAt l (qL ts) p k) (twAt l (qL ts) p k) false).ba], .bool true] ∧ w_.ownsRow wk.heap.size 49 2 (.slice A_ ((ZU l (qL ts) p k).length + 1) c_) ((ZU l (qL ts) p k).length + 1) (rnsC (ZU l (qL ts) p k) ++ [.int .i64 (runT (sAt l (qL ts) p k) (twAt l (qL ts) p k) false).start, .int .i64 (runT (sAt l (qL ts) p k) (twAt l (qL ts) p k) false).stop])), (7, fun _ r w_ => ∃ A_ c_, r 7 = .tuple #[.agg #[.slice Au (waitL (qL ts) (sAt l (qL ts) p k) true).length cu, .slice (YS Ad cd (twAt l (qL ts) p k).length) ((waitL (qL ts) (sAt l (qL ts) p k) false).length - (twAt l (qL ts) p k).length) (cd - (twAt l (qL ts) p k).length), .int .i64 (tkS (sAt l (qL ts) p k) (twAt l (qL ts) p k) false).fr, .bool (tkS (sAt l (qL ts) p k) (twAt l (qL ts) p k) false).lk.high, .slice A_ ((ZU l (qL ts) p k).length + 1) c_, .int .i64 (tkS (sAt l (qL ts) p k) (twAt l (qL ts) p k) false).cost, .int .i64 (tkS (sAt l (qL ts) p k) (twAt l (qL ts) p k) false).mv, .int .i64 (tkS (sAt l (qL ts) p k) (twAt l (qL ts) p k) false).up, .int .i64 (tkS (sAt l (qL ts) p k) (twAt l (qL ts) p k) false).lo, .int .i64 (tkS (sAt l (qL ts) p k) (twAt l (qL ts) p k) false).ch, .int .i64 (tkS (sAt l (qL ts) p k) (twAt l (qL ts) p k) false).ba], .bool true] ∧ w_.ownsRow wk.heap.size 49 2 (.slice A_ ((ZU l (qL ts) p k).length + 1) c_) ((ZU l (qL ts) p k).length + 1) (rnsC (ZU l (qL ts) p k) ++ [.int .i64 (runT (sAt l (qL ts) p k) (twAt l (qL ts) p k) false).start, .int .i64 (runT (sAt l (qL ts) p k) (twAt l (qL ts) p k) false).stop])), (8, fun _ r w_ => ∃ A_ c_, r 8 = .agg #[.slice Au (waitL (qL ts) (sAt l (qL ts) p k) true).length cu, .slice (YS Ad cd (twAt l (qL ts) p k).length) ((waitL (qL ts) (sAt l (qL ts) p k) false).length - (twAt l (qL ts) p k).length) (cd - (twAt l (qL ts) p k).length), .int .i64 (tkS (sAt l (qL ts) p k) (twAt l (qL ts) p k) false).fr, .bool (tkS (sAt l (qL ts) p k) (twAt l (qL ts) p k) false).lk.high, .slice A_ ((ZU l (qL ts) p k).length + 1) c_, .int .i64 (tkS (sAt l (qL ts) p k) (twAt l (qL ts) p k) false).cost, .int .i64 (tkS (sAt l (qL ts) p k) (twAt l (qL ts) p k) false).mv, .int .i64 (tkS (sAt l (qL ts) p k) (twAt l (qL ts) p k) false).up, .int .i64 (tkS (sAt l (qL ts) p k) (twAt l (qL ts) p k) false).lo, .int .i64 (tkS (sAt l (qL ts) p k) (twAt l (qL ts) p k) false).ch, .int .i64 (tkS (sAt l (qL ts) p k) (twAt l (qL ts) p k) false).ba] ∧ w_.ownsRow wk.heap.size 49 2 (.slice A_ ((ZU l (qL ts) p k).length + 1) c_) ((ZU l (qL ts) p k).length + 1) (rnsC (ZU l (qL ts) p k) ++ [.int .i64 (runT (sAt l (qL ts) p k) (twAt l (qL ts) p k) false).start, .int .i64 (runT (sAt l (qL ts) p k) (twAt l (qL ts) p k) false).stop])), (9, fun _ r w_ => r 9 = .bool true), (10, fun fl r w_ => ∃ g_, r 10 = .pointer (some ⟨g_, 0, none⟩) ∧ wk.heap.size ≤ g_ ∧ (fl 11 = false → Blk w_ g_ 45 #[.slice none 0 0, .slice none 0 0, .int .i64 0, .bool false, .slice none 0 0, .int .i64 0, .int .i64 0, .int .i64 0, .int .i64 0, .int .i64 0, .int .i64 0])), (11, fun _ r w_ => ∃ g_ A_ c_, r 10 = .pointer (some ⟨g_, 0, none⟩) ∧ Blk w_ g_ 45 #[.slice Au (waitL (qL ts) (sAt l (qL ts) p k) true).length cu, .slice (YS Ad cd (twAt l (qL ts) p k).length) ((waitL (qL ts) (sAt l (qL ts) p k) false).length - (twAt l (qL ts) p k).length) (cd - (twAt l (qL ts) p k).length), .int .i64 (tkS (sAt l (qL ts) p k) (twAt l (qL ts) p k) false).fr, .bool (tkS (sAt l (qL ts) p k) (twAt l (qL ts) p k) false).lk.high, .slice A_ ((ZU l (qL ts) p k).length + 1) c_, .int .i64 (tkS (sAt l (qL ts) p k) (twAt l (qL ts) p k) false).cost, .int .i64 (tkS (sAt l (qL ts) p k) (twAt l (qL ts) p k) false).mv, .int .i64 (tkS (sAt l (qL ts) p k) (twAt l (qL ts) p k) false).up, .int .i64 (tkS (sAt l (qL ts) p k) (twAt l (qL ts) p k) false).lo, .int .i64 (tkS (sAt l (qL ts) p k) (twAt l (qL ts) p k) false).ch, .int .i64 (tkS (sAt l (qL ts) p k) (twAt l (qL ts) p k) false).ba] ∧ w_.ownsRow wk.heap.size 49 2 (.slice A_ ((ZU l (qL ts) p k).length + 1) c_) ((ZU l (qL ts) p k).length + 1) (rnsC (ZU l (qL ts) p k) ++ [.int .i64 (runT (sAt l (qL ts) p k) (twAt l (qL ts) p k) false).start, .int .i64 (runT (sAt l (qL ts) p k) (twAt l (qL ts) p k) false).stop]) ∧ wk.heap.size ≤ g_)]) (by kernel_rfl) rfl rfl (by intro i hi; simp at hi; first | (subst hi; exact ⟨by simp, by omega⟩) | (rcases hi with rfl | rfl | rfl <;> exact ⟨by simp, by omega⟩) | (rcases hi with rfl | rfl <;> exact ⟨by simp, by omega⟩)) (Zz wk) (ZH (fun _ _ _ _ hb ⟨A, c, h1, h2⟩ => ⟨A, c, h1, ZC h2 hb (Nat.le_refl _)⟩) (ZH (fun _ _ _ _ hb ⟨A, c, h1, h2⟩ => ⟨A, c, h1, ZC h2 hb (Nat.le_refl _)⟩) (ZH (fun _ _ _ _ hb ⟨A, c, h1, h2⟩ => ⟨A, c, h1, ZC h2 hb (Nat.le_refl _)⟩) (ZH (fun _ _ _ _ _ h => h) (ZH Zb (ZH (fun _ _ _ _ hb ⟨g, A, c9, h1, h2, h3, h4⟩ => ⟨g, A, c9, h1, h2.below hb h2.lt, ZC h3 hb (Nat.le_refl _), h4⟩) (ZZ))))))) (fun i_ hi_ hs_ => ?_) (fun i_ hi_ => ?_) ?_
   ·match i_, hi_ with
    | 0, _ =>
     intro val fl w1 a hb ha hd hfl;have ha := ha.s0 (d := 3) rfl
     exact ZD ha rfl rfl (YC rfl ((q1.below hb q1.lt).at (j := 0) rfl) ((q1.below hb q1.lt).at (j := 1) rfl) ((q1.below hb q1.lt).at (j := 2) rfl) ((q1.below hb q1.lt).at (j := 3) rfl) ((q1.below hb q1.lt).at (j := 4) rfl) ((q1.below hb q1.lt).at (j := 5) rfl)) rfl rfl
    | 1, _ =>
     intro val fl w1 a hb ha hd hfl;have ha := ha.s0 (d := 8) rfl
     exact ZD ha rfl rfl (Ys rfl ((q4.below hb q4.lt).at (j := 0) rfl) ((q4.below hb q4.lt).at (j := 1) rfl) ((q4.below hb q4.lt).at (j := 2) rfl) ((q4.below hb q4.lt).at (j := 3) rfl) ((q4.below hb q4.lt).at (j := 4) rfl) ((q4.below hb q4.lt).at (j := 5) rfl) ((q4.below hb q4.lt).at (j := 6) rfl) ((q4.below hb q4.lt).at (j := 7) rfl) ((q4.below hb q4.lt).at (j := 8) rfl) ((q4.below hb q4.lt).at (j := 9) rfl) ((q4.below hb q4.lt).at (j := 10) rfl)) rfl rfl
    | 2, _ =>
     intro val fl w1 a hb ha hd hfl;have ha := ha.s0 (d := 2) rfl
     exact ZD ha rfl rfl (x_move rfl) rfl rfl
    | 3, _ =>
     intro val fl w1 a hb ha hd hfl;have ha := ha.s0 (d := 9) rfl
     exact ZD ha rfl rfl (x_move rfl) rfl rfl
    | 4, _ =>
     intro val fl w1 a hb ha hd hfl;have e2 : val 2 = _ := hd 2 (ZA.1 rfl);have e3 : val 3 = _ := hd 3 (ZA.1 rfl);have ha := ha.s2 (d := 25) (e := 24) rfl e3 rfl e2
     exact ZD ha rfl rfl (QAM rfl rfl hltk) rfl rfl
    | 5, _ =>
     intro val fl w1 a hb ha hd hfl;have e4 : val 4 = _ := hd 4 (ZA.1 rfl);have ha := ha.s1 (d := 26) rfl e4
     exact ZD ha rfl rfl (QAy rfl (ZB (hbw.trans (hb.mono hbw.size)) c0) (ZB (hbw.trans (hb.mono hbw.size)) c1)) rfl rfl
    | 6, _ =>
     intro val fl w1 a hb ha hd hfl;have e0 : val 0 = _ := hd 0 (ZA.1 rfl);have e1 : val 1 = _ := hd 1 (ZA.1 rfl);have e5 : val 5 = _ := hd 5 (ZA.1 rfl);have ha := ha.sub (Sub.ins (d := 27) (Sub.ins (d := 23) (Sub.ins (d := 22) (Sub.nil _) (ZN rfl e0)) (ZN rfl e1)) (ZN rfl e5));refine YA ha rfl rfl (cA3 cF44 rfl rfl rfl) (QCC (u := false) (ls := (waitL (qL ts) (sAt l (qL ts) p k) false)) hst htw h8 hT1 hTn hTp (by omega) (fun h => by cases h) (fun _ => rfl) (hrW.below hb) (hrN.below hb) hb.size) rfl ?_
     rintro e w' ⟨⟨he, _⟩, hb'⟩
     obtain ⟨A9, c9, rfl, ho⟩ := he hfit
     exact ⟨_, rfl, hb', A9, c9, rfl, YB ho hb.size⟩
    | 7, _ =>
     intro val fl w1 a hb ha hd hfl;obtain ⟨A6_, c6_, e6, o6_⟩ := hd 6 (ZA.1 rfl);have ha := ha.s1 (d := 28) rfl e6
     exact ZD ha rfl rfl (x_move rfl) ⟨A6_, c6_, rfl, o6_⟩ rfl
    | 8, _ =>
     intro val fl w1 a hb ha hd hfl;obtain ⟨A7_, c7_, e7, o7_⟩ := hd 7 (ZA.1 rfl);have ha := ha.s1 (d := 21) rfl e7
     exact ZD ha rfl rfl (ZM (v := .agg #[.slice Au (waitL (qL ts) (sAt l (qL ts) p k) true).length cu, .slice (YS Ad cd (twAt l (qL ts) p k).length) ((waitL (qL ts) (sAt l (qL ts) p k) false).length - (twAt l (qL ts) p k).length) (cd - (twAt l (qL ts) p k).length), .int .i64 (tkS (sAt l (qL ts) p k) (twAt l (qL ts) p k) false).fr, .bool (tkS (sAt l (qL ts) p k) (twAt l (qL ts) p k) false).lk.high, .slice A7_ ((ZU l (qL ts) p k).length + 1) c7_, .int .i64 (tkS (sAt l (qL ts) p k) (twAt l (qL ts) p k) false).cost, .int .i64 (tkS (sAt l (qL ts) p k) (twAt l (qL ts) p k) false).mv, .int .i64 (tkS (sAt l (qL ts) p k) (twAt l (qL ts) p k) false).up, .int .i64 (tkS (sAt l (qL ts) p k) (twAt l (qL ts) p k) false).lo, .int .i64 (tkS (sAt l (qL ts) p k) (twAt l (qL ts) p k) false).ch, .int .i64 (tkS (sAt l (qL ts) p k) (twAt l (qL ts) p k) false).ba]) rfl rfl) ⟨A7_, c7_, rfl, o7_⟩ rfl
    | 9, _ =>
     intro val fl w1 a hb ha hd hfl;obtain ⟨A7_, c7_, e7, o7_⟩ := hd 7 (ZA.1 rfl);have ha := ha.s1 (d := 21) rfl e7
     exact ZD ha rfl rfl (ZM (v := .bool true) rfl rfl) rfl rfl
    | 10, _ =>
     intro val fl w1 a hb ha hd hfl;have ha := ha.sub (Sub.nil _)
     exact Z2 ha rfl rfl QBO (fun g w' hq _ hge => ⟨g, rfl, Nat.le_trans hb.size hge, fun _ => hq⟩)
    | 11, _ =>
     exact absurd (by simp) hs_
    | k + 12, h => exact absurd h (by omega)
   ·simp only [List.mem_singleton] at hi_; subst hi_
    intro val fl w1 a hb hfi ha hd hfl;obtain ⟨g10_, e10, hg10_, q10_⟩ := hd 10 (ZA.1 rfl);change val 10 = _ at e10;obtain ⟨A8_, c8_, e8, o8_⟩ := hd 8 (ZA.1 rfl);have ha := ha.s2 (d := 29) (e := 10) rfl e8 rfl e10;refine ZY ha rfl rfl rfl (q10_ hfi) YW rfl rfl rfl rfl ?_;intro w' hq hgr;refine ⟨undef, rfl, hgr.size, ZE hb hgr hg10_, ⟨g10_, A8_, c8_, e10, hq, ZG o8_ (q10_ hfi) rfl hgr, hg10_⟩, fun j _ hj hn hA => ?_⟩
    exact ZF (C := fun j => j ≠ 11 ∧ 11 ∉ clsAt [[], [], [], [], [2, 3], [2, 3, 4], [0, 1, 2, 3, 4, 5], [0, 1, 2, 3, 4, 5, 6], [0, 1, 2, 3, 4, 5, 6, 7], [0, 1, 2, 3, 4, 5, 6, 7], [], [0, 1, 2, 3, 4, 5, 6, 7, 8, 10], [0, 1, 2, 3, 4, 5, 6, 7, 8, 9, 10, 11]] j ∧ ∀ p ∈ [10], (p = j ∨ p ∈ clsAt [[], [], [], [], [2, 3], [2, 3, 4], [0, 1, 2, 3, 4, 5], [0, 1, 2, 3, 4, 5, 6], [0, 1, 2, 3, 4, 5, 6, 7], [0, 1, 2, 3, 4, 5, 6, 7], [], [0, 1, 2, 3, 4, 5, 6, 7, 8, 10], [0, 1, 2, 3, 4, 5, 6, 7, 8, 9, 10, 11]] j) → ∀ q ∈ [10], (q = 11 ∨ q ∈ clsAt [[], [], [], [], [2, 3], [2, 3, 4], [0, 1, 2, 3, 4, 5], [0, 1, 2, 3, 4, 5, 6], [0, 1, 2, 3, 4, 5, 6, 7], [0, 1, 2, 3, 4, 5, 6, 7], [], [0, 1, 2, 3, 4, 5, 6, 7, 8, 10], [0, 1, 2, 3, 4, 5, 6, 7, 8, 9, 10, 11]] 11) → p ≠ q → val p ≠ val q) (fun _ ⟨A, c, h1, h2⟩ => ⟨A, c, h1, ZG h2 (q10_ hfi) rfl hgr⟩) (ZF (fun _ ⟨A, c, h1, h2⟩ => ⟨A, c, h1, ZG h2 (q10_ hfi) rfl hgr⟩) (ZF (fun _ ⟨A, c, h1, h2⟩ => ⟨A, c, h1, ZG h2 (q10_ hfi) rfl hgr⟩) (ZF (fun _ h => h) (ZF (fun _ ⟨g, h1, h2, _⟩ => ⟨g, h1, h2, fun h => by rw [ZS] at h; cases h⟩) (ZF (fun hc => absurd rfl hc.1) (fun _ _ h => h)))))) j ⟨hj, hn, hA⟩
   ·intro val fl wR5 hfl hb halc hd
    have e0 : val 0 = _ := hd 0 (by omega)
    have e1 : val 1 = _ := hd 1 (by omega)
    have e2 : val 2 = _ := hd 2 (by omega)
    have e3 : val 3 = _ := hd 3 (by omega)
    have e4 : val 4 = _ := hd 4 (by omega)
    have e5 : val 5 = _ := hd 5 (by omega)
    obtain ⟨A6_, c6_, e6, o6_⟩ := hd 6 (by omega)
    change val 6 = _ at e6;obtain ⟨A7_, c7_, e7, o7_⟩ := hd 7 (by omega)
    change val 7 = _ at e7;obtain ⟨A8_, c8_, e8, o8_⟩ := hd 8 (by omega)
    change val 8 = _ at e8;obtain e9 := hd 9 (by omega)
    change val 9 = _ at e9;obtain ⟨ga10_5, Af, cf, e10, qa10_5, hrn2, hga10_5⟩ := hd 11 (by omega)
    change val 10 = _ at e10;refine EL.ends (cs := [_, _, _, _, _, _, _, _, _, _, _, val 11]) ⟨e0, e1, e2, e3, e4, e5, e6, e7, e8, e9, e10, rfl, trivial⟩ rfl ?_;replace q1 := q1.bl hb;replace q2 := q2.bl hb;replace q4 := q4.bl hb;replace hrn := ZC hrn hb (Nat.le_refl _);have bge8 := YP halc (i := 10) rfl rfl e10;have n1_8 : g1 ≠ ga10_5 := Nat.ne_of_lt (Nat.lt_of_lt_of_le lt_1 bge8);have n2_8 : g2 ≠ ga10_5 := Nat.ne_of_lt (Nat.lt_of_lt_of_le lt_2 bge8);have n4_8 : g4 ≠ ga10_5 := Nat.ne_of_lt (Nat.lt_of_lt_of_le lt_4 bge8);have bhbw_8 := Nat.le_trans hbw.size bge8;have bhb2_8 := Nat.le_trans hb2.size bge8;replace hbw := bo_ hbw hb;replace hb2 := bo_ hb2 hb;replace hrn2 := YB hrn2 hszk;refine EL.as rfl rfl (EL.nil (EX.seq (EC.seq (EC.seq (EC.region (EL.mv rfl rfl (EL.val (ZT rfl) rfl (EL.nil (EX.seq ?_)))))))));refine EC.no rfl (EC.skip (EX.seq (EC.region (EL.val (Ys rfl (qa10_5.at (j := 0) rfl) (qa10_5.at (j := 1) rfl) (qa10_5.at (j := 2) rfl) (qa10_5.at (j := 3) rfl) (qa10_5.at (j := 4) rfl) (qa10_5.at (j := 5) rfl) (qa10_5.at (j := 6) rfl) (qa10_5.at (j := 7) rfl) (qa10_5.at (j := 8) rfl) (qa10_5.at (j := 9) rfl) (qa10_5.at (j := 10) rfl)) rfl (EL.store rfl rfl q4 YW rfl rfl rfl rfl ?_)))));intro w9 hq9 hg9;replace q1 := q1.gr hg9 n1_4;replace q2 := q2.gr hg9 n2_4;replace qa10_5 := qa10_5.gr hg9 n4_8.symm;replace hrn2 := ZG hrn2 q4 rfl hg9;replace hbw := ZE hbw hg9 bhbw_4;replace hb2 := ZE hb2 hg9 bhb2_4;replace q4 := hq9;clear hg9 hq9;refine EL.nil (EX.blk (EX.seq (EC.region (EL.mv rfl rfl ?_))));refine EL.val (ZR rfl rfl (c := ((k + 1 : Nat) : Int)) ((IntWalk.i64_in _ ⟨by first | omega | (simp only; omega), by first | omega | (simp only; omega)⟩).trans (by first | omega | (simp only; omega)))) rfl ?_
    refine EL.as rfl rfl (EL.nil ?_);refine EX.roundD ⟨k + 1, Au, _, cu, (YS Ad cd (twAt l (qL ts) p k).length), ((waitL (qL ts) (sAt l (qL ts) p k) false).length - (twAt l (qL ts) p k).length), (cd - (twAt l (qL ts) p k).length), Af, (ZU l (qL ts) p k).length + 1, cf⟩ ⟨rfl, trivial⟩ (by repeat first | with_reducible exact .refl _ | refine sp_ rfl ?_ | exact .refl _ | refine sd_ rfl ?_ | refine sn_ ?_) ⟨hltk, QAa hft (hfa.trans hfit), (by rw [hsuc, hwt, if_neg (by decide)]), (by rw [hsuc, hwt, if_neg (by decide)]; exact hu2), (by rw [hsuc, hwt, if_pos rfl, List.length_drop]), (by rw [hsuc, hwt, if_pos rfl]; exact QIE hd2 hTn), (by rw [hrsu, List.length_append]; rfl), (by rw [hrsu, QCp, hra]; exact hrn2), q1, q2, (by rw [hsuc]; exact q4), hb2, hbw⟩ (show p.length - (k + 1) < p.length - k by omega)
  ·
   rw [hup] at c0 hTn hTp hsuc hra;have hwt := fun v => QDo (qL ts) (sAt l (qL ts) p k) (twAt l (qL ts) p k) true v
   have hszk := hbw.size;have hrU := hu2.more (Nat.le_refl _);have hrW := (hrU.below hb2).more hb2.size;have hrN := Rd.of_own hrn;have lt_1 := q1.lt;have lt_2 := q2.lt;have lt_4 := q4.lt;refine EC.regionS [[], [], [], [], [2, 3], [2, 3, 4], [0, 1, 2, 3, 4, 5], [0, 1, 2, 3, 4, 5, 6], [0, 1, 2, 3, 4, 5, 6, 7], [0, 1, 2, 3, 4, 5, 6, 7], [], [0, 1, 2, 3, 4, 5, 6, 7, 8, 10], [0, 1, 2, 3, 4, 5, 6, 7, 8, 9, 10, 11]] 12 [10] [11] (fun _ w_ => Below wk.heap.size wk w_) (phiS (fun i_ r => match i_ with | 0 => r 0 = .agg #[.int .i64 l.length, .int .i64 l.cycle, .int .i64 l.turn, .int .i64 l.fill, .int .i64 l.save, .bool l.high] | 1 => r 1 = .agg #[.slice Au (waitL (qL ts) (sAt l (qL ts) p k) true).length cu, .slice Ad (waitL (qL ts) (sAt l (qL ts) p k) false).length cd, .int .i64 (sAt l (qL ts) p k).fr, .bool (sAt l (qL ts) p k).lk.high, .slice Ar (ZU l (qL ts) p k).length cr, .int .i64 (sAt l (qL ts) p k).cost, .int .i64 (sAt l (qL ts) p k).mv, .int .i64 (sAt l (qL ts) p k).up, .int .i64 (sAt l (qL ts) p k).lo, .int .i64 (sAt l (qL ts) p k).ch, .int .i64 (sAt l (qL ts) p k).ba] | 2 => r 2 = .slice (some ⟨bp, op, none⟩) p.length cp | 3 => r 3 = .int .i64 (k : Nat) | 4 => r 4 = .pointer (some ⟨bp, op + k * 2, none⟩) | 5 => r 5 = .agg #[.bool true, .int .i64 ((twAt l (qL ts) p k).length : Nat)] | 7 => r 7 = .tuple #[.agg #[.slice Au (waitL (qL ts) (sAt l (qL ts) p k) true).length cu, .slice Ad (waitL (qL ts) (sAt l (qL ts) p k) false).length cd, .int .i64 (sAt l (qL ts) p k).fr, .bool (sAt l (qL ts) p k).lk.high, .slice Ar (ZU l (qL ts) p k).length cr, .int .i64 (sAt l (qL ts) p k).cost, .int .i64 (sAt l (qL ts) p k).mv, .int .i64 (sAt l (qL ts) p k).up, .int .i64 (sAt l (qL ts) p k).lo, .int .i64 (sAt l (qL ts) p k).ch, .int .i64 (sAt l (qL ts) p k).ba], .bool false] | 8 => r 8 = .agg #[.slice Au (waitL (qL ts) (sAt l (qL ts) p k) true).length cu, .slice Ad (waitL (qL ts) (sAt l (qL ts) p k) false).length cd, .int .i64 (sAt l (qL ts) p k).fr, .bool (sAt l (qL ts) p k).lk.high, .slice Ar (ZU l (qL ts) p k).length cr, .int .i64 (sAt l (qL ts) p k).cost, .int .i64 (sAt l (qL ts) p k).mv, .int .i64 (sAt l (qL ts) p k).up, .int .i64 (sAt l (qL ts) p k).lo, .int .i64 (sAt l (qL ts) p k).ch, .int .i64 (sAt l (qL ts) p k).ba] | 9 => r 9 = .bool false | _ => True) [(6, fun _ r w_ => r 6 = .tuple #[.agg #[.slice Au (waitL (qL ts) (sAt l (qL ts) p k) true).length cu, .slice Ad (waitL (qL ts) (sAt l (qL ts) p k) false).length cd, .int .i64 (sAt l (qL ts) p k).fr, .bool (sAt l (qL ts) p k).lk.high, .slice Ar (ZU l (qL ts) p k).length cr, .int .i64 (sAt l (qL ts) p k).cost, .int .i64 (sAt l (qL ts) p k).mv, .int .i64 (sAt l (qL ts) p k).up, .int .i64 (sAt l (qL ts) p k).lo, .int .i64 (sAt l (qL ts) p k).ch, .int .i64 (sAt l (qL ts) p k).ba], .bool false]), (10, fun fl r w_ => ∃ g_, r 10 = .pointer (some ⟨g_, 0, none⟩) ∧ wk.heap.size ≤ g_ ∧ (fl 11 = false → Blk w_ g_ 45 #[.slice none 0 0, .slice none 0 0, .int .i64 0, .bool false, .slice none 0 0, .int .i64 0, .int .i64 0, .int .i64 0, .int .i64 0, .int .i64 0, .int .i64 0])), (11, fun _ r w_ => ∃ g_, r 10 = .pointer (some ⟨g_, 0, none⟩) ∧ Blk w_ g_ 45 #[.slice Au (waitL (qL ts) (sAt l (qL ts) p k) true).length cu, .slice Ad (waitL (qL ts) (sAt l (qL ts) p k) false).length cd, .int .i64 (sAt l (qL ts) p k).fr, .bool (sAt l (qL ts) p k).lk.high, .slice Ar (ZU l (qL ts) p k).length cr, .int .i64 (sAt l (qL ts) p k).cost, .int .i64 (sAt l (qL ts) p k).mv, .int .i64 (sAt l (qL ts) p k).up, .int .i64 (sAt l (qL ts) p k).lo, .int .i64 (sAt l (qL ts) p k).ch, .int .i64 (sAt l (qL ts) p k).ba])]) (by kernel_rfl) rfl rfl (by intro i hi; simp at hi; first | (subst hi; exact ⟨by simp, by omega⟩) | (rcases hi with rfl | rfl | rfl <;> exact ⟨by simp, by omega⟩) | (rcases hi with rfl | rfl <;> exact ⟨by simp, by omega⟩)) (Zz wk) (ZH (fun _ _ _ _ _ h => h) (ZH Zb (ZH Zf (ZZ)))) (fun i_ hi_ hs_ => ?_) (fun i_ hi_ => ?_) ?_
   ·match i_, hi_ with
    | 0, _ =>
     intro val fl w1 a hb ha hd hfl;have ha := ha.s0 (d := 3) rfl
     exact ZD ha rfl rfl (YC rfl ((q1.below hb q1.lt).at (j := 0) rfl) ((q1.below hb q1.lt).at (j := 1) rfl) ((q1.below hb q1.lt).at (j := 2) rfl) ((q1.below hb q1.lt).at (j := 3) rfl) ((q1.below hb q1.lt).at (j := 4) rfl) ((q1.below hb q1.lt).at (j := 5) rfl)) rfl rfl
    | 1, _ =>
     intro val fl w1 a hb ha hd hfl;have ha := ha.s0 (d := 8) rfl
     exact ZD ha rfl rfl (Ys rfl ((q4.below hb q4.lt).at (j := 0) rfl) ((q4.below hb q4.lt).at (j := 1) rfl) ((q4.below hb q4.lt).at (j := 2) rfl) ((q4.below hb q4.lt).at (j := 3) rfl) ((q4.below hb q4.lt).at (j := 4) rfl) ((q4.below hb q4.lt).at (j := 5) rfl) ((q4.below hb q4.lt).at (j := 6) rfl) ((q4.below hb q4.lt).at (j := 7) rfl) ((q4.below hb q4.lt).at (j := 8) rfl) ((q4.below hb q4.lt).at (j := 9) rfl) ((q4.below hb q4.lt).at (j := 10) rfl)) rfl rfl
    | 2, _ =>
     intro val fl w1 a hb ha hd hfl;have ha := ha.s0 (d := 2) rfl
     exact ZD ha rfl rfl (x_move rfl) rfl rfl
    | 3, _ =>
     intro val fl w1 a hb ha hd hfl;have ha := ha.s0 (d := 9) rfl
     exact ZD ha rfl rfl (x_move rfl) rfl rfl
    | 4, _ =>
     intro val fl w1 a hb ha hd hfl;have e2 : val 2 = _ := hd 2 (ZA.1 rfl);have e3 : val 3 = _ := hd 3 (ZA.1 rfl);have ha := ha.s2 (d := 25) (e := 24) rfl e3 rfl e2
     exact ZD ha rfl rfl (QAM rfl rfl hltk) rfl rfl
    | 5, _ =>
     intro val fl w1 a hb ha hd hfl;have e4 : val 4 = _ := hd 4 (ZA.1 rfl);have ha := ha.s1 (d := 26) rfl e4
     exact ZD ha rfl rfl (QAy rfl (ZB (hbw.trans (hb.mono hbw.size)) c0) (ZB (hbw.trans (hb.mono hbw.size)) c1)) rfl rfl
    | 6, _ =>
     intro val fl w1 a hb ha hd hfl;have e0 : val 0 = _ := hd 0 (ZA.1 rfl);have e1 : val 1 = _ := hd 1 (ZA.1 rfl);have e5 : val 5 = _ := hd 5 (ZA.1 rfl);have ha := ha.sub (Sub.ins (d := 27) (Sub.ins (d := 23) (Sub.ins (d := 22) (Sub.nil _) (ZN rfl e0)) (ZN rfl e1)) (ZN rfl e5));refine YA ha rfl rfl (cA3 cF44 rfl rfl rfl) (QCC (u := true) (ls := (waitL (qL ts) (sAt l (qL ts) p k) true)) hst htw h8 hT1 hTn hTp (by omega) (fun _ => rfl) (fun h => by cases h) (hrW.below hb) (hrN.below hb) hb.size) rfl ?_
     rintro e w' ⟨⟨_, he⟩, hb'⟩
     obtain rfl := he hfit
     exact ⟨_, rfl, hb', rfl⟩
    | 7, _ =>
     intro val fl w1 a hb ha hd hfl;obtain e6 := hd 6 (ZA.1 rfl);have ha := ha.s1 (d := 28) rfl e6
     exact ZD ha rfl rfl (x_move rfl) rfl rfl
    | 8, _ =>
     intro val fl w1 a hb ha hd hfl;have e7 : val 7 = _ := hd 7 (ZA.1 rfl);have ha := ha.s1 (d := 21) rfl e7
     exact ZD ha rfl rfl (ZM (v := .agg #[.slice Au (waitL (qL ts) (sAt l (qL ts) p k) true).length cu, .slice Ad (waitL (qL ts) (sAt l (qL ts) p k) false).length cd, .int .i64 (sAt l (qL ts) p k).fr, .bool (sAt l (qL ts) p k).lk.high, .slice Ar (ZU l (qL ts) p k).length cr, .int .i64 (sAt l (qL ts) p k).cost, .int .i64 (sAt l (qL ts) p k).mv, .int .i64 (sAt l (qL ts) p k).up, .int .i64 (sAt l (qL ts) p k).lo, .int .i64 (sAt l (qL ts) p k).ch, .int .i64 (sAt l (qL ts) p k).ba]) rfl rfl) rfl rfl
    | 9, _ =>
     intro val fl w1 a hb ha hd hfl;have e7 : val 7 = _ := hd 7 (ZA.1 rfl);have ha := ha.s1 (d := 21) rfl e7
     exact ZD ha rfl rfl (ZM (v := .bool false) rfl rfl) rfl rfl
    | 10, _ =>
     intro val fl w1 a hb ha hd hfl;have ha := ha.sub (Sub.nil _)
     exact Z2 ha rfl rfl QBO (fun g w' hq _ hge => ⟨g, rfl, Nat.le_trans hb.size hge, fun _ => hq⟩)
    | 11, _ =>
     exact absurd (by simp) hs_
    | k + 12, h => exact absurd h (by omega)
   ·simp only [List.mem_singleton] at hi_; subst hi_
    intro val fl w1 a hb hfi ha hd hfl;obtain ⟨g10_, e10, hg10_, q10_⟩ := hd 10 (ZA.1 rfl);change val 10 = _ at e10;have e8 : val 8 = _ := hd 8 (ZA.1 rfl);have ha := ha.s2 (d := 29) (e := 10) rfl e8 rfl e10;refine ZY ha rfl rfl rfl (q10_ hfi) YW rfl rfl rfl rfl ?_;intro w' hq hgr;refine ⟨undef, rfl, hgr.size, ZE hb hgr hg10_, ⟨g10_, e10, hq⟩, fun j _ hj hn hA => ?_⟩
    exact ZF (C := fun j => j ≠ 11 ∧ 11 ∉ clsAt [[], [], [], [], [2, 3], [2, 3, 4], [0, 1, 2, 3, 4, 5], [0, 1, 2, 3, 4, 5, 6], [0, 1, 2, 3, 4, 5, 6, 7], [0, 1, 2, 3, 4, 5, 6, 7], [], [0, 1, 2, 3, 4, 5, 6, 7, 8, 10], [0, 1, 2, 3, 4, 5, 6, 7, 8, 9, 10, 11]] j ∧ ∀ p ∈ [10], (p = j ∨ p ∈ clsAt [[], [], [], [], [2, 3], [2, 3, 4], [0, 1, 2, 3, 4, 5], [0, 1, 2, 3, 4, 5, 6], [0, 1, 2, 3, 4, 5, 6, 7], [0, 1, 2, 3, 4, 5, 6, 7], [], [0, 1, 2, 3, 4, 5, 6, 7, 8, 10], [0, 1, 2, 3, 4, 5, 6, 7, 8, 9, 10, 11]] j) → ∀ q ∈ [10], (q = 11 ∨ q ∈ clsAt [[], [], [], [], [2, 3], [2, 3, 4], [0, 1, 2, 3, 4, 5], [0, 1, 2, 3, 4, 5, 6], [0, 1, 2, 3, 4, 5, 6, 7], [0, 1, 2, 3, 4, 5, 6, 7], [], [0, 1, 2, 3, 4, 5, 6, 7, 8, 10], [0, 1, 2, 3, 4, 5, 6, 7, 8, 9, 10, 11]] 11) → p ≠ q → val p ≠ val q) (fun _ h => h) (ZF (fun _ ⟨g, h1, h2, _⟩ => ⟨g, h1, h2, fun h => by rw [ZS] at h; cases h⟩) (ZF (fun hc => absurd rfl hc.1) (fun _ _ h => h))) j ⟨hj, hn, hA⟩
   ·intro val fl wR5 hfl hb halc hd
    have e0 : val 0 = _ := hd 0 (by omega)
    have e1 : val 1 = _ := hd 1 (by omega)
    have e2 : val 2 = _ := hd 2 (by omega)
    have e3 : val 3 = _ := hd 3 (by omega)
    have e4 : val 4 = _ := hd 4 (by omega)
    have e5 : val 5 = _ := hd 5 (by omega)
    obtain e6 := hd 6 (by omega)
    change val 6 = _ at e6;have e7 : val 7 = _ := hd 7 (by omega)
    have e8 : val 8 = _ := hd 8 (by omega)
    have e9 : val 9 = _ := hd 9 (by omega)
    obtain ⟨ga10_5, e10, qa10_5⟩ := hd 11 (by omega)
    change val 10 = _ at e10;refine EL.ends (cs := [_, _, _, _, _, _, _, _, _, _, _, val 11]) ⟨e0, e1, e2, e3, e4, e5, e6, e7, e8, e9, e10, rfl, trivial⟩ rfl ?_;replace q1 := q1.bl hb;replace q2 := q2.bl hb;replace q4 := q4.bl hb;replace hrn := ZC hrn hb (Nat.le_refl _);have bge10 := YP halc (i := 10) rfl rfl e10;have n1_10 : g1 ≠ ga10_5 := Nat.ne_of_lt (Nat.lt_of_lt_of_le lt_1 bge10);have n2_10 : g2 ≠ ga10_5 := Nat.ne_of_lt (Nat.lt_of_lt_of_le lt_2 bge10);have n4_10 : g4 ≠ ga10_5 := Nat.ne_of_lt (Nat.lt_of_lt_of_le lt_4 bge10);have bhbw_10 := Nat.le_trans hbw.size bge10;have bhb2_10 := Nat.le_trans hb2.size bge10;replace hbw := bo_ hbw hb;replace hb2 := bo_ hb2 hb;refine EL.as rfl rfl (EL.nil (EX.seq (EC.seq (EC.seq (EC.region (EL.mv rfl rfl (EL.val (ZT rfl) rfl (EL.nil (EX.seq ?_)))))))));refine EC.yes rfl (EC.seq (EC.region (EL.val (Ys rfl (q4.at (j := 0) rfl) (q4.at (j := 1) rfl) (q4.at (j := 2) rfl) (q4.at (j := 3) rfl) (q4.at (j := 4) rfl) (q4.at (j := 5) rfl) (q4.at (j := 6) rfl) (q4.at (j := 7) rfl) (q4.at (j := 8) rfl) (q4.at (j := 9) rfl) (q4.at (j := 10) rfl)) rfl (EL.store rfl rfl q2 YW rfl rfl rfl rfl ?_))));intro w11 hq11 hg11;replace q1 := q1.gr hg11 n1_2;replace q4 := q4.gr hg11 n2_4.symm;replace qa10_5 := qa10_5.gr hg11 n2_10.symm;replace hrn := ZG hrn q2 rfl hg11;replace hbw := ZE hbw hg11 bhbw_2;clear hb2;replace q2 := hq11;clear hg11 hq11;refine EL.as rfl rfl (EL.nil (EX.seq (EC.ret (EX.seq_ret (EX.blk_ret (EX.seq_ret (EX.seq_ret (EX.blk_ret (EX.seq_ret ?_)))))))))
    exact EX.done (QDZ rfl rfl rfl (QBz (q2.at (j := 0) rfl) (q2.at (j := 1) rfl) (q2.at (j := 2) rfl) (q2.at (j := 3) rfl) (q2.at (j := 4) rfl) (q2.at (j := 5) rfl) (q2.at (j := 6) rfl) (q2.at (j := 7) rfl) (q2.at (j := 8) rfl) (q2.at (j := 9) rfl) (q2.at (j := 10) rfl))) ⟨⟨.agg #[.slice Au (waitL (qL ts) (sAt l (qL ts) p k) true).length cu, .slice Ad (waitL (qL ts) (sAt l (qL ts) p k) false).length cd, .int .i64 (sAt l (qL ts) p k).fr, .bool (sAt l (qL ts) p k).lk.high, .slice Ar (ZU l (qL ts) p k).length cr, .int .i64 (sAt l (qL ts) p k).cost, .int .i64 (sAt l (qL ts) p k).mv, .int .i64 (sAt l (qL ts) p k).up, .int .i64 (sAt l (qL ts) p k).lo, .int .i64 (sAt l (qL ts) p k).ch, .int .i64 (sAt l (qL ts) p k).ba], by rw [QD0 hltk (hfa.trans hfit)], fun _ => ⟨Au, _, cu, Ad, _, cd, Ar, _, cr, sAt l (qL ts) p k, rfl⟩, fun hf => absurd hf (by rw [QD0 hltk (hfa.trans hfit)]; decide)⟩, hbw⟩
  ·
   rw [hup] at c0 hTn hTp hsuc hra;have hwt := fun v => QDo (qL ts) (sAt l (qL ts) p k) (twAt l (qL ts) p k) false v
   have hszk := hbw.size;have hrU := hd2.more (Nat.le_refl _);have hrW := (hrU.below hb2).more hb2.size;have hrN := Rd.of_own hrn;have lt_1 := q1.lt;have lt_2 := q2.lt;have lt_4 := q4.lt;refine EC.regionS [[], [], [], [], [2, 3], [2, 3, 4], [0, 1, 2, 3, 4, 5], [0, 1, 2, 3, 4, 5, 6], [0, 1, 2, 3, 4, 5, 6, 7], [0, 1, 2, 3, 4, 5, 6, 7], [], [0, 1, 2, 3, 4, 5, 6, 7, 8, 10], [0, 1, 2, 3, 4, 5, 6, 7, 8, 9, 10, 11]] 12 [10] [11] (fun _ w_ => Below wk.heap.size wk w_) (phiS (fun i_ r => match i_ with | 0 => r 0 = .agg #[.int .i64 l.length, .int .i64 l.cycle, .int .i64 l.turn, .int .i64 l.fill, .int .i64 l.save, .bool l.high] | 1 => r 1 = .agg #[.slice Au (waitL (qL ts) (sAt l (qL ts) p k) true).length cu, .slice Ad (waitL (qL ts) (sAt l (qL ts) p k) false).length cd, .int .i64 (sAt l (qL ts) p k).fr, .bool (sAt l (qL ts) p k).lk.high, .slice Ar (ZU l (qL ts) p k).length cr, .int .i64 (sAt l (qL ts) p k).cost, .int .i64 (sAt l (qL ts) p k).mv, .int .i64 (sAt l (qL ts) p k).up, .int .i64 (sAt l (qL ts) p k).lo, .int .i64 (sAt l (qL ts) p k).ch, .int .i64 (sAt l (qL ts) p k).ba] | 2 => r 2 = .slice (some ⟨bp, op, none⟩) p.length cp | 3 => r 3 = .int .i64 (k : Nat) | 4 => r 4 = .pointer (some ⟨bp, op + k * 2, none⟩) | 5 => r 5 = .agg #[.bool false, .int .i64 ((twAt l (qL ts) p k).length : Nat)] | 7 => r 7 = .tuple #[.agg #[.slice Au (waitL (qL ts) (sAt l (qL ts) p k) true).length cu, .slice Ad (waitL (qL ts) (sAt l (qL ts) p k) false).length cd, .int .i64 (sAt l (qL ts) p k).fr, .bool (sAt l (qL ts) p k).lk.high, .slice Ar (ZU l (qL ts) p k).length cr, .int .i64 (sAt l (qL ts) p k).cost, .int .i64 (sAt l (qL ts) p k).mv, .int .i64 (sAt l (qL ts) p k).up, .int .i64 (sAt l (qL ts) p k).lo, .int .i64 (sAt l (qL ts) p k).ch, .int .i64 (sAt l (qL ts) p k).ba], .bool false] | 8 => r 8 = .agg #[.slice Au (waitL (qL ts) (sAt l (qL ts) p k) true).length cu, .slice Ad (waitL (qL ts) (sAt l (qL ts) p k) false).length cd, .int .i64 (sAt l (qL ts) p k).fr, .bool (sAt l (qL ts) p k).lk.high, .slice Ar (ZU l (qL ts) p k).length cr, .int .i64 (sAt l (qL ts) p k).cost, .int .i64 (sAt l (qL ts) p k).mv, .int .i64 (sAt l (qL ts) p k).up, .int .i64 (sAt l (qL ts) p k).lo, .int .i64 (sAt l (qL ts) p k).ch, .int .i64 (sAt l (qL ts) p k).ba] | 9 => r 9 = .bool false | _ => True) [(6, fun _ r w_ => r 6 = .tuple #[.agg #[.slice Au (waitL (qL ts) (sAt l (qL ts) p k) true).length cu, .slice Ad (waitL (qL ts) (sAt l (qL ts) p k) false).length cd, .int .i64 (sAt l (qL ts) p k).fr, .bool (sAt l (qL ts) p k).lk.high, .slice Ar (ZU l (qL ts) p k).length cr, .int .i64 (sAt l (qL ts) p k).cost, .int .i64 (sAt l (qL ts) p k).mv, .int .i64 (sAt l (qL ts) p k).up, .int .i64 (sAt l (qL ts) p k).lo, .int .i64 (sAt l (qL ts) p k).ch, .int .i64 (sAt l (qL ts) p k).ba], .bool false]), (10, fun fl r w_ => ∃ g_, r 10 = .pointer (some ⟨g_, 0, none⟩) ∧ wk.heap.size ≤ g_ ∧ (fl 11 = false → Blk w_ g_ 45 #[.slice none 0 0, .slice none 0 0, .int .i64 0, .bool false, .slice none 0 0, .int .i64 0, .int .i64 0, .int .i64 0, .int .i64 0, .int .i64 0, .int .i64 0])), (11, fun _ r w_ => ∃ g_, r 10 = .pointer (some ⟨g_, 0, none⟩) ∧ Blk w_ g_ 45 #[.slice Au (waitL (qL ts) (sAt l (qL ts) p k) true).length cu, .slice Ad (waitL (qL ts) (sAt l (qL ts) p k) false).length cd, .int .i64 (sAt l (qL ts) p k).fr, .bool (sAt l (qL ts) p k).lk.high, .slice Ar (ZU l (qL ts) p k).length cr, .int .i64 (sAt l (qL ts) p k).cost, .int .i64 (sAt l (qL ts) p k).mv, .int .i64 (sAt l (qL ts) p k).up, .int .i64 (sAt l (qL ts) p k).lo, .int .i64 (sAt l (qL ts) p k).ch, .int .i64 (sAt l (qL ts) p k).ba])]) (by kernel_rfl) rfl rfl (by intro i hi; simp at hi; first | (subst hi; exact ⟨by simp, by omega⟩) | (rcases hi with rfl | rfl | rfl <;> exact ⟨by simp, by omega⟩) | (rcases hi with rfl | rfl <;> exact ⟨by simp, by omega⟩)) (Zz wk) (ZH (fun _ _ _ _ _ h => h) (ZH Zb (ZH Zf (ZZ)))) (fun i_ hi_ hs_ => ?_) (fun i_ hi_ => ?_) ?_
   ·match i_, hi_ with
    | 0, _ =>
     intro val fl w1 a hb ha hd hfl;have ha := ha.s0 (d := 3) rfl
     exact ZD ha rfl rfl (YC rfl ((q1.below hb q1.lt).at (j := 0) rfl) ((q1.below hb q1.lt).at (j := 1) rfl) ((q1.below hb q1.lt).at (j := 2) rfl) ((q1.below hb q1.lt).at (j := 3) rfl) ((q1.below hb q1.lt).at (j := 4) rfl) ((q1.below hb q1.lt).at (j := 5) rfl)) rfl rfl
    | 1, _ =>
     intro val fl w1 a hb ha hd hfl;have ha := ha.s0 (d := 8) rfl
     exact ZD ha rfl rfl (Ys rfl ((q4.below hb q4.lt).at (j := 0) rfl) ((q4.below hb q4.lt).at (j := 1) rfl) ((q4.below hb q4.lt).at (j := 2) rfl) ((q4.below hb q4.lt).at (j := 3) rfl) ((q4.below hb q4.lt).at (j := 4) rfl) ((q4.below hb q4.lt).at (j := 5) rfl) ((q4.below hb q4.lt).at (j := 6) rfl) ((q4.below hb q4.lt).at (j := 7) rfl) ((q4.below hb q4.lt).at (j := 8) rfl) ((q4.below hb q4.lt).at (j := 9) rfl) ((q4.below hb q4.lt).at (j := 10) rfl)) rfl rfl
    | 2, _ =>
     intro val fl w1 a hb ha hd hfl;have ha := ha.s0 (d := 2) rfl
     exact ZD ha rfl rfl (x_move rfl) rfl rfl
    | 3, _ =>
     intro val fl w1 a hb ha hd hfl;have ha := ha.s0 (d := 9) rfl
     exact ZD ha rfl rfl (x_move rfl) rfl rfl
    | 4, _ =>
     intro val fl w1 a hb ha hd hfl;have e2 : val 2 = _ := hd 2 (ZA.1 rfl);have e3 : val 3 = _ := hd 3 (ZA.1 rfl);have ha := ha.s2 (d := 25) (e := 24) rfl e3 rfl e2
     exact ZD ha rfl rfl (QAM rfl rfl hltk) rfl rfl
    | 5, _ =>
     intro val fl w1 a hb ha hd hfl;have e4 : val 4 = _ := hd 4 (ZA.1 rfl);have ha := ha.s1 (d := 26) rfl e4
     exact ZD ha rfl rfl (QAy rfl (ZB (hbw.trans (hb.mono hbw.size)) c0) (ZB (hbw.trans (hb.mono hbw.size)) c1)) rfl rfl
    | 6, _ =>
     intro val fl w1 a hb ha hd hfl;have e0 : val 0 = _ := hd 0 (ZA.1 rfl);have e1 : val 1 = _ := hd 1 (ZA.1 rfl);have e5 : val 5 = _ := hd 5 (ZA.1 rfl);have ha := ha.sub (Sub.ins (d := 27) (Sub.ins (d := 23) (Sub.ins (d := 22) (Sub.nil _) (ZN rfl e0)) (ZN rfl e1)) (ZN rfl e5));refine YA ha rfl rfl (cA3 cF44 rfl rfl rfl) (QCC (u := false) (ls := (waitL (qL ts) (sAt l (qL ts) p k) false)) hst htw h8 hT1 hTn hTp (by omega) (fun h => by cases h) (fun _ => rfl) (hrW.below hb) (hrN.below hb) hb.size) rfl ?_
     rintro e w' ⟨⟨_, he⟩, hb'⟩
     obtain rfl := he hfit
     exact ⟨_, rfl, hb', rfl⟩
    | 7, _ =>
     intro val fl w1 a hb ha hd hfl;obtain e6 := hd 6 (ZA.1 rfl);have ha := ha.s1 (d := 28) rfl e6
     exact ZD ha rfl rfl (x_move rfl) rfl rfl
    | 8, _ =>
     intro val fl w1 a hb ha hd hfl;have e7 : val 7 = _ := hd 7 (ZA.1 rfl);have ha := ha.s1 (d := 21) rfl e7
     exact ZD ha rfl rfl (ZM (v := .agg #[.slice Au (waitL (qL ts) (sAt l (qL ts) p k) true).length cu, .slice Ad (waitL (qL ts) (sAt l (qL ts) p k) false).length cd, .int .i64 (sAt l (qL ts) p k).fr, .bool (sAt l (qL ts) p k).lk.high, .slice Ar (ZU l (qL ts) p k).length cr, .int .i64 (sAt l (qL ts) p k).cost, .int .i64 (sAt l (qL ts) p k).mv, .int .i64 (sAt l (qL ts) p k).up, .int .i64 (sAt l (qL ts) p k).lo, .int .i64 (sAt l (qL ts) p k).ch, .int .i64 (sAt l (qL ts) p k).ba]) rfl rfl) rfl rfl
    | 9, _ =>
     intro val fl w1 a hb ha hd hfl;have e7 : val 7 = _ := hd 7 (ZA.1 rfl);have ha := ha.s1 (d := 21) rfl e7
     exact ZD ha rfl rfl (ZM (v := .bool false) rfl rfl) rfl rfl
    | 10, _ =>
     intro val fl w1 a hb ha hd hfl;have ha := ha.sub (Sub.nil _)
     exact Z2 ha rfl rfl QBO (fun g w' hq _ hge => ⟨g, rfl, Nat.le_trans hb.size hge, fun _ => hq⟩)
    | 11, _ =>
     exact absurd (by simp) hs_
    | k + 12, h => exact absurd h (by omega)
   ·simp only [List.mem_singleton] at hi_; subst hi_
    intro val fl w1 a hb hfi ha hd hfl;obtain ⟨g10_, e10, hg10_, q10_⟩ := hd 10 (ZA.1 rfl);change val 10 = _ at e10;have e8 : val 8 = _ := hd 8 (ZA.1 rfl);have ha := ha.s2 (d := 29) (e := 10) rfl e8 rfl e10;refine ZY ha rfl rfl rfl (q10_ hfi) YW rfl rfl rfl rfl ?_;intro w' hq hgr;refine ⟨undef, rfl, hgr.size, ZE hb hgr hg10_, ⟨g10_, e10, hq⟩, fun j _ hj hn hA => ?_⟩
    exact ZF (C := fun j => j ≠ 11 ∧ 11 ∉ clsAt [[], [], [], [], [2, 3], [2, 3, 4], [0, 1, 2, 3, 4, 5], [0, 1, 2, 3, 4, 5, 6], [0, 1, 2, 3, 4, 5, 6, 7], [0, 1, 2, 3, 4, 5, 6, 7], [], [0, 1, 2, 3, 4, 5, 6, 7, 8, 10], [0, 1, 2, 3, 4, 5, 6, 7, 8, 9, 10, 11]] j ∧ ∀ p ∈ [10], (p = j ∨ p ∈ clsAt [[], [], [], [], [2, 3], [2, 3, 4], [0, 1, 2, 3, 4, 5], [0, 1, 2, 3, 4, 5, 6], [0, 1, 2, 3, 4, 5, 6, 7], [0, 1, 2, 3, 4, 5, 6, 7], [], [0, 1, 2, 3, 4, 5, 6, 7, 8, 10], [0, 1, 2, 3, 4, 5, 6, 7, 8, 9, 10, 11]] j) → ∀ q ∈ [10], (q = 11 ∨ q ∈ clsAt [[], [], [], [], [2, 3], [2, 3, 4], [0, 1, 2, 3, 4, 5], [0, 1, 2, 3, 4, 5, 6], [0, 1, 2, 3, 4, 5, 6, 7], [0, 1, 2, 3, 4, 5, 6, 7], [], [0, 1, 2, 3, 4, 5, 6, 7, 8, 10], [0, 1, 2, 3, 4, 5, 6, 7, 8, 9, 10, 11]] 11) → p ≠ q → val p ≠ val q) (fun _ h => h) (ZF (fun _ ⟨g, h1, h2, _⟩ => ⟨g, h1, h2, fun h => by rw [ZS] at h; cases h⟩) (ZF (fun hc => absurd rfl hc.1) (fun _ _ h => h))) j ⟨hj, hn, hA⟩
   ·intro val fl wR5 hfl hb halc hd
    have e0 : val 0 = _ := hd 0 (by omega)
    have e1 : val 1 = _ := hd 1 (by omega)
    have e2 : val 2 = _ := hd 2 (by omega)
    have e3 : val 3 = _ := hd 3 (by omega)
    have e4 : val 4 = _ := hd 4 (by omega)
    have e5 : val 5 = _ := hd 5 (by omega)
    obtain e6 := hd 6 (by omega)
    change val 6 = _ at e6;have e7 : val 7 = _ := hd 7 (by omega)
    have e8 : val 8 = _ := hd 8 (by omega)
    have e9 : val 9 = _ := hd 9 (by omega)
    obtain ⟨ga10_5, e10, qa10_5⟩ := hd 11 (by omega)
    change val 10 = _ at e10;refine EL.ends (cs := [_, _, _, _, _, _, _, _, _, _, _, val 11]) ⟨e0, e1, e2, e3, e4, e5, e6, e7, e8, e9, e10, rfl, trivial⟩ rfl ?_;replace q1 := q1.bl hb;replace q2 := q2.bl hb;replace q4 := q4.bl hb;replace hrn := ZC hrn hb (Nat.le_refl _);have bge12 := YP halc (i := 10) rfl rfl e10;have n1_12 : g1 ≠ ga10_5 := Nat.ne_of_lt (Nat.lt_of_lt_of_le lt_1 bge12);have n2_12 : g2 ≠ ga10_5 := Nat.ne_of_lt (Nat.lt_of_lt_of_le lt_2 bge12);have n4_12 : g4 ≠ ga10_5 := Nat.ne_of_lt (Nat.lt_of_lt_of_le lt_4 bge12);have bhbw_12 := Nat.le_trans hbw.size bge12;have bhb2_12 := Nat.le_trans hb2.size bge12;replace hbw := bo_ hbw hb;replace hb2 := bo_ hb2 hb;refine EL.as rfl rfl (EL.nil (EX.seq (EC.seq (EC.seq (EC.region (EL.mv rfl rfl (EL.val (ZT rfl) rfl (EL.nil (EX.seq ?_)))))))));refine EC.yes rfl (EC.seq (EC.region (EL.val (Ys rfl (q4.at (j := 0) rfl) (q4.at (j := 1) rfl) (q4.at (j := 2) rfl) (q4.at (j := 3) rfl) (q4.at (j := 4) rfl) (q4.at (j := 5) rfl) (q4.at (j := 6) rfl) (q4.at (j := 7) rfl) (q4.at (j := 8) rfl) (q4.at (j := 9) rfl) (q4.at (j := 10) rfl)) rfl (EL.store rfl rfl q2 YW rfl rfl rfl rfl ?_))));intro w13 hq13 hg13;replace q1 := q1.gr hg13 n1_2;replace q4 := q4.gr hg13 n2_4.symm;replace qa10_5 := qa10_5.gr hg13 n2_12.symm;replace hrn := ZG hrn q2 rfl hg13;replace hbw := ZE hbw hg13 bhbw_2;clear hb2;replace q2 := hq13;clear hg13 hq13;refine EL.as rfl rfl (EL.nil (EX.seq (EC.ret (EX.seq_ret (EX.blk_ret (EX.seq_ret (EX.seq_ret (EX.blk_ret (EX.seq_ret ?_)))))))))
    exact EX.done (QDZ rfl rfl rfl (QBz (q2.at (j := 0) rfl) (q2.at (j := 1) rfl) (q2.at (j := 2) rfl) (q2.at (j := 3) rfl) (q2.at (j := 4) rfl) (q2.at (j := 5) rfl) (q2.at (j := 6) rfl) (q2.at (j := 7) rfl) (q2.at (j := 8) rfl) (q2.at (j := 9) rfl) (q2.at (j := 10) rfl))) ⟨⟨.agg #[.slice Au (waitL (qL ts) (sAt l (qL ts) p k) true).length cu, .slice Ad (waitL (qL ts) (sAt l (qL ts) p k) false).length cd, .int .i64 (sAt l (qL ts) p k).fr, .bool (sAt l (qL ts) p k).lk.high, .slice Ar (ZU l (qL ts) p k).length cr, .int .i64 (sAt l (qL ts) p k).cost, .int .i64 (sAt l (qL ts) p k).mv, .int .i64 (sAt l (qL ts) p k).up, .int .i64 (sAt l (qL ts) p k).lo, .int .i64 (sAt l (qL ts) p k).ch, .int .i64 (sAt l (qL ts) p k).ba], by rw [QD0 hltk (hfa.trans hfit)], fun _ => ⟨Au, _, cu, Ad, _, cd, Ar, _, cr, sAt l (qL ts) p k, rfl⟩, fun hf => absurd hf (by rw [QD0 hltk (hfa.trans hfit)]; decide)⟩, hbw⟩
 ·
  obtain rfl : k = p.length := by omega
  refine EC.seq (EC.seq (EC.region (EL.mv rfl rfl (EL.mv rfl rfl (EL.val (Y3 rfl) rfl ?_)))));refine EL.val (ZQ rfl rfl (decide_eq_false (show ¬(((p.length : Nat) : Int) < ((p.length : Nat) : Int)) by omega))) rfl ?_
  refine EL.nil (EX.seq (EC.no rfl (EC.exit (EX.seq_exit (EX.seq_exit (EX.blk_here (EX.seq (EC.seq (EC.region ?_)))))))));refine EL.val (Ys rfl (q4.at (j := 0) rfl) (q4.at (j := 1) rfl) (q4.at (j := 2) rfl) (q4.at (j := 3) rfl) (q4.at (j := 4) rfl) (q4.at (j := 5) rfl) (q4.at (j := 6) rfl) (q4.at (j := 7) rfl) (q4.at (j := 8) rfl) (q4.at (j := 9) rfl) (q4.at (j := 10) rfl)) rfl (EL.store rfl rfl q2 YW rfl rfl rfl rfl ?_);intro w14 hq14 hg14;replace q1 := q1.gr hg14 n1_2;replace q4 := q4.gr hg14 n2_4.symm;replace hrn := ZG hrn q2 rfl hg14;replace hbw := ZE hbw hg14 bhbw_2;clear hb2;replace q2 := hq14;clear hg14 hq14;refine EL.as rfl rfl (EL.nil (EX.seq (EC.ret ?_)))
  exact EX.done (QDZ rfl rfl rfl (QBz (q2.at (j := 0) rfl) (q2.at (j := 1) rfl) (q2.at (j := 2) rfl) (q2.at (j := 3) rfl) (q2.at (j := 4) rfl) (q2.at (j := 5) rfl) (q2.at (j := 6) rfl) (q2.at (j := 7) rfl) (q2.at (j := 8) rfl) (q2.at (j := 9) rfl) (q2.at (j := 10) rfl))) ⟨⟨.agg #[.slice Au (waitL (qL ts) (sAt l (qL ts) p p.length) true).length cu, .slice Ad (waitL (qL ts) (sAt l (qL ts) p p.length) false).length cd, .int .i64 (sAt l (qL ts) p p.length).fr, .bool (sAt l (qL ts) p p.length).lk.high, .slice Ar (ZU l (qL ts) p p.length).length cr, .int .i64 (sAt l (qL ts) p p.length).cost, .int .i64 (sAt l (qL ts) p p.length).mv, .int .i64 (sAt l (qL ts) p p.length).up, .int .i64 (sAt l (qL ts) p p.length).lo, .int .i64 (sAt l (qL ts) p p.length).ch, .int .i64 (sAt l (qL ts) p p.length).ba], by rw [QG4 hft], fun hf => absurd hf (by rw [QG4 hft]; decide), fun _ => ⟨Au, (waitL (qL ts) (sAt l (qL ts) p p.length) true).length, cu, Ad, (waitL (qL ts) (sAt l (qL ts) p p.length) false).length, cd, Ar, cr, by simp only [rsV, Yy], by have e9 := hrn; rw [Yy] at e9; exact e9⟩⟩, hbw⟩
theorem QJz {l : LK} {ts : List TW} {p : List SP} {v vp : Value} {w : World} {B : Nat} (hr : Rd w B 5 v ts.length (twsC ts)) (hp : Rd w B 2 vp p.length (spsC p)) (hB : B ≤ w.heap.size) (he0 : towE l ts = 0) (hc : okC (qL ts) p = true) (hf : fitC l (qL ts) p = true) :
  Calls Try.prog 22 #[.agg #[.int .i64 l.length, .int .i64 l.cycle, .int .i64 l.turn, .int .i64 l.fill, .int .i64 l.save, .bool l.high], v, vp] w fun e w' => (∃ Au nu cu Ad nd cd Ar cr, e = .returned (.tuple #[rsV (.slice Au nu cu) (.slice Ad nd cd) (.slice Ar p.length cr) (sAt l (qL ts) p p.length), .bool true]) ∧ w'.ownsRow w.heap.size 49 2 (.slice Ar p.length cr) p.length (rnsC (ZU l (qL ts) p p.length))) ∧ Below w.heap.size w w' :=
 (QGl hr hp hB he0 hc).mono fun e w' ⟨⟨S, he, _, h⟩, hb⟩ => by
  obtain ⟨Au, nu, cu, Ad, nd, cd, Ar, cr, rfl, ho⟩ := h hf;rw [hf] at he
  exact ⟨⟨Au, nu, cu, Ad, nd, cd, Ar, cr, he, ho⟩, hb⟩
theorem QLM {l : LK} {ts : List TW} {p : List SP} {v vp : Value} {w : World} {B : Nat} (hr : Rd w B 5 v ts.length (twsC ts)) (hp : Rd w B 2 vp p.length (spsC p)) (hB : B ≤ w.heap.size) (he0 : towE l ts = 0) (hc : okC (qL ts) p = true) (hf : fitC l (qL ts) p = false) :
  Calls Try.prog 22 #[.agg #[.int .i64 l.length, .int .i64 l.cycle, .int .i64 l.turn, .int .i64 l.fill, .int .i64 l.save, .bool l.high], v, vp] w fun e w' => (∃ Au nu cu Ad nd cd Ar nr cr s', e = .returned (.tuple #[rsV (.slice Au nu cu) (.slice Ad nd cd) (.slice Ar nr cr) s', .bool false])) ∧ Below w.heap.size w w' :=
 (QGl hr hp hB he0 hc).mono fun e w' ⟨⟨S, he, h, _⟩, hb⟩ => by
  obtain ⟨Au, nu, cu, Ad, nd, cd, Ar, nr, cr, s', rfl⟩ := h hf;rw [hf] at he
  exact ⟨⟨Au, nu, cu, Ad, nd, cd, Ar, nr, cr, s', he⟩, hb⟩
section
variable {n : Nat} {σ : Sg} {w : World} {dst : Option Tmp} {ty : TypeId} {pos : String} {af : Array Edge} {g : Option (Nat × Bool)} {x y z : Operand} {at' : Array TypeId}
theorem QLy (a : Act) (_ : Env n σ a) : (execOp a.eval ⟨dst, .buildSlice 25 0 #[], ty, pos, af, g⟩).run Try.prog w = .ok (.value (.slice (some ⟨w.heap.size, 0, none⟩) 0 0)) (w.alloc (.cells #[] 87)) := by
 simp only [execOp]
 go_simp
end
theorem neSP {n : Nat} {σ : Sg} {w : World} {dst : Option Tmp} {ty : TypeId} {pos : String} {af : Array Edge} {g : Option (Nat × Bool)} {x y : Operand} {a0 : Bool} {a1 : Int} (hx : evS σ x = some (.agg #[.bool a0, .int .i64 a1])) (hy : evS σ y = some (.agg #[.bool a0, .int .i64 a1])) : ZL Try.prog n σ w ⟨dst, .binOp .neq 87 x y 87, ty, pos, af, g⟩ (.bool false) := fun _ ha => by
 simp only [execOp, ha.eval hx, ha.eval hy]
 go_simp
theorem neTW {n : Nat} {σ : Sg} {w : World} {dst : Option Tmp} {ty : TypeId} {pos : String} {af : Array Edge} {g : Option (Nat × Bool)} {x y : Operand} {a0 : Bool} {a1 a2 a3 a4 : Int} (hx : evS σ x = some (.agg #[.bool a0, .int .i64 a1, .int .i64 a2, .int .i64 a3, .int .i64 a4])) (hy : evS σ y = some (.agg #[.bool a0, .int .i64 a1, .int .i64 a2, .int .i64 a3, .int .i64 a4])) : ZL Try.prog n σ w ⟨dst, .binOp .neq 39 x y 39, ty, pos, af, g⟩ (.bool false) := fun _ ha => by
 simp only [execOp, ha.eval hx, ha.eval hy]
 go_simp
theorem neRN {n : Nat} {σ : Sg} {w : World} {dst : Option Tmp} {ty : TypeId} {pos : String} {af : Array Edge} {g : Option (Nat × Bool)} {x y : Operand} {a0 a1 : Int} (hx : evS σ x = some (.agg #[.int .i64 a0, .int .i64 a1])) (hy : evS σ y = some (.agg #[.int .i64 a0, .int .i64 a1])) : ZL Try.prog n σ w ⟨dst, .binOp .neq 49 x y 49, ty, pos, af, g⟩ (.bool false) := fun _ ha => by
 simp only [execOp, ha.eval hx, ha.eval hy]
 go_simp
theorem QJI {l : List TW} {v : Value} {w : World} {B : Nat} (hr : Rd w B 5 v l.length (twsC l)) (hB : B ≤ w.heap.size) (hn : l.length ≤ 1000000) : Calls Try.prog 13 #[v] w fun e w' => (∃ v', e = .returned v' ∧ w'.ownsRow w.heap.size 39 5 v' l.length (twsC l)) ∧ Below w.heap.size w w' := by
 obtain ⟨Al, cl, rfl, _⟩ := hr.shape;have hbw := Below.refl w.heap.size w;refine EC.enter 6 Try.func13 rfl rfl rfl (EC.seq (EC.region (EL.as rfl rfl (EL.nil (EX.seq (EC.seq (EC.region ?_)))))));have hsz := hbw.size;refine EL.newS QIp rfl ?_;intro g1 w1 q1 hb1 hg1 hl1;have bhbw_1 := Nat.le_trans hbw.size hg1;replace hbw := bo_ hbw hb1;clear hb1 hl1;refine EL.mv rfl rfl ?_;refine EL.copy QAi rfl rfl (base := w.heap.size) q1 (Nat.le_trans hsz hg1) (hr.below (hbw.mono hB)) (twsC_one _) (by omega) (by omega) hbw.size rfl ?_
 intro v9 w9 hc9 hb9;replace hbw := bo_ hbw hb9;clear hb9;refine EL.as rfl rfl (EL.nil (EX.seq (EC.ret ?_)))
 exact EX.done (res1 rfl rfl) ⟨⟨_, rfl, hc9⟩, hbw⟩
theorem QHg {l : List SP} {v : Value} {w : World} {B : Nat} (hr : Rd w B 2 v l.length (spsC l)) (hB : B ≤ w.heap.size) (hn : l.length ≤ 1000000) : Calls Try.prog 14 #[v] w fun e w' => (∃ v', e = .returned v' ∧ w'.ownsRow w.heap.size 87 2 v' l.length (spsC l)) ∧ Below w.heap.size w w' := by
 obtain ⟨Al, cl, rfl, _⟩ := hr.shape;have hbw := Below.refl w.heap.size w;refine EC.enter 6 Try.func14 rfl rfl rfl (EC.seq (EC.region (EL.as rfl rfl (EL.nil (EX.seq (EC.seq (EC.region ?_)))))));have hsz := hbw.size;refine EL.newS QLy rfl ?_;intro g1 w1 q1 hb1 hg1 hl1;have bhbw_1 := Nat.le_trans hbw.size hg1;replace hbw := bo_ hbw hb1;clear hb1 hl1;refine EL.mv rfl rfl ?_;refine EL.copy QFt rfl rfl (base := w.heap.size) q1 (Nat.le_trans hsz hg1) (hr.below (hbw.mono hB)) (spsC_one _) (by omega) (by omega) hbw.size rfl ?_
 intro v9 w9 hc9 hb9;replace hbw := bo_ hbw hb9;clear hb9;refine EL.as rfl rfl (EL.nil (EX.seq (EC.ret ?_)))
 exact EX.done (res1 rfl rfl) ⟨⟨_, rfl, hc9⟩, hbw⟩
theorem QIC {l : List SP} {vx vy : Value} {w : World} {B : Nat} (hx : Rd w B 2 vx l.length (spsC l)) (hy : Rd w B 2 vy l.length (spsC l)) (hn : l.length ≤ 1000000) : Calls Try.prog 18 #[vx, vy] w fun e w' => e = .returned (.bool true) ∧ Below w.heap.size w w' := by
 obtain ⟨Ax, cx, rfl, _⟩ := hx.shape;obtain ⟨Ay, cy, rfl, _⟩ := hy.shape;have hbw := Below.refl w.heap.size w;refine EC.enter 26 Try.func18 rfl rfl rfl (EC.seq (EC.region (EL.as rfl rfl (EL.nil (EX.seq (EC.seq (EC.seq (EC.region (EL.mv rfl rfl ?_)))))))));refine EL.val (Y3 rfl) rfl (EL.mv rfl rfl (EL.val (Y3 rfl) rfl ?_));refine EL.val (Zp (r := false) rfl rfl (decide_eq_false (by omega))) rfl ?_
 refine EL.nil (EX.seq (EC.no rfl (EC.skip (EX.seq (EC.seq (EC.seq (EC.region (EL.as rfl rfl (EL.nil ?_)))))))));refine EX.seq (EC.block ?_);refine EC.loopD [4, 5, 11, 12, 13, 14, 15, 16, 17, 18, 19, 20, 21, 22, 23, 24, 25] (fun k : Nat => [(5, .int .i64 (k : Nat))]) (fun k W => k ≤ l.length ∧ Below w.heap.size w W) (fun k => l.length - k) 0 ⟨Nat.zero_le _, hbw⟩ ⟨rfl, trivial⟩ ?_
 clear  hbw
 rintro k wk ⟨hk, hbw⟩
 by_cases hltk : k < l.length
 ·
  obtain ⟨b, o, eA_, _, cc⟩ := Yq l k hltk w B _ _ _ hx
  cases eA_
  obtain ⟨bo, oo, eB_, _, co⟩ := Yq l k hltk w B _ _ _ hy
  cases eB_
  refine EC.seq (EC.seq (EC.region (EL.mv rfl rfl (EL.mv rfl rfl (EL.val (Y3 rfl) rfl ?_)))));refine EL.val (ZQ (r := true) rfl rfl (decide_eq_true (by omega))) rfl ?_
  refine EL.nil (EX.seq (EC.yes rfl (EC.skip (EX.seq (EC.seq (EC.block (EC.seq ?_)))))));refine EC.regionQ (by kernel_rfl) (by kernel_rfl) ?_
  refine EQ.mv rfl rfl (EQ.mv rfl rfl ?_);refine EQ.val (fun _ hw => (QAM rfl rfl hltk)) rfl ?_
  refine EQ.val (fun _ hw => (QAy rfl (ZB hw (ZB hbw cc.c0)) (ZB hw (ZB hbw cc.c1)))) rfl ?_
  refine EQ.mv rfl rfl (EQ.mv rfl rfl ?_);refine EQ.val (fun _ hw => (QAM rfl rfl hltk)) rfl ?_
  refine EQ.val (fun _ hw => (QAy rfl (ZB hw (ZB hbw co.c0)) (ZB hw (ZB hbw co.c1)))) rfl ?_
  refine EQ.val (fun _ hw => (neSP rfl rfl)) rfl ?_
  refine EQ.fin (fun w1 hw_ => ?_)
  replace hbw := bo_ hbw hw_;clear hw_;refine EX.seq (EC.no rfl (EC.skip (EX.blk (EX.seq (EC.region (EL.mv rfl rfl ?_))))));refine EL.val (ZR rfl rfl (c := ((k + 1 : Nat) : Int)) ((IntWalk.i64_in _ ⟨by first | omega | (simp only; omega), by first | omega | (simp only; omega)⟩).trans (by first | omega | (simp only; omega)))) rfl ?_
  refine EL.as rfl rfl (EL.nil ?_);refine EX.roundD (k + 1) ⟨rfl, trivial⟩ (by repeat first | with_reducible exact .refl _ | refine sp_ rfl ?_ | exact .refl _ | refine sd_ rfl ?_ | refine sn_ ?_) ⟨hltk, hbw⟩ (by omega)
 ·
  obtain rfl : k = l.length := by omega
  refine EC.seq (EC.seq (EC.region (EL.mv rfl rfl (EL.mv rfl rfl (EL.val (Y3 rfl) rfl ?_)))));refine EL.val (ZQ (r := false) rfl rfl (decide_eq_false (by omega))) rfl ?_
  refine EL.nil (EX.seq (EC.no rfl (EC.exit (EX.seq_exit (EX.seq_exit (EX.blk_here (EX.seq (EC.seq (EC.region ?_)))))))));refine EL.as rfl rfl (EL.nil (EX.seq (EC.ret ?_)))
  exact EX.done (res1 rfl rfl) ⟨rfl, hbw⟩
section
variable {n : Nat} {σ : Sg} {w : World} {dst : Option Tmp} {ty : TypeId} {pos : String} {af : Array Edge} {g : Option (Nat × Bool)} {x y z : Operand} {at' : Array TypeId}
theorem cF13 : cF 13 := fun _ _ => by simp [go_sem]
theorem cF14 : cF 14 := fun _ _ => by simp [go_sem]
theorem cF18 : cF 18 := fun _ _ => by simp [go_sem]
theorem cF20 : cF 20 := fun _ _ => by simp [go_sem]
theorem cF21 : cF 21 := fun _ _ => by simp [go_sem]
theorem cF22 : cF 22 := fun _ _ => by simp [go_sem]
theorem QMZ {a0 a1 a2 a3 b0 b1 b2 b3 : Int} {r : Bool} (hx : evS σ x = some (.agg #[.int .i64 a0, .int .i64 a1, .int .i64 a2, .int .i64 a3])) (hy : evS σ y = some (.agg #[.int .i64 b0, .int .i64 b1, .int .i64 b2, .int .i64 b3])) (hc : decide (¬ (a0 = b0 ∧ a1 = b1 ∧ a2 = b2 ∧ a3 = b3)) = r) : ZL Try.prog n σ w ⟨dst, .binOp .neq 35 x y 35, ty, pos, af, g⟩ (.bool r) := fun a ha => by
 subst hc
 simp only [execOp, ha.eval hx, ha.eval hy]
 go_simp
 repeat' split
 all_goals simp_all
end
theorem QGb (l : LK) (ts : List TW) (p : List SP) : ¬towE l ts = 0 ∨ (towE l ts = 0 ∧ okC (qL ts) p = false) ∨ (towE l ts = 0 ∧ okC (qL ts) p = true) := by
 by_cases h : towE l ts = 0
 ·cases h2 : okC (qL ts) p
  ·exact .inr (.inl ⟨h, rfl⟩)
  ·exact .inr (.inr ⟨h, rfl⟩)
 ·exact .inl h
theorem QCs {ts : List TW} {p : List SP} {c : Bool} {v vp : Value} {w : World} {B : Nat} (hr : Rd w B 5 v ts.length (twsC ts)) (hp : Rd w B 2 vp p.length (spsC p)) (hB : B ≤ w.heap.size) (hn : ts.length ≤ 1000000) (hpn : p.length ≤ 1000000) (h : okC (qL ts) p = c) : Calls Try.prog 21 #[v, vp] w fun e w' => e = .returned (.bool c) ∧ Below w.heap.size w w' := h ▸ QFC hr hp hB hn hpn
theorem QED {l : LK} {ts : List TW} {p : List SP} (h : ¬Zn l ts p = 0) : (endP l ts p).up = 0 ∧ (endP l ts p).lo = 0 ∧ (endP l ts p).ch = 0 ∧ (endP l ts p).ba = 0 := by rw [QGH h]; exact ⟨rfl, rfl, rfl, rfl⟩
theorem QJa {l : LK} {ts : List TW} {p : List SP} (h : Zn l ts p = 0) : (endP l ts p).up = (sAt l (qL ts) p p.length).up ∧ (endP l ts p).lo = (sAt l (qL ts) p p.length).lo ∧ (endP l ts p).ch = (sAt l (qL ts) p p.length).ch ∧ (endP l ts p).ba = (sAt l (qL ts) p p.length).ba := by rw [QKi h]; exact ⟨rfl, rfl, rfl, rfl⟩
set_option maxHeartbeats 1000000 in
set_option maxRecDepth 100000 in
theorem runs_law {l : LK} {ts : List TW} {p : List SP} {v vp : Value} {w : World} {B : Nat} (hr : Rd w B 5 v ts.length (twsC ts)) (hp : Rd w B 2 vp p.length (spsC p)) (hB : B ≤ w.heap.size) :
  Calls Try.prog 3 #[.agg #[.int .i64 l.length, .int .i64 l.cycle, .int .i64 l.turn, .int .i64 l.fill, .int .i64 l.save, .bool l.high], v, vp] w fun e w' => e = .returned (.bool true) ∧ Below w.heap.size w w' := by
 obtain ⟨At, ct, rfl, _⟩ := hr.shape;obtain ⟨Ap, cp, rfl, _⟩ := hp.shape;have hbw := Below.refl w.heap.size w;refine EC.enter 214 Try.func3 rfl rfl rfl (EC.seq (EC.region (EL.newP (QAQ rfl) rfl ?_)));intro g1 w1 q1 hb1 hg1 hl1;have bhbw_1 := Nat.le_trans hbw.size hg1;replace hbw := bo_ hbw hb1;clear hb1 hg1 hl1;refine EL.as rfl rfl (EL.nil (EX.seq (EC.seq (EC.seq (EC.region (EL.mv rfl rfl (EL.val (Zx rfl) rfl ?_)))))))
 by_cases hx12 : 12 < ts.length
 ·
  refine EL.val (Zq (r := true) rfl rfl (decide_eq_true (by omega))) rfl ?_
  refine EL.mv rfl rfl (EL.skip rfl rfl rfl rfl (EL.skip rfl rfl rfl rfl (EL.skip rfl rfl rfl rfl (EL.pt rfl rfl rfl (EL.nil (EX.seq (EC.yes rfl (EC.seq (EC.region ?_)))))))));refine EL.call (cA0 cF12) rfl (QAf _) ?_
  rintro e w2 ⟨rfl, hc2⟩
  refine ⟨_, rfl, ?_⟩;replace q1 := q1.bl hc2;replace hbw := bo_ hbw hc2;clear hc2;refine EL.as rfl rfl (EL.nil (EX.seq (EC.ret (EX.seq_ret ?_))))
  exact EX.done (res1 rfl rfl) ⟨rfl, hbw⟩
 ·
  refine EL.val (Zq (r := false) rfl rfl (decide_eq_false (by omega))) rfl ?_
  refine EL.mv rfl rfl (EL.mg rfl rfl rfl rfl (EL.valg rfl rfl (Y3 rfl) rfl ?_))
  by_cases hy12 : 15 < p.length
  ·
   refine EL.valg rfl rfl (Zq (r := true) rfl rfl (decide_eq_true (by omega))) rfl ?_
   refine EL.pf rfl rfl rfl (EL.nil (EX.seq (EC.yes rfl (EC.seq (EC.region (EL.call (cA0 cF12) rfl (QAf _) ?_))))))
   rintro e w3 ⟨rfl, hc3⟩
   refine ⟨_, rfl, ?_⟩;replace q1 := q1.bl hc3;replace hbw := bo_ hbw hc3;clear hc3;refine EL.as rfl rfl (EL.nil (EX.seq (EC.ret (EX.seq_ret ?_))))
   exact EX.done (res1 rfl rfl) ⟨rfl, hbw⟩
  ·
   refine EL.valg rfl rfl (Zq (r := false) rfl rfl (decide_eq_false (by omega))) rfl ?_
   refine EL.pf rfl rfl rfl (EL.nil (EX.seq (EC.no rfl (EC.skip (EX.seq (EC.seq (EC.region (EL.mv rfl rfl ?_))))))));refine EL.call (cA1 cF13 rfl) rfl (QJI (hr.below (hbw.mono hB)) (Nat.le_trans hB hbw.size) (by omega)) ?_
   rintro e wtows ⟨⟨vtows, rfl, htows⟩, hctows⟩
   refine ⟨_, rfl, ?_⟩;replace htows := YB htows hbw.size;replace q1 := q1.bl hctows;replace hbw := bo_ hbw hctows;clear hctows;obtain ⟨Atows, ctows, rfl, _⟩ := (Rd.of_own htows).shape;refine EL.mv rfl rfl ?_;refine EL.call (cA1 cF14 rfl) rfl (QHg (hp.below (hbw.mono hB)) (Nat.le_trans hB hbw.size) (by omega)) ?_
   rintro e wsteps ⟨⟨vsteps, rfl, hsteps⟩, hcsteps⟩
   refine ⟨_, rfl, ?_⟩;replace hsteps := YB hsteps hbw.size;replace q1 := q1.bl hcsteps;replace htows := ZC htows hcsteps (Nat.le_refl _);replace hbw := bo_ hbw hcsteps;clear hcsteps;obtain ⟨Asteps, csteps, rfl, _⟩ := (Rd.of_own hsteps).shape;refine EL.as rfl rfl (EL.as rfl rfl (EL.nil (EX.seq (EC.seq (EC.region (EL.val (YC rfl (q1.at (j := 0) rfl) (q1.at (j := 1) rfl) (q1.at (j := 2) rfl) (q1.at (j := 3) rfl) (q1.at (j := 4) rfl) (q1.at (j := 5) rfl)) rfl (EL.call (cA1 cF15 rfl) rfl (QFj l _) ?_)))))))
   rintro e w4 ⟨rfl, hc4⟩
   refine ⟨_, rfl, ?_⟩;replace q1 := q1.bl hc4;replace htows := ZC htows hc4 (Nat.le_refl _);replace hsteps := ZC hsteps hc4 (Nat.le_refl _);replace hbw := bo_ hbw hc4;clear hc4;refine EL.as rfl rfl (EL.nil (EX.seq (EC.seq (EC.region (EL.val (YC rfl (q1.at (j := 0) rfl) (q1.at (j := 1) rfl) (q1.at (j := 2) rfl) (q1.at (j := 3) rfl) (q1.at (j := 4) rfl) (q1.at (j := 5) rfl)) rfl (EL.mv rfl rfl (EL.mv rfl rfl ?_)))))));refine EL.call (cA3 cF16 rfl rfl rfl) rfl (QIx (l := l) (Rd.of_own htows) (Rd.of_own hsteps) (Nat.le_refl _) (by omega)) ?_
   rintro e wr ⟨sl, rfl, hruns, hcr⟩
   refine ⟨_, rfl, ?_⟩;replace hruns := YB hruns hbw.size;replace q1 := q1.bl hcr;replace htows := ZC htows hcr (Nat.le_refl _);replace hsteps := ZC hsteps hcr (Nat.le_refl _);replace hbw := bo_ hbw hcr;clear hcr;obtain ⟨Aruns, cruns, rfl, _⟩ := (Rd.of_own hruns).shape;refine EL.mv rfl rfl (EL.val (ZM (v := .slice Aruns (QBH l ts p).length cruns) rfl rfl) rfl (EL.val (ZM (v := .int .i64 (endP l ts p).cost) rfl rfl) rfl (EL.val (ZM (v := .int .i64 (endP l ts p).mv) rfl rfl) rfl (EL.val (ZM (v := .int .i64 (Zn l ts p)) rfl rfl) rfl (EL.as rfl rfl (EL.as rfl rfl (EL.as rfl rfl (EL.as rfl rfl (EL.nil ?_)))))))));refine EX.seq (EC.seq (EC.region (EL.val (YC rfl (q1.at (j := 0) rfl) (q1.at (j := 1) rfl) (q1.at (j := 2) rfl) (q1.at (j := 3) rfl) (q1.at (j := 4) rfl) (q1.at (j := 5) rfl)) rfl (EL.mv rfl rfl (EL.mv rfl rfl ?_)))));refine EL.call (cA3 cF17 rfl rfl rfl) rfl (QFh (l := l) (Rd.of_own htows) (Rd.of_own hsteps) (Nat.le_refl _) (by omega)) ?_
   rintro e w5 ⟨rfl, hc5⟩
   refine ⟨_, rfl, ?_⟩;replace q1 := q1.bl hc5;replace htows := ZC htows hc5 (Nat.le_refl _);replace hsteps := ZC hsteps hc5 (Nat.le_refl _);replace hruns := ZC hruns hc5 (Nat.le_refl _);replace hbw := bo_ hbw hc5;clear hc5;refine EL.mv rfl rfl (EL.val (ZM (v := .agg #[.int .i64 (endP l ts p).up, .int .i64 (endP l ts p).lo, .int .i64 (endP l ts p).ch, .int .i64 (endP l ts p).ba]) rfl rfl) rfl (EL.val (ZM (v := .int .i64 (Zn l ts p)) rfl rfl) rfl (EL.newP QK3 rfl ?_)));intro g6 w6 q6 hb6 hg6 hl6;have n1_6 := q1.na hg6;have bhbw_6 := Nat.le_trans hbw.size hg6;replace q1 := q1.bl hb6;replace htows := ZC htows hb6 (Nat.le_refl _);replace hsteps := ZC hsteps hb6 (Nat.le_refl _);replace hruns := ZC hruns hb6 (Nat.le_refl _);replace hbw := bo_ hbw hb6;clear hb6 hg6 hl6;refine EL.store rfl rfl q6 QH4 rfl rfl rfl rfl ?_;intro w7 hq7 hg7;replace q1 := q1.gr hg7 n1_6;replace htows := ZG htows q6 rfl hg7;replace hsteps := ZG hsteps q6 rfl hg7;replace hruns := ZG hruns q6 rfl hg7;replace hbw := ZE hbw hg7 bhbw_6;replace q6 := hq7;clear hg7 hq7;refine EL.as rfl rfl (EL.nil (EX.seq (EC.seq (EC.seq (EC.region (EL.as rfl rfl (EL.nil (EX.seq (EC.block ?_)))))))));refine EC.loopD [6, 16, 52, 53, 54, 55, 56, 57, 58, 59, 60, 61, 62, 63, 64, 65, 66] (fun k : Nat => [(16, .int .i64 (k : Nat))]) (fun k W => k ≤ ts.length ∧ Blk W g1 23 #[.int .i64 l.length, .int .i64 l.cycle, .int .i64 l.turn, .int .i64 l.fill, .int .i64 l.save, .bool l.high] ∧ Blk W g6 35 #[.int .i64 (endP l ts p).up, .int .i64 (endP l ts p).lo, .int .i64 (endP l ts p).ch, .int .i64 (endP l ts p).ba] ∧ W.ownsRow w.heap.size 39 5 (.slice Atows ts.length ctows) ts.length (twsC ts) ∧ W.ownsRow w.heap.size 87 2 (.slice Asteps p.length csteps) p.length (spsC p) ∧ W.ownsRow w.heap.size 49 2 (.slice Aruns (QBH l ts p).length cruns) (QBH l ts p).length (rnsC (QBH l ts p)) ∧ Below w.heap.size w W) (fun k => ts.length - k) 0 ⟨Nat.zero_le _, q1, q6, htows, hsteps, hruns, hbw⟩ ⟨rfl, trivial⟩ ?_
   clear q1 q6 htows hsteps hruns hbw
   rintro k wk ⟨hk, q1, q6, htows, hsteps, hruns, hbw⟩
   by_cases hltk : k < ts.length
   ·
    obtain ⟨b, o, eA_, _, cc⟩ := Zt ts k hltk w B _ _ _ hr
    cases eA_
    obtain ⟨bo, oo, eB_, _, co⟩ := Zt ts k hltk _ _ _ _ _ (Rd.of_own htows)
    cases eB_
    refine EC.seq (EC.seq (EC.region (EL.mv rfl rfl (EL.mv rfl rfl (EL.val (Zx rfl) rfl ?_)))));refine EL.val (ZQ (r := true) rfl rfl (decide_eq_true (by omega))) rfl ?_
    refine EL.nil (EX.seq (EC.yes rfl (EC.skip (EX.seq (EC.seq (EC.block (EC.seq ?_)))))));refine EC.regionQ (by kernel_rfl) (by kernel_rfl) ?_
    refine EQ.mv rfl rfl (EQ.mv rfl rfl ?_);refine EQ.val (fun _ hw => (YI rfl rfl hltk)) rfl ?_
    refine EQ.val (fun _ hw => (Y7 rfl (ZB hw co.c0) (ZB hw co.c1) (ZB hw co.c2) (ZB hw co.c3) (ZB hw co.c4))) rfl ?_
    refine EQ.mv rfl rfl (EQ.mv rfl rfl ?_);refine EQ.val (fun _ hw => (YI rfl rfl hltk)) rfl ?_
    refine EQ.val (fun _ hw => (Y7 rfl (ZB hw (ZB hbw cc.c0)) (ZB hw (ZB hbw cc.c1)) (ZB hw (ZB hbw cc.c2)) (ZB hw (ZB hbw cc.c3)) (ZB hw (ZB hbw cc.c4)))) rfl ?_
    refine EQ.val (fun _ hw => (neTW rfl rfl)) rfl ?_
    refine EQ.fin (fun w8 hw_ => ?_)
    replace q1 := q1.bl hw_;replace q6 := q6.bl hw_;replace htows := ZC htows hw_ (Nat.le_refl _);replace hsteps := ZC hsteps hw_ (Nat.le_refl _);replace hruns := ZC hruns hw_ (Nat.le_refl _);replace hbw := bo_ hbw hw_;clear hw_;refine EX.seq (EC.no rfl (EC.skip (EX.blk (EX.seq (EC.region (EL.mv rfl rfl ?_))))));refine EL.val (ZR rfl rfl (c := ((k + 1 : Nat) : Int)) ((IntWalk.i64_in _ ⟨by first | omega | (simp only; omega), by first | omega | (simp only; omega)⟩).trans (by first | omega | (simp only; omega)))) rfl ?_
    refine EL.as rfl rfl (EL.nil ?_);refine EX.roundD (k + 1) ⟨rfl, trivial⟩ (by repeat first | with_reducible exact .refl _ | refine sp_ rfl ?_ | exact .refl _ | refine sd_ rfl ?_ | refine sn_ ?_) ⟨hltk, q1, q6, htows, hsteps, hruns, hbw⟩ (by omega)
   ·
    obtain rfl : k = ts.length := by omega
    refine EC.seq (EC.seq (EC.region (EL.mv rfl rfl (EL.mv rfl rfl (EL.val (Zx rfl) rfl ?_)))));refine EL.val (ZQ (r := false) rfl rfl (decide_eq_false (by omega))) rfl ?_
    refine EL.nil (EX.seq (EC.no rfl (EC.exit (EX.seq_exit (EX.seq_exit (EX.blk_here (EX.seq ?_)))))));refine EC.cutD [6, 67, 68, 69, 70, 71, 72, 73, 74, 75, 76, 77, 78, 79, 80, 81, 82, 83, 84, 85] (fun _ : Unit => []) (fun _ W => Blk W g1 23 #[.int .i64 l.length, .int .i64 l.cycle, .int .i64 l.turn, .int .i64 l.fill, .int .i64 l.save, .bool l.high] ∧ Blk W g6 35 #[.int .i64 (endP l ts p).up, .int .i64 (endP l ts p).lo, .int .i64 (endP l ts p).ch, .int .i64 (endP l ts p).ba] ∧ W.ownsRow w.heap.size 39 5 (.slice Atows ts.length ctows) ts.length (twsC ts) ∧ W.ownsRow w.heap.size 87 2 (.slice Asteps p.length csteps) p.length (spsC p) ∧ W.ownsRow w.heap.size 49 2 (.slice Aruns (QBH l ts p).length cruns) (QBH l ts p).length (rnsC (QBH l ts p)) ∧ Below w.heap.size w W) ?_ ?_
    ·
     cases h0 : lkB l
     ·
      refine EC.seq (EC.region (EL.mv rfl rfl (EL.mv rfl rfl ?_)));refine EL.call (cA2 cF18 rfl rfl) rfl (QIC (Rd.of_own hsteps) ((hp.below (hbw.mono hB)).more (Nat.le_trans hB hbw.size)) (by omega)) ?_
      rintro e w9 ⟨rfl, hc9⟩
      refine ⟨_, rfl, ?_⟩;replace q1 := q1.bl hc9;replace q6 := q6.bl hc9;replace htows := ZC htows hc9 (Nat.le_refl _);replace hsteps := ZC hsteps hc9 (Nat.le_refl _);replace hruns := ZC hruns hc9 (Nat.le_refl _);replace hbw := bo_ hbw hc9;clear hc9;refine EL.val (ZT rfl) rfl (EL.mv rfl rfl (EL.mg rfl rfl rfl rfl ?_));refine EL.valg rfl rfl (Zv (r := false) rfl rfl (decide_eq_false (by decide))) rfl ?_
      refine EL.valg rfl rfl (YC rfl (q1.at (j := 0) rfl) (q1.at (j := 1) rfl) (q1.at (j := 2) rfl) (q1.at (j := 3) rfl) (q1.at (j := 4) rfl) (q1.at (j := 5) rfl)) rfl (EL.callg rfl rfl (cA1 cF19 rfl) rfl (QCr h0 _) ?_)
      rintro e w10 ⟨rfl, hc10⟩
      refine ⟨_, rfl, ?_⟩;replace q1 := q1.bl hc10;replace q6 := q6.bl hc10;replace htows := ZC htows hc10 (Nat.le_refl _);replace hsteps := ZC hsteps hc10 (Nat.le_refl _);replace hruns := ZC hruns hc10 (Nat.le_refl _);replace hbw := bo_ hbw hc10;clear hc10;refine EL.valg rfl rfl (QFl (r := false) rfl rfl (by decide)) rfl ?_
      refine EL.pf rfl rfl rfl (EL.mv rfl rfl (EL.mg rfl rfl rfl rfl ?_));refine EL.valg rfl rfl (Zp (r := true) rfl rfl (decide_eq_true (by decide))) rfl ?_
      refine EL.mg rfl rfl rfl rfl (EL.mg rfl rfl rfl rfl ?_);refine EL.valg rfl rfl (Zp (r := false) rfl rfl (decide_eq_false (by decide))) rfl ?_
      refine EL.valg rfl rfl (Ya rfl rfl) rfl (EL.pf rfl rfl rfl (EL.nil (EX.seq (EC.no rfl (EC.skip ?_)))));refine EX.cutE () trivial (by repeat first | with_reducible exact (Sub.refl _).del _ | refine sp_ rfl ?_ | exact (Sub.refl _).del _ | refine sd_ rfl ?_ | refine sn_ ?_) ⟨q1, q6, htows, hsteps, hruns, hbw⟩
     ·
      refine EC.seq (EC.region (EL.mv rfl rfl (EL.mv rfl rfl ?_)));refine EL.call (cA2 cF18 rfl rfl) rfl (QIC (Rd.of_own hsteps) ((hp.below (hbw.mono hB)).more (Nat.le_trans hB hbw.size)) (by omega)) ?_
      rintro e w11 ⟨rfl, hc11⟩
      refine ⟨_, rfl, ?_⟩;replace q1 := q1.bl hc11;replace q6 := q6.bl hc11;replace htows := ZC htows hc11 (Nat.le_refl _);replace hsteps := ZC hsteps hc11 (Nat.le_refl _);replace hruns := ZC hruns hc11 (Nat.le_refl _);replace hbw := bo_ hbw hc11;clear hc11;refine EL.val (ZT rfl) rfl (EL.mv rfl rfl (EL.mg rfl rfl rfl rfl ?_));refine EL.valg rfl rfl (Zv (r := true) rfl rfl (decide_eq_true (by decide))) rfl ?_
      refine EL.valg rfl rfl (YC rfl (q1.at (j := 0) rfl) (q1.at (j := 1) rfl) (q1.at (j := 2) rfl) (q1.at (j := 3) rfl) (q1.at (j := 4) rfl) (q1.at (j := 5) rfl)) rfl (EL.callg rfl rfl (cA1 cF19 rfl) rfl (QCr h0 _) ?_)
      rintro e w12 ⟨rfl, hc12⟩
      refine ⟨_, rfl, ?_⟩;replace q1 := q1.bl hc12;replace q6 := q6.bl hc12;replace htows := ZC htows hc12 (Nat.le_refl _);replace hsteps := ZC hsteps hc12 (Nat.le_refl _);replace hruns := ZC hruns hc12 (Nat.le_refl _);replace hbw := bo_ hbw hc12;clear hc12;refine EL.valg rfl rfl (QFl (r := false) rfl rfl (by decide)) rfl ?_
      refine EL.pf rfl rfl rfl (EL.mv rfl rfl (EL.mg rfl rfl rfl rfl ?_));refine EL.valg rfl rfl (Zp (r := false) rfl rfl (decide_eq_false (by decide))) rfl ?_
      refine EL.mg rfl rfl rfl rfl (EL.skip rfl rfl rfl rfl (EL.skip rfl rfl rfl rfl (EL.valg rfl rfl (QAJ rfl rfl) rfl (EL.pf rfl rfl rfl (EL.nil (EX.seq (EC.no rfl (EC.skip ?_))))))));refine EX.cutE () trivial (by repeat first | with_reducible exact (Sub.refl _).del _ | refine sp_ rfl ?_ | exact (Sub.refl _).del _ | refine sd_ rfl ?_ | refine sn_ ?_) ⟨q1, q6, htows, hsteps, hruns, hbw⟩
    ·
     clear q1 q6 htows hsteps hruns hbw
     rintro ⟨⟩ W5 ⟨q1, q6, htows, hsteps, hruns, hbw⟩
     refine EC.seq (EC.region (EL.val (YC rfl (q1.at (j := 0) rfl) (q1.at (j := 1) rfl) (q1.at (j := 2) rfl) (q1.at (j := 3) rfl) (q1.at (j := 4) rfl) (q1.at (j := 5) rfl)) rfl (EL.mv rfl rfl ?_)));refine EL.call (cA2 cF20 rfl rfl) rfl (QI5 (l := l) (hr.below (hbw.mono hB)) (Nat.le_trans hB hbw.size) (by omega)) ?_
     rintro e w13 ⟨rfl, hc13⟩
     refine ⟨_, rfl, ?_⟩;replace q1 := q1.bl hc13;replace q6 := q6.bl hc13;replace htows := ZC htows hc13 (Nat.le_refl _);replace hsteps := ZC hsteps hc13 (Nat.le_refl _);replace hruns := ZC hruns hc13 (Nat.le_refl _);replace hbw := bo_ hbw hc13;clear hc13;refine EL.as rfl rfl (EL.nil (EX.seq (EC.seq (EC.seq (EC.region (EL.mv rfl rfl ?_))))))
     rcases QGb l ts p with he0 | ⟨he0, hok⟩ | ⟨he0, hok⟩
     ·
      have hce : Zn l ts p = towE l ts := QEx he0;have hne : ¬Zn l ts p = 0 := hce ▸ he0;refine EL.val (Zv (r := false) rfl rfl (decide_eq_false he0)) rfl (EL.mv rfl rfl (EL.skip rfl rfl rfl rfl (EL.skip rfl rfl rfl rfl (EL.skip rfl rfl rfl rfl (EL.skip rfl rfl rfl rfl (EL.pf rfl rfl rfl (EL.nil (EX.seq (EC.no rfl ?_)))))))));refine EC.skip (EX.seq (EC.seq (EC.seq (EC.region (EL.mv rfl rfl (EL.val (Zp (r := true) rfl rfl (decide_eq_true he0)) rfl (EL.nil (EX.seq (EC.yes rfl ?_)))))))));refine EC.seq (EC.region (EL.mv rfl rfl (EL.mv rfl rfl (EL.val (Zv (r := true) rfl rfl (decide_eq_true hce)) rfl (EL.mv rfl rfl (EL.mg rfl rfl rfl rfl (EL.mg rfl rfl rfl rfl (EL.valg rfl rfl (Zv (r := true) rfl rfl (decide_eq_true hce)) rfl (EL.pt rfl rfl rfl ?_)))))))));refine EL.mv rfl rfl (EL.mg rfl rfl rfl rfl (EL.valg rfl rfl (QDa rfl) rfl ?_));refine EL.valg rfl rfl (Zv (r := true) rfl rfl (decide_eq_true (by rw [QDs hne]; rfl))) rfl ?_
      refine EL.pt rfl rfl rfl (EL.mv rfl rfl (EL.mg rfl rfl rfl rfl (EL.valg rfl rfl (Zv (r := true) rfl rfl (decide_eq_true (QD5 hne))) rfl (EL.pt rfl rfl rfl (EL.mv rfl rfl (EL.mg rfl rfl rfl rfl (EL.valg rfl rfl (Zv (r := true) rfl rfl (decide_eq_true (QIO hne))) rfl (EL.pt rfl rfl rfl (EL.mv rfl rfl ?_)))))))));refine EL.valg rfl rfl (QEh rfl (q6.at (j := 0) rfl) (q6.at (j := 1) rfl) (q6.at (j := 2) rfl) (q6.at (j := 3) rfl)) rfl (EL.valg rfl rfl (QGS) rfl (EL.valg rfl rfl (QGG (r := true) rfl rfl (decide_eq_true (QED hne))) rfl (EL.pt rfl rfl rfl (EL.mv rfl rfl (EL.callg rfl rfl (cA0 cF12) rfl (QAf _) ?_)))))
      rintro e w14 ⟨rfl, hc14⟩
      refine ⟨_, rfl, ?_⟩;replace q1 := q1.bl hc14;replace q6 := q6.bl hc14;replace htows := ZC htows hc14 (Nat.le_refl _);replace hsteps := ZC hsteps hc14 (Nat.le_refl _);replace hruns := ZC hruns hc14 (Nat.le_refl _);replace hbw := bo_ hbw hc14;clear hc14;refine EL.pt rfl rfl rfl (EL.as rfl rfl (EL.nil (EX.seq (EC.ret (EX.seq_ret ?_)))))
      exact EX.done (res1 rfl rfl) ⟨rfl, hbw⟩
     ·
      have hce : Zn l ts p = 4 := QAr he0 (by rw [hok]; decide)
      have hne : ¬Zn l ts p = 0 := by rw [hce]; decide
      refine EL.val (Zv (r := true) rfl rfl (decide_eq_true he0)) rfl (EL.mv rfl rfl (EL.mg rfl rfl rfl rfl (EL.mg rfl rfl rfl rfl ?_)));refine EL.callg rfl rfl (cA2 cF21 rfl rfl) rfl (QCs (hr.below (hbw.mono hB)) (hp.below (hbw.mono hB)) (Nat.le_trans hB hbw.size) (by omega) (by omega) hok) ?_
      rintro e w15 ⟨rfl, hc15⟩
      refine ⟨_, rfl, ?_⟩;replace q1 := q1.bl hc15;replace q6 := q6.bl hc15;replace htows := ZC htows hc15 (Nat.le_refl _);replace hsteps := ZC hsteps hc15 (Nat.le_refl _);replace hruns := ZC hruns hc15 (Nat.le_refl _);replace hbw := bo_ hbw hc15;clear hc15;refine EL.valg rfl rfl (ZT rfl) rfl (EL.pt rfl rfl rfl (EL.nil (EX.seq (EC.yes rfl (EC.region (EL.as rfl rfl (EL.nil (EX.seq (EC.seq ?_)))))))));refine EC.seq (EC.region (EL.mv rfl rfl ?_));refine EL.val (Zp (r := true) rfl rfl (decide_eq_true (by decide))) rfl ?_
      refine EL.nil (EX.seq (EC.yes rfl (EC.seq (EC.region (EL.mv rfl rfl (EL.mv rfl rfl (EL.val (Zv (r := true) rfl rfl (decide_eq_true hce)) rfl (EL.mv rfl rfl (EL.mg rfl rfl rfl rfl ?_)))))))));refine EL.mg rfl rfl rfl rfl (EL.valg rfl rfl (Zv (r := true) rfl rfl (decide_eq_true hce)) rfl (EL.pt rfl rfl rfl (EL.mv rfl rfl (EL.mg rfl rfl rfl rfl (EL.valg rfl rfl (QDa rfl) rfl ?_)))));refine EL.valg rfl rfl (Zv (r := true) rfl rfl (decide_eq_true (by rw [QDs hne]; rfl))) rfl ?_
      refine EL.pt rfl rfl rfl (EL.mv rfl rfl (EL.mg rfl rfl rfl rfl (EL.valg rfl rfl (Zv (r := true) rfl rfl (decide_eq_true (QD5 hne))) rfl (EL.pt rfl rfl rfl (EL.mv rfl rfl (EL.mg rfl rfl rfl rfl (EL.valg rfl rfl (Zv (r := true) rfl rfl (decide_eq_true (QIO hne))) rfl (EL.pt rfl rfl rfl (EL.mv rfl rfl ?_)))))))));refine EL.valg rfl rfl (QEh rfl (q6.at (j := 0) rfl) (q6.at (j := 1) rfl) (q6.at (j := 2) rfl) (q6.at (j := 3) rfl)) rfl (EL.valg rfl rfl (QGS) rfl (EL.valg rfl rfl (QGG (r := true) rfl rfl (decide_eq_true (QED hne))) rfl (EL.pt rfl rfl rfl (EL.mv rfl rfl (EL.callg rfl rfl (cA0 cF12) rfl (QAf _) ?_)))))
      rintro e w16 ⟨rfl, hc16⟩
      refine ⟨_, rfl, ?_⟩;replace q1 := q1.bl hc16;replace q6 := q6.bl hc16;replace htows := ZC htows hc16 (Nat.le_refl _);replace hsteps := ZC hsteps hc16 (Nat.le_refl _);replace hruns := ZC hruns hc16 (Nat.le_refl _);replace hbw := bo_ hbw hc16;clear hc16;refine EL.pt rfl rfl rfl (EL.as rfl rfl (EL.nil (EX.seq (EC.ret (EX.seq_ret ?_)))))
      exact EX.done (res1 rfl rfl) ⟨rfl, hbw⟩
     ·
      refine EL.val (Zv (r := true) rfl rfl (decide_eq_true he0)) rfl (EL.mv rfl rfl (EL.mg rfl rfl rfl rfl (EL.mg rfl rfl rfl rfl ?_)));refine EL.callg rfl rfl (cA2 cF21 rfl rfl) rfl (QCs (hr.below (hbw.mono hB)) (hp.below (hbw.mono hB)) (Nat.le_trans hB hbw.size) (by omega) (by omega) hok) ?_
      rintro e w17 ⟨rfl, hc17⟩
      refine ⟨_, rfl, ?_⟩;replace q1 := q1.bl hc17;replace q6 := q6.bl hc17;replace htows := ZC htows hc17 (Nat.le_refl _);replace hsteps := ZC hsteps hc17 (Nat.le_refl _);replace hruns := ZC hruns hc17 (Nat.le_refl _);replace hbw := bo_ hbw hc17;clear hc17;refine EL.valg rfl rfl (ZT rfl) rfl (EL.pt rfl rfl rfl (EL.nil (EX.seq (EC.no rfl (EC.skip (EX.seq (EC.seq (EC.seq (EC.region ?_)))))))));refine EL.mv rfl rfl ?_;refine EL.val (Zp (r := false) rfl rfl (decide_eq_false (by rw [he0]; decide))) rfl ?_
      refine EL.nil (EX.seq (EC.no rfl (EC.skip (EX.seq (EC.seq (EC.region (EL.val (YC rfl (q1.at (j := 0) rfl) (q1.at (j := 1) rfl) (q1.at (j := 2) rfl) (q1.at (j := 3) rfl) (q1.at (j := 4) rfl) (q1.at (j := 5) rfl)) rfl (EL.mv rfl rfl (EL.mv rfl rfl ?_)))))))))
      cases hfit : fitC l (qL ts) p
      ·
       have hce : Zn l ts p = 8 := QB6 he0 hok hfit;have hne : ¬Zn l ts p = 0 := by rw [hce]; decide
       refine EL.call (cA3 cF22 rfl rfl rfl) rfl (QLM (hr.below (hbw.mono hB)) (hp.below (hbw.mono hB)) (Nat.le_trans hB hbw.size) he0 hok hfit) ?_
       rintro e wq ⟨⟨Au, nu, cu, Ad, nd, cd, Ar, nr, cr, s', rfl⟩, hcq⟩
       refine ⟨_, rfl, ?_⟩;replace q1 := q1.bl hcq;replace q6 := q6.bl hcq;replace htows := ZC htows hcq (Nat.le_refl _);replace hsteps := ZC hsteps hcq (Nat.le_refl _);replace hruns := ZC hruns hcq (Nat.le_refl _);replace hbw := bo_ hbw hcq;clear hcq;refine EL.mv rfl rfl (EL.val (ZM (v := .agg #[.slice Au nu cu, .slice Ad nd cd, .int .i64 s'.fr, .bool s'.lk.high, .slice Ar nr cr, .int .i64 s'.cost, .int .i64 s'.mv, .int .i64 s'.up, .int .i64 s'.lo, .int .i64 s'.ch, .int .i64 s'.ba]) rfl rfl) rfl (EL.val (ZM (v := .bool false) rfl rfl) rfl (EL.newP QBO rfl ?_)));intro g18 w18 q18 hb18 hg18 hl18;have n1_18 := q1.na hg18;have n6_18 := q6.na hg18;have bhbw_18 := Nat.le_trans hbw.size hg18;replace q1 := q1.bl hb18;replace q6 := q6.bl hb18;replace htows := ZC htows hb18 (Nat.le_refl _);replace hsteps := ZC hsteps hb18 (Nat.le_refl _);replace hruns := ZC hruns hb18 (Nat.le_refl _);replace hbw := bo_ hbw hb18;clear hb18 hg18 hl18;refine EL.store rfl rfl q18 YW rfl rfl rfl rfl ?_;intro w19 hq19 hg19;replace q1 := q1.gr hg19 n1_18;replace q6 := q6.gr hg19 n6_18;replace htows := ZG htows q18 rfl hg19;replace hsteps := ZG hsteps q18 rfl hg19;replace hruns := ZG hruns q18 rfl hg19;replace hbw := ZE hbw hg19 bhbw_18;replace q18 := hq19;clear hg19 hq19;refine EL.as rfl rfl (EL.nil (EX.seq (EC.seq (EC.seq (EC.region (EL.mv rfl rfl (EL.val (ZT rfl) rfl (EL.nil (EX.seq ?_)))))))));refine EC.yes rfl (EC.seq (EC.region (EL.mv rfl rfl (EL.val (Zv (r := true) rfl rfl (decide_eq_true hce)) rfl (EL.mv rfl rfl (EL.mg rfl rfl rfl rfl (EL.mg rfl rfl rfl rfl (EL.valg rfl rfl (Zv (r := true) rfl rfl (decide_eq_true rfl)) rfl (EL.pt rfl rfl rfl ?_)))))))));refine EL.mv rfl rfl (EL.mg rfl rfl rfl rfl (EL.valg rfl rfl (QDa rfl) rfl ?_));refine EL.valg rfl rfl (Zv (r := true) rfl rfl (decide_eq_true (by rw [QDs hne]; rfl))) rfl ?_
       refine EL.pt rfl rfl rfl (EL.mv rfl rfl (EL.mg rfl rfl rfl rfl (EL.valg rfl rfl (Zv (r := true) rfl rfl (decide_eq_true (QD5 hne))) rfl (EL.pt rfl rfl rfl (EL.mv rfl rfl (EL.mg rfl rfl rfl rfl (EL.valg rfl rfl (Zv (r := true) rfl rfl (decide_eq_true (QIO hne))) rfl (EL.pt rfl rfl rfl (EL.mv rfl rfl ?_)))))))));refine EL.valg rfl rfl (QEh rfl (q6.at (j := 0) rfl) (q6.at (j := 1) rfl) (q6.at (j := 2) rfl) (q6.at (j := 3) rfl)) rfl (EL.valg rfl rfl (QGS) rfl (EL.valg rfl rfl (QGG (r := true) rfl rfl (decide_eq_true (QED hne))) rfl (EL.pt rfl rfl rfl (EL.mv rfl rfl (EL.callg rfl rfl (cA0 cF12) rfl (QAf _) ?_)))))
       rintro e w20 ⟨rfl, hc20⟩
       refine ⟨_, rfl, ?_⟩;replace q1 := q1.bl hc20;replace q6 := q6.bl hc20;replace q18 := q18.bl hc20;replace htows := ZC htows hc20 (Nat.le_refl _);replace hsteps := ZC hsteps hc20 (Nat.le_refl _);replace hruns := ZC hruns hc20 (Nat.le_refl _);replace hbw := bo_ hbw hc20;clear hc20;refine EL.pt rfl rfl rfl (EL.as rfl rfl (EL.nil (EX.seq (EC.ret (EX.seq_ret ?_)))))
       exact EX.done (res1 rfl rfl) ⟨rfl, hbw⟩
      ·
       have hce : Zn l ts p = 0 := QHA he0 hok hfit;refine EL.call (cA3 cF22 rfl rfl rfl) rfl (QJz (hr.below (hbw.mono hB)) (hp.below (hbw.mono hB)) (Nat.le_trans hB hbw.size) he0 hok hfit) ?_
       rintro e wq ⟨⟨Au, nu, cu, Ad, nd, cd, Ar, cr, rfl, href⟩, hcq⟩
       refine ⟨_, rfl, ?_⟩;replace href := YB href hbw.size;replace q1 := q1.bl hcq;replace q6 := q6.bl hcq;replace htows := ZC htows hcq (Nat.le_refl _);replace hsteps := ZC hsteps hcq (Nat.le_refl _);replace hruns := ZC hruns hcq (Nat.le_refl _);replace hbw := bo_ hbw hcq;clear hcq;refine EL.mv rfl rfl (EL.val (ZM (v := .agg #[.slice Au nu cu, .slice Ad nd cd, .int .i64 (sAt l (qL ts) p p.length).fr, .bool (sAt l (qL ts) p p.length).lk.high, .slice Ar p.length cr, .int .i64 (sAt l (qL ts) p p.length).cost, .int .i64 (sAt l (qL ts) p p.length).mv, .int .i64 (sAt l (qL ts) p p.length).up, .int .i64 (sAt l (qL ts) p p.length).lo, .int .i64 (sAt l (qL ts) p p.length).ch, .int .i64 (sAt l (qL ts) p p.length).ba]) rfl rfl) rfl (EL.val (ZM (v := .bool true) rfl rfl) rfl (EL.newP QBO rfl ?_)));intro g21 w21 q21 hb21 hg21 hl21;have n1_21 := q1.na hg21;have n6_21 := q6.na hg21;have bhbw_21 := Nat.le_trans hbw.size hg21;replace q1 := q1.bl hb21;replace q6 := q6.bl hb21;replace htows := ZC htows hb21 (Nat.le_refl _);replace hsteps := ZC hsteps hb21 (Nat.le_refl _);replace hruns := ZC hruns hb21 (Nat.le_refl _);replace href := ZC href hb21 (Nat.le_refl _);replace hbw := bo_ hbw hb21;clear hb21 hg21 hl21;refine EL.store rfl rfl q21 YW rfl rfl rfl rfl ?_;intro w22 hq22 hg22;replace q1 := q1.gr hg22 n1_21;replace q6 := q6.gr hg22 n6_21;replace htows := ZG htows q21 rfl hg22;replace hsteps := ZG hsteps q21 rfl hg22;replace hruns := ZG hruns q21 rfl hg22;replace href := ZG href q21 rfl hg22;replace hbw := ZE hbw hg22 bhbw_21;replace q21 := hq22;clear hg22 hq22;refine EL.as rfl rfl (EL.nil (EX.seq (EC.seq (EC.seq (EC.region (EL.mv rfl rfl (EL.val (ZT rfl) rfl (EL.nil (EX.seq ?_)))))))));refine EC.no rfl (EC.skip (EX.seq (EC.seq (EC.seq (EC.region (EL.mv rfl rfl ?_))))));refine EL.val (Zp (r := false) rfl rfl (decide_eq_false (fun h => h hce))) rfl ?_
       refine EL.mv rfl rfl (EL.mg rfl rfl rfl rfl ?_);refine EL.valg rfl rfl (Zp (r := false) rfl rfl (decide_eq_false (fun h => h hce))) rfl ?_
       refine EL.pf rfl rfl rfl (EL.mv rfl rfl (EL.mg rfl rfl rfl rfl (EL.valg rfl rfl (QGC rfl) rfl (EL.valg rfl rfl (ld_3 rfl (q21.at (j := 5) rfl)) rfl ?_))));refine EL.valg rfl rfl (Zp (r := false) rfl rfl (decide_eq_false (fun h => h (QIj hce)))) rfl ?_
       refine EL.pf rfl rfl rfl (EL.mv rfl rfl (EL.mg rfl rfl rfl rfl (EL.valg rfl rfl (QDA rfl) rfl (EL.valg rfl rfl (ld_3 rfl (q21.at (j := 6) rfl)) rfl ?_))));refine EL.valg rfl rfl (Zp (r := false) rfl rfl (decide_eq_false (fun h => h (QMB hce)))) rfl ?_
       refine EL.pf rfl rfl rfl (EL.mv rfl rfl (EL.valg rfl rfl (QEh rfl (q6.at (j := 0) rfl) (q6.at (j := 1) rfl) (q6.at (j := 2) rfl) (q6.at (j := 3) rfl)) rfl (EL.valg rfl rfl (YG rfl) rfl (EL.valg rfl rfl (QEh rfl (q21.at (j := 7) rfl) (q21.at (j := 8) rfl) (q21.at (j := 9) rfl) (q21.at (j := 10) rfl)) rfl ?_))));refine EL.valg rfl rfl (QMZ (r := false) rfl rfl (decide_eq_false (fun h => h (QJa hce)))) rfl ?_
       refine EL.pf rfl rfl rfl (EL.mv rfl rfl (EL.mg rfl rfl rfl rfl (EL.valg rfl rfl (QDa rfl) rfl (EL.valg rfl rfl (QD1 rfl) rfl (EL.valg rfl rfl (QKP rfl (q21.at (j := 4) rfl)) rfl (EL.valg rfl rfl (QDa rfl) rfl ?_))))));refine EL.valg rfl rfl (Zp (r := false) rfl rfl (decide_eq_false (fun h => h (by rw [QFu hce, Yy])))) rfl ?_
       refine EL.pf rfl rfl rfl (EL.nil (EX.seq (EC.no rfl (EC.skip (EX.seq (EC.seq (EC.seq (EC.region (EL.as rfl rfl ?_)))))))));refine EL.nil (EX.seq (EC.block ?_));have hrl : QBH l ts p = ZU l (qL ts) p p.length := QFu hce;rw [hrl, Yy] at hruns;refine EC.loopD [6, 20, 197, 198, 199, 200, 201, 202, 203, 204, 205, 206, 207, 208, 209, 210, 211, 212] (fun k : Nat => [(20, .int .i64 (k : Nat))]) (fun k W => k ≤ p.length ∧ Blk W g21 45 #[.slice Au nu cu, .slice Ad nd cd, .int .i64 (sAt l (qL ts) p p.length).fr, .bool (sAt l (qL ts) p p.length).lk.high, .slice Ar p.length cr, .int .i64 (sAt l (qL ts) p p.length).cost, .int .i64 (sAt l (qL ts) p p.length).mv, .int .i64 (sAt l (qL ts) p p.length).up, .int .i64 (sAt l (qL ts) p p.length).lo, .int .i64 (sAt l (qL ts) p p.length).ch, .int .i64 (sAt l (qL ts) p p.length).ba] ∧ W.ownsRow w.heap.size 49 2 (.slice Aruns p.length cruns) p.length (rnsC (ZU l (qL ts) p p.length)) ∧ W.ownsRow w.heap.size 49 2 (.slice Ar p.length cr) p.length (rnsC (ZU l (qL ts) p p.length)) ∧ Below w.heap.size w W) (fun k => p.length - k) 0 ⟨Nat.zero_le _, q21, hruns, href, hbw⟩ ⟨rfl, trivial⟩ ?_
       clear q21 hruns href hbw
       rintro k wk ⟨hk, q21, hruns, href, hbw⟩
       by_cases hltk : k < p.length
       ·
        have hlr := Yy l (qL ts) p p.length;obtain ⟨b, o, eA_, _, cc⟩ := QFN _ k (by rw [hlr]; exact hltk) _ _ _ _ _ (Rd.of_own hruns)
        cases eA_
        obtain ⟨bo, oo, eB_, _, co⟩ := QFN _ k (by rw [hlr]; exact hltk) _ _ _ _ _ (Rd.of_own href)
        cases eB_
        refine EC.seq (EC.seq (EC.region (EL.mv rfl rfl (EL.mv rfl rfl (EL.val (QDa rfl) rfl ?_)))));refine EL.val (ZQ (r := true) rfl rfl (decide_eq_true (by rw [hrl, Yy]; omega))) rfl ?_
        refine EL.nil (EX.seq (EC.yes rfl (EC.skip (EX.seq (EC.seq (EC.block (EC.seq ?_)))))));refine EC.regionQ (by kernel_rfl) (by kernel_rfl) ?_
        refine EQ.mv rfl rfl (EQ.mv rfl rfl ?_);refine EQ.val (fun _ hw => (QKS rfl rfl (by rw [hrl, Yy]; exact hltk))) rfl ?_
        refine EQ.val (fun _ hw => (QB0 rfl (ZB hw cc.c0) (ZB hw cc.c1))) rfl ?_
        refine EQ.val (fun _ hw => (QD1 rfl)) rfl ?_
        refine EQ.val (fun _ hw => (QKP rfl (ZB hw (q21.at (j := 4) rfl)))) rfl ?_
        refine EQ.mv rfl rfl ?_;refine EQ.val (fun _ hw => (QKS rfl rfl hltk)) rfl ?_
        refine EQ.val (fun _ hw => (QB0 rfl (ZB hw co.c0) (ZB hw co.c1))) rfl ?_
        refine EQ.val (fun _ hw => (neRN rfl rfl)) rfl ?_
        refine EQ.fin (fun w23 hw_ => ?_)
        replace q21 := q21.bl hw_;replace hruns := ZC hruns hw_ (Nat.le_refl _);replace href := ZC href hw_ (Nat.le_refl _);replace hbw := bo_ hbw hw_;clear hw_;refine EX.seq (EC.no rfl (EC.skip (EX.blk (EX.seq (EC.region (EL.mv rfl rfl ?_))))));refine EL.val (ZR rfl rfl (c := ((k + 1 : Nat) : Int)) ((IntWalk.i64_in _ ⟨by first | omega | (simp only; omega), by first | omega | (simp only; omega)⟩).trans (by first | omega | (simp only; omega)))) rfl ?_
        refine EL.as rfl rfl (EL.nil ?_);refine EX.roundD (k + 1) ⟨rfl, trivial⟩ (by repeat first | with_reducible exact .refl _ | refine sp_ rfl ?_ | exact .refl _ | refine sd_ rfl ?_ | refine sn_ ?_) ⟨hltk, q21, hruns, href, hbw⟩ (by omega)
       ·
        refine EC.seq (EC.seq (EC.region (EL.mv rfl rfl (EL.mv rfl rfl (EL.val (QDa rfl) rfl ?_)))));refine EL.val (ZQ (r := false) rfl rfl (decide_eq_false (by rw [hrl, Yy]; omega))) rfl ?_
        refine EL.nil (EX.seq (EC.no rfl (EC.exit (EX.seq_exit (EX.seq_exit (EX.blk_here (EX.seq (EC.seq (EC.region ?_)))))))));refine EL.call (cA0 cF12) rfl (QAf _) ?_
        rintro e w24 ⟨rfl, hc24⟩
        refine ⟨_, rfl, ?_⟩;replace q21 := q21.bl hc24;replace hbw := bo_ hbw hc24;clear hc24;refine EL.as rfl rfl (EL.nil (EX.seq (EC.ret ?_)))
        exact EX.done (res1 rfl rfl) ⟨rfl, hbw⟩
end Go.Proofs.Ytlbfnimilcnihaa
