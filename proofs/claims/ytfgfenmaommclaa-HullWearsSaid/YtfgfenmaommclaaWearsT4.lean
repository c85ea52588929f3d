/- X7, ExX8, X8, HuOwn, ExX9, X9, HuYard, ExX10, X10, E33, E34, HuLd, ExX11, X11, ExX12, X12, HuAdvR, ExX13: what HullWearsProof needs of them (merged by trimpack.py). -/
import Derived.Test.YtfgfenmaommclaaWearsT3
set_option linter.unusedVariables false
set_option linter.unusedSimpArgs false
namespace Go.Proofs.Ytfgfenmaommclaa
open Go Go.RowKit
theorem QIf {P : Program} {w : World} {t e : TypeId} {b o m c : Nat} (ht : P.underlying t = some (.slice e)) : (binOp .eql t (.slice (some ⟨b, o, none⟩) m c) (.slice none 0 0)).run P w = .ok (.bool false) w := by
 have h : ∀ d : Nat, (Op.equalIn (d + 1) t (.slice (some ⟨b, o, none⟩) m c) (.slice none 0 0)).run P w = .ok false w := fun d => by
  simp [Op.equalIn, run_underlying ht]
 simp only [binOp]
 simp [Op.equal, Op.maxDepth, h 9999]
theorem QK5 {P : Program} {n : Nat} {σ : Sg} {w : World} {dst : Option Tmp} {ty t t' e : TypeId} {pos : String} {af : Array Edge} {g : Option (Nat × Bool)} {x y : Operand} {b o m c : Nat} (ht : P.underlying t = some (.slice e)) (hx : evS σ x = some (.slice (some ⟨b, o, none⟩) m c)) (hy : evS σ y = some (.slice none 0 0)) : ZE P n σ w ⟨dst, .binOp .eql t x y t', ty, pos, af, g⟩ (.bool false) := fun a ha => by
 simp only [execOp, ha.eval hx, ha.eval hy]
 simp [QIf ht, Result.andThen, eqGuard, ha.eval hx, ha.eval hy]
theorem EL.copy {P : Program} {n : Nat} {L : List Oper} {Q : Exit → Act → World → Prop} {rest : List Oper} {σ : Sg} {w : World} {d ty t e size bytes base B mm g : Nat} {s x : Operand} {pos : String} {af : Array Edge} (E : Elem P t e size bytes) {src : Value} {news : List Value} (hs : evS σ s = some (.slice (some ⟨g, 0, none⟩) 0 0)) (hx : evS σ x = some src)
  (hq : Blk w g e #[]) (hg : base ≤ g) (hr : Rd w B size src mm news) (h1 : ∀ u ∈ news, u.oneCell' = true) (hm : mm ≤ 1048576) (hby : bytes ≤ 1048576) (hbase : base ≤ w.heap.size) (hd : Nat.blt d n = true)
  (next : ∀ v' w', w'.ownsRow base e size v' mm news → Below w.heap.size w w' → EL P n L Q rest (ins σ d v') w') : EL P n L Q (⟨some d, .call { callee := .builtin .append, args := #[s, x], argTypes := #[t, t] }, ty, pos, af, none⟩ :: rest) σ w := fun a ha => by
 obtain ⟨v', w', h2, h3, h4⟩ := QIi (P := P) (ty := ty) E hq hg hr h1 hm hby hbase
 exact QAQ (ZX rfl _) (YE rfl (ha.eval hs) (ha.eval hx) h2) (next v' w' h3 h4 _ (ha.put hd _))
theorem QIg {P : Program} {w : World} {t e : TypeId} {m c : Nat} (ht : P.underlying t = some (.slice e)) : (binOp .eql t (.slice none m c) (.slice none 0 0)).run P w = .ok (.bool true) w := by
 have h : ∀ d : Nat, (Op.equalIn (d + 1) t (.slice none m c) (.slice none 0 0)).run P w = .ok true w := fun d => by
  simp [Op.equalIn, run_underlying ht]
 simp only [binOp]
 simp [Op.equal, Op.maxDepth, h 9999]
theorem QIC {P : Program} {n : Nat} {σ : Sg} {w : World} {dst : Option Tmp} {ty t t' e : TypeId} {pos : String} {af : Array Edge} {g : Option (Nat × Bool)} {x y : Operand} {m c : Nat} (ht : P.underlying t = some (.slice e)) (hx : evS σ x = some (.slice none m c)) (hy : evS σ y = some (.slice none 0 0)) : ZE P n σ w ⟨dst, .binOp .eql t x y t', ty, pos, af, g⟩ (.bool true) := fun a ha => by
 simp only [execOp, ha.eval hx, ha.eval hy]
 simp [QIg ht, Result.andThen, eqGuard, ha.eval hx, ha.eval hy]
theorem QGt {w : World} {base e size n : Nat} {v : Value} {xs : List Value} (h : w.ownsRow base e size v n xs) (hn : 0 < n) : ∃ g c, v = .slice (some ⟨g, 0, none⟩) n c := by
 obtain ⟨A, c, rfl, _⟩ := (Rd.of_own h).shape;obtain ⟨g, rfl⟩ := QHg h hn
 exact ⟨g, c, rfl⟩
theorem QGl {w : World} {B size n c : Nat} {xs : List Value} (h : Rd w B size (.slice none n c) n xs) : n = 0 := by
 rcases Nat.eq_zero_or_pos n with h0 | h0
 ·exact h0
 ·obtain ⟨b, off, e, _⟩ := h.at_ h0
  cases e
theorem QHb : (Try.prog.info? 85).map (fun i => (i.zero, i.size, i.bytes)) = some (some (.agg #[.int .i64 0, .int .i64 0, .int .i64 0]), 3, 24) := by kernel_rfl
theorem QHc : Elem Try.prog 51 85 3 24 := Elem.mk' Try.underlying51 QHb rfl (by omega)
theorem QFi {l : List Pass} {g o c : Nat} {w : World} {B : Nat} (hr : Rd w B 3 (.slice (some ⟨g, o, none⟩) l.length c) l.length (passesC l)) (hB : B ≤ w.heap.size) (hn : l.length ≤ 1048576) :
  Calls Try.prog 45 #[.slice (some ⟨g, o, none⟩) l.length c] w fun e w' => (∃ v, e = .returned v ∧ w'.ownsRow w.heap.size 85 3 v l.length (passesC l)) ∧ Below w.heap.size w w' := by
 have hbw := Below.refl w.heap.size w;refine EC.enter 8 Try.func45 rfl rfl rfl (EC.seq (EC.region (EL.as rfl rfl (EL.nil (EX.seq (EC.seq (EC.seq (EC.region (EL.mv rfl rfl ?_)))))))));refine EL.val (QK5 Try.underlying51 rfl rfl) rfl (EL.nil (EX.seq (EC.no rfl (EC.skip (EX.seq (EC.seq (EC.region ?_)))))));have hsz := hbw.size;refine EL.newS QKS rfl ?_;intro g1 w1 q1 hb1 hg1 hl1;have bhbw_1 := Nat.le_trans hbw.size hg1;replace hbw := bo_ hbw hb1;clear hb1 hl1;have hsz2 := hbw.size;refine EL.mv rfl rfl ?_;refine EL.copy QHc rfl rfl (base := w.heap.size) q1 (Nat.le_trans hsz hg1) (hr.below (hbw.mono hB)) (QFJ l) (by omega) (by omega) hbw.size rfl ?_
 intro v2 w2 ho hb2;replace hbw := bo_ hbw hb2;clear hb2;refine EL.as rfl rfl (EL.nil (EX.seq (EC.ret ?_)))
 exact EX.done (res1 rfl rfl) ⟨⟨_, rfl, ho⟩, hbw⟩
theorem QGN {l : List Pass} {v : Value} {w : World} {B : Nat} (hr : Rd w B 3 v l.length (passesC l)) (hB : B ≤ w.heap.size) (hn : l.length ≤ 1048576) (h0 : 0 < l.length) :
  Calls Try.prog 45 #[v] w fun e w' => (∃ v, e = .returned v ∧ w'.ownsRow w.heap.size 85 3 v l.length (passesC l)) ∧ Below w.heap.size w w' := by
 obtain ⟨A, c, rfl, _⟩ := hr.shape;obtain ⟨b, off, rfl, _⟩ := hr.at_ h0
 exact QFi hr hB hn
set_option maxRecDepth 100000 in
theorem QHu (h : Hul) (hvv : Value) (hvs : List (Value × Value)) (w : World) (B : Nat) (hr : RdSecs w B hvv h.secs hvs) (hB : B ≤ w.heap.size) (hl : h.secs.length ≤ 1048576) (hfew : Zl h.secs) (l : List Int) (vll : Value) (hri : Rd w B 1 vll l.length (ints l)) (d : Bd) (p : Pas) (q : PasV) (hp : RdPas w B p q) (hf : PasFew p) :
  Calls Try.prog 24 #[.agg #[.int .i64 h.lot, hvv], vll, .agg #[.int .i64 d.lo, .int .i64 d.hi], pasA p q] w fun e w' => (∃ k_ e_ : Int, e = .returned (.tuple #[.int .i64 k_, .int .i64 e_]) ∧ QAV h l d p k_ e_) ∧ Below w.heap.size w w' := by
 obtain ⟨Ahh, chh, rfl⟩ := hr.shape;obtain ⟨All, cll, rfl, _⟩ := hri.shape;obtain ⟨v, u, s, vl, vs, ss⟩ := q;obtain ⟨Av, cv, ev_, _⟩ := hp.river.reaches.shape;obtain ⟨Au, cu, eu_, _⟩ := hp.river.shoals.shape;obtain ⟨As, cs, es_, _⟩ := hp.sides.rd.shape;obtain ⟨Al, cl, el_, _⟩ := hp.way.shape
 dsimp only at ev_ eu_ es_ el_
 subst ev_ eu_ es_ el_
 unfold pasA
 dsimp only
 have hbw := Below.refl w.heap.size w;refine EC.enter 91 Try.func24 rfl rfl rfl (EC.seq (EC.region (EL.newP (QCT rfl) rfl ?_)));intro g1 w1 q1 hb1 hg1 hl1;have bhbw_1 := Nat.le_trans hbw.size hg1;replace hbw := bo_ hbw hb1;clear hb1 hg1 hl1;refine EL.newP (QBx rfl) rfl ?_;intro g2 w2 q2 hb2 hg2 hl2;have n1_2 := q1.na hg2;have bhbw_2 := Nat.le_trans hbw.size hg2;replace q1 := q1.bl hb2;replace hbw := bo_ hbw hb2;clear hb2 hg2 hl2;refine EL.newP (QHE rfl) rfl ?_;intro g3 w3 q3 hb3 hg3 hl3;have n1_3 := q1.na hg3;have n2_3 := q2.na hg3;have bhbw_3 := Nat.le_trans hbw.size hg3;replace q1 := q1.bl hb3;replace q2 := q2.bl hb3;replace hbw := bo_ hbw hb3;clear hb3 hg3 hl3;refine EL.as rfl rfl (EL.as rfl rfl (EL.nil (EX.seq (EC.seq (EC.region (EL.val (QBj rfl (q1.at (j := 0) rfl) (q1.at (j := 1) rfl)) rfl (EL.mv rfl rfl (EL.val (Zp rfl (q2.at (j := 0) rfl) (q2.at (j := 1) rfl)) rfl (EL.call (cA3 cF43 rfl rfl rfl) rfl (QCG h _ hvs _ B (hr.below (hbw.mono hB)) (Nat.le_trans hB hbw.size) hl hfew l _ (hri.below (hbw.mono hB)) d) ?_)))))))))
 rintro e w4 ⟨rfl, hc4⟩
 refine ⟨_, rfl, ?_⟩;replace q1 := q1.bl hc4;replace q2 := q2.bl hc4;replace q3 := q3.bl hc4;replace hbw := bo_ hbw hc4;clear hc4;refine EL.mv rfl rfl (EL.xt rfl rfl rfl (EL.xt rfl rfl rfl (EL.newP QCW rfl ?_)));intro g5 w5 q5 hb5 hg5 hl5;have n1_5 := q1.na hg5;have n2_5 := q2.na hg5;have n3_5 := q3.na hg5;have bhbw_5 := Nat.le_trans hbw.size hg5;replace q1 := q1.bl hb5;replace q2 := q2.bl hb5;replace q3 := q3.bl hb5;replace hbw := bo_ hbw hb5;clear hb5 hg5 hl5;refine EL.store rfl rfl q5 Yp rfl rfl rfl rfl ?_;intro w6 hq6 hg6;replace q1 := q1.gr hg6 n1_5;replace q2 := q2.gr hg6 n2_5;replace q3 := q3.gr hg6 n3_5;replace hbw := ZC hbw hg6 bhbw_5;replace q5 := hq6;clear hg6 hq6;refine EL.as rfl rfl (EL.nil (EX.seq (EC.seq (EC.seq (EC.region (EL.mv rfl rfl ?_))))))
 by_cases hE : Z8 h l d ≠ 0
 ·
  refine EL.val (Zq (r := true) rfl rfl (decide_eq_true hE)) rfl (EL.nil (EX.seq (EC.yes rfl (EC.seq (EC.region (EL.mv rfl rfl (EL.as rfl rfl (EL.as rfl rfl (EL.nil ?_)))))))));refine EX.seq (EC.ret (EX.seq_ret ?_))
  exact EX.done (res2 rfl rfl rfl) ⟨⟨_, _, rfl, by rw [QAV, QIe (p := p) hE, if_neg hE]; exact ⟨rfl, rfl⟩⟩, hbw⟩
 ·
  have hE := Classical.not_not.1 hE;have hLi := QGx hE;have hdb := QHB hLi;refine EL.val (Zq (r := false) rfl rfl (decide_eq_false (fun h => h hE))) rfl ?_
  refine EL.nil (EX.seq (EC.no rfl (EC.skip (EX.seq (EC.seq (EC.seq (EC.region (EL.val (QG3 rfl (q3.at (j := 0) rfl) (q3.at (j := 1) rfl) (q3.at (j := 2) rfl) (q3.at (j := 3) rfl) (q3.at (j := 4) rfl)) rfl (EL.call (cA1 cF41 rfl) rfl (QA3 p ⟨_, _, _, _, vs, ss⟩ _ B (hp.below (hbw.mono hB)) (Nat.le_trans hB hbw.size) hf) ?_)))))))))
  rintro e w7 ⟨rfl, hc7⟩
  refine ⟨_, rfl, ?_⟩;replace q1 := q1.bl hc7;replace q2 := q2.bl hc7;replace q3 := q3.bl hc7;replace q5 := q5.bl hc7;replace hbw := bo_ hbw hc7;clear hc7;refine EL.mv rfl rfl (EL.xt rfl rfl rfl (EL.xt rfl rfl rfl (EL.newP QDl rfl ?_)));intro g8 w8 q8 hb8 hg8 hl8;have n1_8 := q1.na hg8;have n2_8 := q2.na hg8;have n3_8 := q3.na hg8;have n5_8 := q5.na hg8;have bhbw_8 := Nat.le_trans hbw.size hg8;replace q1 := q1.bl hb8;replace q2 := q2.bl hb8;replace q3 := q3.bl hb8;replace q5 := q5.bl hb8;replace hbw := bo_ hbw hb8;clear hb8 hg8 hl8;refine EL.store rfl rfl q8 QB3 rfl rfl rfl rfl ?_;intro w9 hq9 hg9;replace q1 := q1.gr hg9 n1_8;replace q2 := q2.gr hg9 n2_8;replace q3 := q3.gr hg9 n3_8;replace q5 := q5.gr hg9 n5_8;replace hbw := ZC hbw hg9 bhbw_8;replace q8 := hq9;clear hg9 hq9;refine EL.as rfl rfl (EL.nil (EX.seq (EC.seq (EC.region (EL.mv rfl rfl ?_)))))
  by_cases hS : sndE p ≠ 0
  ·
   refine EL.val (Zq (r := true) rfl rfl (decide_eq_true hS)) rfl (EL.nil (EX.seq (EC.yes rfl (EC.seq (EC.region (EL.mv rfl rfl (EL.as rfl rfl (EL.as rfl rfl (EL.nil ?_)))))))));refine EX.seq (EC.ret (EX.seq_ret ?_))
   exact EX.done (res2 rfl rfl rfl) ⟨⟨_, _, rfl, by rw [QAV, QId (p := p) hE, if_neg hS]; exact ⟨rfl, rfl⟩⟩, hbw⟩
  ·
   have hS := Classical.not_not.1 hS;have hOk := QEP hS;have hsf : safE h l d p = 0 := by rw [safE, if_pos hE]; exact hS
   have hfw := hOk.few;refine EL.val (Zq (r := false) rfl rfl (decide_eq_false (fun h => h hS))) rfl ?_
   refine EL.nil (EX.seq (EC.no rfl (EC.skip (EX.seq (EC.seq (EC.region (EL.val (QBD rfl) rfl (EL.val (QFU rfl (q3.at (j := 3) rfl)) rfl ?_))))))));refine EL.call (cA1 cF45 rfl) rfl (QGN (hp.way.below (hbw.mono hB)) (Nat.le_trans hB hbw.size) (by omega) (by have := hOk.some; omega)) ?_
   rintro e w10 ⟨⟨vw, rfl, hcl⟩, hc10⟩
   refine ⟨_, rfl, ?_⟩;replace hcl := own_less hcl hbw.size;obtain ⟨gw, cw, rfl⟩ := QGt hcl (by have := hOk.some; omega)
   replace q1 := q1.bl hc10;replace q2 := q2.bl hc10;replace q3 := q3.bl hc10;replace q5 := q5.bl hc10;replace q8 := q8.bl hc10;replace hbw := bo_ hbw hc10;clear hc10;refine EL.val (QBD rfl) rfl (EL.store rfl rfl q3 QLc rfl rfl rfl rfl ?_);intro w11 hq11 hg11;replace q1 := q1.gr hg11 n1_3;replace q2 := q2.gr hg11 n2_3;replace q5 := q5.gr hg11 n3_5.symm;replace q8 := q8.gr hg11 n3_8.symm;replace hcl := ZF hcl q3 rfl hg11;replace hbw := ZC hbw hg11 bhbw_3;replace q3 := hq11;clear hg11 hq11;refine EL.nil (EX.seq (EC.seq (EC.region (EL.as rfl rfl (EL.nil (EX.seq (EC.block ?_)))))));have q10f : Blk w11 g5 76 #[.int .i64 (fltT h l d).mean.lo, .int .i64 (fltT h l d).mean.hi, .int .i64 (fltT h l d).deep.lo, .int .i64 (fltT h l d).deep.hi, .int .i64 (fltT h l d).head] := by rw [← hLi.f]; exact q5
   have hcl0 : w11.ownsRow w.heap.size 85 3 (.slice (some ⟨gw, 0, none⟩) p.way.length cw) p.way.length (passesC (Zk ((0 : Nat) : Int) p.way)) := by rw [show Zk ((0 : Nat) : Int) p.way = p.way from QCL _]; exact hcl
   refine EC.loopD [8, 9, 14, 15, 16, 17, 40, 41, 42, 43, 44, 45, 46, 47, 48, 49, 50, 51, 52, 53, 54, 55, 56, 57, 58, 59, 60, 61, 62, 63, 64, 65, 66, 67, 68, 69, 70, 71, 72, 73, 74, 75, 76, 77, 78, 79, 80, 81, 82, 83, 84, 85, 86, 87, 88, 89, 90] (fun x : Nat => [(14, .int .i64 (x : Nat))]) (fun x W => (∀ j : Nat, j < x → sndE (p.later j) = 0 ∧ (sndR (p.later j)).lo < (fltT h l d).deep.hi + p.keel) ∧ Blk W g3 53 #[.slice Av p.rv.reaches.length cv, .slice Au p.rv.shoals.length cu, .slice As p.sides.length cs, .slice (some ⟨gw, 0, none⟩) p.way.length cw, .int .i64 p.keel] ∧ Blk W g5 76 #[.int .i64 (fltT h l d).mean.lo, .int .i64 (fltT h l d).mean.hi, .int .i64 (fltT h l d).deep.lo, .int .i64 (fltT h l d).deep.hi, .int .i64 (fltT h l d).head] ∧ W.ownsRow w.heap.size 85 3 (.slice (some ⟨gw, 0, none⟩) p.way.length cw) p.way.length (passesC (Zk (x : Int) p.way)) ∧ Below w.heap.size w W) (fun x => 400 - x) 0 ⟨fun j hj => absurd hj (Nat.not_lt_zero _), q3, q10f, hcl0, hbw⟩ ⟨rfl, trivial⟩ ?_
   clear hcl0 hcl q3 q5 q10f hbw
   rintro k wk ⟨hgd, q7, q10, hcl, hbw⟩
   refine EC.seq (EC.block (EC.seq (EC.region (EL.val (QG3 rfl (q7.at (j := 0) rfl) (q7.at (j := 1) rfl) (q7.at (j := 2) rfl) (q7.at (j := 3) rfl) (q7.at (j := 4) rfl)) rfl ?_))));refine EL.call (cA1 cF41 rfl) rfl (QA3 (p.later k) ⟨_, _, _, _, vs, ss⟩ _ _ ⟨(hp.river.below (hbw.mono hB)).more (Nat.le_trans hB hbw.size), (hp.sides.below (hbw.mono hB)).more (Nat.le_trans hB hbw.size), by have key := rd_of_own hcl; rw [show (p.later k).way.length = p.way.length from Z2 _ _]; exact key⟩ (Nat.le_refl _) (hf.later k)) ?_
   rintro e w12 ⟨rfl, hc12⟩
   refine ⟨_, rfl, ?_⟩;replace q7 := q7.bl hc12;replace q10 := q10.bl hc12;replace hcl := own_below hcl hc12 (Nat.le_refl _);replace hbw := bo_ hbw hc12;clear hc12;refine EL.mv rfl rfl (EL.xt rfl rfl rfl (EL.xt rfl rfl rfl (EL.newP QDl rfl ?_)));intro g13 w13 q13 hb13 hg13 hl13;have n3_13 := q7.na hg13;have n5_13 := q10.na hg13;have bhbw_13 := Nat.le_trans hbw.size hg13;replace q7 := q7.bl hb13;replace q10 := q10.bl hb13;replace hcl := own_below hcl hb13 (Nat.le_refl _);replace hbw := bo_ hbw hb13;clear hb13 hg13 hl13;refine EL.store rfl rfl q13 QB3 rfl rfl rfl rfl ?_;intro w14 hq14 hg14;replace q7 := q7.gr hg14 n3_13;replace q10 := q10.gr hg14 n5_13;replace hcl := ZF hcl q13 rfl hg14;replace hbw := ZC hbw hg14 bhbw_13;replace q13 := hq14;clear hg14 hq14;refine EL.as rfl rfl (EL.nil (EX.seq (EC.seq (EC.block (EC.seq (EC.region (EL.mv rfl rfl ?_)))))))
   by_cases hK : sndE (p.later k) ≠ 0
   ·
    refine EL.val (Zq (r := true) rfl rfl (decide_eq_true hK)) rfl (EL.as rfl rfl (EL.nil (EX.seq (EC.yes rfl (EC.seq (EC.region (EL.as rfl rfl (EL.as rfl rfl (EL.nil ?_)))))))));refine EX.seq (EC.ret (EX.blk_ret (EX.seq_ret (EX.blk_ret (EX.seq_ret (EX.seq_ret (EX.blk_ret ?_)))))))
    exact EX.done (res2 rfl rfl rfl) ⟨⟨_, _, rfl, by rw [QAV, if_pos hsf]; exact ⟨k, hgd, .inl ⟨hK, rfl, rfl⟩⟩⟩, hbw⟩
   ·
    have hK := Classical.not_not.1 hK;have hkl := QJD hS hK;have hkb := hOk.keel;refine EL.val (Zq (r := false) rfl rfl (decide_eq_false (fun h => h hK))) rfl ?_
    refine EL.as rfl rfl (EL.nil (EX.seq (EC.no rfl (EC.seq (EC.region (EL.val (Yy rfl) rfl (EL.val (ZR rfl) rfl (EL.val (ld_3 rfl (q10.at (j := 3) rfl)) rfl (EL.val (QBq rfl) rfl ?_)))))))));refine EL.val (ld_3 rfl (q7.at (j := 4) rfl)) rfl ?_;refine EL.val (ZM rfl rfl (IntWalk.i64_in _ ⟨by omega, by omega⟩)) rfl ?_
    refine EL.val (QAv rfl) rfl (EL.val (ZS rfl) rfl (EL.val (ld_3 rfl (q13.at (j := 0) rfl)) rfl ?_))
    by_cases hN : (fltT h l d).deep.hi + p.keel ≤ (sndR (p.later k)).lo
    ·
     refine EL.val (QAa (r := true) rfl rfl (decide_eq_true hN)) rfl (EL.as rfl rfl (EL.nil (EX.seq (EC.yes rfl (EC.seq (EC.region (EL.mv rfl rfl (EL.as rfl rfl (EL.as rfl rfl ?_)))))))));refine EL.nil (EX.seq (EC.ret (EX.blk_ret (EX.seq_ret (EX.blk_ret (EX.seq_ret (EX.seq_ret (EX.blk_ret ?_))))))))
     exact EX.done (res2 rfl rfl rfl) ⟨⟨_, _, rfl, by rw [QAV, if_pos hsf]; exact ⟨k, hgd, .inr ⟨hK, hN, rfl, rfl⟩⟩⟩, hbw⟩
    ·
     have hgd2 : (∀ j : Nat, j < (k + 1) → sndE (p.later j) = 0 ∧ (sndR (p.later j)).lo < (fltT h l d).deep.hi + p.keel) := fun j hj => by
      by_cases e : j = k
      ·rw [e]; exact ⟨hK, by omega⟩
      ·exact hgd j (by omega)
     refine EL.val (QAa (r := false) rfl rfl (decide_eq_false hN)) rfl (EL.as rfl rfl (EL.nil (EX.seq (EC.no rfl (EC.skip (EX.blk (EX.seq (EC.seq (EC.region ?_)))))))));refine EL.val (QBD rfl) rfl (EL.val (QFU rfl (q7.at (j := 3) rfl)) rfl (EL.val (QFR rfl) rfl (EL.mv rfl rfl (EL.nil (EX.seq (EC.block ?_))))));have hcl0 : w14.ownsRow w.heap.size 85 3 (.slice (some ⟨gw, 0, none⟩) p.way.length cw) p.way.length (passesC (mixW 0 (Zk k p.way))) := by rw [QHl]; exact hcl
     refine EC.loopD [17, 65, 66, 67, 68, 69, 70, 71, 72, 73, 74, 75, 76, 77, 78, 79, 80, 81, 82, 83, 84, 85, 86, 87, 88, 89, 90] (fun x : Nat => [(65, .int .i64 (x : Nat))]) (fun x W => x ≤ p.way.length ∧ Blk W g3 53 #[.slice Av p.rv.reaches.length cv, .slice Au p.rv.shoals.length cu, .slice As p.sides.length cs, .slice (some ⟨gw, 0, none⟩) p.way.length cw, .int .i64 p.keel] ∧ Blk W g5 76 #[.int .i64 (fltT h l d).mean.lo, .int .i64 (fltT h l d).mean.hi, .int .i64 (fltT h l d).deep.lo, .int .i64 (fltT h l d).deep.hi, .int .i64 (fltT h l d).head] ∧ W.ownsRow w.heap.size 85 3 (.slice (some ⟨gw, 0, none⟩) p.way.length cw) p.way.length (passesC (mixW x (Zk k p.way))) ∧ Below w.heap.size w W) (fun x => p.way.length - x) 0 ⟨Nat.zero_le _, q7, q10, hcl0, hbw⟩ ⟨rfl, trivial⟩ ?_
     clear hcl0 hcl q7 q10 hbw
     rintro m wm ⟨hm, q7, q10, hcl, hbw⟩
     by_cases hltm : m < p.way.length
     ·
      have hmb := QDN hK hltm;have hma := QJ5 (m := m) (l := Zk k p.way) (by rw [Z2]; exact hltm)
      rw [QAf hltm] at hma;have hms := QHm (m := m) (l := Zk k p.way) (by rw [Z2]; exact hltm)
      rw [QAf hltm] at hms;have hml : (mixW m (Zk k p.way)).length = p.way.length := by rw [QIr, Z2]
      obtain ⟨x, ex⟩ : ∃ z, z = p.way.getD m pass0 := ⟨_, rfl⟩;rw [← ex] at hmb hma hms;obtain ⟨L, eL⟩ : ∃ z, z = mixW m (Zk k p.way) := ⟨_, rfl⟩;rw [← eL] at hcl hma hms hml;obtain ⟨bw_, ow_, ew_, _, pc⟩ := Yx L m (by omega) _ _ _ _ _ (rd_of_own hcl)
      injection ew_ with ew_
      injection ew_ with ew1_ ew2_
      subst ew1_ ew2_;rw [hma] at pc;have pc1 : wm.cell? ⟨gw, 0 + m * 3 + 1, none⟩ = some (.int .i64 (x.hours.lo + k)) := pc.c1;refine EC.seq (EC.region ?_);refine EL.val (ZO rfl rfl (decide_eq_true (show (((m : Nat) : Int) < ((p.way.length : Nat) : Int)) by omega))) rfl ?_
      refine EL.nil (EX.seq (EC.seq (EC.yes rfl (EC.skip (EX.seq (EC.seq (EC.block (EC.seq (EC.region ?_)))))))));refine EL.mv rfl rfl (EL.as rfl rfl (EL.nil (EX.seq (EC.seq (EC.region (EL.val (QBD rfl) rfl (EL.val (QFU rfl (q7.at (j := 3) rfl)) rfl (EL.mv rfl rfl (EL.val (QD6 rfl rfl hltm) rfl ?_)))))))));refine EL.val (Yk rfl) rfl (EL.val (ZS rfl) rfl (EL.val (ld_3 rfl pc1) rfl ?_));refine EL.val (ZM rfl rfl (IntWalk.i64_in _ ⟨by omega, by omega⟩)) rfl ?_
      refine EL.val (QD6 rfl rfl hltm) rfl (EL.val (Yk rfl) rfl (EL.val (ZS rfl) rfl ?_));refine EL.storeRow (l' := [.int .i64 (x.hours.lo + k + 1)]) rfl rfl hcl sz_3 rfl rfl (by rw [QAk, hml]; omega) rfl ?_
      intro w15 ho2 hgr;rw [spl_lo (by omega) (x.hours.lo + k + 1), hma] at ho2
      replace q7 := q7.grown hgr (fun h => QCe hcl q7 rfl (Option.some.inj h))
      replace q10 := q10.grown hgr (fun h => QCe hcl q10 rfl (Option.some.inj h))
      replace hbw := hbw.trans (Zb hcl hgr hbw.size);clear hcl hgr;have hcl := ho2;clear ho2;have hml2 : (L.set m ⟨x.place, ⟨x.hours.lo + k + 1, x.hours.hi + k⟩⟩).length = p.way.length := by rw [List.length_set]; exact hml
      have hma2 : (L.set m ⟨x.place, ⟨x.hours.lo + k + 1, x.hours.hi + k⟩⟩).getD m pass0 = ⟨x.place, ⟨x.hours.lo + k + 1, x.hours.hi + k⟩⟩ := by rw [Ye (by rw [hml2]; exact hltm)]; simp
      clear pc pc1;obtain ⟨bw_, ow_, ew_, _, pc2⟩ := Yx (L.set m ⟨x.place, ⟨x.hours.lo + k + 1, x.hours.hi + k⟩⟩) m (by rw [hml2]; exact hltm) _ _ _ _ _ (rd_of_own hcl)
      injection ew_ with ew_
      injection ew_ with ew1_ ew2_
      subst ew1_ ew2_;rw [hma2] at pc2;have pc2c : w15.cell? ⟨gw, 0 + m * 3 + 2, none⟩ = some (.int .i64 (x.hours.hi + k)) := pc2.c2;refine EL.nil (EX.seq (EC.region (EL.val (QBD rfl) rfl (EL.val (QFU rfl (q7.at (j := 3) rfl)) rfl (EL.mv rfl rfl (EL.val (QD6 rfl rfl hltm) rfl (EL.val (Yk rfl) rfl (EL.val (ZR rfl) rfl (EL.val (ld_3 rfl pc2c) rfl ?_)))))))));refine EL.val (ZM rfl rfl (IntWalk.i64_in _ ⟨by omega, by omega⟩)) rfl ?_
      refine EL.val (QD6 rfl rfl hltm) rfl (EL.val (Yk rfl) rfl (EL.val (ZR rfl) rfl ?_));refine EL.storeRow (l' := [.int .i64 (x.hours.hi + k + 1)]) rfl rfl hcl sz_3 rfl rfl (by rw [QAk, List.length_set, hml]; omega) rfl ?_
      intro w16 ho2 hgr;rw [spl_hi (by rw [hml2]; omega) (x.hours.hi + k + 1), hma2] at ho2
      replace q7 := q7.grown hgr (fun h => QCe hcl q7 rfl (Option.some.inj h))
      replace q10 := q10.grown hgr (fun h => QCe hcl q10 rfl (Option.some.inj h))
      replace hbw := hbw.trans (Zb hcl hgr hbw.size);clear hcl hgr;have hcl := ho2;clear ho2;refine EL.nil (EX.blk (EX.seq (EC.region ?_)));refine EL.val (ZM rfl rfl (c := ((m + 1 : Nat) : Int)) ((IntWalk.i64_in _ ⟨by first | omega | (simp only; omega), by first | omega | (simp only; omega)⟩).trans (by first | omega | (simp only; omega)))) rfl ?_
      refine EL.mv rfl rfl (EL.nil ?_);refine EX.roundD (m + 1) ⟨rfl, trivial⟩ (by repeat first | with_reducible exact .refl _ | refine sp_ rfl ?_ | exact .refl _ | refine sd_ rfl ?_ | refine sn_ ?_) ⟨by omega, q7, q10, by rw [hms, passUp, ← List.set_set (a := ⟨x.place, ⟨x.hours.lo + k + 1, x.hours.hi + k⟩⟩)]; exact hcl, hbw⟩ (by omega)
     ·
      obtain rfl : m = p.way.length := by omega
      have hlen2 := Z2 (k : Int) p.way;rw [show mixW p.way.length (Zk k p.way) = Zk ((k : Int) + 1) p.way by rw [← QEQ, ← QIs, hlen2]] at hcl
      refine EC.seq (EC.region ?_);refine EL.val (ZO rfl rfl (decide_eq_false (show ¬(((p.way.length : Nat) : Int) < ((p.way.length : Nat) : Int)) by omega))) rfl ?_
      refine EL.nil (EX.seq (EC.seq (EC.no rfl (EC.exit (EX.seq_exit (EX.seq_exit (EX.blk_here (EX.blk (EX.seq ?_)))))))));refine EC.region (EL.mv rfl rfl ?_);refine EL.val (ZM rfl rfl (c := ((k + 1 : Nat) : Int)) ((IntWalk.i64_in _ ⟨by first | omega | (simp only; omega), by first | omega | (simp only; omega)⟩).trans (by first | omega | (simp only; omega)))) rfl ?_
      refine EL.as rfl rfl (EL.nil ?_);refine EX.roundD (k + 1) ⟨rfl, trivial⟩ (by repeat first | with_reducible exact .refl _ | refine sp_ rfl ?_ | exact .refl _ | refine sd_ rfl ?_ | refine sn_ ?_) ⟨hgd2, q7, q10, hcl, hbw⟩ (by omega)
section
variable {n : Nat} {σ : Sg} {w : World} {dst : Option Tmp} {ty : TypeId} {pos : String} {af : Array Edge} {g : Option (Nat × Bool)} {x y z : Operand} {at' : Array TypeId}
theorem QBJ {A : Option Addr} {m c : Nat} (hx : evS σ x = some (.slice A m c)) : ZE Try.prog n σ w ⟨dst, .call { callee := .builtin .len, args := #[x], argTypes := #[22] }, ty, pos, af, g⟩ (.int .i64 (m : Int)) := fun a ha => by
 simp only [execOp, resolve, List.map_toArray, List.map_cons, List.map_nil, ha.eval hx]
 simp [go_sem]
theorem QCO {b o m c k : Nat} (hx : evS σ x = some (.slice (some ⟨b, o, none⟩) m c)) (hy : evS σ y = some (.int .i64 (k : Int))) (hk : k < m) : ZE Try.prog n σ w ⟨dst, .indexAddr 22 x y, ty, pos, af, g⟩ (.pointer (some ⟨b, o + k * 4, none⟩)) := fun a ha => by
 have k0 : (0 : Int) ≤ (k : Int) := Int.natCast_nonneg _;have k1 : (k : Int) < (m : Int) := by omega
 simp only [execOp, ha.eval hx, ha.eval hy]
 simp [go_sem, k0, k1]
theorem QKn {b o : Nat} {v0 v1 v2 v3 : Value} (hx : evS σ x = some (.pointer (some ⟨b, o, none⟩))) (c0 : w.cell? ⟨b, o, none⟩ = some v0) (c1 : w.cell? ⟨b, o + 1, none⟩ = some v1) (c2 : w.cell? ⟨b, o + 2, none⟩ = some v2) (c3 : w.cell? ⟨b, o + 3, none⟩ = some v3) : ZE Try.prog n σ w ⟨dst, .load 30 x, ty, pos, af, g⟩ (.agg #[v0, v1, v2, v3]) := fun a ha => by
 simp only [execOp, ha.eval hx]
 simp [go_sem, c0, c1, c2, c3]
theorem QEq {xf x0 : Operand} {v0 : Value} (hf : evS σ xf = some (.func (.func 33) #[] #[])) (h0 : evS σ x0 = some v0) (a : Act) (ha : Env n σ a) : (execOp a.eval ⟨dst, .call { callee := .value xf, args := #[x0], argTypes := at' }, ty, pos, af, g⟩).run Try.prog w = .ok (.enter 33 #[v0]) w := by
 simp only [execOp, resolve, List.map_toArray, List.map_cons, List.map_nil, ha.eval hf, ha.eval h0]
 simp [go_sem, Deferred.ofValue]
theorem cF52 : cF 52 := fun _ _ => by simp [go_sem]
theorem QLq {v0 v1 v2 v3 : Value} (hx : evS σ x = some (.agg #[v0, v1, v2, v3])) (a : Act) (ha : Env n σ a) : (execOp a.eval ⟨dst, .box 30 x, ty, pos, af, g⟩).run Try.prog w = .ok (.value (.pointer (some ⟨w.heap.size, 0, none⟩))) (w.alloc (.cells #[v0, v1, v2, v3] 30)) := by
 simp only [execOp, ha.eval hx]
 simp [go_sem]
theorem QAY {b o : Nat} (hx : evS σ x = some (.pointer (some ⟨b, o, none⟩))) : ZE Try.prog n σ w ⟨dst, .fieldAddr 30 x 0, ty, pos, af, g⟩ (.pointer (some ⟨b, o, none⟩)) := fun a ha => by
 simp only [execOp, ha.eval hx]
 simp [go_sem]
theorem QAX {b o : Nat} (hx : evS σ x = some (.pointer (some ⟨b, o, none⟩))) : ZE Try.prog n σ w ⟨dst, .fieldAddr 30 x 1, ty, pos, af, g⟩ (.pointer (some ⟨b, o + 2, none⟩)) := fun a ha => by
 simp only [execOp, ha.eval hx]
 simp [go_sem]
theorem cF32 : cF 32 := fun _ _ => by simp [go_sem]
theorem QLw (a : Act) (_ : Env n σ a) : (execOp a.eval ⟨dst, .alloc 30, ty, pos, af, g⟩).run Try.prog w = .ok (.value (.pointer (some ⟨w.heap.size, 0, none⟩))) (w.alloc (.cells #[.int .i64 0, .int .i64 0, .int .i64 0, .int .i64 0] 30)) := by
 simp only [execOp]
 simp [go_sem]
theorem QLg : (Try.prog.info? 30).map (·.size) = some 4 := by kernel_rfl
theorem cF36 : cF 36 := fun _ _ => by simp [go_sem]
end
set_option maxRecDepth 100000 in
theorem QFY (l : List Plate) (pred : Plate → Bool) (v : Value) (w : World) (B : Nat) (hr : Rd w B 4 v l.length (platesC l)) (hB : B ≤ w.heap.size) (hn : l.length ≤ 9223372036854775806) (hf : ∀ x ∈ l, ∀ W, Below w.heap.size w W → Calls Try.prog 33 #[.agg #[.int .i64 x.thick.lo, .int .i64 x.thick.hi, .int .i64 x.wear.lo, .int .i64 x.wear.hi]] W fun e w' => e = .returned (.bool (pred x)) ∧ Below W.heap.size W w') :
  Calls Try.prog 52 #[v, .func (.func 33) #[] #[]] w fun e w' => (∃ r : Int, e = .returned (.int .i64 r) ∧ decide (0 ≤ r) = l.any pred) ∧ Below w.heap.size w w' := by
 obtain ⟨A, c, rfl, _⟩ := hr.shape;have hbw := Below.refl w.heap.size w;refine EC.enter 19 Try.func52 rfl rfl rfl (EC.seq (EC.region (EL.as rfl rfl (EL.nil (EX.seq (EC.seq (EC.seq (EC.region (EL.mv rfl rfl ?_)))))))));refine EL.val (QBJ rfl) rfl (EL.mv rfl rfl (EL.nil (EX.seq (EC.block ?_))));refine EC.loopD [4, 5, 8, 9, 10, 11, 12, 13, 14, 15, 16, 17, 18] (fun x : Nat => [(8, .int .i64 (x : Nat))]) (fun x W => x ≤ l.length ∧ (l.take x).any pred = false ∧ Below w.heap.size w W) (fun x => l.length - x) 0 ⟨Nat.zero_le _, rfl, hbw⟩ ⟨rfl, trivial⟩ ?_
 clear hbw
 rintro k wk ⟨hk, hno, hbw⟩
 by_cases hlt : k < l.length
 ·
  obtain ⟨b, o, rfl, _, cc⟩ := Zv l k hlt w w.heap.size _ _ _ (hr.more hB);have hat := QDh (d := Zd) (p := pred) hlt;have hmem : l.getD k Zd ∈ l := by rw [Ye hlt]; exact List.getElem_mem hlt
  obtain ⟨x, ex⟩ : ∃ z, z = l.getD k Zd := ⟨_, rfl⟩;rw [← ex] at hat hmem cc;have hc := hf x hmem wk hbw;refine EC.seq (EC.region ?_);refine EL.val (ZO rfl rfl (by first | assumption | exact decide_eq_true (by omega))) rfl ?_
  refine EL.nil (EX.seq (EC.seq (EC.yes rfl (EC.skip (EX.seq (EC.seq (EC.block (EC.seq (EC.region ?_)))))))));refine EL.mv rfl rfl (EL.as rfl rfl (EL.nil (EX.seq (EC.seq (EC.region (EL.mv rfl rfl (EL.mv rfl rfl (EL.mv rfl rfl (EL.val (QCO rfl rfl hlt) rfl ?_)))))))));refine EL.val (QKn rfl (ZD hbw cc.c0) (ZD hbw cc.c1) (ZD hbw cc.c2) (ZD hbw cc.c3)) rfl (EL.call (QEq rfl rfl) rfl hc ?_)
  rintro e w2 ⟨rfl, hc2⟩
  refine ⟨_, rfl, ?_⟩;replace hbw := bo_ hbw hc2;clear hc2;refine EL.nil (EX.seq ?_)
  cases hp : pred x
  ·
   refine EC.no rfl (EC.skip (EX.blk (EX.seq (EC.region ?_))));refine EL.val (ZM rfl rfl (by first | assumption | exact IntWalk.i64_in _ ⟨by omega, by omega⟩)) rfl ?_
   refine EL.mv rfl rfl (EL.nil ?_);refine EX.roundD (k + 1) ⟨rfl, trivial⟩ (by repeat first | with_reducible exact .refl _ | refine sp_ rfl ?_ | exact .refl _ | refine sd_ rfl ?_ | refine sn_ ?_) ⟨hlt, by rw [hat, hno, hp]; rfl, hbw⟩ (by omega)
  ·
   refine EC.yes rfl (EC.seq (EC.region (EL.mv rfl rfl (EL.as rfl rfl (EL.nil (EX.seq (EC.ret (EX.blk_ret (EX.seq_ret ?_)))))))));refine EX.seq_ret (EX.blk_ret (EX.seq_ret ?_))
   exact EX.done (res1 rfl rfl) ⟨⟨_, rfl, by rw [QGT hlt (ex ▸ hp)]; exact decide_eq_true (by omega)⟩, hbw⟩
 ·
  obtain rfl : k = l.length := by omega
  rw [List.take_length] at hno;refine EC.seq (EC.region ?_);refine EL.val (ZO rfl rfl (by first | assumption | exact decide_eq_false (by omega))) rfl ?_
  refine EL.nil (EX.seq (EC.seq (EC.no rfl (EC.exit (EX.seq_exit (EX.seq_exit (EX.blk_here (EX.seq (EC.seq ?_)))))))));refine EC.region (EL.as rfl rfl (EL.nil (EX.seq (EC.ret ?_))))
  exact EX.done (res1 rfl rfl) ⟨⟨_, rfl, by rw [hno]; rfl⟩, hbw⟩
theorem QAw (l : List Plate) (pred : Plate → Bool) (v : Value) (w : World) (B : Nat) (hr : Rd w B 4 v l.length (platesC l)) (hB : B ≤ w.heap.size) (hn : l.length ≤ 9223372036854775806) (hf : ∀ x ∈ l, ∀ W, Below w.heap.size w W → Calls Try.prog 33 #[.agg #[.int .i64 x.thick.lo, .int .i64 x.thick.hi, .int .i64 x.wear.lo, .int .i64 x.wear.hi]] W fun e w' => e = .returned (.bool (pred x)) ∧ Below W.heap.size W w') :
  Calls Try.prog 32 #[v, .func (.func 33) #[] #[]] w fun e w' => e = .returned (.bool (l.any pred)) ∧ Below w.heap.size w w' := by
 have hbw := Below.refl w.heap.size w;refine EC.enter 9 Try.func32 rfl rfl rfl (EC.seq (EC.region (EL.as rfl rfl (EL.nil (EX.seq (EC.seq (EC.region (EL.mv rfl rfl (EL.mv rfl rfl ?_)))))))));refine EL.call (cA2 cF52 rfl rfl) rfl (QFY l pred  _ w B hr hB hn hf) ?_
 rintro e w2 ⟨⟨r, rfl, hres⟩, hc2⟩
 refine ⟨_, rfl, ?_⟩;replace hbw := bo_ hbw hc2;refine EL.val (QAA rfl rfl hres) rfl (EL.as rfl rfl (EL.nil (EX.seq (EC.ret ?_))))
 exact EX.done (res1 rfl rfl) ⟨rfl, hbw⟩
theorem QD4 (x : Plate) (w : World) : Calls Try.prog 33 #[.agg #[.int .i64 x.thick.lo, .int .i64 x.thick.hi, .int .i64 x.wear.lo, .int .i64 x.wear.hi]] w fun e w' => e = .returned (.bool (!Z3 x)) ∧ Below w.heap.size w w' := by
 have hbw := Below.refl w.heap.size w;refine EC.enter 13 Try.func33 rfl rfl rfl (EC.seq (EC.region (EL.newP (QLq rfl) rfl ?_)));intro g1 w1 q1 hb1 hg1 hl1;have bhbw_1 := Nat.le_trans hbw.size hg1;replace hbw := bo_ hbw hb1;clear hb1 hg1 hl1;refine EL.as rfl rfl (EL.nil (EX.seq (EC.seq (EC.region (EL.val (QAY rfl) rfl (EL.val (Zp rfl (q1.at (j := 0) rfl) (q1.at (j := 1) rfl)) rfl ?_))))))
 cases h1 : bdOk 0 100000 x.thick
 ·
  refine EL.call (cA3 cF34 rfl rfl rfl) rfl (QBn h1 _) ?_
  rintro e w2 ⟨rfl, hc2⟩
  refine ⟨_, rfl, ?_⟩;replace q1 := q1.bl hc2;replace hbw := bo_ hbw hc2;clear hc2;refine EL.val (ZV rfl) rfl (EL.mv rfl rfl (EL.skip rfl rfl rfl rfl (EL.skip rfl rfl rfl rfl (EL.skip rfl rfl rfl rfl (EL.skip rfl rfl rfl rfl (EL.pt rfl rfl rfl (EL.as rfl rfl (EL.nil (EX.seq ?_)))))))));refine EC.ret ?_
  exact EX.done (res1 rfl rfl) ⟨by congr 2; simp [Z3, *], hbw⟩
 ·
  refine EL.call (cA3 cF34 rfl rfl rfl) rfl (QBn h1 _) ?_
  rintro e w3 ⟨rfl, hc3⟩
  refine ⟨_, rfl, ?_⟩;replace q1 := q1.bl hc3;replace hbw := bo_ hbw hc3;clear hc3;refine EL.val (ZV rfl) rfl (EL.mv rfl rfl (EL.valg rfl rfl (QAX rfl) rfl (EL.valg rfl rfl (Zp rfl (q1.at (j := 2) rfl) (q1.at (j := 3) rfl)) rfl ?_)))
  cases h2 : bdOk 0 1000 x.wear
  ·
   refine EL.callg rfl rfl (cA3 cF34 rfl rfl rfl) rfl (QBn h2 _) ?_
   rintro e w4 ⟨rfl, hc4⟩
   refine ⟨_, rfl, ?_⟩;replace q1 := q1.bl hc4;replace hbw := bo_ hbw hc4;clear hc4;refine EL.valg rfl rfl (ZV rfl) rfl (EL.pf rfl rfl rfl (EL.as rfl rfl (EL.nil (EX.seq (EC.ret ?_)))))
   exact EX.done (res1 rfl rfl) ⟨by congr 2; simp [Z3, *], hbw⟩
  ·
   refine EL.callg rfl rfl (cA3 cF34 rfl rfl rfl) rfl (QBn h2 _) ?_
   rintro e w5 ⟨rfl, hc5⟩
   refine ⟨_, rfl, ?_⟩;replace q1 := q1.bl hc5;replace hbw := bo_ hbw hc5;clear hc5;refine EL.valg rfl rfl (ZV rfl) rfl (EL.pf rfl rfl rfl (EL.as rfl rfl (EL.nil (EX.seq (EC.ret ?_)))))
   exact EX.done (res1 rfl rfl) ⟨by congr 2; simp [Z3, *], hbw⟩
theorem QB1 (th we m : Int) (h1 : 0 ≤ th ∧ th ≤ 100000) (hw : 0 ≤ we ∧ we ≤ 1000) (hm : 0 ≤ m ∧ m ≤ 100000) (w : World) : Calls Try.prog 36 #[.int .i64 th, .int .i64 we, .int .i64 m] w fun e w' => e = .returned (.int .i64 (Zx th we m)) ∧ Below w.heap.size w w' := by
 have hth := h1;clear h1;have hbw := Below.refl w.heap.size w;refine EC.enter 20 Try.func36 rfl rfl rfl (EC.seq (EC.region (EL.as rfl rfl (EL.nil (EX.seq (EC.seq (EC.block (EC.seq (EC.region ?_)))))))));refine EL.mv rfl rfl (EL.mv rfl rfl ?_)
 by_cases h1 : th < m
 ·
  refine EL.val (ZO (r := true) rfl rfl (decide_eq_true h1)) rfl (EL.as rfl rfl (EL.nil (EX.seq (EC.yes rfl (EC.seq (EC.region (EL.as rfl rfl (EL.nil (EX.seq ?_)))))))));refine EC.ret (EX.blk_ret (EX.seq_ret ?_))
  exact EX.done (res1 rfl rfl) ⟨by rw [Zx, if_pos h1], hbw⟩
 ·
  refine EL.val (ZO (r := false) rfl rfl (decide_eq_false h1)) rfl (EL.as rfl rfl (EL.nil (EX.seq (EC.no rfl (EC.seq (EC.region (EL.mv rfl rfl ?_)))))))
  by_cases h2 : we = 0
  ·
   refine EL.val (Zg (r := true) rfl rfl (decide_eq_true h2)) rfl (EL.as rfl rfl (EL.nil (EX.seq (EC.yes rfl (EC.seq (EC.region (EL.as rfl rfl (EL.nil (EX.seq ?_)))))))));refine EC.ret (EX.blk_ret (EX.seq_ret ?_))
   exact EX.done (res1 rfl rfl) ⟨by rw [Zx, if_neg h1, if_pos h2], hbw⟩
  ·
   have hq0 : 0 ≤ (th - m) / we := Int.ediv_nonneg (by omega) (by omega)
   have hq1 : (th - m) / we ≤ 200000 := QCj (by omega) (by have h9 : (200000 : Int) * 1 ≤ 200000 * we := Int.mul_le_mul_of_nonneg_left (by omega) (by omega); omega)
   refine EL.val (Zg (r := false) rfl rfl (decide_eq_false h2)) rfl (EL.as rfl rfl (EL.nil (EX.seq (EC.no rfl (EC.skip (EX.blk (EX.seq (EC.seq (EC.region ?_)))))))));refine EL.mv rfl rfl (EL.mv rfl rfl ?_);refine EL.val (Z4 rfl rfl (IntWalk.i64_in _ ⟨by omega, by omega⟩)) rfl ?_
   refine EL.mv rfl rfl ?_;refine EL.val (QGY rfl rfl (c := (th - m) / we) (by omega) (by rw [Int.tdiv_eq_ediv_of_nonneg (by omega)]; exact IntWalk.i64_in _ ⟨by omega, by omega⟩)) rfl ?_
   refine EL.val (QCA rfl rfl rfl) rfl (EL.as rfl rfl (EL.nil (EX.seq (EC.ret ?_))))
   exact EX.done (res1 rfl rfl) ⟨by rw [Zx, if_neg h1, if_neg h2], hbw⟩
theorem QC2 {P : Program} {n : Nat} {σ : Sg} {w : World} {fn : Func} {c s1 s2 : Tmp} {t : TypeId} {p : Addr} {v u1 u2 : Value} (h : fn.results = #[.cell c t, .tmp s1, .tmp s2]) (hc : σ c = some (.pointer (some p))) (h1 : σ s1 = some u1) (h2 : σ s2 = some u2) (hl : (loadVar t p).run P w = .ok v w) (a : Act) (ha : Env n σ a) : (results fn a.tmps).run P w = .ok (.tuple #[v, u1, u2]) w := by
 have e1 : a.tmps.getD c undef = .pointer (some p) := ha.eval (x := .tmp c) hc;have e2 : a.tmps.getD s1 undef = u1 := ha.eval (x := .tmp s1) h1;have e3 : a.tmps.getD s2 undef = u2 := ha.eval (x := .tmp s2) h2;rw [Array.getD_eq_getD_getElem?] at e1 e2 e3
 simp [results, h, e1, e2, e3, asAddr, hl]
/-- what Life returns -/
def Yq (l : List Plate) (least : Int) : LifeV := if Yr l least = 0 then QLl l least else ⟨0, 0, 0⟩
section
variable {l : List Plate} {least : Int}
theorem QEc (h1 : l.length = 0) : Yr l least = 4 ∧ Yq l least = ⟨0, 0, 0⟩ := by simp [Yq, Yr, h1]
theorem QI7 (h1 : ¬ l.length = 0) (h2 : 50 < l.length) : Yr l least = 5 ∧ Yq l least = ⟨0, 0, 0⟩ := by
 have : Yr l least = 5 := by rw [Yr, if_neg h1, if_pos h2]
 exact ⟨this, by rw [Yq, this]; rfl⟩
theorem QI9 (h1 : ¬ l.length = 0) (h2 : ¬ 50 < l.length) (h3 : l.all Z3 = false) : Yr l least = 2 ∧ Yq l least = ⟨0, 0, 0⟩ := by
 have : Yr l least = 2 := by rw [Yr, if_neg h1, if_neg h2, if_pos h3]
 exact ⟨this, by rw [Yq, this]; rfl⟩
theorem QI8 (h1 : ¬ l.length = 0) (h2 : ¬ 50 < l.length) (h3 : l.all Z3 = true) (h4 : inB 0 100000 least = false) : Yr l least = 3 ∧ Yq l least = ⟨0, 0, 0⟩ := by
 have : Yr l least = 3 := by rw [Yr, if_neg h1, if_neg h2, if_neg (by rw [h3]; decide), if_pos h4]
 exact ⟨this, by rw [Yq, this]; rfl⟩
theorem QDM (h1 : ¬ l.length = 0) (h2 : ¬ 50 < l.length) (h3 : l.all Z3 = true) (h4 : inB 0 100000 least = true) : Yr l least = 0 ∧ Yq l least = YO 1001 least l l.length := by
 have : Yr l least = 0 := by rw [Yr, if_neg h1, if_neg h2, if_neg (by rw [h3]; decide), if_neg (by rw [h4]; decide)]
 exact ⟨this, by rw [Yq, this]; rfl⟩
end
set_option maxRecDepth 100000 in
theorem QDL (l : List Plate) (v : Value) (least : Int) (w : World) (B : Nat) (hr : Rd w B 4 v l.length (platesC l)) (hB : B ≤ w.heap.size) (hn : l.length ≤ 1048576) :
  Calls Try.prog 11 #[v, .int .i64 least] w fun e w' => e = .returned (.tuple #[.agg #[.int .i64 (Yq l least).lo, .int .i64 (Yq l least).hi], .int .i64 (Yq l least).plate, .int .i64 (Yr l least)]) ∧ Below w.heap.size w w' := by
 obtain ⟨A, c, rfl, _⟩ := hr.shape;have hbw := Below.refl w.heap.size w;refine EC.enter 68 Try.func11 rfl rfl rfl (EC.seq (EC.region (EL.newP QAO rfl ?_)));intro g1 w1 q1 hb1 hg1 hl1;have bhbw_1 := Nat.le_trans hbw.size hg1;replace hbw := bo_ hbw hb1;clear hb1 hg1 hl1;refine EL.as rfl rfl (EL.as rfl rfl (EL.nil (EX.seq (EC.seq (EC.block (EC.seq (EC.region (EL.mv rfl rfl (EL.val (QBJ rfl) rfl ?_)))))))))
 by_cases h1 : l.length = 0
 ·
  refine EL.val (Zg (r := true) rfl rfl (decide_eq_true (by omega))) rfl ?_
  refine EL.as rfl rfl (EL.nil (EX.seq (EC.yes rfl (EC.seq (EC.region (EL.val (Zp rfl (q1.at (j := 0) rfl) (q1.at (j := 1) rfl)) rfl (EL.store rfl rfl q1 Z7 rfl rfl rfl rfl ?_)))))));intro w2 hq2 hg2;replace hbw := ZC hbw hg2 bhbw_1;replace q1 := hq2;clear hg2 hq2;refine EL.as rfl rfl (EL.as rfl rfl (EL.nil (EX.seq (EC.ret (EX.blk_ret (EX.seq_ret ?_))))))
  exact EX.done (QC2 rfl rfl rfl rfl (QAK (q1.at (j := 0) rfl) (q1.at (j := 1) rfl))) ⟨by rw [(QEc h1).1, (QEc h1).2] <;> rfl, hbw⟩
 ·
  refine EL.val (Zg (r := false) rfl rfl (decide_eq_false (by omega))) rfl ?_
  refine EL.as rfl rfl (EL.nil (EX.seq (EC.no rfl (EC.seq (EC.region (EL.mv rfl rfl (EL.val (QBJ rfl) rfl ?_)))))))
  by_cases h2 : 50 < l.length
  ·
   refine EL.val (YP (r := true) rfl rfl (decide_eq_true (by omega))) rfl ?_
   refine EL.as rfl rfl (EL.nil (EX.seq (EC.yes rfl (EC.seq (EC.region (EL.val (Zp rfl (q1.at (j := 0) rfl) (q1.at (j := 1) rfl)) rfl (EL.store rfl rfl q1 Z7 rfl rfl rfl rfl ?_)))))));intro w3 hq3 hg3;replace hbw := ZC hbw hg3 bhbw_1;replace q1 := hq3;clear hg3 hq3;refine EL.as rfl rfl (EL.as rfl rfl (EL.nil (EX.seq (EC.ret (EX.blk_ret (EX.seq_ret ?_))))))
   exact EX.done (QC2 rfl rfl rfl rfl (QAK (q1.at (j := 0) rfl) (q1.at (j := 1) rfl))) ⟨by rw [(QI7 h1 h2).1, (QI7 h1 h2).2] <;> rfl, hbw⟩
  ·
   refine EL.val (YP (r := false) rfl rfl (decide_eq_false (by omega))) rfl ?_
   refine EL.as rfl rfl (EL.nil (EX.seq (EC.no rfl (EC.seq (EC.region (EL.mv rfl rfl ?_))))))
   cases h3 : l.all Z3
   ·
    refine EL.call (cA2 cF32 rfl rfl) rfl (by have key := QAw l (fun x => !Z3 x) _ w1 B (hr.below (hbw.mono hB)) (Nat.le_trans hB hbw.size) (by omega) (fun x _ W hb => QD4 x W); rw [← QJi, h3] at key; exact key) ?_
    rintro e w4 ⟨rfl, hc4⟩
    refine ⟨_, rfl, ?_⟩;replace q1 := q1.bl hc4;replace hbw := bo_ hbw hc4;clear hc4;refine EL.as rfl rfl (EL.nil (EX.seq (EC.yes rfl (EC.seq (EC.region (EL.val (Zp rfl (q1.at (j := 0) rfl) (q1.at (j := 1) rfl)) rfl (EL.store rfl rfl q1 Z7 rfl rfl rfl rfl ?_)))))));intro w5 hq5 hg5;replace hbw := ZC hbw hg5 bhbw_1;replace q1 := hq5;clear hg5 hq5;refine EL.as rfl rfl (EL.as rfl rfl (EL.nil (EX.seq (EC.ret (EX.blk_ret (EX.seq_ret ?_))))))
    exact EX.done (QC2 rfl rfl rfl rfl (QAK (q1.at (j := 0) rfl) (q1.at (j := 1) rfl))) ⟨by rw [(QI9 h1 h2 h3).1, (QI9 h1 h2 h3).2] <;> rfl, hbw⟩
   ·
    have hpl := List.all_eq_true.1 h3;refine EL.call (cA2 cF32 rfl rfl) rfl (by have key := QAw l (fun x => !Z3 x) _ w1 B (hr.below (hbw.mono hB)) (Nat.le_trans hB hbw.size) (by omega) (fun x _ W hb => QD4 x W); rw [← QJi, h3] at key; exact key) ?_
    rintro e w6 ⟨rfl, hc6⟩
    refine ⟨_, rfl, ?_⟩;replace q1 := q1.bl hc6;replace hbw := bo_ hbw hc6;clear hc6;refine EL.as rfl rfl (EL.nil (EX.seq (EC.no rfl (EC.seq (EC.region (EL.mv rfl rfl (EL.newS (Zt rfl) rfl ?_)))))));intro g7 w7 q7 hb7 hg7 hl7;have n1_7 := q1.na hg7;have bhbw_7 := Nat.le_trans hbw.size hg7;replace q1 := q1.bl hb7;replace hbw := bo_ hbw hb7;clear hb7 hg7 hl7
    cases h4 : inB 0 100000 least
    ·
     refine EL.call (cA3 cF35 rfl rfl rfl) rfl (ZW q7 h4) ?_
     rintro e w8 ⟨rfl, hc8⟩
     refine ⟨_, rfl, ?_⟩;replace q1 := q1.bl hc8;replace q7 := q7.bl hc8;replace hbw := bo_ hbw hc8;clear hc8;refine EL.val (ZV rfl) rfl (EL.as rfl rfl (EL.nil (EX.seq (EC.yes rfl (EC.seq (EC.region (EL.val (Zp rfl (q1.at (j := 0) rfl) (q1.at (j := 1) rfl)) rfl (EL.store rfl rfl q1 Z7 rfl rfl rfl rfl ?_))))))));intro w9 hq9 hg9;replace q7 := q7.gr hg9 n1_7.symm;replace hbw := ZC hbw hg9 bhbw_1;replace q1 := hq9;clear hg9 hq9;refine EL.as rfl rfl (EL.as rfl rfl (EL.nil (EX.seq (EC.ret (EX.blk_ret (EX.seq_ret ?_))))))
     exact EX.done (QC2 rfl rfl rfl rfl (QAK (q1.at (j := 0) rfl) (q1.at (j := 1) rfl))) ⟨by rw [(QI8 h1 h2 h3 h4).1, (QI8 h1 h2 h3 h4).2] <;> rfl, hbw⟩
    ·
     refine EL.call (cA3 cF35 rfl rfl rfl) rfl (ZW q7 h4) ?_
     rintro e w10 ⟨rfl, hc10⟩
     refine ⟨_, rfl, ?_⟩;replace q1 := q1.bl hc10;replace q7 := q7.bl hc10;replace hbw := bo_ hbw hc10;clear hc10;refine EL.val (ZV rfl) rfl (EL.as rfl rfl (EL.nil (EX.seq (EC.no rfl (EC.skip (EX.blk (EX.seq (EC.seq (EC.region ?_)))))))));refine EL.val (Zu rfl rfl) rfl (EL.store rfl rfl q1 Z7 rfl rfl rfl rfl ?_);intro w11 hq11 hg11;replace q7 := q7.gr hg11 n1_7.symm;replace hbw := ZC hbw hg11 bhbw_1;replace q1 := hq11;clear hg11 hq11;refine EL.nil (EX.seq (EC.seq (EC.seq (EC.region (EL.mv rfl rfl (EL.val (QBJ rfl) rfl (EL.mv rfl rfl (EL.nil (EX.seq ?_)))))))));refine EC.block ?_;have hle := inB_iff.1 h4;refine EC.loopD [5, 7, 8, 9, 33, 34, 35, 36, 37, 38, 39, 40, 41, 42, 43, 44, 45, 46, 47, 48, 49, 50, 51, 52, 53, 54, 55, 56, 57, 58, 59, 60, 61, 62, 63, 64, 65] (fun k : Nat => [(5, .int .i64 (YO 1001 least l k).plate), (33, .int .i64 (k : Nat))]) (fun k W => k ≤ l.length ∧ Blk W g1 25 #[.int .i64 (YO 1001 least l k).lo, .int .i64 (YO 1001 least l k).hi] ∧ Below w.heap.size w W) (fun k => l.length - k) 0 ⟨Nat.zero_le _, q1, hbw⟩ ⟨rfl, rfl, trivial⟩ ?_
     clear q1 hbw
     rintro k wk ⟨hk, q1, hbw⟩
     by_cases hltk : k < l.length
     ·
      obtain ⟨b, o, rfl, _, cc⟩ := Zv l k hltk w B _ _ _ hr;have hp := hpl _ (getD_mem (d := Zd) hltk);have hkb := QFS (b0 := 1001) (least := least) (l := l) (by omega) hpl k hk
      have hst : YO 1001 least l (k + 1) = Y5 least (YO 1001 least l k) (l.getD k Zd) k := rfl;obtain ⟨x, ex⟩ : ∃ z, z = l.getD k Zd := ⟨_, rfl⟩;rw [← ex] at cc hp hst;have hy := QGq hp least
      simp only [Z3, bdOk, Bool.and_eq_true, inB_iff, decide_eq_true_eq] at hp
      obtain ⟨S, eS⟩ : ∃ z, z = YO 1001 least l k := ⟨_, rfl⟩;rw [← eS] at hkb hst q1 ⊢;refine EC.seq (EC.region ?_);refine EL.val (ZO rfl rfl (decide_eq_true (show (((k : Nat) : Int) < ((l.length : Nat) : Int)) by omega))) rfl ?_
      refine EL.nil (EX.seq (EC.seq (EC.yes rfl (EC.skip (EX.seq (EC.seq (EC.block (EC.seq (EC.region ?_)))))))));refine EL.mv rfl rfl (EL.val (QCO rfl rfl hltk) rfl (EL.val (QKn rfl (ZD hbw cc.c0) (ZD hbw cc.c1) (ZD hbw cc.c2) (ZD hbw cc.c3)) rfl (EL.newP QLw rfl ?_)));intro g12 w12 q12 hb12 hg12 hl12;have n1_12 := q1.na hg12;have bhbw_12 := Nat.le_trans hbw.size hg12;replace q1 := q1.bl hb12;replace hbw := bo_ hbw hb12;clear hb12 hg12 hl12;refine EL.as rfl rfl (EL.store rfl rfl q12 QLg rfl rfl rfl rfl ?_);intro w13 hq13 hg13;replace q1 := q1.gr hg13 n1_12;replace hbw := ZC hbw hg13 bhbw_12;replace q12 := hq13;clear hg13 hq13;refine EL.nil (EX.seq (EC.seq (EC.seq (EC.region (EL.val (QAY rfl) rfl (EL.val (ZS rfl) rfl (EL.val (ld_3 rfl (q12.at (j := 0) rfl)) rfl (EL.val (QAX rfl) rfl (EL.val (ZR rfl) rfl ?_)))))))));refine EL.val (ld_3 rfl (q12.at (j := 3) rfl)) rfl (EL.mv rfl rfl ?_);refine EL.call (cA3 cF36 rfl rfl rfl) rfl (QB1 x.thick.lo x.wear.hi least (by omega) (by omega) (by omega) _) ?_
      rintro e w14 ⟨rfl, hc14⟩
      refine ⟨_, rfl, ?_⟩;replace q1 := q1.bl hc14;replace q12 := q12.bl hc14;replace hbw := bo_ hbw hc14;clear hc14;refine EL.as rfl rfl (EL.nil (EX.seq (EC.seq (EC.region (EL.mv rfl rfl (EL.val (ZS rfl) rfl (EL.val (ld_3 rfl (q1.at (j := 0) rfl)) rfl ?_)))))))
      by_cases hlt : yLo least x < S.lo
      ·
       refine EL.val (ZO (r := true) rfl rfl (decide_eq_true hlt)) rfl (EL.nil (EX.seq (EC.yes rfl (EC.region (EL.mv rfl rfl (EL.mv rfl rfl (EL.val (ZS rfl) rfl (EL.store rfl rfl q1 sz_3 rfl rfl rfl rfl ?_))))))));intro w15 hq15 hg15;replace q12 := q12.gr hg15 n1_12.symm;replace hbw := ZC hbw hg15 bhbw_1;replace q1 := hq15;clear hg15 hq15;refine EL.as rfl rfl (EL.nil (EX.seq ?_));have lt_1 := q1.lt;have lt_12 := q12.lt;refine EC.regionP [[], [0], [], [2], [2, 3], [], [5], [5, 6], [], [2, 3, 4, 5, 6, 7, 8], [0, 1, 2, 3, 4, 5, 6, 7, 8, 9], [0, 1, 2, 3, 4, 5, 6, 7, 8, 9, 10], [0, 1, 2, 3, 4, 5, 6, 7, 8, 9, 10, 11]] 11 [] (phi (fun i_ r => match i_ with | 0 => r 0 = .pointer (some ⟨g1, 1, none⟩) | 1 => r 1 = .int .i64 S.hi | 2 => r 2 = .pointer (some ⟨g12, 0, none⟩) | 3 => r 3 = .pointer (some ⟨g12, 1, none⟩) | 4 => r 4 = .int .i64 x.thick.hi | 5 => r 5 = .pointer (some ⟨g12, 2, none⟩) | 6 => r 6 = .pointer (some ⟨g12, 2, none⟩) | 7 => r 7 = .int .i64 x.wear.lo | 8 => r 8 = .int .i64 least | 9 => r 9 = .int .i64 (yHi least x) | 10 => r 10 = .int .i64 (min S.hi (yHi least x)) | _ => True) []) (by kernel_rfl) rfl rfl (ZY) (fun i_ hi_ => ?_) ?_
       ·match i_, hi_ with
        | 0, _ =>
         intro val w1 a hb ha hd;have ha := ha.s0 (d := 4) rfl
         exact ZB ha rfl rfl (ZR rfl) rfl rfl
        | 1, _ =>
         intro val w1 a hb ha hd;have e0 : val 0 = _ := hd 0 (ZA.1 rfl);have ha := ha.s1 (d := 53) rfl e0
         exact ZB ha rfl rfl (ld_3 rfl ((q1.below hb q1.lt).at (j := 1) rfl)) rfl rfl
        | 2, _ =>
         intro val w1 a hb ha hd;have ha := ha.s0 (d := 8) rfl
         exact ZB ha rfl rfl (QAY rfl) rfl rfl
        | 3, _ =>
         intro val w1 a hb ha hd;have e2 : val 2 = _ := hd 2 (ZA.1 rfl);have ha := ha.s1 (d := 55) rfl e2
         exact ZB ha rfl rfl (ZR rfl) rfl rfl
        | 4, _ =>
         intro val w1 a hb ha hd;have e3 : val 3 = _ := hd 3 (ZA.1 rfl);have ha := ha.s1 (d := 56) rfl e3
         exact ZB ha rfl rfl (ld_3 rfl ((q12.below hb q12.lt).at (j := 1) rfl)) rfl rfl
        | 5, _ =>
         intro val w1 a hb ha hd;have ha := ha.s0 (d := 8) rfl
         exact ZB ha rfl rfl (QAX rfl) rfl rfl
        | 6, _ =>
         intro val w1 a hb ha hd;have e5 : val 5 = _ := hd 5 (ZA.1 rfl);have ha := ha.s1 (d := 58) rfl e5
         exact ZB ha rfl rfl (ZS rfl) rfl rfl
        | 7, _ =>
         intro val w1 a hb ha hd;have e6 : val 6 = _ := hd 6 (ZA.1 rfl);have ha := ha.s1 (d := 59) rfl e6
         exact ZB ha rfl rfl (ld_3 rfl ((q12.below hb q12.lt).at (j := 2) rfl)) rfl rfl
        | 8, _ =>
         intro val w1 a hb ha hd;have ha := ha.s0 (d := 1) rfl
         exact ZB ha rfl rfl (ZH rfl) rfl rfl
        | 9, _ =>
         intro val w1 a hb ha hd;have e4 : val 4 = _ := hd 4 (ZA.1 rfl);have e7 : val 7 = _ := hd 7 (ZA.1 rfl);have e8 : val 8 = _ := hd 8 (ZA.1 rfl);have ha := ha.sub (Sub.ins (d := 61) (Sub.ins (d := 60) (Sub.ins (d := 57) (Sub.nil _) (ZI rfl e4)) (ZI rfl e7)) (ZI rfl e8));refine Zf ha rfl rfl (cA3 cF36 rfl rfl rfl) (QB1 x.thick.hi x.wear.lo least (by omega) (by omega) (by omega) _) rfl ?_
         rintro e w' ⟨rfl, hb'⟩
         exact ⟨_, rfl, hb', rfl⟩
        | 10, _ =>
         intro val w1 a hb ha hd;have e1 : val 1 = _ := hd 1 (ZA.1 rfl);have e9 : val 9 = _ := hd 9 (ZA.1 rfl);have ha := ha.s2 (d := 62) (e := 54) rfl e9 rfl e1
         exact ZB ha rfl rfl (QCA rfl rfl rfl) rfl rfl
        | k + 11, h => exact absurd h (by omega)
       ·intro val wR16 hb halc hd
        have e0 : val 0 = _ := hd 0 (by omega)
        have e1 : val 1 = _ := hd 1 (by omega)
        have e2 : val 2 = _ := hd 2 (by omega)
        have e3 : val 3 = _ := hd 3 (by omega)
        have e4 : val 4 = _ := hd 4 (by omega)
        have e5 : val 5 = _ := hd 5 (by omega)
        have e6 : val 6 = _ := hd 6 (by omega)
        have e7 : val 7 = _ := hd 7 (by omega)
        have e8 : val 8 = _ := hd 8 (by omega)
        have e9 : val 9 = _ := hd 9 (by omega)
        have e10 : val 10 = _ := hd 10 (by omega)
        refine EL.ends (cs := [_, _, _, _, _, _, _, _, _, _, _]) ⟨e0, e1, e2, e3, e4, e5, e6, e7, e8, e9, e10, trivial⟩ rfl ?_;replace q1 := q1.bl hb;replace q12 := q12.bl hb;replace hbw := bo_ hbw hb;clear hb;refine EL.val (ZR rfl) rfl (EL.store rfl rfl q1 sz_3 rfl rfl rfl rfl ?_);intro w16 hq16 hg16;replace q12 := q12.gr hg16 n1_12.symm;replace hbw := ZC hbw hg16 bhbw_1;replace q1 := hq16;clear hg16 hq16;refine EL.nil (EX.blk (EX.seq (EC.region ?_)));refine EL.val (ZM rfl rfl (c := ((k + 1 : Nat) : Int)) ((IntWalk.i64_in _ ⟨by first | omega | (simp only; omega), by first | omega | (simp only; omega)⟩).trans (by first | omega | (simp only; omega)))) rfl ?_
        refine EL.mv rfl rfl (EL.nil ?_);refine EX.roundD (k + 1) ⟨by rw [hst, QAE hlt]; rfl, rfl, trivial⟩ (by repeat first | with_reducible exact .refl _ | refine sp_ rfl ?_ | exact .refl _ | refine sd_ rfl ?_ | refine sn_ ?_) ⟨by omega, by rw [hst, QAE hlt]; exact q1, hbw⟩ (by omega)
      ·
       refine EL.val (ZO (r := false) rfl rfl (decide_eq_false hlt)) rfl (EL.nil (EX.seq (EC.no rfl (EC.skip (EX.seq ?_)))));have lt_1 := q1.lt;have lt_12 := q12.lt;refine EC.regionP [[], [0], [], [2], [2, 3], [], [5], [5, 6], [], [2, 3, 4, 5, 6, 7, 8], [0, 1, 2, 3, 4, 5, 6, 7, 8, 9], [0, 1, 2, 3, 4, 5, 6, 7, 8, 9, 10], [0, 1, 2, 3, 4, 5, 6, 7, 8, 9, 10, 11]] 11 [] (phi (fun i_ r => match i_ with | 0 => r 0 = .pointer (some ⟨g1, 1, none⟩) | 1 => r 1 = .int .i64 S.hi | 2 => r 2 = .pointer (some ⟨g12, 0, none⟩) | 3 => r 3 = .pointer (some ⟨g12, 1, none⟩) | 4 => r 4 = .int .i64 x.thick.hi | 5 => r 5 = .pointer (some ⟨g12, 2, none⟩) | 6 => r 6 = .pointer (some ⟨g12, 2, none⟩) | 7 => r 7 = .int .i64 x.wear.lo | 8 => r 8 = .int .i64 least | 9 => r 9 = .int .i64 (yHi least x) | 10 => r 10 = .int .i64 (min S.hi (yHi least x)) | _ => True) []) (by kernel_rfl) rfl rfl (ZY) (fun i_ hi_ => ?_) ?_
       ·match i_, hi_ with
        | 0, _ =>
         intro val w1 a hb ha hd;have ha := ha.s0 (d := 4) rfl
         exact ZB ha rfl rfl (ZR rfl) rfl rfl
        | 1, _ =>
         intro val w1 a hb ha hd;have e0 : val 0 = _ := hd 0 (ZA.1 rfl);have ha := ha.s1 (d := 53) rfl e0
         exact ZB ha rfl rfl (ld_3 rfl ((q1.below hb q1.lt).at (j := 1) rfl)) rfl rfl
        | 2, _ =>
         intro val w1 a hb ha hd;have ha := ha.s0 (d := 8) rfl
         exact ZB ha rfl rfl (QAY rfl) rfl rfl
        | 3, _ =>
         intro val w1 a hb ha hd;have e2 : val 2 = _ := hd 2 (ZA.1 rfl);have ha := ha.s1 (d := 55) rfl e2
         exact ZB ha rfl rfl (ZR rfl) rfl rfl
        | 4, _ =>
         intro val w1 a hb ha hd;have e3 : val 3 = _ := hd 3 (ZA.1 rfl);have ha := ha.s1 (d := 56) rfl e3
         exact ZB ha rfl rfl (ld_3 rfl ((q12.below hb q12.lt).at (j := 1) rfl)) rfl rfl
        | 5, _ =>
         intro val w1 a hb ha hd;have ha := ha.s0 (d := 8) rfl
         exact ZB ha rfl rfl (QAX rfl) rfl rfl
        | 6, _ =>
         intro val w1 a hb ha hd;have e5 : val 5 = _ := hd 5 (ZA.1 rfl);have ha := ha.s1 (d := 58) rfl e5
         exact ZB ha rfl rfl (ZS rfl) rfl rfl
        | 7, _ =>
         intro val w1 a hb ha hd;have e6 : val 6 = _ := hd 6 (ZA.1 rfl);have ha := ha.s1 (d := 59) rfl e6
         exact ZB ha rfl rfl (ld_3 rfl ((q12.below hb q12.lt).at (j := 2) rfl)) rfl rfl
        | 8, _ =>
         intro val w1 a hb ha hd;have ha := ha.s0 (d := 1) rfl
         exact ZB ha rfl rfl (ZH rfl) rfl rfl
        | 9, _ =>
         intro val w1 a hb ha hd;have e4 : val 4 = _ := hd 4 (ZA.1 rfl);have e7 : val 7 = _ := hd 7 (ZA.1 rfl);have e8 : val 8 = _ := hd 8 (ZA.1 rfl);have ha := ha.sub (Sub.ins (d := 61) (Sub.ins (d := 60) (Sub.ins (d := 57) (Sub.nil _) (ZI rfl e4)) (ZI rfl e7)) (ZI rfl e8));refine Zf ha rfl rfl (cA3 cF36 rfl rfl rfl) (QB1 x.thick.hi x.wear.lo least (by omega) (by omega) (by omega) _) rfl ?_
         rintro e w' ⟨rfl, hb'⟩
         exact ⟨_, rfl, hb', rfl⟩
        | 10, _ =>
         intro val w1 a hb ha hd;have e1 : val 1 = _ := hd 1 (ZA.1 rfl);have e9 : val 9 = _ := hd 9 (ZA.1 rfl);have ha := ha.s2 (d := 62) (e := 54) rfl e9 rfl e1
         exact ZB ha rfl rfl (QCA rfl rfl rfl) rfl rfl
        | k + 11, h => exact absurd h (by omega)
       ·intro val wR16 hb halc hd
        have e0 : val 0 = _ := hd 0 (by omega)
        have e1 : val 1 = _ := hd 1 (by omega)
        have e2 : val 2 = _ := hd 2 (by omega)
        have e3 : val 3 = _ := hd 3 (by omega)
        have e4 : val 4 = _ := hd 4 (by omega)
        have e5 : val 5 = _ := hd 5 (by omega)
        have e6 : val 6 = _ := hd 6 (by omega)
        have e7 : val 7 = _ := hd 7 (by omega)
        have e8 : val 8 = _ := hd 8 (by omega)
        have e9 : val 9 = _ := hd 9 (by omega)
        have e10 : val 10 = _ := hd 10 (by omega)
        refine EL.ends (cs := [_, _, _, _, _, _, _, _, _, _, _]) ⟨e0, e1, e2, e3, e4, e5, e6, e7, e8, e9, e10, trivial⟩ rfl ?_;replace q1 := q1.bl hb;replace q12 := q12.bl hb;replace hbw := bo_ hbw hb;clear hb;refine EL.val (ZR rfl) rfl (EL.store rfl rfl q1 sz_3 rfl rfl rfl rfl ?_);intro w17 hq17 hg17;replace q12 := q12.gr hg17 n1_12.symm;replace hbw := ZC hbw hg17 bhbw_1;replace q1 := hq17;clear hg17 hq17;refine EL.nil (EX.blk (EX.seq (EC.region ?_)));refine EL.val (ZM rfl rfl (c := ((k + 1 : Nat) : Int)) ((IntWalk.i64_in _ ⟨by first | omega | (simp only; omega), by first | omega | (simp only; omega)⟩).trans (by first | omega | (simp only; omega)))) rfl ?_
        refine EL.mv rfl rfl (EL.nil ?_);refine EX.roundD (k + 1) ⟨by rw [hst, QAq hlt]; rfl, rfl, trivial⟩ (by repeat first | with_reducible exact .refl _ | refine sp_ rfl ?_ | exact .refl _ | refine sd_ rfl ?_ | refine sn_ ?_) ⟨by omega, by rw [hst, QAq hlt]; exact q1, hbw⟩ (by omega)
     ·
      obtain rfl : k = l.length := by omega
      refine EC.seq (EC.region ?_);refine EL.val (ZO rfl rfl (decide_eq_false (show ¬(((l.length : Nat) : Int) < ((l.length : Nat) : Int)) by omega))) rfl ?_
      refine EL.nil (EX.seq (EC.seq (EC.no rfl (EC.exit (EX.seq_exit (EX.seq_exit (EX.blk_here (EX.seq (EC.seq ?_)))))))));refine EC.region (EL.val (Zp rfl (q1.at (j := 0) rfl) (q1.at (j := 1) rfl)) rfl (EL.mv rfl rfl (EL.store rfl rfl q1 Z7 rfl rfl rfl rfl ?_)));intro w18 hq18 hg18;replace hbw := ZC hbw hg18 bhbw_1;replace q1 := hq18;clear hg18 hq18;refine EL.as rfl rfl (EL.as rfl rfl (EL.nil (EX.seq (EC.ret ?_))))
      exact EX.done (QC2 rfl rfl rfl rfl (QAK (q1.at (j := 0) rfl) (q1.at (j := 1) rfl))) ⟨by rw [(QDM h1 h2 h3 h4).1, (QDM h1 h2 h3 h4).2] <;> rfl, hbw⟩
/-- lists of lists that are read -/
structure RdLL {α : Type} (f : α → List Value) (z : Nat) (w : World) (B : Nat) (v : Value) (l : List (List α)) (vs : List Value) : Prop where
 len : vs.length = l.length
 rd : Rd w B 1 v l.length vs
 row : ∀ i, i < l.length → Rd w B z (vs.getD i undef) (l.getD i []).length ((l.getD i []).flatMap f)
section
variable {α : Type} {f : α → List Value} {z : Nat} {w w' : World} {B B' : Nat} {v : Value} {l : List (List α)} {vs : List Value}
theorem RdLL.keep (h : RdLL f z w B v l vs) (hk : ∀ p : Addr, p.block < B → w'.cell? p = w.cell? p) : RdLL f z w' B v l vs := ⟨h.len, h.rd.keep hk, fun i hi => (h.row i hi).keep hk⟩
theorem RdLL.more (h : RdLL f z w B v l vs) (hB : B ≤ B') : RdLL f z w B' v l vs := ⟨h.len, h.rd.more hB, fun i hi => (h.row i hi).more hB⟩
theorem RdLL.below (h : RdLL f z w B v l vs) (hb : Below B w w') : RdLL f z w' B v l vs := h.keep fun _ hp => hb.cell hp
end
theorem QCQ (us : List Value) (k : Nat) (hk : k < us.length) (w : World) (B : Nat) (A : Option Addr) (n c : Nat) (hr : Rd w B 1 (.slice A n c) n us) :
  ∃ b off, A = some ⟨b, off, none⟩ ∧ b < B ∧ w.cell? ⟨b, off + k, none⟩ = some (us.getD k undef) := by
 have hl : n * 1 = us.length := hr.len.symm;obtain ⟨b, off, rfl, hb, hc⟩ := hr.at_ (by omega)
 refine ⟨b, off, rfl, hb, hc k _ ?_⟩;rw [Ye hk]
 exact List.getElem?_eq_getElem hk
/-- a section with its two lists in memory -/
abbrev SecV := Sec × (Value × Value)
/-- sections of one's own -/
structure OwnSecs (w : World) (base : Nat) (v : Value) (l : List Sec) (vs : List (Value × Value)) : Prop where
 len : vs.length = l.length
 row : w.ownsRow base 70 5 v l.length ((l.zip vs).flatMap secC)
 curve : ∀ i, i < l.length → w.ownsRow base 111 2 (vs.getD i uu).1 (l.getD i sec0).curve.length (hrowsC (l.getD i sec0).curve)
 holds : ∀ i, i < l.length → w.ownsRow base 66 2 (vs.getD i uu).2 (l.getD i sec0).holds.length (holdsC (l.getD i sec0).holds)
section
variable {w w' : World} {base base' : Nat} {v : Value} {l : List Sec} {vs : List (Value × Value)}
theorem OwnSecs.rd (h : OwnSecs w base v l vs) : RdSecs w w.heap.size v l vs := ⟨h.len, rd_of_own h.row, fun i hi => rd_of_own (h.curve i hi), fun i hi => rd_of_own (h.holds i hi)⟩
theorem OwnSecs.below {B : Nat} (h : OwnSecs w base v l vs) (hb : Below B w w') (hB : w.heap.size ≤ B) : OwnSecs w' base v l vs := ⟨h.len, own_below h.row hb hB, fun i hi => own_below (h.curve i hi) hb hB, fun i hi => own_below (h.holds i hi) hb hB⟩
theorem OwnSecs.less (h : OwnSecs w base v l vs) (hb : base' ≤ base) : OwnSecs w base' v l vs := ⟨h.len, own_less h.row hb, fun i hi => own_less (h.curve i hi) hb, fun i hi => own_less (h.holds i hi) hb⟩
theorem OwnSecs.type {g T : Nat} {cs : Array Value} (h : OwnSecs w base v l vs) (hq : Blk w g T cs) (h1 : Nat.beq T 70 = false) (h2 : Nat.beq T 111 = false) (h3 : Nat.beq T 66 = false) (hg : w.grownBy w' (some g)) : OwnSecs w' base v l vs :=
 ⟨h.len, ZF h.row hq h1 hg, fun i hi => ZF (h.curve i hi) hq h2 hg, fun i hi => ZF (h.holds i hi) hq h3 hg⟩
theorem OwnSecs.nil (w : World) (base : Nat) : OwnSecs w base (.slice none 0 0) [] [] := ⟨rfl, own_nil _ _ _ _, fun i hi => absurd hi (Nat.not_lt_zero _), fun i hi => absurd hi (Nat.not_lt_zero _)⟩
/-- .. and grown by another row, of another type -/
theorem OwnSecs.grown {base2 e2 size2 n2 : Nat} {u : Value} {ys : List Value} (h : OwnSecs w base v l vs) (hu : w.ownsRow base2 e2 size2 u n2 ys) (h1 : Nat.beq e2 70 = false) (h2 : Nat.beq e2 111 = false) (h3 : Nat.beq e2 66 = false) (hg : w.grownBy w' u.ownBlock) : OwnSecs w' base v l vs :=
 ⟨h.len, Yh h.row hu h1 hg, fun i hi => Yh (h.curve i hi) hu h2 hg, fun i hi => Yh (h.holds i hi) hu h3 hg⟩
theorem QAW {α : Type} {l : List α} {x d : α} {i : Nat} : (l ++ [x]).getD i d = if i < l.length then l.getD i d else if i = l.length then x else d := by
 by_cases h : i < l.length
 ·rw [if_pos h, Ye (by simp; omega), Ye h, List.getElem_append_left h]
 ·rw [if_neg h]
  by_cases h2 : i = l.length
  ·rw [if_pos h2]; subst h2; simp
  ·rw [if_neg h2, List.getD_eq_getElem?_getD, List.getElem?_eq_none (by simp; omega)]; rfl
theorem OwnSecs.push {s : Sec} {vc vh v' : Value} (h : OwnSecs w base v l vs) (hc : w.ownsRow base 111 2 vc s.curve.length (hrowsC s.curve)) (hh : w.ownsRow base 66 2 vh s.holds.length (holdsC s.holds)) (ho : w'.ownsRow base 70 5 v' (l.length + 1) ((l.zip vs).flatMap secC ++ secC (s, (vc, vh)))) (hg : w.grownBy w' v.ownBlock) : OwnSecs w' base v' (l ++ [s]) (vs ++ [(vc, vh)]) := by
 refine ⟨by simp [h.len], ?_, fun i hi => ?_, fun i hi => ?_⟩
 ·rw [List.length_append, List.zip_append h.len.symm, List.flatMap_append]
  simpa using ho
 ·rw [QAW, QAW, h.len]
  by_cases h1 : i < l.length
  ·rw [if_pos h1, if_pos h1]; exact Yh (h.curve i h1) h.row rfl hg
  ·have h2 : i = l.length := by simp at hi; omega
   rw [if_neg h1, if_neg h1, if_pos h2, if_pos h2]
   exact Yh hc h.row rfl hg
 ·rw [QAW, QAW, h.len]
  by_cases h1 : i < l.length
  ·rw [if_pos h1, if_pos h1]; exact Yh (h.holds i h1) h.row rfl hg
  ·have h2 : i = l.length := by simp at hi; omega
   rw [if_neg h1, if_neg h1, if_pos h2, if_pos h2]
   exact Yh hh h.row rfl hg
end
theorem RdSecs.one {w : World} {B : Nat} {v : Value} {l : List Sec} {vs : List (Value × Value)} (h : RdSecs w B v l vs) : ∀ u ∈ (l.zip vs).flatMap secC, u.oneCell' = true := fun u hu => by
 obtain ⟨p, hp, hup⟩ := List.mem_flatMap.1 hu;obtain ⟨i, hi, e⟩ := List.getElem_of_mem hp;have hi2 : i < l.length := by rw [List.length_zip, h.len] at hi; omega
 have hv : i < vs.length := by rw [h.len]; exact hi2
 rw [List.getElem_zip] at e;obtain ⟨A, c, e1, _⟩ := (h.curve i hi2).shape;obtain ⟨A', c', e2, _⟩ := (h.holds i hi2).shape;rw [Ye hv] at e1 e2;subst e
 simp only [secC, List.mem_cons, List.not_mem_nil, or_false] at hup
 rcases hup with rfl | rfl | rfl | rfl | rfl
 ·rfl
 ·rfl
 ·rfl
 ·rw [e1]; rfl
 ·rw [e2]; rfl
theorem YR {w w' : World} {base e size n g : Nat} {v : Value} {xs : List Value} (h : w.ownsRow base e size v n xs) (hn : v.ownBlock ≠ some g) (hg : w.grownBy w' (some g)) : w'.ownsRow base e size v n xs := h.kept hg (.inr hn)
theorem OwnSecs.box {w w' : World} {base g : Nat} {v : Value} {l : List Sec} {vs : List (Value × Value)} {cs : Array Value} (h : OwnSecs w base v l vs) (hq : Blk w g 70 cs) (hn : v.ownBlock ≠ some g) (hg : w.grownBy w' (some g)) : OwnSecs w' base v l vs :=
 ⟨h.len, YR h.row hn hg, fun i hi => ZF (h.curve i hi) hq rfl hg, fun i hi => ZF (h.holds i hi) hq rfl hg⟩
theorem QA6 {i n base e size : Nat} {xs : List Value} : Mono fun r w => ∃ A c, r i = .slice A n c ∧ w.ownsRow base e size (.slice A n c) n xs := fun _ _ _ hb ⟨A, c, h1, h2⟩ => ⟨A, c, h1, own_below h2 hb (Nat.le_refl _)⟩
section
variable {n : Nat} {σ : Sg} {w : World} {dst : Option Tmp} {ty : TypeId} {pos : String} {af : Array Edge} {g : Option (Nat × Bool)} {x y z : Operand} {at' : Array TypeId}
theorem QKQ (a : Act) (_ : Env n σ a) : (execOp a.eval ⟨dst, .buildSlice 67 0 #[], ty, pos, af, g⟩).run Try.prog w = .ok (.value (.slice (some ⟨w.heap.size, 0, none⟩) 0 0)) (w.alloc (.cells #[] 111)) := by
 simp only [execOp]
 go_simp
theorem QKO (a : Act) (_ : Env n σ a) : (execOp a.eval ⟨dst, .buildSlice 68 0 #[], ty, pos, af, g⟩).run Try.prog w = .ok (.value (.slice (some ⟨w.heap.size, 0, none⟩) 0 0)) (w.alloc (.cells #[] 66)) := by
 simp only [execOp]
 go_simp
theorem QIY {b o m c hi : Nat} (hx : evS σ x = some (.slice (some ⟨b, o, none⟩) m c)) (hh : evS σ y = some (.int .i64 (hi : Int))) (h2 : hi ≤ c) : ZE Try.prog n σ w ⟨dst, .slice 42 x none (some y) none, ty, pos, af, g⟩ (.slice (some ⟨b, o, none⟩) hi c) := fun a ha => by
 have k1 : (0 : Int) ≤ (hi : Int) := Int.natCast_nonneg _;have k3 : (hi : Int) ≤ (c : Int) := by omega
 simp only [execOp, Option.map_some, Option.map_none, ha.eval hx, ha.eval hh]
 by_cases e : c = 0
 ·subst e; obtain rfl : hi = 0 := by omega
  simp [go_sem]
 ·simp [go_sem, k1, k3, h2, e]
theorem QI5 {A : Option Addr} {m c : Nat} (hx : evS σ x = some (.slice A m c)) : ZE Try.prog n σ w ⟨dst, .call { callee := .builtin .len, args := #[x], argTypes := #[158] }, ty, pos, af, g⟩ (.int .i64 (m : Int)) := fun a ha => by
 simp only [execOp, resolve, List.map_toArray, List.map_cons, List.map_nil, ha.eval hx]
 simp [go_sem]
theorem QJE {b o m c k : Nat} (hx : evS σ x = some (.slice (some ⟨b, o, none⟩) m c)) (hy : evS σ y = some (.int .i64 (k : Int))) (hk : k < m) : ZE Try.prog n σ w ⟨dst, .indexAddr 158 x y, ty, pos, af, g⟩ (.pointer (some ⟨b, o + k, none⟩)) := fun a ha => by
 have k0 : (0 : Int) ≤ (k : Int) := Int.natCast_nonneg _;have k1 : (k : Int) < (m : Int) := by omega
 simp only [execOp, ha.eval hx, ha.eval hy]
 simp [go_sem, k0, k1]
theorem cF64 : cF 64 := fun _ _ => by simp [go_sem]
theorem QFs (a : Act) (_ : Env n σ a) : (execOp a.eval ⟨dst, .alloc 44, ty, pos, af, g⟩).run Try.prog w = .ok (.value (.pointer (some ⟨w.heap.size, 0, none⟩))) (w.alloc (.cells #[.int .i64 0, .slice none 0 0] 44)) := by
 simp only [execOp]
 simp [go_sem]
theorem QKa {x0 : Operand} {z0 : Int} (h0 : evS σ x0 = some (.int .i64 z0)) : ZE Try.prog n σ w ⟨dst, .build 44 #[(0, x0)], ty, pos, af, g⟩ (.agg #[.int .i64 z0, .slice none 0 0]) := fun a ha => by
 simp only [execOp, List.map_toArray, List.map_cons, List.map_nil, ha.eval h0]
 go_simp
theorem QBX : (Try.prog.info? 44).map (·.size) = some 2 := by kernel_rfl
theorem cF62 : cF 62 := fun _ _ => by simp [go_sem]
theorem cF63 : cF 63 := fun _ _ => by simp [go_sem]
theorem QLZ : (Try.prog.info? 67).map (·.size) = some 1 := by kernel_rfl
theorem QLY : (Try.prog.info? 68).map (·.size) = some 1 := by kernel_rfl
theorem QKX {x0 : Operand} {v0_0 v0_1 v0_2 v0_3 v0_4 : Value} (h0 : evS σ x0 = some (.agg #[v0_0, v0_1, v0_2, v0_3, v0_4]))  (a : Act) (ha : Env n σ a) : (execOp a.eval ⟨dst, .buildSlice 42 1 #[(0, x0)], ty, pos, af, g⟩).run Try.prog w = .ok (.value (.slice (some ⟨w.heap.size, 0, none⟩) 1 1)) (w.alloc (.cells #[v0_0, v0_1, v0_2, v0_3, v0_4] 70)) := by
 simp only [execOp, List.map_toArray, List.map_cons, List.map_nil, ha.eval h0]
 go_simp
theorem QLe : (Try.prog.info? 42).map (·.size) = some 1 := by kernel_rfl
theorem QDE {b o : Nat} {v0 v1 : Value} (c0 : w.cell? ⟨b, o, none⟩ = some v0) (c1 : w.cell? ⟨b, o + 1, none⟩ = some v1) : (loadVar 44 ⟨b, o, none⟩).run Try.prog w = .ok (.agg #[v0, v1]) w := by
 simp [go_sem, loadVar, c0, c1]
end
theorem QHy : (Try.prog.info? 111).map (fun i => (i.zero, i.size, i.bytes)) = some (some (.agg #[.int .i64 0, .int .i64 0]), 2, 16) := by kernel_rfl
theorem QHz : Elem Try.prog 67 111 2 16 := Elem.mk' Try.underlying67 QHy rfl (by omega)
theorem QH2 : (Try.prog.info? 66).map (fun i => (i.zero, i.size, i.bytes)) = some (some (.agg #[.int .i64 0, .int .i64 0]), 2, 16) := by kernel_rfl
theorem QH3 : Elem Try.prog 68 66 2 16 := Elem.mk' Try.underlying68 QH2 rfl (by omega)
theorem QIb : (Try.prog.info? 70).map (fun i => (i.zero, i.size, i.bytes)) = some (some (.agg #[.int .i64 0, .int .i64 0, .int .i64 0, .slice none 0 0, .slice none 0 0]), 5, 72) := by kernel_rfl
theorem QC0 : Elem Try.prog 42 70 5 72 := Elem.mk' Try.underlying42 QIb rfl (by omega)
theorem QIh {P : Program} {w : World} {t e : TypeId} {a : Addr} {m c : Nat} (ht : P.underlying t = some (.slice e)) : (binOp .eql t (.slice (some a) m c) (.slice none 0 0)).run P w = .ok (.bool false) w := by
 have h : ∀ d : Nat, (Op.equalIn (d + 1) t (.slice (some a) m c) (.slice none 0 0)).run P w = .ok false w := fun d => by
  simp [Op.equalIn, run_underlying ht]
 simp only [binOp]
 simp [Op.equal, Op.maxDepth, h 9999]
theorem QID {P : Program} {n : Nat} {σ : Sg} {w : World} {dst : Option Tmp} {ty t t' e : TypeId} {pos : String} {af : Array Edge} {g : Option (Nat × Bool)} {x y : Operand} {a : Addr} {m c : Nat} (ht : P.underlying t = some (.slice e)) (hx : evS σ x = some (.slice (some a) m c)) (hy : evS σ y = some (.slice none 0 0)) : ZE P n σ w ⟨dst, .binOp .eql t x y t', ty, pos, af, g⟩ (.bool false) := fun a ha => by
 simp only [execOp, ha.eval hx, ha.eval hy]
 simp [QIh ht, Result.andThen, eqGuard, ha.eval hx, ha.eval hy]
theorem QFh {l : List HRow} {a : Addr} {c : Nat} {w : World} {B : Nat} (hr : Rd w B 2 (.slice (some a) l.length c) l.length (hrowsC l)) (hB : B ≤ w.heap.size) (hn : l.length ≤ 1048576) :
  Calls Try.prog 62 #[.slice (some a) l.length c] w fun e w' => (∃ v, e = .returned v ∧ w'.ownsRow w.heap.size 111 2 v l.length (hrowsC l)) ∧ Below w.heap.size w w' := by
 have hbw := Below.refl w.heap.size w;refine EC.enter 8 Try.func62 rfl rfl rfl (EC.seq (EC.region (EL.as rfl rfl (EL.nil (EX.seq (EC.seq (EC.seq (EC.region (EL.mv rfl rfl ?_)))))))));refine EL.val (QID Try.underlying67 rfl rfl) rfl (EL.nil (EX.seq (EC.no rfl (EC.skip (EX.seq (EC.seq (EC.region ?_)))))));have hsz := hbw.size;refine EL.newS QKQ rfl ?_;intro g1 w1 q1 hb1 hg1 hl1;have bhbw_1 := Nat.le_trans hbw.size hg1;replace hbw := bo_ hbw hb1;clear hb1 hl1;have hsz2 := hbw.size;refine EL.mv rfl rfl ?_;refine EL.copy QHz rfl rfl (base := w.heap.size) q1 (Nat.le_trans hsz hg1) (hr.below (hbw.mono hB)) (QGE l) (by omega) (by omega) hbw.size rfl ?_
 intro v2 w2 ho hb2;replace hbw := bo_ hbw hb2;clear hb2;refine EL.as rfl rfl (EL.nil (EX.seq (EC.ret ?_)))
 exact EX.done (res1 rfl rfl) ⟨⟨_, rfl, ho⟩, hbw⟩
theorem QGL {l : List HRow} {c : Nat} {w : World} {B : Nat} (hr : Rd w B 2 (.slice none l.length c) l.length (hrowsC l)) (hB : B ≤ w.heap.size) (hn : l.length ≤ 1048576) :
  Calls Try.prog 62 #[.slice none l.length c] w fun e w' => (∃ v, e = .returned v ∧ w'.ownsRow w.heap.size 111 2 v l.length (hrowsC l)) ∧ Below w.heap.size w w' := by
 have hl0 : l = [] := List.length_eq_zero_iff.1 (QGl hr);have hbw := Below.refl w.heap.size w;refine EC.enter 8 Try.func62 rfl rfl rfl (EC.seq (EC.region (EL.as rfl rfl (EL.nil (EX.seq (EC.seq (EC.seq (EC.region (EL.mv rfl rfl ?_)))))))));refine EL.val (QIC Try.underlying67 rfl rfl) rfl (EL.nil (EX.seq (EC.yes rfl (EC.seq (EC.region (EL.as rfl rfl (EL.nil (EX.seq (EC.ret ?_)))))))));refine EX.seq_ret ?_
 exact EX.done (res1 rfl rfl) ⟨⟨_, rfl, by rw [hl0]; exact own_nil _ _ _ _⟩, hbw⟩
theorem QGM {l : List HRow} {v : Value} {w : World} {B : Nat} (hr : Rd w B 2 v l.length (hrowsC l)) (hB : B ≤ w.heap.size) (hn : l.length ≤ 1048576) :
  Calls Try.prog 62 #[v] w fun e w' => (∃ v, e = .returned v ∧ w'.ownsRow w.heap.size 111 2 v l.length (hrowsC l)) ∧ Below w.heap.size w w' := by
 obtain ⟨A, c, rfl, _⟩ := hr.shape
 cases A with
 | none => exact QGL hr hB hn
 | some a => exact QFh hr hB hn
theorem QFj {l : List Hold} {a : Addr} {c : Nat} {w : World} {B : Nat} (hr : Rd w B 2 (.slice (some a) l.length c) l.length (holdsC l)) (hB : B ≤ w.heap.size) (hn : l.length ≤ 1048576) :
  Calls Try.prog 63 #[.slice (some a) l.length c] w fun e w' => (∃ v, e = .returned v ∧ w'.ownsRow w.heap.size 66 2 v l.length (holdsC l)) ∧ Below w.heap.size w w' := by
 have hbw := Below.refl w.heap.size w;refine EC.enter 8 Try.func63 rfl rfl rfl (EC.seq (EC.region (EL.as rfl rfl (EL.nil (EX.seq (EC.seq (EC.seq (EC.region (EL.mv rfl rfl ?_)))))))));refine EL.val (QID Try.underlying68 rfl rfl) rfl (EL.nil (EX.seq (EC.no rfl (EC.skip (EX.seq (EC.seq (EC.region ?_)))))));have hsz := hbw.size;refine EL.newS QKO rfl ?_;intro g1 w1 q1 hb1 hg1 hl1;have bhbw_1 := Nat.le_trans hbw.size hg1;replace hbw := bo_ hbw hb1;clear hb1 hl1;have hsz2 := hbw.size;refine EL.mv rfl rfl ?_;refine EL.copy QH3 rfl rfl (base := w.heap.size) q1 (Nat.le_trans hsz hg1) (hr.below (hbw.mono hB)) (holdsC_one l) (by omega) (by omega) hbw.size rfl ?_
 intro v2 w2 ho hb2;replace hbw := bo_ hbw hb2;clear hb2;refine EL.as rfl rfl (EL.nil (EX.seq (EC.ret ?_)))
 exact EX.done (res1 rfl rfl) ⟨⟨_, rfl, ho⟩, hbw⟩
theorem QGO {l : List Hold} {c : Nat} {w : World} {B : Nat} (hr : Rd w B 2 (.slice none l.length c) l.length (holdsC l)) (hB : B ≤ w.heap.size) (hn : l.length ≤ 1048576) :
  Calls Try.prog 63 #[.slice none l.length c] w fun e w' => (∃ v, e = .returned v ∧ w'.ownsRow w.heap.size 66 2 v l.length (holdsC l)) ∧ Below w.heap.size w w' := by
 have hl0 : l = [] := List.length_eq_zero_iff.1 (QGl hr);have hbw := Below.refl w.heap.size w;refine EC.enter 8 Try.func63 rfl rfl rfl (EC.seq (EC.region (EL.as rfl rfl (EL.nil (EX.seq (EC.seq (EC.seq (EC.region (EL.mv rfl rfl ?_)))))))));refine EL.val (QIC Try.underlying68 rfl rfl) rfl (EL.nil (EX.seq (EC.yes rfl (EC.seq (EC.region (EL.as rfl rfl (EL.nil (EX.seq (EC.ret ?_)))))))));refine EX.seq_ret ?_
 exact EX.done (res1 rfl rfl) ⟨⟨_, rfl, by rw [hl0]; exact own_nil _ _ _ _⟩, hbw⟩
theorem QGP {l : List Hold} {v : Value} {w : World} {B : Nat} (hr : Rd w B 2 v l.length (holdsC l)) (hB : B ≤ w.heap.size) (hn : l.length ≤ 1048576) :
  Calls Try.prog 63 #[v] w fun e w' => (∃ v, e = .returned v ∧ w'.ownsRow w.heap.size 66 2 v l.length (holdsC l)) ∧ Below w.heap.size w w' := by
 obtain ⟨A, c, rfl, _⟩ := hr.shape
 cases A with
 | none => exact QGO hr hB hn
 | some a => exact QFj hr hB hn
section
variable {n : Nat} {σ : Sg} {w : World} {dst : Option Tmp} {ty : TypeId} {pos : String} {af : Array Edge} {g : Option (Nat × Bool)} {x y : Operand}
theorem QHD {A : Option Addr} {m c : Nat} (hx : evS σ x = some (.slice A m c)) : ZE Try.prog n σ w ⟨dst, .call { callee := .builtin .cap, args := #[x], argTypes := #[42] }, ty, pos, af, g⟩ (.int .i64 (c : Int)) := fun a ha => by
 simp only [execOp, resolve, List.map_toArray, List.map_cons, List.map_nil, ha.eval hx]
 simp [go_sem]
theorem QIX (hx : evS σ x = some (.slice none 0 0)) (hh : evS σ y = some (.int .i64 ((0 : Nat) : Int))) : ZE Try.prog n σ w ⟨dst, .slice 42 x none (some y) none, ty, pos, af, g⟩ (.slice none 0 0) := fun a ha => by
 simp only [execOp, Option.map_some, Option.map_none, ha.eval hx, ha.eval hh]
 simp [go_sem]
end
theorem QH4 (m : Nat) (w : World) (hm : m ≤ 1048576) :
  Calls Try.prog 64 #[.slice none 0 0, .int .i64 (m : Nat)] w fun e w' => (∃ v, e = .returned v ∧ w'.ownsRow w.heap.size 70 5 v 0 []) ∧ Below w.heap.size w w' := by
 have hbw := Below.refl w.heap.size w;refine EC.enter 27 Try.func64 rfl rfl rfl (EC.seq (EC.region (EL.as rfl rfl (EL.nil (EX.seq (EC.seq (EC.seq (EC.region (EL.mv rfl rfl ?_)))))))));refine EL.val (ZO (r := false) rfl rfl (decide_eq_false (by omega))) rfl ?_
 refine EL.nil (EX.seq (EC.no rfl (EC.skip (EX.seq (EC.seq (EC.seq (EC.region (EL.mv rfl rfl (EL.mv rfl rfl ?_)))))))));refine EL.val (QHD rfl) rfl (EL.mv rfl rfl (EL.val (QAp rfl) rfl (EL.val (Z4 rfl rfl (c := 0) rfl) rfl ?_)));refine EL.val (Z4 rfl rfl (c := ((m : Nat) : Int)) ((IntWalk.i64_in _ ⟨by omega, by omega⟩).trans (by omega))) rfl ?_
 refine EL.as rfl rfl (EL.nil (EX.seq (EC.seq (EC.region (EL.mv rfl rfl ?_)))))
 by_cases hm0 : 0 < m
 ·
  refine EL.val (YP (r := true) rfl rfl (decide_eq_true (by omega))) rfl ?_
  refine EL.nil (EX.seq (EC.yes rfl (EC.region (EL.mv rfl rfl (EL.mv rfl rfl (EL.val (QHD rfl) rfl (EL.val (QIX rfl rfl) rfl (EL.mv rfl rfl (EL.growZ (base := w.heap.size) QC0 Try.underlying3 rfl rfl hm0 hm rfl (Nat.le_refl _) rfl ?_)))))))))
  rintro g c w2 hmc ho hb2
  replace hbw := bo_ hbw hb2;clear hb2;refine EL.mv rfl rfl (EL.val (QAp rfl) rfl (EL.val (QIY (hi := 0) rfl rfl (Nat.zero_le _)) rfl (EL.as rfl rfl (EL.nil (EX.seq (EC.seq (EC.region (EL.mv rfl rfl (EL.as rfl rfl ?_)))))))));refine EL.nil (EX.seq (EC.ret ?_))
  exact EX.done (res1 rfl rfl) ⟨⟨_, rfl, ho⟩, hbw⟩
 ·
  obtain rfl : m = 0 := by omega
  refine EL.val (YP (r := false) rfl rfl (decide_eq_false (by omega))) rfl ?_
  refine EL.nil (EX.seq (EC.no rfl (EC.skip (EX.seq (EC.seq (EC.region (EL.mv rfl rfl (EL.as rfl rfl (EL.nil ?_)))))))));refine EX.seq (EC.ret ?_)
  exact EX.done (res1 rfl rfl) ⟨⟨_, rfl, own_nil _ _ _ _⟩, hbw⟩
theorem QDV {α : Type} {ls : List (List α)} {x : Nat} (hx : x < ls.length) : (ls.take (x + 1)).flatten.length = (ls.take x).flatten.length + (ls.getD x []).length := by
 rw [Z5 (d := []) hx, List.flatten_append, List.length_append]
 simp
theorem QFf {α : Type} {ls : List (List α)} (k : Nat) : (ls.take k).flatten.length ≤ ls.flatten.length := by
 have h : ls.flatten = (ls.take k).flatten ++ (ls.drop k).flatten := by rw [← List.flatten_append, List.take_append_drop]
 rw [h, List.length_append]
 exact Nat.le_add_right _ _
theorem QFe {ls : List (List SecV)} {x : Nat} (hx : x < ls.length) : (ls.take (x + 1)).flatten.flatMap secC = (ls.take x).flatten.flatMap secC ++ (ls.getD x []).flatMap secC := by
 rw [Z5 (d := []) hx, List.flatten_append, List.flatMap_append]
 simp
theorem QGK (ls : List (List SecV)) (us : List Value) (v : Value) (w : World) (B : Nat) (hr : RdLL secC 5 w B v ls us) (hB : B ≤ w.heap.size) (hl : ls.length ≤ 1048576) (hn : ls.flatten.length ≤ 1048576) (hone : ∀ x, x < ls.length → ∀ u ∈ (ls.getD x []).flatMap secC, u.oneCell' = true) :
  Calls Try.prog 47 #[v] w fun e w' => (∃ v', e = .returned v' ∧ w'.ownsRow w.heap.size 70 5 v' ls.flatten.length (ls.flatten.flatMap secC)) ∧ Below w.heap.size w w' := by
 obtain ⟨A, c, rfl, _⟩ := hr.rd.shape;have hbw := Below.refl w.heap.size w;refine EC.enter 36 Try.func47 rfl rfl rfl (EC.seq (EC.region (EL.as rfl rfl (EL.nil (EX.seq (EC.seq (EC.region (EL.as rfl rfl (EL.nil ?_)))))))));refine EX.seq (EC.seq (EC.seq (EC.region (EL.mv rfl rfl (EL.val (QI5 rfl) rfl (EL.mv rfl rfl (EL.nil (EX.seq (EC.block ?_)))))))));refine EC.loopD [3, 5, 11, 12, 13, 14, 15, 16, 17, 18, 19, 20, 21, 22] (fun x : Nat => [(3, .int .i64 ((ls.take x).flatten.length : Nat)), (11, .int .i64 (x : Nat))]) (fun x W => x ≤ ls.length ∧ Below w.heap.size w W) (fun x => ls.length - x) 0 ⟨Nat.zero_le _, hbw⟩ ⟨rfl, rfl, trivial⟩ ?_
 clear hbw
 rintro x wx ⟨hx, hbw⟩
 by_cases hlt : x < ls.length
 ·
  obtain ⟨b, o, rfl, _, cc⟩ := QCQ us x (by rw [hr.len]; exact hlt) _ _ _ _ _ hr.rd
  have hrow := hr.row x hlt;have htk := QDV (ls := ls) hlt;have hle := QFf (ls := ls) (x + 1);obtain ⟨Ar, cr, er, _⟩ := hrow.shape;rw [er] at cc hrow;refine EC.seq (EC.region ?_);refine EL.val (ZO rfl rfl (decide_eq_true (show (((x : Nat) : Int) < ((ls.length : Nat) : Int)) by omega))) rfl ?_
  refine EL.nil (EX.seq (EC.seq (EC.yes rfl (EC.skip (EX.seq (EC.seq (EC.block (EC.seq (EC.region ?_)))))))));refine EL.val (QJE rfl rfl hlt) rfl (EL.val (QAb rfl (ZD hbw cc)) rfl (EL.as rfl rfl (EL.nil (EX.seq (EC.seq (EC.region (EL.mv rfl rfl (EL.mv rfl rfl (EL.val (QAp rfl) rfl ?_)))))))));refine EL.val (ZM rfl rfl (c := (((ls.take (x + 1)).flatten.length : Nat) : Int)) ((IntWalk.i64_in _ ⟨by omega, by omega⟩).trans (by omega))) rfl ?_
  refine EL.as rfl rfl (EL.nil (EX.seq (EC.seq (EC.region (EL.mv rfl rfl ?_)))));refine EL.val (ZO (r := false) rfl rfl (decide_eq_false (by omega))) rfl ?_
  refine EL.nil (EX.seq (EC.no rfl (EC.skip (EX.blk (EX.seq (EC.region ?_))))));refine EL.val (ZM rfl rfl (c := ((x + 1 : Nat) : Int)) ((IntWalk.i64_in _ ⟨by first | omega | (simp only; omega), by first | omega | (simp only; omega)⟩).trans (by first | omega | (simp only; omega)))) rfl ?_
  refine EL.mv rfl rfl (EL.nil ?_);refine EX.roundD (x + 1) ⟨rfl, rfl, trivial⟩ (by repeat first | with_reducible exact .refl _ | refine sp_ rfl ?_ | exact .refl _ | refine sd_ rfl ?_ | refine sn_ ?_) ⟨hlt, hbw⟩ (by omega)
 ·
  have hxe : x = ls.length := by omega
  subst hxe;rw [List.take_length];refine EC.seq (EC.region ?_);refine EL.val (ZO rfl rfl (decide_eq_false (show ¬(((ls.length : Nat) : Int) < ((ls.length : Nat) : Int)) by omega))) rfl ?_
  refine EL.nil (EX.seq (EC.seq (EC.no rfl (EC.exit (EX.seq_exit (EX.seq_exit (EX.blk_here (EX.seq (EC.seq ?_)))))))));refine EC.region (EL.mv rfl rfl (EL.call (cA2 cF64 rfl rfl) rfl (QH4 ls.flatten.length _ hn) ?_))
  rintro e w1 ⟨⟨v0, rfl, ho⟩, hc1⟩
  refine ⟨_, rfl, ?_⟩;replace ho := own_less ho hbw.size;replace hbw := bo_ hbw hc1;clear hc1;refine EL.as rfl rfl (EL.nil (EX.seq (EC.seq (EC.seq (EC.region (EL.mv rfl rfl (EL.val (QI5 rfl) rfl (EL.mv rfl rfl (EL.nil ?_)))))))));refine EX.seq (EC.block ?_);refine EC.loopD [6, 8, 27, 28, 29, 30, 31, 32, 33, 34] (fun x : Nat × Value => [(6, x.2), (27, .int .i64 (x.1 : Nat))]) (fun x W => x.1 ≤ ls.length ∧ W.ownsRow w.heap.size 70 5 x.2 (ls.take x.1).flatten.length ((ls.take x.1).flatten.flatMap secC) ∧ Below w.heap.size w W) (fun x => ls.length - x.1) (0, v0) ⟨Nat.zero_le _, ho, hbw⟩ ⟨rfl, rfl, trivial⟩ ?_
  clear hbw ho
  rintro ⟨x, v⟩ wx ⟨hx, ho, hbw⟩
  dsimp only at hx ho
  by_cases hlt : x < ls.length
  ·
   obtain ⟨b, o, rfl, _, cc⟩ := QCQ us x (by rw [hr.len]; exact hlt) _ _ _ _ _ hr.rd
   have hrow := hr.row x hlt;have htk := QDV (ls := ls) hlt;have hle := QFf (ls := ls) (x + 1);obtain ⟨Ar, cr, er, _⟩ := hrow.shape;rw [er] at cc hrow;refine EC.seq (EC.region ?_);refine EL.val (ZO rfl rfl (decide_eq_true (show (((x : Nat) : Int) < ((ls.length : Nat) : Int)) by omega))) rfl ?_
   refine EL.nil (EX.seq (EC.seq (EC.yes rfl (EC.skip (EX.seq (EC.seq (EC.block (EC.seq (EC.region ?_)))))))));refine EL.val (QJE rfl rfl hlt) rfl (EL.val (QAb rfl (ZD hbw cc)) rfl (EL.as rfl rfl (EL.nil (EX.seq (EC.region (EL.mv rfl rfl (EL.mv rfl rfl ?_)))))));refine EL.push QC0 rfl rfl ho (hrow.below (hbw.mono hB)) (hone x hlt) (by omega) rfl hbw.size rfl ?_
   intro v2 w2 ho2 hgr hb_ hat;replace hbw := hbw.trans hb_;clear ho hgr hb_ hat;have ho := ho2;clear ho2;refine EL.as rfl rfl (EL.nil (EX.blk (EX.seq (EC.region ?_))));refine EL.val (ZM rfl rfl (c := ((x + 1 : Nat) : Int)) ((IntWalk.i64_in _ ⟨by first | omega | (simp only; omega), by first | omega | (simp only; omega)⟩).trans (by first | omega | (simp only; omega)))) rfl ?_
   refine EL.mv rfl rfl (EL.nil ?_);refine EX.roundD (x + 1, _) ⟨rfl, rfl, trivial⟩ (by repeat first | with_reducible exact .refl _ | refine sp_ rfl ?_ | exact .refl _ | refine sd_ rfl ?_ | refine sn_ ?_) ⟨hlt, (by show World.ownsRow _ _ _ _ _ (ls.take (x + 1)).flatten.length ((ls.take (x + 1)).flatten.flatMap secC); rw [htk, QFe hlt]; exact ho), hbw⟩ (by simp only; omega)
  ·
   have hxe : x = ls.length := by omega
   subst hxe;rw [List.take_length] at ho;refine EC.seq (EC.region ?_);refine EL.val (ZO rfl rfl (decide_eq_false (show ¬(((ls.length : Nat) : Int) < ((ls.length : Nat) : Int)) by omega))) rfl ?_
   refine EL.nil (EX.seq (EC.seq (EC.no rfl (EC.exit (EX.seq_exit (EX.seq_exit (EX.blk_here (EX.seq (EC.seq ?_)))))))));refine EC.region (EL.mv rfl rfl (EL.as rfl rfl (EL.nil (EX.seq (EC.ret ?_)))))
   exact EX.done (res1 rfl rfl) ⟨⟨_, rfl, ho⟩, hbw⟩
theorem QGi {P : Program} {n : Nat} {σ : Sg} {w : World} {fn : Func} {c : Tmp} {t : TypeId} {p : Addr} {v : Value} (h : fn.results = #[.cell c t]) (hc : σ c = some (.pointer (some p))) (hl : (loadVar t p).run P w = .ok v w) (a : Act) (ha : Env n σ a) : (results fn a.tmps).run P w = .ok v w := by
 have e1 : a.tmps.getD c undef = .pointer (some p) := ha.eval (x := .tmp c) hc;rw [Array.getD_eq_getD_getElem?] at e1
 simp [results, h, e1, asAddr, hl]
set_option maxRecDepth 100000 in
theorem QH8 (lot : Int) (l : List Sec) (v : Value) (vs : List (Value × Value)) (w : World) (B : Nat) (hr : RdSecs w B v l vs) (hB : B ≤ w.heap.size) (hl : l.length ≤ 1048575) (hfew : Zl l) :
  Calls Try.prog 46 #[.int .i64 lot, v] w fun e w' => (∃ v' vs', e = .returned (.agg #[.int .i64 lot, v']) ∧ OwnSecs w' w.heap.size v' l vs') ∧ Below w.heap.size w w' := by
 obtain ⟨A, c, rfl⟩ := hr.shape;have hbw := Below.refl w.heap.size w;refine EC.enter 32 Try.func46 rfl rfl rfl (EC.seq (EC.region (EL.newP QFs rfl ?_)));intro g1 w1 q1 hb1 hg1 hl1;have bhbw_1 := Nat.le_trans hbw.size hg1;replace hbw := bo_ hbw hb1;clear hb1 hg1 hl1;refine EL.nil (EX.seq (EC.seq (EC.region (EL.mv rfl rfl (EL.val (QKa rfl) rfl (EL.newP QFs rfl ?_))))));intro g2 w2 q2 hb2 hg2 hl2;have n1_2 := q1.na hg2;have bhbw_2 := Nat.le_trans hbw.size hg2;replace q1 := q1.bl hb2;replace hbw := bo_ hbw hb2;clear hb2 hg2 hl2;refine EL.store rfl rfl q2 QBX rfl rfl rfl rfl ?_;intro w3 hq3 hg3;replace q1 := q1.gr hg3 n1_2;replace hbw := ZC hbw hg3 bhbw_2;replace q2 := hq3;clear hg3 hq3;refine EL.nil (EX.seq (EC.seq (EC.seq (EC.region (EL.mv rfl rfl (EL.val (QAp rfl) rfl (EL.mv rfl rfl (EL.nil (EX.seq ?_)))))))));refine EC.block ?_;have hg5 := bhbw_2;refine EC.loopD [7, 12, 13, 14, 15, 16, 17, 18, 19, 20, 21, 22, 23, 24, 25, 26, 27, 28, 29, 30] (fun x : Nat × Value × List (Value × Value) => [(12, .int .i64 (x.1 : Nat))]) (fun x W => x.1 ≤ l.length ∧ Blk W g1 44 #[.int .i64 0, .slice none 0 0] ∧ Blk W g2 44 #[.int .i64 lot, x.2.1] ∧ OwnSecs W w.heap.size x.2.1 (l.take x.1) x.2.2 ∧ Below w.heap.size w W) (fun x => l.length - x.1) (0, .slice none 0 0, []) ⟨Nat.zero_le _, q1, q2, OwnSecs.nil _ _, hbw⟩ ⟨rfl, trivial⟩ ?_
 clear q1 q2 hbw
 rintro ⟨k, vr, us⟩ wk ⟨hk, qA, qB, ho, hbw⟩
 dsimp only at hk qB ho
 by_cases hltk : k < l.length
 ·
  obtain ⟨b, o, rfl, _, sc⟩ := hr.cells k hltk;have hc1 := hr.curve k hltk;have hh1 := hr.holds k hltk;have hfk := hfew _ (getD_mem (d := sec0) hltk);have htk := Z5 (d := sec0) hltk;obtain ⟨y, ey⟩ : ∃ z, z = l.getD k sec0 := ⟨_, rfl⟩;rw [← ey] at sc hc1 hh1 hfk htk;obtain ⟨⟨vc, vh⟩, ep⟩ : ∃ z, z = vs.getD k uu := ⟨_, rfl⟩;rw [← ep] at sc hc1 hh1
  dsimp only at hc1 hh1
  obtain ⟨Ac, cc_, evc, _⟩ := hc1.shape;obtain ⟨Ah, ch_, evh, _⟩ := hh1.shape;subst evc evh;obtain ⟨Ar, cr, rfl, _⟩ := (Rd.of_own ho.row).shape;refine EC.seq (EC.region ?_);refine EL.val (ZO rfl rfl (decide_eq_true (show (((k : Nat) : Int) < ((l.length : Nat) : Int)) by omega))) rfl ?_
  refine EL.nil (EX.seq (EC.seq (EC.yes rfl (EC.skip (EX.seq (EC.seq (EC.block (EC.seq (EC.region ?_)))))))));refine EL.val (QFX rfl rfl hltk) rfl (EL.val (QAr rfl (ZD hbw sc.c0) (ZD hbw sc.c1) (ZD hbw sc.c2) (ZD hbw sc.c3) (ZD hbw sc.c4)) rfl (EL.newP QEE rfl ?_));intro g4 w4 q4 hb4 hg4 hl4;have n1_4 := qA.na hg4;have n2_4 := qB.na hg4;have bhbw_4 := Nat.le_trans hbw.size hg4;have hn4 : (.slice Ar (l.take k).length cr : Value).ownBlock ≠ some g4 := own_ne ho.row hg4;replace qA := qA.bl hb4;replace qB := qB.bl hb4;replace ho := ho.below hb4 (Nat.le_refl _);replace hbw := bo_ hbw hb4;clear hb4 hg4 hl4;refine EL.store rfl rfl q4 QDw rfl rfl rfl rfl ?_;intro w5 hq5 hg5;replace qA := qA.gr hg5 n1_4;replace qB := qB.gr hg5 n2_4;replace ho := ho.box q4 hn4 hg5;replace hbw := ZC hbw hg5 bhbw_4;replace q4 := hq5;clear hg5 hq5;refine EL.nil (EX.seq (EC.seq ?_));have hszW := hbw.size;have lt_1 := qA.lt;have lt_2 := qB.lt;have lt_4 := q4.lt;refine EC.regionP [[], [0], [0, 1], [], [3], [0, 1, 2, 3, 4], [0, 1, 2, 3, 4], [0, 1, 2, 3, 4, 5, 6], [0, 1, 2, 3, 4, 5, 6, 7], [0, 1, 2, 3, 4, 5, 6, 7, 8]] 7 [] (phi (fun i_ r => match i_ with | 0 => r 0 = .pointer (some ⟨g4, 3, none⟩) | 1 => r 1 = .slice Ac y.curve.length cc_ | 3 => r 3 = .pointer (some ⟨g4, 4, none⟩) | 4 => r 4 = .slice Ah y.holds.length ch_ | 6 => r 6 = .pointer (some ⟨g4, 3, none⟩) | _ => True) [(2, fun r w_ => ∃ A_ c_, r 2 = .slice A_ y.curve.length c_ ∧ w_.ownsRow w5.heap.size 111 2 (.slice A_ y.curve.length c_) y.curve.length (hrowsC y.curve)), (5, fun r w_ => ∃ A_ c_, r 5 = .slice A_ y.holds.length c_ ∧ w_.ownsRow w5.heap.size 66 2 (.slice A_ y.holds.length c_) y.holds.length (holdsC y.holds))]) (by kernel_rfl) rfl rfl (ZT QA6 (ZT QA6 (ZY))) (fun i_ hi_ => ?_) ?_
  ·match i_, hi_ with
   | 0, _ =>
    intro val w1 a hb ha hd;have ha := ha.s0 (d := 7) rfl
    exact ZB ha rfl rfl (Yz rfl) rfl rfl
   | 1, _ =>
    intro val w1 a hb ha hd;have e0 : val 0 = _ := hd 0 (ZA.1 rfl);have ha := ha.s1 (d := 16) rfl e0
    exact ZB ha rfl rfl (QCN rfl ((q4.below hb q4.lt).at (j := 3) rfl)) rfl rfl
   | 2, _ =>
    intro val w1 a hb ha hd;have e1 : val 1 = _ := hd 1 (ZA.1 rfl);have ha := ha.s1 (d := 17) rfl e1;refine Zf ha rfl rfl (cA1 cF62 rfl) (QGM ((hc1.below (hbw.mono hB)).below (hb.mono (Nat.le_trans hB hbw.size))) (Nat.le_trans hB (Nat.le_trans hbw.size hb.size)) (by omega)) rfl ?_
    rintro e w' ⟨⟨v1, rfl, ho1⟩, hb'⟩
    obtain ⟨A1, c1, rfl, _⟩ := (Rd.of_own ho1).shape
    exact ⟨_, rfl, hb', ⟨A1, c1, rfl, own_less ho1 hb.size⟩⟩
   | 3, _ =>
    intro val w1 a hb ha hd;have ha := ha.s0 (d := 7) rfl
    exact ZB ha rfl rfl (QBo rfl) rfl rfl
   | 4, _ =>
    intro val w1 a hb ha hd;have e3 : val 3 = _ := hd 3 (ZA.1 rfl);have ha := ha.s1 (d := 19) rfl e3
    exact ZB ha rfl rfl (QG2 rfl ((q4.below hb q4.lt).at (j := 4) rfl)) rfl rfl
   | 5, _ =>
    intro val w1 a hb ha hd;have e4 : val 4 = _ := hd 4 (ZA.1 rfl);have ha := ha.s1 (d := 20) rfl e4;refine Zf ha rfl rfl (cA1 cF63 rfl) (QGP ((hh1.below (hbw.mono hB)).below (hb.mono (Nat.le_trans hB hbw.size))) (Nat.le_trans hB (Nat.le_trans hbw.size hb.size)) (by omega)) rfl ?_
    rintro e w' ⟨⟨v1, rfl, ho1⟩, hb'⟩
    obtain ⟨A1, c1, rfl, _⟩ := (Rd.of_own ho1).shape
    exact ⟨_, rfl, hb', ⟨A1, c1, rfl, own_less ho1 hb.size⟩⟩
   | 6, _ =>
    intro val w1 a hb ha hd;have ha := ha.s0 (d := 7) rfl
    exact ZB ha rfl rfl (Yz rfl) rfl rfl
   | k + 7, h => exact absurd h (by omega)
  ·intro val wR5 hb halc hd
   have e0 : val 0 = _ := hd 0 (by omega)
   have e1 : val 1 = _ := hd 1 (by omega)
   obtain ⟨A2_, c2_, e2, o2_⟩ := hd 2 (by omega)
   have e3 : val 3 = _ := hd 3 (by omega)
   have e4 : val 4 = _ := hd 4 (by omega)
   obtain ⟨A5_, c5_, e5, o5_⟩ := hd 5 (by omega)
   have e6 : val 6 = _ := hd 6 (by omega)
   refine EL.ends (cs := [_, _, _, _, _, _, _]) ⟨e0, e1, e2, e3, e4, e5, e6, trivial⟩ rfl ?_;replace qA := qA.bl hb;replace qB := qB.bl hb;replace q4 := q4.bl hb;replace ho := ho.below hb (Nat.le_refl _);replace hbw := bo_ hbw hb;clear hb;replace o2_ := own_less o2_ hszW;replace o5_ := own_less o5_ hszW;refine EL.store rfl rfl q4 QLZ rfl rfl rfl rfl ?_;intro w6 hq6 hg6;replace qA := qA.gr hg6 n1_4;replace qB := qB.gr hg6 n2_4;replace ho := ho.box q4 hn4 hg6;replace o2_ := ZF o2_ q4 rfl hg6;replace o5_ := ZF o5_ q4 rfl hg6;replace hbw := ZC hbw hg6 bhbw_4;replace q4 := hq6;clear hg6 hq6;refine EL.val (QBo rfl) rfl (EL.store rfl rfl q4 QLY rfl rfl rfl rfl ?_);intro w7 hq7 hg7;replace qA := qA.gr hg7 n1_4;replace qB := qB.gr hg7 n2_4;replace ho := ho.box q4 hn4 hg7;replace o2_ := ZF o2_ q4 rfl hg7;replace o5_ := ZF o5_ q4 rfl hg7;replace hbw := ZC hbw hg7 bhbw_4;replace q4 := hq7;clear hg7 hq7;refine EL.nil (EX.seq (EC.region (EL.val (Yc rfl) rfl (EL.val (QAb rfl (qB.at (j := 1) rfl)) rfl (EL.val (QAr rfl (q4.at (j := 0) rfl) (q4.at (j := 1) rfl) (q4.at (j := 2) rfl) (q4.at (j := 3) rfl) (q4.at (j := 4) rfl)) rfl (EL.newS (QKX rfl) rfl ?_))))));intro g8 w8 q8 hb8 hg8 hl8;have n1_8 := qA.na hg8;have n2_8 := qB.na hg8;have n4_8 := q4.na hg8;have bhbw_8 := Nat.le_trans hbw.size hg8;replace qA := qA.bl hb8;replace qB := qB.bl hb8;replace q4 := q4.bl hb8;replace ho := ho.below hb8 (Nat.le_refl _);replace o2_ := own_below o2_ hb8 (Nat.le_refl _);replace o5_ := own_below o5_ hb8 (Nat.le_refl _);replace hbw := bo_ hbw hb8;clear hb8 hg8 hl8;refine EL.push QC0 rfl rfl ho.row (QB9 (l := [.int .i64 y.len, .int .i64 y.light, .int .i64 y.trim, .slice A2_ y.curve.length c2_, .slice A5_ y.holds.length c5_]) q8 rfl) (by intro u hu; simp only [List.mem_cons, List.not_mem_nil, or_false] at hu; rcases hu with rfl | rfl | rfl | rfl | rfl <;> rfl) (by rw [List.length_take]; omega) rfl hbw.size rfl ?_
   intro v9 w9 ho2 hgr hb_ hat;replace qA := YM qA ho.row rfl hgr;replace qB := YM qB ho.row rfl hgr;have ho3 := ho.push o2_ o5_ ho2 hgr;rw [← htk] at ho3;replace hbw := hbw.trans hb_;clear ho ho2 hgr hb_ hat o2_ o5_;have ho := ho3;clear ho3;obtain ⟨Ar2, cr2, rfl, _⟩ := (Rd.of_own ho.row).shape;refine EL.val (Yc rfl) rfl (EL.store rfl rfl qB QLe rfl rfl rfl rfl ?_);intro w10 hq10 hg10;replace qA := qA.gr hg10 n1_2;replace ho := ho.type qB rfl rfl rfl hg10;replace hbw := ZC hbw hg10 bhbw_2;replace qB := hq10;clear hg10 hq10;refine EL.nil (EX.blk (EX.seq (EC.region ?_)));refine EL.val (ZM rfl rfl (c := ((k + 1 : Nat) : Int)) ((IntWalk.i64_in _ ⟨by first | omega | (simp only; omega), by first | omega | (simp only; omega)⟩).trans (by first | omega | (simp only; omega)))) rfl ?_
   refine EL.mv rfl rfl (EL.nil ?_);refine EX.roundD (k + 1, _, _) ⟨rfl, trivial⟩ (by repeat first | with_reducible exact .refl _ | refine sp_ rfl ?_ | exact .refl _ | refine sd_ rfl ?_ | refine sn_ ?_) ⟨by omega, qA, qB, ho, hbw⟩ (by simp only; omega)
 ·
  obtain rfl : k = l.length := by omega
  rw [List.take_length] at ho;obtain ⟨Ar, cr, rfl, _⟩ := (Rd.of_own ho.row).shape;refine EC.seq (EC.region ?_);refine EL.val (ZO rfl rfl (decide_eq_false (show ¬(((l.length : Nat) : Int) < ((l.length : Nat) : Int)) by omega))) rfl ?_
  refine EL.nil (EX.seq (EC.seq (EC.no rfl (EC.exit (EX.seq_exit (EX.seq_exit (EX.blk_here (EX.seq (EC.seq ?_)))))))));refine EC.region (EL.val (QBj rfl (qB.at (j := 0) rfl) (qB.at (j := 1) rfl)) rfl (EL.store rfl rfl qA QBX rfl rfl rfl rfl ?_));intro w11 hq11 hg11;replace qB := qB.gr hg11 n1_2.symm;replace ho := ho.type qA rfl rfl rfl hg11;replace hbw := ZC hbw hg11 bhbw_1;replace qA := hq11;clear hg11 hq11;refine EL.nil (EX.seq (EC.ret ?_))
  exact EX.done (QGi rfl rfl (QDE (qA.at (j := 0) rfl) (qA.at (j := 1) rfl))) ⟨⟨_, _, rfl, ho⟩, hbw⟩
def cutE (h : Hul) (from_ to : Int) : Int := if hulB h = true then (if (inB 0 (h.secs.length : Nat) from_ && inB 0 (h.secs.length : Nat) to) = true ∧ from_ < to then (if to - from_ = (h.secs.length : Nat) then 4 else 0) else 3) else 2
def hul0 : Hul := ⟨0, []⟩
def cutH (h : Hul) (from_ to : Int) : Hul := if cutE h from_ to = 0 then ⟨h.lot, h.secs.take from_.toNat ++ h.secs.drop to.toNat⟩ else hul0
section
variable {h : Hul} {p q : Int}
theorem QKr (h1 : hulB h = false) : cutE h p q = 2 ∧ cutH h p q = hul0 := by simp [cutE, cutH, h1]
theorem QHC (h1 : hulB h = true) (h2 : ¬((inB 0 (h.secs.length : Nat) p && inB 0 (h.secs.length : Nat) q) = true ∧ p < q)) : cutE h p q = 3 ∧ cutH h p q = hul0 := by
 have : cutE h p q = 3 := by rw [cutE, if_pos h1, if_neg h2]
 exact ⟨this, by rw [cutH, this]; rfl⟩
theorem QKq (h1 : hulB h = true) (h2 : (inB 0 (h.secs.length : Nat) p && inB 0 (h.secs.length : Nat) q) = true ∧ p < q) (h3 : q - p = (h.secs.length : Nat)) : cutE h p q = 4 ∧ cutH h p q = hul0 := by
 have : cutE h p q = 4 := by rw [cutE, if_pos h1, if_pos h2, if_pos h3]
 exact ⟨this, by rw [cutH, this]; rfl⟩
theorem QJT (h1 : hulB h = true) (h2 : (inB 0 (h.secs.length : Nat) p && inB 0 (h.secs.length : Nat) q) = true ∧ p < q) (h3 : ¬ q - p = (h.secs.length : Nat)) : cutE h p q = 0 ∧ cutH h p q = ⟨h.lot, h.secs.take p.toNat ++ h.secs.drop q.toNat⟩ := by
 have : cutE h p q = 0 := by rw [cutE, if_pos h1, if_pos h2, if_neg h3]
 exact ⟨this, by rw [cutH, this]; rfl⟩
end
section
variable {a b : Hul}
end
/-! ### Parts of lists that are read -/
theorem QD_ {α : Type} {l : List α} {d : α} {i k : Nat} (hi : i < k) : (l.take k).getD i d = l.getD i d := by
 simp [List.getD_eq_getElem?_getD, hi]
theorem QEA {α : Type} {l : List α} {d : α} {i k : Nat} : (l.drop k).getD i d = l.getD (k + i) d := by
 simp [List.getD_eq_getElem?_getD, List.getElem?_drop]
theorem QBA {α : Type} {l r : List α} {d : α} {i : Nat} (hi : i < l.length) : (l ++ r).getD i d = l.getD i d := by
 simp [List.getD_eq_getElem?_getD, List.getElem?_append_left hi]
theorem QA_ {α : Type} {l r : List α} {d : α} {i : Nat} (hi : l.length ≤ i) : (l ++ r).getD i d = r.getD (i - l.length) d := by
 simp [List.getD_eq_getElem?_getD, List.getElem?_append_right hi]
/-- the lists of sections that are read -/
structure SecParts (w : World) (B : Nat) (l : List Sec) (vs : List (Value × Value)) : Prop where
 len : vs.length = l.length
 curve : ∀ i, i < l.length → Rd w B 2 (vs.getD i uu).1 (l.getD i sec0).curve.length (hrowsC (l.getD i sec0).curve)
 holds : ∀ i, i < l.length → Rd w B 2 (vs.getD i uu).2 (l.getD i sec0).holds.length (holdsC (l.getD i sec0).holds)
section
variable {w w' : World} {B B' : Nat} {v : Value} {l r : List Sec} {vs us : List (Value × Value)}
theorem RdSecs.parts (h : RdSecs w B v l vs) : SecParts w B l vs := ⟨h.len, h.curve, h.holds⟩
theorem SecParts.below (h : SecParts w B l vs) (hb : Below B w w') : SecParts w' B l vs := ⟨h.len, fun i hi => (h.curve i hi).below hb, fun i hi => (h.holds i hi).below hb⟩
theorem SecParts.more (h : SecParts w B l vs) (hB : B ≤ B') : SecParts w B' l vs := ⟨h.len, fun i hi => (h.curve i hi).more hB, fun i hi => (h.holds i hi).more hB⟩
theorem SecParts.take (h : SecParts w B l vs) (k : Nat) : SecParts w B (l.take k) (vs.take k) := by
 refine ⟨by rw [List.length_take, List.length_take, h.len], fun i hi => ?_, fun i hi => ?_⟩ <;> (rw [List.length_take] at hi; rw [QD_ (by omega), QD_ (by omega)])
 ·exact h.curve i (by omega)
 ·exact h.holds i (by omega)
theorem SecParts.drop (h : SecParts w B l vs) (k : Nat) : SecParts w B (l.drop k) (vs.drop k) := by
 refine ⟨by rw [List.length_drop, List.length_drop, h.len], fun i hi => ?_, fun i hi => ?_⟩ <;> (rw [List.length_drop] at hi; rw [QEA, QEA])
 ·exact h.curve _ (by omega)
 ·exact h.holds _ (by omega)
theorem SecParts.app (h : SecParts w B l vs) (k : SecParts w B r us) : SecParts w B (l ++ r) (vs ++ us) := by
 refine ⟨by rw [List.length_append, List.length_append, h.len, k.len], fun i hi => ?_, fun i hi => ?_⟩
 ·by_cases h1 : i < l.length
  ·rw [QBA h1, QBA (by rw [h.len]; exact h1)]; exact h.curve i h1
  ·rw [List.length_append] at hi; rw [QA_ (l := l) (by omega), QA_ (l := vs) (by rw [h.len]; omega), h.len]; exact k.curve _ (by omega)
 ·by_cases h1 : i < l.length
  ·rw [QBA h1, QBA (by rw [h.len]; exact h1)]; exact h.holds i h1
  ·rw [List.length_append] at hi; rw [QA_ (l := l) (by omega), QA_ (l := vs) (by rw [h.len]; omega), h.len]; exact k.holds _ (by omega)
theorem SecParts.to (h : SecParts w B l vs) (hr : Rd w B 5 v l.length ((l.zip vs).flatMap secC)) : RdSecs w B v l vs := ⟨h.len, hr, h.curve, h.holds⟩
end
section
variable {α : Type} {f : α → List Value} {z : Nat} {w : World} {B n c : Nat} {A : Option Addr}
theorem QGk (hz : ∀ x, (f x).length = z) {l : List α} (hr : Rd w B z (.slice A n c) n (l.flatMap f)) (hn : n = l.length) {k : Nat} (hk : k ≤ n) : Rd w B z (.slice A k c) k ((l.take k).flatMap f) := by
 obtain ⟨A', c', e, hc⟩ := hr.shape
 injection e with e1 _ e3
 subst e1;subst e3;have hl : l.flatMap f = (l.take k).flatMap f ++ (l.drop k).flatMap f := by rw [← List.flatMap_append, List.take_append_drop]
 refine ⟨by rw [flat_len hz, List.length_take, ← hn, Nat.min_eq_left hk], _, _, rfl, by omega, fun h0 => ?_⟩
 obtain ⟨b, off, e, hb, hcl⟩ := hr.at_ (by omega)
 exact ⟨b, off, e, hb, fun j u hj => hcl j u (by rw [hl, List.getElem?_append_left (List.getElem?_eq_some_iff.1 hj).1]; exact hj)⟩
theorem QGn {b o r : Nat} (hz : ∀ x, (f x).length = z) {l : List α} (hr : Rd w B z (.slice (some ⟨b, o, none⟩) n c) n (l.flatMap f)) (hn : n = l.length) {k : Nat} (hk : k ≤ n) (e : (if c = k then o else o + k * z) = r) : Rd w B z (.slice (some ⟨b, r, none⟩) (n - k) (c - k)) (n - k) ((l.drop k).flatMap f) := by
 obtain ⟨A', c', e', hc⟩ := hr.shape
 injection e' with e1 _ e3
 subst e1;subst e3;have hl : l.flatMap f = (l.take k).flatMap f ++ (l.drop k).flatMap f := by rw [← List.flatMap_append, List.take_append_drop]
 have hlt : ((l.take k).flatMap f).length = k * z := by rw [flat_len hz, List.length_take, ← hn, Nat.min_eq_left hk]
 refine ⟨by rw [flat_len hz, List.length_drop, ← hn], _, _, rfl, by omega, fun h0 => ?_⟩
 rw [if_neg (by omega)] at e
 subst e;obtain ⟨b', off, e, hb, hcl⟩ := hr.at_ (by omega)
 injection e with e
 injection e with e1 e2
 subst e1;subst e2;refine ⟨b, o + k * z, rfl, hb, fun j u hj => ?_⟩
 rw [Nat.add_assoc]
 exact hcl (k * z + j) u (by rw [hl, List.getElem?_append_right (by omega), hlt, Nat.add_sub_cancel_left]; exact hj)
end
theorem QDs : ∀ (k : Nat) (l : List Sec) (vs : List (Value × Value)), (l.take k).zip (vs.take k) = (l.zip vs).take k
 | 0, _, _ => rfl
 | _ + 1, [], _ => by simp
 | _ + 1, _ :: _, [] => by simp
 | k + 1, x :: l, y :: vs => by simpa using QDs k l vs
theorem QDt : ∀ (k : Nat) (l : List Sec) (vs : List (Value × Value)), (l.drop k).zip (vs.drop k) = (l.zip vs).drop k
 | 0, _, _ => rfl
 | _ + 1, [], _ => by simp
 | _ + 1, _ :: _, [] => by simp
 | k + 1, x :: l, y :: vs => by simpa using QDt k l vs
theorem QHi {i base : Nat} {lot : Int} {l : List Sec} : Mono fun r w => ∃ v us, r i = .agg #[.int .i64 lot, v] ∧ OwnSecs w base v l us := fun _ _ _ hb ⟨v, us, h1, h2⟩ => ⟨v, us, h1, h2.below hb (Nat.le_refl _)⟩
theorem Zl.take {l : List Sec} (h : Zl l) (k : Nat) : Zl (l.take k) := fun s hs => h s (List.mem_of_mem_take hs)
theorem Zl.drop {l : List Sec} (h : Zl l) (k : Nat) : Zl (l.drop k) := fun s hs => h s (List.mem_of_mem_drop hs)
theorem Zl.app {l r : List Sec} (h : Zl l) (k : Zl r) : Zl (l ++ r) := fun s hs => by
 rcases List.mem_append.1 hs with hs | hs
 ·exact h s hs
 ·exact k s hs
section
variable {n : Nat} {σ : Sg} {w : World} {dst : Option Tmp} {ty : TypeId} {pos : String} {af : Array Edge} {g : Option (Nat × Bool)} {x y z : Operand} {at' : Array TypeId}
theorem QEu    : ZE Try.prog n σ w ⟨dst, .build 44 #[], ty, pos, af, g⟩ (.agg #[.int .i64 0, .slice none 0 0]) := fun a _ => by
 simp only [execOp, List.map_toArray, List.map_nil]
 go_simp
theorem QK9 {b o m c lo r : Nat} (hx : evS σ x = some (.slice (some ⟨b, o, none⟩) m c)) (hl : evS σ y = some (.int .i64 (lo : Int))) (h1 : lo ≤ m) (hr : (if c = lo then o else o + lo * 5) = r) : ZE Try.prog n σ w ⟨dst, .slice 42 x (some y) none none, ty, pos, af, g⟩ (.slice (some ⟨b, r, none⟩) (m - lo) (c - lo)) := fun a ha => by
 have k0 : (0 : Int) ≤ (lo : Int) := Int.natCast_nonneg _;have k2 : (lo : Int) ≤ (m : Int) := by omega
 subst hr
 simp only [execOp, Option.map_some, Option.map_none, ha.eval hx, ha.eval hl]
 by_cases e : c = lo
 ·subst e; simp [go_sem, k0, k2, h1]
 ·simp [go_sem, k0, k2, h1, e]
theorem QJY {x0 x1 : Operand} {A0 A1 : Option Addr} {m0 c0 m1 c1 : Nat} (h0 : evS σ x0 = some (.slice A0 m0 c0)) (h1 : evS σ x1 = some (.slice A1 m1 c1)) (a : Act) (ha : Env n σ a) : (execOp a.eval ⟨dst, .buildSlice 158 2 #[(0, x0), (1, x1)], ty, pos, af, g⟩).run Try.prog w = .ok (.value (.slice (some ⟨w.heap.size, 0, none⟩) 2 2)) (w.alloc (.cells #[.slice A0 m0 c0, .slice A1 m1 c1] 42)) := by
 simp only [execOp, List.map_toArray, List.map_cons, List.map_nil, ha.eval h0, ha.eval h1]
 go_simp
theorem cF47 : cF 47 := fun _ _ => by simp [go_sem]
theorem cF46 : cF 46 := fun _ _ => by simp [go_sem]
end
set_option maxRecDepth 100000 in
theorem QKL (h : Hul) (v : Value) (vs : List (Value × Value)) (w : World) (B : Nat) (hr : RdSecs w B v h.secs vs) (hB : B ≤ w.heap.size) (hl : h.secs.length ≤ 1048576) (hfew : Zl h.secs) (p q : Int) :
  Calls Try.prog 25 #[.agg #[.int .i64 h.lot, v], .int .i64 p, .int .i64 q] w fun e w' => (∃ v' vs', e = .returned (.tuple #[.agg #[.int .i64 (cutH h p q).lot, v'], .int .i64 (cutE h p q)]) ∧ OwnSecs w' w.heap.size v' (cutH h p q).secs vs') ∧ Below w.heap.size w w' := by
 obtain ⟨A, c, rfl⟩ := hr.shape;have hbw := Below.refl w.heap.size w;refine EC.enter 63 Try.func25 rfl rfl rfl (EC.seq (EC.region (EL.newP (QCT rfl) rfl ?_)));intro g1 w1 q1 hb1 hg1 hl1;have bhbw_1 := Nat.le_trans hbw.size hg1;replace hbw := bo_ hbw hb1;clear hb1 hg1 hl1;refine EL.newP QFs rfl ?_;intro g2 w2 q2 hb2 hg2 hl2;have n1_2 := q1.na hg2;have bhbw_2 := Nat.le_trans hbw.size hg2;replace q1 := q1.bl hb2;replace hbw := bo_ hbw hb2;clear hb2 hg2 hl2;refine EL.as rfl rfl (EL.nil (EX.seq (EC.seq (EC.region (EL.val (QBj rfl (q1.at (j := 0) rfl) (q1.at (j := 1) rfl)) rfl ?_)))))
 cases hhul : hulB h
 ·
  refine EL.call (cA1 cF39 rfl) rfl (QBm hhul _ _ _ B (hr.below (hbw.mono hB)) (Nat.le_trans hB hbw.size) hl hfew) ?_
  rintro e w3 ⟨rfl, hc3⟩
  refine ⟨_, rfl, ?_⟩;replace q1 := q1.bl hc3;replace q2 := q2.bl hc3;replace hbw := bo_ hbw hc3;clear hc3;refine EL.mv rfl rfl (EL.xt rfl rfl rfl (EL.xt rfl rfl rfl (EL.as rfl rfl (EL.as rfl rfl (EL.nil (EX.seq (EC.seq (EC.block (EC.seq ?_)))))))));refine EC.region (EL.mv rfl rfl ?_);refine EL.val (Zq (r := true) rfl rfl (decide_eq_true (by decide))) rfl ?_
  refine EL.as rfl rfl (EL.nil (EX.seq (EC.yes rfl (EC.seq (EC.region (EL.val (QEu) rfl (EL.mv rfl rfl (EL.store rfl rfl q2 QBX rfl rfl rfl rfl ?_))))))));intro w4 hq4 hg4;replace q1 := q1.gr hg4 n1_2;replace hbw := ZC hbw hg4 bhbw_2;replace q2 := hq4;clear hg4 hq4;refine EL.as rfl rfl (EL.nil (EX.seq (EC.ret (EX.blk_ret (EX.seq_ret ?_)))))
  exact EX.done (Zy rfl rfl rfl (QDE (q2.at (j := 0) rfl) (q2.at (j := 1) rfl))) ⟨by rw [(QKr hhul).1, (QKr hhul).2]; exact ⟨_, _, rfl, OwnSecs.nil _ _⟩, hbw⟩
 ·
  refine EL.call (cA1 cF39 rfl) rfl (QDP hhul _ _ _ B (hr.below (hbw.mono hB)) (Nat.le_trans hB hbw.size) hl hfew) ?_
  rintro e wS ⟨⟨g, hv, rfl, hgw, hs⟩, hc5⟩
  refine ⟨_, rfl, ?_⟩;replace q1 := q1.bl hc5;replace q2 := q2.bl hc5;replace hbw := bo_ hbw hc5;clear hc5;have hH := QBS hhul;have hbs := Below.refl wS.heap.size wS;refine EL.mv rfl rfl (EL.xt rfl rfl rfl (EL.xt rfl rfl rfl (EL.as rfl rfl (EL.as rfl rfl (EL.nil (EX.seq (EC.seq (EC.block (EC.seq ?_)))))))));refine EC.region (EL.mv rfl rfl ?_);refine EL.val (Zq (r := false) rfl rfl (decide_eq_false (by decide))) rfl ?_
  refine EL.as rfl rfl (EL.nil (EX.seq (EC.no rfl (EC.seq (EC.region ?_)))));have hsm := hH.some;refine EL.mv rfl rfl (EL.val (ZK rfl) rfl (EL.val (QAu rfl) rfl (EL.val (Yc rfl) rfl (EL.val (QAb rfl (ZD hbs (hs.c (j := 1) rfl))) rfl (EL.val (QAp rfl) rfl (EL.mv rfl rfl (EL.mv rfl rfl (EL.newS (QBy rfl rfl) rfl ?_))))))));intro g6 w6 q6 hb6 hg6 hl6;have n1_6 := q1.na hg6;have n2_6 := q2.na hg6;have bhbw_6 := Nat.le_trans hbw.size hg6;have bhbs_6 := Nat.le_trans hbs.size hg6;replace q1 := q1.bl hb6;replace q2 := q2.bl hb6;replace hbw := bo_ hbw hb6;replace hbs := bo_ hbs hb6;clear hb6 hg6 hl6
  cases hin : (inB 0 (h.secs.length : Nat) p && inB 0 (h.secs.length : Nat) q)
  ·
   refine EL.call (cA3 cF35 rfl rfl rfl) rfl (QBW q6 hin) ?_
   rintro e w7 ⟨rfl, hc7⟩
   refine ⟨_, rfl, ?_⟩;replace q1 := q1.bl hc7;replace q2 := q2.bl hc7;replace q6 := q6.bl hc7;replace hbw := bo_ hbw hc7;replace hbs := bo_ hbs hc7;clear hc7;refine EL.val (ZV rfl) rfl (EL.mv rfl rfl (EL.skip rfl rfl rfl rfl (EL.skip rfl rfl rfl rfl (EL.skip rfl rfl rfl rfl (EL.pt rfl rfl rfl (EL.as rfl rfl (EL.nil (EX.seq (EC.yes rfl ?_)))))))));refine EC.seq (EC.region (EL.val (QEu) rfl (EL.store rfl rfl q2 QBX rfl rfl rfl rfl ?_)));intro w8 hq8 hg8;replace q1 := q1.gr hg8 n1_2;replace q6 := q6.gr hg8 n2_6.symm;replace hbw := ZC hbw hg8 bhbw_2;clear hbs;replace q2 := hq8;clear hg8 hq8;refine EL.as rfl rfl (EL.nil (EX.seq (EC.ret (EX.blk_ret (EX.seq_ret ?_)))))
   exact EX.done (Zy rfl rfl rfl (QDE (q2.at (j := 0) rfl) (q2.at (j := 1) rfl))) ⟨by rw [(QHC hhul (fun hx => by rw [hin] at hx; cases hx.1)).1, (QHC hhul (fun hx => by rw [hin] at hx; cases hx.1)).2]; exact ⟨_, _, rfl, OwnSecs.nil _ _⟩, hbw⟩
  ·
   refine EL.call (cA3 cF35 rfl rfl rfl) rfl (QBW q6 hin) ?_
   rintro e w9 ⟨rfl, hc9⟩
   refine ⟨_, rfl, ?_⟩;replace q1 := q1.bl hc9;replace q2 := q2.bl hc9;replace q6 := q6.bl hc9;replace hbw := bo_ hbw hc9;replace hbs := bo_ hbs hc9;clear hc9;refine EL.val (ZV rfl) rfl (EL.mv rfl rfl (EL.mg rfl rfl rfl rfl (EL.mg rfl rfl rfl rfl ?_)))
   by_cases hpq : q ≤ p
   ·
    refine EL.valg rfl rfl (QAA (r := true) rfl rfl (decide_eq_true hpq)) rfl (EL.pf rfl rfl rfl (EL.as rfl rfl (EL.nil (EX.seq (EC.yes rfl (EC.seq (EC.region (EL.val (QEu) rfl (EL.store rfl rfl q2 QBX rfl rfl rfl rfl ?_)))))))));intro w10 hq10 hg10;replace q1 := q1.gr hg10 n1_2;replace q6 := q6.gr hg10 n2_6.symm;replace hbw := ZC hbw hg10 bhbw_2;clear hbs;replace q2 := hq10;clear hg10 hq10;refine EL.as rfl rfl (EL.nil (EX.seq (EC.ret (EX.blk_ret (EX.seq_ret ?_)))))
    exact EX.done (Zy rfl rfl rfl (QDE (q2.at (j := 0) rfl) (q2.at (j := 1) rfl))) ⟨by rw [(QHC hhul (fun hx => by omega)).1, (QHC hhul (fun hx => by omega)).2]; exact ⟨_, _, rfl, OwnSecs.nil _ _⟩, hbw⟩
   ·
    have hpb := hin
    simp only [Bool.and_eq_true, inB_iff] at hpb
    refine EL.valg rfl rfl (QAA (r := false) rfl rfl (decide_eq_false hpq)) rfl (EL.pf rfl rfl rfl (EL.as rfl rfl (EL.nil (EX.seq (EC.no rfl (EC.seq (EC.region (EL.mv rfl rfl (EL.mv rfl rfl ?_)))))))));refine EL.val (Z4 rfl rfl (IntWalk.i64_in _ ⟨by omega, by omega⟩)) rfl ?_
    refine EL.mv rfl rfl (EL.val (ZK rfl) rfl (EL.val (QAu rfl) rfl (EL.val (Yc rfl) rfl (EL.val (QAb rfl (ZD hbs (hs.c (j := 1) rfl))) rfl (EL.val (QAp rfl) rfl ?_)))))
    by_cases hal : q - p = (h.secs.length : Nat)
    ·
     refine EL.val (Zg (r := true) rfl rfl (decide_eq_true hal)) rfl (EL.as rfl rfl (EL.nil (EX.seq (EC.yes rfl (EC.seq (EC.region (EL.val (QEu) rfl (EL.store rfl rfl q2 QBX rfl rfl rfl rfl ?_))))))));intro w11 hq11 hg11;replace q1 := q1.gr hg11 n1_2;replace q6 := q6.gr hg11 n2_6.symm;replace hbw := ZC hbw hg11 bhbw_2;clear hbs;replace q2 := hq11;clear hg11 hq11;refine EL.as rfl rfl (EL.nil (EX.seq (EC.ret (EX.blk_ret (EX.seq_ret ?_)))))
     exact EX.done (Zy rfl rfl rfl (QDE (q2.at (j := 0) rfl) (q2.at (j := 1) rfl))) ⟨by rw [(QKq hhul ⟨hin, by omega⟩ hal).1, (QKq hhul ⟨hin, by omega⟩ hal).2]; exact ⟨_, _, rfl, OwnSecs.nil _ _⟩, hbw⟩
    ·
     refine EL.val (Zg (r := false) rfl rfl (decide_eq_false hal)) rfl (EL.as rfl rfl (EL.nil (EX.seq (EC.no rfl (EC.skip (EX.blk (EX.seq (EC.seq ?_))))))));obtain ⟨P_, eP⟩ : ∃ P_ : Nat, p = P_ := ⟨p.toNat, by omega⟩
     obtain ⟨Q_, eQ⟩ : ∃ Q_ : Nat, q = Q_ := ⟨q.toNat, by omega⟩
     subst eP eQ;obtain ⟨b, o, rfl, _, _⟩ := hr.cells 0 (by omega)
     have hRz := hr.rd;obtain ⟨ro, ero⟩ : ∃ ro, (if c = Q_ then o else o + Q_ * 5) = ro := ⟨_, rfl⟩
     have hzl : (h.secs.zip vs).length = h.secs.length := by rw [List.length_zip, hr.len]; omega
     have hr1 := QGk QC1 hRz hzl.symm (k := P_) (by omega)
     have hr2 := QGn QC1 hRz hzl.symm (k := Q_) (by omega) ero
     have hone := hr.one;have hcap : h.secs.length ≤ c := by obtain ⟨_, _, e_, hc_⟩ := hRz.shape; injection e_ with _ _ e3_; omega
     have hl1_ : ((h.secs.zip vs).take P_).length = P_ := by rw [List.length_take]; omega
     have hl2_ : ((h.secs.zip vs).drop Q_).length = h.secs.length - Q_ := by rw [List.length_drop]; omega
     have hone1 : ∀ u ∈ ((h.secs.zip vs).take P_).flatMap secC, u.oneCell' = true := fun u hu => hone u (by obtain ⟨x, hx, hux⟩ := List.mem_flatMap.1 hu; exact List.mem_flatMap.2 ⟨x, List.mem_of_mem_take hx, hux⟩)
     have hone2 : ∀ u ∈ ((h.secs.zip vs).drop Q_).flatMap secC, u.oneCell' = true := fun u hu => hone u (by obtain ⟨x, hx, hux⟩ := List.mem_flatMap.1 hu; exact List.mem_flatMap.2 ⟨x, List.mem_of_mem_drop hx, hux⟩)
     have hLl : (h.secs.take P_ ++ h.secs.drop Q_).length ≤ 6 := by rw [List.length_append, List.length_take, List.length_drop]; omega
     have hszW := hbw.size;have hZip : (h.secs.take P_ ++ h.secs.drop Q_).zip (vs.take P_ ++ vs.drop Q_) = (((h.secs.zip vs).take P_) ++ ((h.secs.zip vs).drop Q_)) := by rw [List.zip_append (by rw [List.length_take, List.length_take, hr.len]), QDs, QDt]
     have hZlen : (((h.secs.zip vs).take P_) ++ ((h.secs.zip vs).drop Q_)).length = (h.secs.take P_ ++ h.secs.drop Q_).length := by rw [← hZip, List.length_zip, List.length_append, List.length_append, List.length_take, List.length_drop, List.length_take, List.length_drop, hr.len]; omega
     have lt_1 := q1.lt;have lt_2 := q2.lt;have lt_6 := q6.lt;refine EC.regionP [[], [0], [], [2], [], [2, 3, 4], [], [6], [], [6, 7, 8], [2, 3, 4, 5, 6, 7, 8, 9], [2, 3, 4, 5, 6, 7, 8, 9, 10], [0, 1, 2, 3, 4, 5, 6, 7, 8, 9, 10, 11], [0, 1, 2, 3, 4, 5, 6, 7, 8, 9, 10, 11, 12], [0, 1, 2, 3, 4, 5, 6, 7, 8, 9, 10, 11, 12, 13]] 13 [] (phi (fun i_ r => match i_ with | 0 => r 0 = .pointer (some ⟨g1, 0, none⟩) | 1 => r 1 = .int .i64 h.lot | 2 => r 2 = .pointer (some ⟨g1, 1, none⟩) | 3 => r 3 = .slice (some ⟨b, o, none⟩) h.secs.length c | 4 => r 4 = .int .i64 (P_ : Nat) | 5 => r 5 = .slice (some ⟨b, o, none⟩) P_ c | 6 => r 6 = .pointer (some ⟨g1, 1, none⟩) | 7 => r 7 = .slice (some ⟨b, o, none⟩) h.secs.length c | 8 => r 8 = .int .i64 (Q_ : Nat) | 9 => r 9 = .slice (some ⟨b, ro, none⟩) (h.secs.length - Q_) (c - Q_) | _ => True) [(10, fun r w_ => ∃ g_, r 10 = .slice (some ⟨g_, 0, none⟩) 2 2 ∧ Blk w_ g_ 42 #[.slice (some ⟨b, o, none⟩) P_ c, .slice (some ⟨b, ro, none⟩) (h.secs.length - Q_) (c - Q_)] ∧ w9.heap.size ≤ g_), (11, fun r w_ => ∃ A_ c_, r 11 = .slice A_ (h.secs.take P_ ++ h.secs.drop Q_).length c_ ∧ w_.ownsRow w9.heap.size 70 5 (.slice A_ (h.secs.take P_ ++ h.secs.drop Q_).length c_) (h.secs.take P_ ++ h.secs.drop Q_).length ((((h.secs.zip vs).take P_) ++ ((h.secs.zip vs).drop Q_)).flatMap secC)), (12, fun r w_ => ∃ v_ us_, r 12 = .agg #[.int .i64 h.lot, v_] ∧ OwnSecs w_ w9.heap.size v_ (h.secs.take P_ ++ h.secs.drop Q_) us_)]) (by kernel_rfl) rfl rfl (ZT Zw (ZT QA6 (ZT QHi (ZY)))) (fun i_ hi_ => ?_) ?_
     ·match i_, hi_ with
      | 0, _ =>
       intro val w1 a hb ha hd;have ha := ha.s0 (d := 3) rfl
       exact ZB ha rfl rfl (QCl rfl) rfl rfl
      | 1, _ =>
       intro val w1 a hb ha hd;have e0 : val 0 = _ := hd 0 (ZA.1 rfl);have ha := ha.s1 (d := 50) rfl e0
       exact ZB ha rfl rfl (ld_3 rfl ((q1.below hb q1.lt).at (j := 0) rfl)) rfl rfl
      | 2, _ =>
       intro val w1 a hb ha hd;have ha := ha.s0 (d := 3) rfl
       exact ZB ha rfl rfl (Yc rfl) rfl rfl
      | 3, _ =>
       intro val w1 a hb ha hd;have e2 : val 2 = _ := hd 2 (ZA.1 rfl);have ha := ha.s1 (d := 52) rfl e2
       exact ZB ha rfl rfl (QAb rfl ((q1.below hb q1.lt).at (j := 1) rfl)) rfl rfl
      | 4, _ =>
       intro val w1 a hb ha hd;have ha := ha.s0 (d := 1) rfl
       exact ZB ha rfl rfl (ZH rfl) rfl rfl
      | 5, _ =>
       intro val w1 a hb ha hd;have e3 : val 3 = _ := hd 3 (ZA.1 rfl);have e4 : val 4 = _ := hd 4 (ZA.1 rfl);have ha := ha.s2 (d := 54) (e := 53) rfl e4 rfl e3
       exact ZB ha rfl rfl (QIY (hi := P_) rfl rfl (by omega)) rfl rfl
      | 6, _ =>
       intro val w1 a hb ha hd;have ha := ha.s0 (d := 3) rfl
       exact ZB ha rfl rfl (Yc rfl) rfl rfl
      | 7, _ =>
       intro val w1 a hb ha hd;have e6 : val 6 = _ := hd 6 (ZA.1 rfl);have ha := ha.s1 (d := 56) rfl e6
       exact ZB ha rfl rfl (QAb rfl ((q1.below hb q1.lt).at (j := 1) rfl)) rfl rfl
      | 8, _ =>
       intro val w1 a hb ha hd;have ha := ha.s0 (d := 2) rfl
       exact ZB ha rfl rfl (ZH rfl) rfl rfl
      | 9, _ =>
       intro val w1 a hb ha hd;have e7 : val 7 = _ := hd 7 (ZA.1 rfl);have e8 : val 8 = _ := hd 8 (ZA.1 rfl);have ha := ha.s2 (d := 58) (e := 57) rfl e8 rfl e7
       exact ZB ha rfl rfl (QK9 (lo := Q_) rfl rfl (by omega) ero) rfl rfl
      | 10, _ =>
       intro val w1 a hb ha hd;have e5 : val 5 = _ := hd 5 (ZA.1 rfl);have e9 : val 9 = _ := hd 9 (ZA.1 rfl);have ha := ha.s2 (d := 59) (e := 55) rfl e9 rfl e5
       exact YB ha rfl rfl (QJY rfl rfl) rfl (fun g w' hq _ hge => ⟨g, rfl, hq, Nat.le_trans hb.size hge⟩)
      | 11, _ =>
       intro val w1 a hb ha hd;obtain ⟨g10_, e10, q10_, h10_⟩ := hd 10 (ZA.1 rfl);have ha := ha.s1 (d := 60) rfl e10;have hLL : RdLL secC 5 w1 w1.heap.size (.slice (some ⟨g10_, 0, none⟩) 2 2) [(h.secs.zip vs).take P_, (h.secs.zip vs).drop Q_] [.slice (some ⟨b, o, none⟩) P_ c, .slice (some ⟨b, ro, none⟩) (h.secs.length - Q_) (c - Q_)] := ⟨rfl, YG (k := 2) (l := [.slice (some ⟨b, o, none⟩) P_ c, .slice (some ⟨b, ro, none⟩) (h.secs.length - Q_) (c - Q_)]) q10_ rfl, fun i hi => by
        match i, hi with
        | 0, _ => show Rd w1 w1.heap.size 5 (.slice (some ⟨b, o, none⟩) P_ c) ((h.secs.zip vs).take P_).length (((h.secs.zip vs).take P_).flatMap secC); rw [hl1_]; exact (((hr1).below (hbw.mono hB)).below (hb.mono (Nat.le_trans hB hbw.size))).more (Nat.le_trans hB (Nat.le_trans hbw.size hb.size))
        | 1, _ => show Rd w1 w1.heap.size 5 (.slice (some ⟨b, ro, none⟩) (h.secs.length - Q_) (c - Q_)) ((h.secs.zip vs).drop Q_).length (((h.secs.zip vs).drop Q_).flatMap secC); rw [hl2_]; exact (((hr2).below (hbw.mono hB)).below (hb.mono (Nat.le_trans hB hbw.size))).more (Nat.le_trans hB (Nat.le_trans hbw.size hb.size))
        | k + 2, h => exact absurd h (by simp)⟩
       refine Zf ha rfl rfl (cA1 cF47 rfl) (QGK [(h.secs.zip vs).take P_, (h.secs.zip vs).drop Q_] _ _ _ _ hLL (Nat.le_refl _) (by simp) (by simp only [List.flatten_cons, List.flatten_nil, List.append_nil]; rw [hZlen]; omega) (fun x hx u hu => by
        match x, hx with
        | 0, _ => exact hone1 u (by simpa using hu)
        | 1, _ => exact hone2 u (by simpa using hu)
        | k + 2, h => exact absurd h (by simp))) rfl ?_
       rintro e w' ⟨⟨v1_, rfl, ho1⟩, hb'⟩
       simp only [List.flatten_cons, List.flatten_nil, List.append_nil] at ho1
       rw [hZlen] at ho1;obtain ⟨A1, c1, rfl, _⟩ := (Rd.of_own ho1).shape
       exact ⟨_, rfl, hb', ⟨A1, c1, rfl, own_less ho1 hb.size⟩⟩
      | 12, _ =>
       intro val w1 a hb ha hd;have e1 : val 1 = _ := hd 1 (ZA.1 rfl);obtain ⟨A11_, c11_, e11, o11_⟩ := hd 11 (ZA.1 rfl);have ha := ha.s2 (d := 61) (e := 51) rfl e11 rfl e1;have hRS : RdSecs w1 w1.heap.size (.slice A11_ (h.secs.take P_ ++ h.secs.drop Q_).length c11_) (h.secs.take P_ ++ h.secs.drop Q_) (vs.take P_ ++ vs.drop Q_) := SecParts.to ((((hr.parts.take P_).app (hr.parts.drop Q_)).below (hbw.mono hB)).below (hb.mono (Nat.le_trans hB hbw.size)) |>.more (Nat.le_trans hB (Nat.le_trans hbw.size hb.size))) (by rw [hZip]; exact rd_of_own o11_)
       refine Zf ha rfl rfl (cA2 cF46 rfl rfl) (QH8 h.lot (h.secs.take P_ ++ h.secs.drop Q_) _ _ _ _ hRS (Nat.le_refl _) (by omega) ((hfew.take P_).app (hfew.drop Q_))) rfl ?_
       rintro e w' ⟨⟨v1_, us_, rfl, ho1⟩, hb'⟩
       skip
       exact ⟨_, rfl, hb', ⟨v1_, us_, rfl, ho1.less hb.size⟩⟩
      | k + 13, h => exact absurd h (by omega)
     ·intro val wR8 hb halc hd
      have e0 : val 0 = _ := hd 0 (by omega)
      have e1 : val 1 = _ := hd 1 (by omega)
      have e2 : val 2 = _ := hd 2 (by omega)
      have e3 : val 3 = _ := hd 3 (by omega)
      have e4 : val 4 = _ := hd 4 (by omega)
      have e5 : val 5 = _ := hd 5 (by omega)
      have e6 : val 6 = _ := hd 6 (by omega)
      have e7 : val 7 = _ := hd 7 (by omega)
      have e8 : val 8 = _ := hd 8 (by omega)
      have e9 : val 9 = _ := hd 9 (by omega)
      obtain ⟨g10_, e10, q10_, h10_⟩ := hd 10 (by omega)
      obtain ⟨A11_, c11_, e11, o11_⟩ := hd 11 (by omega)
      obtain ⟨v12_, us12_, e12, o12_⟩ := hd 12 (by omega)
      refine EL.ends (cs := [_, _, _, _, _, _, _, _, _, _, _, _, _]) ⟨e0, e1, e2, e3, e4, e5, e6, e7, e8, e9, e10, e11, e12, trivial⟩ rfl ?_;replace q1 := q1.bl hb;replace q2 := q2.bl hb;replace q6 := q6.bl hb;replace hbw := bo_ hbw hb;replace hbs := bo_ hbs hb;clear hb;replace o12_ := o12_.less hszW;obtain ⟨A12_, c12_, rfl, _⟩ := (Rd.of_own o12_.row).shape;refine EL.store rfl rfl q2 QBX rfl rfl rfl rfl ?_;intro w12 hq12 hg12;replace q1 := q1.gr hg12 n1_2;replace q6 := q6.gr hg12 n2_6.symm;replace o12_ := o12_.type q2 rfl rfl rfl hg12;replace hbw := ZC hbw hg12 bhbw_2;clear hbs;replace q2 := hq12;clear hg12 hq12;refine EL.as rfl rfl (EL.nil (EX.seq (EC.ret ?_)))
      exact EX.done (Zy rfl rfl rfl (QDE (q2.at (j := 0) rfl) (q2.at (j := 1) rfl))) ⟨by rw [(QJT hhul ⟨hin, by omega⟩ hal).1, (QJT hhul ⟨hin, by omega⟩ hal).2]; exact ⟨_, _, rfl, o12_⟩, hbw⟩
section
variable {P : Program} {w : World}
theorem QHW {t e : TypeId} {size bytes base B m k ty g : Nat} (E : Elem P t e size bytes) {src : Value} {l news : List Value} (hq : Blk w g e l.toArray) (hl : lenV l = k * size) (hg : base ≤ g) (hr : Rd w B size src m news) (h1 : ∀ u ∈ news, u.oneCell' = true) (hm : k + m ≤ 1048576) (hby : bytes ≤ 1048576) (hbase : base ≤ w.heap.size) :
  ∃ v' w', (Builtin.append_ #[t, t] ty #[.slice (some ⟨g, 0, none⟩) k k, src]).run P w = .ok v' w' ∧ w'.ownsRow base e size v' (k + m) (l ++ news) ∧ Below w.heap.size w w' := by
 have hll : l.length = k * size := by rw [← Ya]; exact hl
 have hown := QHh (base := base) hq hl (by omega) hg
 obtain ⟨v', w', h2, h3, h4, h5, _⟩ := QAi (ty := ty) E hown hr h1 hm hby hbase;refine ⟨v', w', h2, h3, ?_⟩;have key : w'.heap[g]? = w.heap[g]? := by
  obtain ⟨i, z, hi, hz, hsize, hb, hzs⟩ := E.hi;obtain ⟨hnl, A, c, rfl, hnc, hr⟩ := hr
  rcases Nat.eq_zero_or_pos m with hm0 | hm0
  ·subst hm0
   have hn : news = [] := List.eq_nil_of_length_eq_zero (by simpa using hnl)
   subst hn
   rcases A with _ | ad
   ·have h6 := run_append_of_nil (P := P) w base t ty e i size E.ht hi _ k l hown c
    rw [h2] at h6
    injection h6 with _ h6
    rw [h6]
   ·have h6 := run_append_room (P := P) w t ty e i E.ht hi g k k l.toArray hq ad 0 c [] (by simp) (by simp) (by simp) (by simp) (by simp [hsize, hll])
    rw [h2] at h6
    injection h6 with _ h6
    have h7 := Y2 (ds := (List.take (k * i.size) l.toArray.toList ++ [] ++ List.drop (k * i.size + ([] : List Value).length) l.toArray.toList).toArray) hq;rw [← h6] at h7
    unfold Blk at h7 hq
    rw [h7, hq]
    simp
  ·obtain ⟨b, off, rfl, _, hc⟩ := hr hm0
   have hmul : (k + m) * i.bytes ≤ 1048576 * i.bytes := Nat.mul_le_mul_right _ hm;have hcap := nextslicecap_le (show k < k + m by omega)
   have hmul2 : Builtin.nextslicecap (k + m) k * i.bytes ≤ 2 * (k + m) * i.bytes := Nat.mul_le_mul_right _ hcap;rw [Nat.mul_assoc] at hmul2;have h6 := run_append_grow (P := P) w t ty e i z E.ht hi hz ⟨g, 0, none⟩ k k l (by rw [hsize]; exact hll) (fun j u hu => by rw [Addr.add_lit, Nat.zero_add, hq.cell]; simpa using hu) ⟨b, off, none⟩ m c news (by rw [hsize]; exact hnl) (fun j u hu => by rw [Addr.add_lit]; exact hc j u hu) (by omega) (by omega) (by omega)
   rw [h2] at h6
   injection h6 with _ h6
   rw [h6];have hlt := hq.lt
   simp only [World.alloc, World.drew]
   rw [Array.getElem?_push_lt hlt, Array.getElem?_eq_getElem hlt]
 exact ⟨h4.os, h4.tape, h4.output, h4.size, fun j hj => by
  by_cases e : j = g
  ·subst e; exact key
  ·exact h4.block j hj (fun h => e (by simpa [Value.ownBlock] using h))⟩
end
section
variable {P : Program} {n : Nat} {σ : Sg} {L : List Oper} {cls : List (List Nat)} {alc : List Nat} {val : Nat → Value} {a : Act} {w1 : World} {i : Nat} {Q : Exit → Act → World → Prop}
theorem QJJ {Φ : Nat → (Nat → Value) → World → Prop} {d ty t e size bytes base B mm k g : Nat} {s x : Operand} {pos : String} {af : Array Edge} (E : Elem P t e size bytes) {src : Value} {l news : List Value} (ha : Env n σ a) (ho : nthO L i = some ⟨some d, .call { callee := .builtin .append, args := #[s, x], argTypes := #[t, t] }, ty, pos, af, none⟩) (hs : evS σ s = some (.slice (some ⟨g, 0, none⟩) k k)) (hx : evS σ x = some src)
  (hq : Blk w1 g e l.toArray) (hl : lenV l = k * size) (hg : base ≤ g) (hr : Rd w1 B size src mm news) (h1 : ∀ u ∈ news, u.oneCell' = true) (hm : k + mm ≤ 1048576) (hby : Nat.ble bytes 1048576 = true) (hbase : base ≤ w1.heap.size) (halc : memB alc i = false)
  (hΦ : ∀ v' w', w'.ownsRow base e size v' (k + mm) (l ++ news) → Φ i (res (upd val i v') i (clsAt cls i)) w') : wpOp P L.toArray Q i (HK L cls alc Φ i val a w1) a w1 := by
 obtain ⟨v', w', h2, h3, h4⟩ := QHW (P := P) (ty := ty) E hq hl hg hr h1 hm (by simpa [Nat.ble_eq] using hby) hbase
 exact QGD ho rfl (YE rfl (ha.eval hs) (ha.eval hx) h2) h4 (hΦ v' w' h3) fun h => by rw [ZA.2 h] at halc; cases halc
end
/-- all blocks from b on, but l, are as they were -/
def Ze (b l : Nat) (A B : World) : Prop := ∀ j, b ≤ j → j ≠ l → j < A.heap.size → B.heap[j]? = A.heap[j]?
theorem Ze.below {b l : Nat} {A B : World} (h : Below A.heap.size A B) : Ze b l A B := fun j _ _ h3 => h.block j h3
theorem Ze.trans {b l : Nat} {A B C : World} (h : Ze b l A B) (k : Ze b l B C) (hs : A.heap.size ≤ B.heap.size) : Ze b l A C := fun j h1 h2 h3 => (k j h1 h2 (Nat.lt_of_lt_of_le h3 hs)).trans (h j h1 h2 h3)
theorem Ze.refl {b l : Nat} (A : World) : Ze b l A A := fun _ _ _ _ => rfl
theorem Ze.grown {b l : Nat} {A B : World} {row : Option Nat} (h : A.grownBy B row) (hr : ∀ g, row = some g → g < b) : Ze b l A B := fun j h1 _ h3 => h.block j h3 fun e => by have := hr j e.symm; omega
theorem QFC {b l : Nat} : FrOk (Ze b l) l := ⟨Ze.below, fun ho _ j _ h2 _ => World.putObj_heap_other h2, Ze.trans⟩
/-- a frame further in -/
theorem Ze.inner {b c l m : Nat} {A B : World} (h : Ze b l A B) (hb : b ≤ c) (hl : l < c) : Ze c m A B := fun j h1 _ h3 => h j (Nat.le_trans hb h1) (by omega) h3
theorem Ze.blk {b l : Nat} {A B : World} {g T : Nat} {cs : Array Value} (h : Ze b l A B) (hq : Blk A g T cs) (hb : b ≤ g) (hl : g ≠ l) : Blk B g T cs := (h g hb hl hq.lt).trans hq
theorem Ze.row {b l : Nat} {A B : World} {base e size n : Nat} {v : Value} {xs : List Value} (h : Ze b l A B) (ho : A.ownsRow base e size v n xs) (hb : b ≤ base) (hl : l < base) : B.ownsRow base e size v n xs := by
 obtain ⟨h1, h0 | ⟨g, cap, cur, hv, hg, hk, h2⟩⟩ := ho
 ·exact ⟨h1, .inl h0⟩
 ·exact ⟨h1, .inr ⟨g, cap, cur, hv, hg, h.blk (cs := cur) hk (by omega) (by omega), h2⟩⟩
section
variable {P : Program} {ops : Array Oper} {Q : Exit → Act → World → Prop}
theorem QIE {l i : Nat} {a : Act} {w : World} {K : Act → World → Prop} (hnd : ∀ (i : Nat) (o : Oper), ops[i]? = some o → ∀ c, o.op ≠ .defer c) (hQ : ¬LetsOut Q) (h : wpOp P ops Q i K a w) : wpOpIn (FR (some l)) 0 P ops Q i K a w := by
 unfold wpOp at h
 unfold wpOpIn
 cases ho : ops[i]? with
 | none =>
  simp only [ho] at h ⊢
  exact h
 | some o =>
  simp only [ho] at h ⊢
  by_cases hw : Region.wanted o (yielded ops a.tmps) = true
  ·simp only [hw, if_true] at h ⊢
   rcases h with h | h
   ·exact QC6 (hnd i o ho) h
   ·exact absurd h.2 hQ
  ·simp only [hw, if_false, Bool.false_eq_true] at h ⊢
   exact ⟨fun _ _ => trivial, h⟩
end
section
variable {P : Program} {n : Nat} {σ : Sg} {w : World} {Q : Exit → Act → World → Prop} {L : List Oper}
theorem ECI.regionYO {id lq : Nat} (hQ : ¬LetsOut Q) (hndf : QCi L.toArray = true) (cls : List (List Nat)) (m : Nat) (alc : List Nat) (Φ : Nat → (Nat → Value) → World → Prop) (hf : P.follows .mixedOrders = true) (hq : Yw n cls m 0 L = true) (hml : Nat.ble m L.length = true)
  (hmono : ∀ i r w1 w2, Below w1.heap.size w1 w2 → Φ i r w1 → Φ i r w2)
  (hstep : ∀ i, i < m → QJn P n L Q cls m alc σ w Φ i)
  (hend : ∀ val w', Below w.heap.size w w' → Alc alc m val w w' → (∀ i, i < m → Φ i (res val i (clsAt cls i)) w') → ELI (some lq) 0 P n [] L Q (L.drop m) (sgEnd L σ val m) w') : ECI (some lq) 0 P n [] (.region id L.toArray true) Q σ w := by
 have hm : m ≤ L.length := by simpa [Nat.ble_eq] using hml
 have H := QDS hq;have hback : QCU L.toArray = true := by
  refine List.all_eq_true.2 fun i hi => ?_
  have hi' : i < L.length := by simpa using hi
  have ho : L.toArray[i]? = some L[i] := by simp [hi']
  rw [ho];refine Array.all_eq_true_iff_forall_mem.2 fun e he => ?_
  cases hb : Region.binds .any e with
  | false => rfl
  | true => simpa using H.back i L[i] (by simp [hi']) e he hb
 intro a ha0;have ha := ha0.e
 -- the tail's part
 have tailDone : ∀ (D : Array Bool) (i : Nat) (o : Oper), (∀ i, D.getD i false = true → ∀ j ∈ clsAt cls i, D.getD j false = true) → L[i]? = some o → (∀ e ∈ o.after, Region.binds .any e = true → D.getD e.on false = true) → ∀ j ∈ clsAt cls i, D.getD j false = true := by
  intro D i o hdown ho hdep j hj;obtain ⟨e, he, hb, h⟩ := H.dep i o ho j hj
  rcases h with rfl | h
  ·exact hdep e he hb
  ·exact hdown _ (hdep e he hb) j h
 have hEnd : ∀ (D : Array Bool) (val : Nat → Value) (a : Act) (w' : World), HInv n L cls m alc σ w Φ D val a w' → (∀ i, i < m → D.getD i false = true) → wpListIn (FR (some lq)) 0 P L.toArray Q (L.drop m) a w' := by
  intro D val a w' I hall;refine hend val w' I.below ⟨fun i hi hlt => I.alc1 i hi hlt (hall i hlt), fun i hi j hj h1 h2 hne => I.alc2 i hi j hj h1 h2 (hall i h1) (hall j h2) hne⟩ (fun i hi => I.says i hi (hall i hi)) a (Env.g ⟨I.size, I.defers, ?_⟩)
  have : ∀ k, k ≤ m → ∀ t v, sgEnd L σ val k t = some v → (∀ j, k ≤ j → j < m → ZQ L j ≠ some t) → a.tmps[t]? = some v := by
   intro k
   induction k with
   | zero => intro _ t v ht hn; exact I.old t v ht fun j hj _ => hn j (Nat.zero_le _) hj
   | succ k ih =>
    intro hk t v ht hn
    unfold sgEnd at ht
    cases hd : ZQ L k with
    | none =>
     simp only [hd] at ht
     exact ih (by omega) t v ht fun j h1 h2 => by
      rcases Nat.lt_or_ge k j with h | h
      ·exact hn j h h2
      ·obtain rfl : j = k := by omega
       rw [hd]; simp
    | some d =>
     simp only [hd] at ht
     unfold ins at ht
     cases e : Nat.beq t d with
     | true =>
      rw [e] at ht;have e' := Nat.eq_of_beq_eq_true e;subst e';rw [I.new k t (by omega) (hall k (by omega)) hd]
      exact ht
     | false =>
      rw [e] at ht
      exact ih (by omega) t v ht fun j h1 h2 => by
       rcases Nat.lt_or_ge k j with h | h
       ·exact hn j h h2
       ·obtain rfl : j = k := by omega
        rw [hd];intro e2
        injection e2 with e2
        exact Nat.ne_of_beq_eq_false e e2.symm
  exact fun t v ht => this m (Nat.le_refl _) t v ht fun j h1 h2 => by omega
 refine QCX hf hback (fun D a w' => (∃ val, HInv n L cls m alc σ w Φ D val a w') ∨ ∃ k, m < k ∧ k ≤ L.length ∧ (∀ i, D.getD i false = decide (i < k)) ∧ wpListIn (FR (some lq)) 0 P L.toArray Q (L.drop k) a w') ?_ ?_ ?_
 ·left
  have hno : ∀ i, (Array.replicate L.toArray.size false).getD i false = false := fun i => by
   by_cases h : i < L.toArray.size
   ·simp [Array.getD]
   ·simp [Array.getD]
  refine ⟨fun _ => undef, ⟨⟨rfl, rfl, rfl, Nat.le_refl _, fun _ _ => rfl⟩, ha.size, ha.defers, ?_, fun t v ht _ => ha.get t v ht, ?_, ?_, ?_, ?_, fun i _ => hno i⟩⟩
  ·intro i d _ h; rw [hno] at h; cases h
  ·intro i _ h; rw [hno] at h; cases h
  ·intro i h; rw [hno] at h; cases h
  ·intro i _ _ h; rw [hno] at h; cases h
  ·intro i _ j _ _ _ h; rw [hno] at h; cases h
 ·intro D a w1 i o hs hI hni ho hdep
  have hs' : D.size = L.length := by simpa using hs
  have ho' : L[i]? = some o := by simpa using ho
  have hil : i < L.length := (List.getElem?_eq_some_iff.1 ho').1;have hnd : D.getD i false = false := QAH (by omega) hni
  have takeTail : ∀ (k : Nat), k = i → m ≤ k → (∀ j, D.getD j false = decide (j < k)) → wpListIn (FR (some lq)) 0 P L.toArray Q (L.drop k) a w1 →
    wpOpIn (FR (some lq)) 0 P L.toArray Q i (fun a w' => (∃ val, HInv n L cls m alc σ w Φ (D.setIfInBounds i true) val a w') ∨ ∃ k, m < k ∧ k ≤ L.length ∧ (∀ j, (D.setIfInBounds i true).getD j false = decide (j < k)) ∧ wpListIn (FR (some lq)) 0 P L.toArray Q (L.drop k) a w') a w1 := by
   intro k hk hmk hD hw;subst hk;rw [List.drop_eq_getElem_cons hil] at hw;have e : L[k] = o := by rw [List.getElem?_eq_getElem hil] at ho'; injection ho'
   rw [e] at hw
   unfold wpListIn at hw
   have hnext : ∀ a w', wpListIn (FR (some lq)) 0 P L.toArray Q (L.drop (k + 1)) a w' → (∃ val, HInv n L cls m alc σ w Φ (D.setIfInBounds k true) val a w') ∨ ∃ k', m < k' ∧ k' ≤ L.length ∧ (∀ j, (D.setIfInBounds k true).getD j false = decide (j < k')) ∧ wpListIn (FR (some lq)) 0 P L.toArray Q (L.drop k') a w' := fun a w' h => .inr ⟨k + 1, by omega, by omega, fun j => by
    rw [set_get (by omega)]
    by_cases e : j = k
    ·subst e; simp
    ·rw [if_neg e, hD]
     by_cases h : j < k
     ·simp [h]; omega
     ·simp [h]; omega, h⟩
   unfold wpOpIn
   simp only [ho]
   split
   ·rename_i hw'
    rw [if_pos hw'] at hw
    exact Oper.wpIn_mono hnext hw
   ·rename_i hw'
    rw [if_neg hw'] at hw
    exact ⟨hw.1, hnext _ _ hw.2⟩
  rcases hI with ⟨val, I⟩ | ⟨k, hmk, hkl, hD, hw⟩
  ·have hcd := tailDone D i o I.down ho' hdep
   rcases Nat.lt_or_ge i m with him | him
   ·have henv : Env n (sgAt L cls m σ val i) a := by
     refine ⟨I.size, I.defers, fun t v ht => ?_⟩
     unfold sgAt at ht
     cases hfw : QCS L t (clsAt cls i) with
     | some j =>
      simp only [hfw] at ht
      obtain ⟨h1, h2⟩ := Y6 hfw
      injection ht with ht
      have hj := hcd j h1;have hjm : j < m := by
       rcases Nat.lt_or_ge j m with h | h
       ·exact h
       ·rw [I.high j h] at hj; cases hj
      rw [I.new j t hjm hj h2, ht]
     | none =>
      simp only [hfw] at ht
      cases hob : oldB L cls i t m with
      | false => rw [hob] at ht; cases ht
      | true =>
       rw [hob] at ht;refine I.old t v ht fun k hk hdk hd => ?_
       rcases QA5 hob k hk hd with rfl | h
       ·rw [hnd] at hdk; cases hdk
       ·have := I.down k hdk i h
        rw [hnd] at this; cases this
    have hjm : ∀ j, D.getD j false = true → j < m := fun j hj => by
     rcases Nat.lt_or_ge j m with h | h
     ·exact h
     ·rw [I.high j h] at hj; cases hj
    refine wpOpIn_mono ?_ (QIE (QBe hndf) hQ (hstep i him val w1 a I.below henv fun j hj => I.says j (hjm j (hcd j hj)) (hcd j hj)))
    rintro a' w' ⟨v, rfl, hb, hphi, halc⟩
    left
    have hgrow : Below w.heap.size w w' := I.below.trans (hb.mono I.below.size);have hdi : ZQ L i = o.dst := dstOf_at ho';refine ⟨upd val i v, ⟨hgrow, ?_, ?_, ?_, ?_, ?_, ?_, ?_, ?_, ?_⟩⟩
    ·rw [QBa]; exact I.size
    ·cases ZQ L i <;> exact I.defers
    ·intro k d hk hdk hd
     rw [set_get (by omega)] at hdk
     by_cases e : k = i
     ·subst e
      have hdn : d < n := H.small k o d ho' hk (by rw [← hdi]; exact hd)
      rw [hd]
      simp only [Act.put, upd, if_true]
      rw [Array.getElem?_setIfInBounds_self_of_lt (by rw [I.size]; exact hdn)]
     ·rw [if_neg e] at hdk
      have hok : ∃ p, L[k]? = some p := ⟨L[k]'(by omega), by simp [show k < L.length by omega]⟩
      obtain ⟨p, hp⟩ := hok;have hne : ZQ L i ≠ some d := by
       intro h'
       rcases Nat.lt_or_gt_of_ne e with hlt | hgt
       ·exact H.dist k i p o d hp ho' hlt him (by rw [← dstOf_at hp]; exact hd) (by rw [← hdi]; exact h')
       ·exact H.dist i k o p d ho' hp hgt hk (by rw [← hdi]; exact h') (by rw [← dstOf_at hp]; exact hd)
      have := I.new k d hk hdk hd
      simp only [upd, if_neg e]
      cases hdi' : ZQ L i with
      | none => exact this
      | some d' =>
       have : d' ≠ d := fun h => hne (by rw [hdi', h])
       simp only [Act.put, Array.getElem?_setIfInBounds_ne this]
       assumption
    ·intro t u ht hno
     have h1 : a.tmps[t]? = some u := I.old t u ht fun k hk hdk => hno k hk (by rw [set_get (by omega)]; split <;> simp [hdk])
     have h2 : ZQ L i ≠ some t := hno i him (by rw [set_get (by omega), if_pos rfl])
     cases hdi' : ZQ L i with
     | none => exact h1
     | some d' =>
      have : d' ≠ t := fun h => h2 (by rw [hdi', h])
      simp only [Act.put, Array.getElem?_setIfInBounds_ne this]
      exact h1
    ·intro k hk hdk
     rw [set_get (by omega)] at hdk
     by_cases e : k = i
     ·subst e; exact hphi
     ·rw [if_neg e] at hdk
      have hni' : i ∉ clsAt cls k := fun h => by
       have := I.down k hdk i h;rw [hnd] at this; cases this
      rw [QCf e hni']
      exact hmono k _ w1 w' hb (I.says k hk hdk)
    ·intro k hdk j hj
     rw [set_get (by omega)] at hdk ⊢
     by_cases e : k = i
     ·subst e
      rw [hcd j hj]; simp
     ·rw [if_neg e] at hdk
      rw [I.down k hdk j hj]; simp
    ·intro k hk hkm hdk
     rw [set_get (by omega)] at hdk
     by_cases e : k = i
     ·subst e
      obtain ⟨h1, h2⟩ := halc hk
      exact ⟨w1.heap.size, by simp [upd, h1], I.below.size, h2⟩
     ·rw [if_neg e] at hdk
      obtain ⟨g, h1, h2, h3⟩ := I.alc1 k hk hkm hdk
      exact ⟨g, by simp [upd, e, h1], h2, Nat.lt_of_lt_of_le h3 hb.size⟩
    ·intro k hk j hj hkm hjm' hdk hdj hne
     rw [set_get (by omega)] at hdk hdj
     by_cases e : k = i
     ·subst e
      have e2 : j ≠ k := Ne.symm hne;rw [if_neg e2] at hdj;obtain ⟨h1, _⟩ := halc hk;obtain ⟨g, h3, _, h5⟩ := I.alc1 j hj hjm' hdj
      simp only [upd, if_true, if_neg e2, h1, h3]
      intro h
      injection h with h
      injection h with h
      injection h with h
      omega
     ·rw [if_neg e] at hdk
      by_cases e2 : j = i
      ·subst e2
       obtain ⟨h1, _⟩ := halc hj;obtain ⟨g, h3, _, h5⟩ := I.alc1 k hk hkm hdk
       simp only [upd, if_true, if_neg e, h1, h3]
       intro h
       injection h with h
       injection h with h
       injection h with h
       omega
      ·rw [if_neg e2] at hdj
       simp only [upd, if_neg e, if_neg e2]
       exact I.alc2 k hk j hj hkm hjm' hdk hdj hne
    ·intro k hk
     rw [set_get (by omega), if_neg (by omega)]
     exact I.high k hk
   ·have hall : ∀ j, j < i → D.getD j false = true := fun j hj => hcd j (H.tail i o ho' him j hj)
    have him' : i = m := by
     rcases Nat.lt_or_ge m i with h | h
     ·have := hall m h
      rw [I.high m (Nat.le_refl _)] at this; cases this
     ·omega
    subst him'
    exact takeTail i rfl (Nat.le_refl _) (fun j => by
     by_cases h : j < i
     ·rw [hall j h]; simp [h]
     ·rw [I.high j (by omega)]; simp [h]) (hEnd D val a w1 I hall)
  ·have hcd : ∀ j, j < i → D.getD j false = true := fun j hj => by
    have hmi : m ≤ i := by
     have := hD i;rw [hnd] at this;have : ¬ i < k := by simpa using this.symm
     omega
    have hdn : ∀ i, D.getD i false = true → ∀ j ∈ clsAt cls i, D.getD j false = true := by
     intro x hx y hy;rw [hD] at hx ⊢;have hx' : x < k := by simpa using hx
     obtain ⟨p, hp⟩ : ∃ p, L[x]? = some p := ⟨L[x]'(by omega), by simp [show x < L.length by omega]⟩
     have : ∀ (x : Nat) (p : Oper), L[x]? = some p → ∀ y ∈ clsAt cls x, y < x := by
      intro x
      induction x using Nat.strongRecOn with
      | ind x ih =>
       intro p hp y hy;obtain ⟨e, he, hb, h⟩ := H.dep x p hp y hy;have h1 := H.back x p hp e he hb
       rcases h with rfl | h
       ·exact h1
       ·obtain ⟨q, hq⟩ : ∃ q, L[e.on]? = some q := by
         have : x < L.length := (List.getElem?_eq_some_iff.1 hp).1
         exact ⟨L[e.on]'(by omega), by simp [show e.on < L.length by omega]⟩
        have := ih e.on h1 q hq y h
        omega
     have := this x p hp y hy
     simp
     omega
    exact tailDone D i o hdn ho' hdep j (H.tail i o ho' hmi j hj)
   have hik : k = i := by
    have h1 := hD i;rw [hnd] at h1;have h2 : ¬ i < k := by simpa using h1.symm
    rcases Nat.lt_or_ge k i with h | h
    ·have := hcd k h
     rw [hD] at this
     simp at this
    ·omega
   exact takeTail k hik (by omega) hD hw
 ·intro D a w1 hs hI hall
  have hs' : D.size = L.length := by simpa using hs
  rcases hI with ⟨val, I⟩ | ⟨k, hmk, hkl, hD, hw⟩
  ·have hmL : m = L.length := by
    rcases Nat.lt_or_ge m L.length with h | h
    ·have := hall m (by simpa using h)
     rw [I.high m (Nat.le_refl _)] at this; cases this
    ·omega
   have := hEnd D val a w1 I fun i hi => hall i (by simp; omega)
   rw [hmL, List.drop_length] at this
   exact this
  ·have hk : k = L.length := by
    rcases Nat.lt_or_ge k L.length with h | h
    ·have := hall k (by simpa using h)
     rw [hD] at this
     simp at this
    ·omega
   rw [hk, List.drop_length] at hw
   exact hw
end
/-- the loads of which the first hold has less than k lots -/
def ldTo (xs : List Hold) (t : Int) (k : Nat) : List (List Int) := (List.range k).flatMap fun n => (loadsL xs (t - ((n : Nat) : Int))).map fun r => ((n : Nat) : Int) :: r
theorem QCB (xs : List Hold) (t : Int) (k : Nat) : ldTo xs t (k + 1) = ldTo xs t k ++ (loadsL xs (t - ((k : Nat) : Int))).map fun r => ((k : Nat) : Int) :: r := by
 unfold ldTo
 rw [List.range_succ, List.flatMap_append]
 simp
theorem QG4 (xs : List Hold) (t : Int) (k : Nat) : ∀ m, ldTo xs t k <+: ldTo xs t (k + m)
 | 0 => List.prefix_refl _
 | m + 1 => (QG4 xs t k m).trans (by rw [← Nat.add_assoc, QCB]; exact List.prefix_append _ _)
theorem QDI (x : Hold) (xs : List Hold) (t : Int) : loadsL (x :: xs) t = ldTo xs t (min x.lots t + 1).toNat := rfl
theorem QLJ {x : Hold} {xs : List Hold} {t : Int} {k : Nat} (hk : k < (min x.lots t + 1).toNat) {ps : List (List Int)} (hp : ps <+: loadsL xs (t - ((k : Nat) : Int))) : ldTo xs t k ++ ps.map (fun r => ((k : Nat) : Int) :: r) <+: loadsL (x :: xs) t := by
 have h1 := QG4 xs t (k + 1) ((min x.lots t + 1).toNat - (k + 1));rw [show k + 1 + ((min x.lots t + 1).toNat - (k + 1)) = (min x.lots t + 1).toNat by omega, ← QDI, QCB] at h1
 refine List.IsPrefix.trans ?_ h1;obtain ⟨s, hs⟩ := hp
 exact ⟨s.map fun r => ((k : Nat) : Int) :: r, by rw [List.append_assoc, ← List.map_append, hs]⟩
/-- a load that is handed: a row of one's own -/
def okLd (b : Nat) (x : It) (W : World) : Prop := W.ownsRow b 3 1 x.2 x.1.length (ints x.1)
theorem QD2 {b : Nat} (B : Nat) : OwnFrom B (okLd b) := fun x A C row h hg hr => QIm h hg fun r e => (hr r e).2
/-- the iterator of all loads with t lots -/
def QEz (xs : List Hold) (t : Int) : Prop := ∀ (n0 b0 c1 c2 B : Nat) (v : Value) (S : List Nat) (w : World), Rd w B 2 v xs.length (holdsC xs) → B ≤ n0 → n0 ≤ b0 → b0 ≤ c1 → b0 ≤ c2 → Blk w c1 123 #[v] → Blk w c2 3 #[.int .i64 t] →
 QHI (fun l => Ze b0 l) [] Try.prog 80 #[.pointer (some ⟨c1, 0, none⟩), .pointer (some ⟨c2, 0, none⟩)] (okLd b0) n0 S (loadsL xs t) w
theorem QHw (x : Int) (l : List Int) : ints (x :: l) = .int .i64 x :: ints l := rfl
theorem QA8 {n0 : Nat} {W : World} : YA n0 [] W := fun d hd => by cases hd
theorem QFF {xs : List Hold} {t : Int} {k : Nat} {po pre : List It} {r : List Int} {v v' : Value} (h : po.map (·.1) = ldTo xs t k ++ pre.map fun y => ((k : Nat) : Int) :: y.1) : (po ++ [(((k : Nat) : Int) :: r, v)]).map (·.1) = ldTo xs t k ++ (pre ++ [(r, v')]).map fun y => ((k : Nat) : Int) :: y.1 := by
 rw [List.map_append, List.map_append, h, List.append_assoc]
 rfl
theorem QGp {k : Nat} (pre : List It) : (pre.map fun y => ((k : Nat) : Int) :: y.1) = (pre.map (·.1)).map fun r => ((k : Nat) : Int) :: r := by
 rw [List.map_map]
 rfl
section
variable {n : Nat} {σ : Sg} {w : World} {dst : Option Tmp} {ty : TypeId} {pos : String} {af : Array Edge} {g : Option (Nat × Bool)} {x y z : Operand} {at' : Array TypeId}
theorem QLQ {v0 : Value} (hx : evS σ x = some (v0)) (h1 : v0.oneCell' = true) (a : Act) (ha : Env n σ a) : (execOp a.eval ⟨dst, .box 123 x, ty, pos, af, g⟩).run Try.prog w = .ok (.value (.pointer (some ⟨w.heap.size, 0, none⟩))) (w.alloc (.cells #[v0] 123)) := by
 simp only [execOp, ha.eval hx]
 cases v0 <;> first | (simp [Value.oneCell'] at h1; done) | simp [go_sem, Value.cells]
theorem QHp {x0 x1 : Operand} {v0 v1 : Value} (h0 : evS σ x0 = some v0) (h1 : evS σ x1 = some v1) : ZE Try.prog n σ w ⟨dst, .makeFunc (.func 80) #[] #[x0, x1], ty, pos, af, g⟩ (.func (.func 80) #[] #[v0, v1]) := fun a ha => by
 simp only [execOp, List.map_toArray, List.map_cons, List.map_nil, ha.eval h0, ha.eval h1]
 simp [go_sem]
theorem QJU {v0 : Value} (hx : evS σ x = some (v0)) (h1 : v0.oneCell' = true) (a : Act) (ha : Env n σ a) : (execOp a.eval ⟨dst, .box 175 x, ty, pos, af, g⟩).run Try.prog w = .ok (.value (.pointer (some ⟨w.heap.size, 0, none⟩))) (w.alloc (.cells #[v0] 175)) := by
 simp only [execOp, ha.eval hx]
 cases v0 <;> first | (simp [Value.oneCell'] at h1; done) | simp [go_sem, Value.cells]
theorem QJA {b o : Nat} {v0 : Value} (hx : evS σ x = some (.pointer (some ⟨b, o, none⟩))) (c0 : w.cell? ⟨b, o, none⟩ = some v0) : ZE Try.prog n σ w ⟨dst, .load 175 x, ty, pos, af, g⟩ (v0) := fun a ha => by
 simp only [execOp, ha.eval hx]
 simp [go_sem, c0]
theorem QJw {b o m c lo r : Nat} (hx : evS σ x = some (.slice (some ⟨b, o, none⟩) m c)) (hl : evS σ y = some (.int .i64 (lo : Int))) (h1 : lo ≤ m) (hr : (if c = lo then o else o + lo * 2) = r) : ZE Try.prog n σ w ⟨dst, .slice 123 x (some y) none none, ty, pos, af, g⟩ (.slice (some ⟨b, r, none⟩) (m - lo) (c - lo)) := fun a ha => by
 have k0 : (0 : Int) ≤ (lo : Int) := Int.natCast_nonneg _;have k2 : (lo : Int) ≤ (m : Int) := by omega
 subst hr
 simp only [execOp, Option.map_some, Option.map_none, ha.eval hx, ha.eval hl]
 by_cases e : c = lo
 ·subst e; simp [go_sem, k0, k2, h1]
 ·simp [go_sem, k0, k2, h1, e]
theorem cF57 : cF 57 := fun _ _ => by simp [go_sem]
end
theorem ZZ {A B C D E : World → Prop} : ¬LetsOut (fun e (_ : Act) W' => A W' ∧ B W' ∧ E W' ∧ ((e = Exit.normal ∧ C W') ∨ (e = Exit.ret ∧ D W'))) := fun ⟨_, _, h⟩ => by
 rcases h.2.2.2 with ⟨h1, _⟩ | ⟨h1, _⟩ <;> cases h1
theorem QFO {A : Option Addr} {n c : Nat} {t : Int} (w : World) : Calls Try.prog 57 #[.slice A n c, .int .i64 t] w fun e w' => (∃ c1 c2, e = .returned (.func (.func 80) #[] #[.pointer (some ⟨c1, 0, none⟩), .pointer (some ⟨c2, 0, none⟩)]) ∧ Blk w' c1 123 #[.slice A n c] ∧ Blk w' c2 3 #[.int .i64 t] ∧ w.heap.size ≤ c1 ∧ w.heap.size ≤ c2) ∧ Below w.heap.size w w' := by
 have hbw := Below.refl w.heap.size w;refine EC.enter 6 Try.func57 rfl rfl rfl (EC.seq (EC.region (EL.newP (QLQ rfl rfl) rfl ?_)));intro g1 w1 q1 hb1 hg1 hl1;have bhbw_1 := Nat.le_trans hbw.size hg1;replace hbw := bo_ hbw hb1;clear hb1 hg1 hl1;refine EL.newP (bx_3 rfl rfl) rfl ?_;intro g2 w2 q2 hb2 hg2 hl2;have n1_2 := q1.na hg2;have bhbw_2 := Nat.le_trans hbw.size hg2;replace q1 := q1.bl hb2;replace hbw := bo_ hbw hb2;clear hb2 hg2 hl2;refine EL.as rfl rfl (EL.nil (EX.seq (EC.seq (EC.region (EL.val (QHp rfl rfl) rfl (EL.as rfl rfl (EL.nil (EX.seq (EC.ret ?_)))))))))
 exact EX.done (res1 rfl rfl) ⟨⟨_, _, rfl, q1, q2, bhbw_1, bhbw_2⟩, hbw⟩
set_option maxRecDepth 100000 in
theorem QJ8 (t : Int) : QEz [] t := by
 intro n0 b0 c1 c2 B v S w hr0 hB hnb hb1 hb2 hq1 hq2;intro la J Jx W hbW hla hla2 hJ hJx hY hJ0;have hn0W : n0 ≤ W.heap.size := by have := hbW.size; have := hq1.lt; omega
 have hc1 := hq1.lt;have hc2 := hq2.lt;have hr := hr0.below (hbW.mono (by omega))
 have qc1 := hq1.below hbW hq1.lt;have qc2 := hq2.below hbW hq2.lt;have hbw := Below.refl W.heap.size W;change Calls Try.prog 80 #[.func (.yield la) #[] #[], .pointer (some ⟨c1, 0, none⟩), .pointer (some ⟨c2, 0, none⟩)] W _;refine EC.marks 38 Try.func80 rfl rfl rfl ?_;obtain ⟨A, c, rfl, _⟩ := hr.shape;have hA : loadsL [] t = if t = 0 then [[]] else [] := rfl
 refine ECI.seq (ECI.regionLD (EL.newP (QJU rfl rfl) rfl ?_));intro g1 w1 q1 hb1 hg1 hl1;have bhbw_1 := Nat.le_trans hbw.size hg1;replace hbw := bo_ hbw hb1;clear hb1 hg1 hl1;refine EL.nil (EX.ofD (EXI.seq (ECI.seq (ECI.seq (ECI.regionLD (EL.val (QAG rfl (ZD hbw (qc1.at (j := 0) rfl))) rfl (EL.val (QDK rfl) rfl (EL.val (Zg (r := true) rfl rfl (decide_eq_true rfl)) rfl (EL.nil ?_)))))))));refine EX.ofD (EXI.seq (ECI.yes rfl (ECI.seq (ECI.seq (ECI.regionLD (EL.val (ld_3 rfl (ZD hbw (qc2.at (j := 0) rfl))) rfl ?_))))))
 by_cases h0 : t = 0
 ·
  rw [hA, if_pos h0] at hY ⊢;refine EL.val (Zg (r := true) rfl rfl (decide_eq_true h0)) rfl (EL.nil (EX.ofD (EXI.seq (ECI.yes rfl ?_))));have hkp := Kp.of_below (n0 := n0) (S := S) hbw hn0W;replace hJ0 := hJ _ _ _ hJ0 (Soft.of_below hbw);refine ECI.region (ELI.val (QJA rfl (q1.at (j := 0) rfl)) rfl ?_);obtain ⟨fn_, tmps_, assign_, body_, hi_, hR_⟩ := hY [] ([], .slice none 0 0) _ (own_nil _ _ _ _) hJ0 List.prefix_rfl;refine ELI.yield rfl rfl rfl hi_ hR_ ?_
  rintro e wy ⟨hky, hkf, hfr, ⟨rfl, hJy⟩ | ⟨rfl, hJy⟩⟩
  ·
   refine ⟨_, rfl, ?_⟩;refine ELI.nil ?_;replace hkp := hkp.trans hky;refine EXI.seq (ECI.ret (EXI.seq_ret ?_))
   exact EXI.doneZ (Z := fun X => Kp n0 S W X ∧ J ([([], .slice none 0 0)]) X) (QA8 (n0 := W.heap.size)) List.nodup_nil ⟨hkp, hJy⟩ (fun A D h hD hd => ⟨h.1.trans (Kp.putObj _ (Nat.le_trans hn0W hD) hd rfl), hJ _ _ _ h.2 (QAe _ (Nat.le_trans hla2 hD) hd rfl)⟩) (fun w' ht => res0 rfl) (fun w' ht hz => ⟨⟨_, rfl⟩, hz.1, .inl ⟨_, rfl, hz.2⟩⟩)
  ·
   refine ⟨_, rfl, ?_⟩;refine ELI.nil ?_;replace hkp := hkp.trans hky;refine EXI.seq (ECI.ret (EXI.seq_ret ?_))
   exact EXI.doneZ (Z := fun X => Kp n0 S W X ∧ Jx ([([], .slice none 0 0)]) X) (QA8 (n0 := W.heap.size)) List.nodup_nil ⟨hkp, hJy⟩ (fun A D h hD hd => ⟨h.1.trans (Kp.putObj _ (Nat.le_trans hn0W hD) hd rfl), hJx _ _ _ h.2 (QAe _ (Nat.le_trans hla2 hD) hd rfl)⟩) (fun w' ht => res0 rfl) (fun w' ht hz => ⟨⟨_, rfl⟩, hz.1, .inr ⟨_, by simp, List.prefix_rfl, hz.2⟩⟩)
 ·
  rw [hA, if_neg h0] at hY ⊢;refine EL.val (Zg (r := false) rfl rfl (decide_eq_false h0)) rfl (EL.nil (EX.ofD (EXI.seq (ECI.no rfl (ECI.skip (EXI.seq (ECI.ret (EXI.seq_ret ?_))))))));have hkp := Kp.of_below (n0 := n0) (S := S) hbw hn0W;replace hJ0 := hJ _ _ _ hJ0 (Soft.of_below hbw)
  exact EXI.doneZ (Z := fun X => Kp n0 S W X ∧ J ([]) X) (QA8 (n0 := W.heap.size)) List.nodup_nil ⟨hkp, hJ0⟩ (fun A D h hD hd => ⟨h.1.trans (Kp.putObj _ (Nat.le_trans hn0W hD) hd rfl), hJ _ _ _ h.2 (QAe _ (Nat.le_trans hla2 hD) hd rfl)⟩) (fun w' ht => res0 rfl) (fun w' ht hz => ⟨⟨_, rfl⟩, hz.1, .inl ⟨[], rfl, hz.2⟩⟩)
theorem QJF : (Try.prog.info? 3).map (fun i => (i.zero, i.size, i.bytes)) = some (some (.int .i64 0), 1, 8) := by kernel_rfl
theorem QJG : Elem Try.prog 56 3 1 8 := Elem.mk' Try.underlying56 QJF rfl (by omega)
theorem QJ4 {i T1 T2 G n : Nat} {v1 v2 : Value} : Mono fun r w => ∃ d1 d2, r i = .func (.func G) #[] #[.pointer (some ⟨d1, 0, none⟩), .pointer (some ⟨d2, 0, none⟩)] ∧ Blk w d1 T1 #[v1] ∧ Blk w d2 T2 #[v2] ∧ n ≤ d1 ∧ n ≤ d2 := fun _ _ _ hb ⟨d1, d2, h1, h2, h3, h4, h5⟩ => ⟨d1, d2, h1, h2.below hb h2.lt, h3.below hb h3.lt, h4, h5⟩
theorem QLK {xs : List Hold} {t : Int} {r : List Int} (hx : xs.length ≤ 4) (h : r ∈ loadsL xs t) : r.length ≤ 1000 := by
 have key : ∀ (xs : List Hold) (t : Int) (r : List Int), r ∈ loadsL xs t → r.length = xs.length := by
  intro xs
  induction xs with
  | nil =>
   intro t r h
   unfold loadsL at h
   split at h
   ·exact congrArg List.length (List.mem_singleton.1 h)
   ·cases h
  | cons x xs ih =>
   intro t r h
   unfold loadsL at h
   simp only [List.mem_flatMap, List.mem_map] at h
   obtain ⟨n, _, r', hr, rfl⟩ := h;rw [List.length_cons, List.length_cons, ih _ _ hr]
 have := key xs t r h
 omega
set_option maxHeartbeats 4000000 in
set_option maxRecDepth 100000 in
theorem QJ7 (x : Hold) (xs : List Hold) (t : Int) (hx : 0 ≤ x.lots ∧ x.lots ≤ 20) (ht : 0 ≤ t ∧ t ≤ 80) (hfew9 : xs.length ≤ 4) (hIH : ∀ k : Nat, (k : Int) ≤ t → QEz xs (t - ((k : Nat) : Int))) : QEz (x :: xs) t := by
 intro n0 b0 c1 c2 B v S w hr0 hB hnb hb1 hb2 hq1 hq2;obtain ⟨A, c, rfl, _⟩ := hr0.shape;intro la J Jx W hbW hla hla2 hJ hJx hY hJ0;have hn0W : n0 ≤ W.heap.size := by have := hbW.size; have := hq1.lt; omega
 have hc1 := hq1.lt;have hc2 := hq2.lt;have hr := hr0.below (hbW.mono (by omega))
 have qc1 := hq1.below hbW hq1.lt;have qc2 := hq2.below hbW hq2.lt;have hbw := Below.refl W.heap.size W;change Calls Try.prog 80 #[.func (.yield la) #[] #[], .pointer (some ⟨c1, 0, none⟩), .pointer (some ⟨c2, 0, none⟩)] W _;refine EC.marks 38 Try.func80 rfl rfl rfl ?_;obtain ⟨b, o, eA, _, hc_⟩ := YV (x :: xs) 0 (by simp) _ _ _ _ _ (show Rd W B 2 (.slice A (xs.length + 1) c) (xs.length + 1) (holdsC (x :: xs)) from hr)
 subst eA;obtain ⟨K, eK⟩ : ∃ K, K = (min x.lots t + 1).toNat := ⟨_, rfl⟩;have hKi : ((K : Nat) : Int) = min x.lots t + 1 := by omega
 rw [QDI, ← eK] at hY ⊢;obtain ⟨ro, ero⟩ : ∃ ro, (if c = 1 then o else o + 1 * 2) = ro := ⟨_, rfl⟩
 have hrT := QGn QD8 hr rfl (k := 1) (by simp) ero
 rw [List.drop_one, List.tail_cons] at hrT;have hcap : 1 ≤ c := by obtain ⟨_, _, e_, hcc⟩ := hr.shape; injection e_ with _ _ e3; subst e3; simp at hcc; omega
 refine ECI.seq (ECI.regionLD (EL.newP (QJU rfl rfl) rfl ?_));intro g1 w1 q1 hb1 hg1 hl1;have bhbw_1 := Nat.le_trans hbw.size hg1;replace hbw := bo_ hbw hb1;clear hb1 hg1 hl1;refine EL.nil (EX.ofD (EXI.seq (ECI.seq (ECI.seq (ECI.regionLD (EL.val (QAG rfl (ZD hbw (qc1.at (j := 0) rfl))) rfl (EL.val (QDK rfl) rfl ?_)))))));refine EL.val (Zg (r := false) rfl rfl (decide_eq_false (by rw [List.length_cons]; omega))) rfl ?_
 refine EL.nil (EX.ofD (EXI.seq (ECI.no rfl (ECI.skip (EXI.seq (ECI.seq ?_))))));have lt_1 := q1.lt;refine ECI.regionD (EO.regionP [[], [0], [0, 1], [0, 1, 2], [], [0, 1, 2, 3, 4], [0, 1, 2, 3, 4, 5], []] 8 [] (phi (fun i_ r => match i_ with | 0 => r 0 = .slice (some ⟨b, o, none⟩) (xs.length + 1) c | 1 => r 1 = .pointer (some ⟨b, o + 0 * 2, none⟩) | 2 => r 2 = .pointer (some ⟨b, o + 0 * 2 + 1, none⟩) | 3 => r 3 = .int .i64 x.lots | 4 => r 4 = .int .i64 t | 5 => r 5 = .int .i64 (min x.lots t) | 6 => r 6 = .int .i64 ((min x.lots t) + 1) | 7 => r 7 = .int .i64 (0 : Nat) | _ => True) []) (by kernel_rfl) rfl rfl (ZY) (fun i_ hi_ => ?_) ?_)
 ·match i_, hi_ with
  | 0, _ =>
   intro val w1 a hb ha hd;have ha := ha.s0 (d := 1) rfl
   exact ZB ha rfl rfl (QAG rfl (ZD (hbw.trans (hb.mono hbw.size)) (qc1.at (j := 0) rfl))) rfl rfl
  | 1, _ =>
   intro val w1 a hb ha hd;have e0 : val 0 = _ := hd 0 (ZA.1 rfl);have ha := ha.s1 (d := 13) rfl e0
   exact ZB ha rfl rfl (QEg (k := 0) rfl rfl (by omega)) rfl rfl
  | 2, _ =>
   intro val w1 a hb ha hd;have e1 : val 1 = _ := hd 1 (ZA.1 rfl);have ha := ha.s1 (d := 14) rfl e1
   exact ZB ha rfl rfl (QBr rfl) rfl rfl
  | 3, _ =>
   intro val w1 a hb ha hd;have e2 : val 2 = _ := hd 2 (ZA.1 rfl);have ha := ha.s1 (d := 15) rfl e2
   exact ZB ha rfl rfl (ld_3 rfl (ZD (hbw.trans (hb.mono hbw.size)) hc_.c1)) rfl rfl
  | 4, _ =>
   intro val w1 a hb ha hd;have ha := ha.s0 (d := 2) rfl
   exact ZB ha rfl rfl (ld_3 rfl (ZD (hbw.trans (hb.mono hbw.size)) (qc2.at (j := 0) rfl))) rfl rfl
  | 5, _ =>
   intro val w1 a hb ha hd;have e3 : val 3 = _ := hd 3 (ZA.1 rfl);have e4 : val 4 = _ := hd 4 (ZA.1 rfl);have ha := ha.s2 (d := 17) (e := 16) rfl e4 rfl e3
   exact ZB ha rfl rfl (QCA rfl rfl rfl) rfl rfl
  | 6, _ =>
   intro val w1 a hb ha hd;have e5 : val 5 = _ := hd 5 (ZA.1 rfl);have ha := ha.s1 (d := 18) rfl e5
   exact ZB ha rfl rfl (ZM rfl rfl (IntWalk.i64_in _ ⟨by omega, by omega⟩)) rfl rfl
  | 7, _ =>
   intro val w1 a hb ha hd;have ha := ha.sub (Sub.nil _)
   exact ZB ha rfl rfl (ZH rfl) rfl rfl
  | k + 8, h => exact absurd h (by omega)
 ·intro val wR4 hb halc hd
  have e0 : val 0 = _ := hd 0 (by omega)
  have e1 : val 1 = _ := hd 1 (by omega)
  have e2 : val 2 = _ := hd 2 (by omega)
  have e3 : val 3 = _ := hd 3 (by omega)
  have e4 : val 4 = _ := hd 4 (by omega)
  have e5 : val 5 = _ := hd 5 (by omega)
  have e6 : val 6 = _ := hd 6 (by omega)
  have e7 : val 7 = _ := hd 7 (by omega)
  refine EL.ends (cs := [_, _, _, _, _, _, _, _]) ⟨e0, e1, e2, e3, e4, e5, e6, e7, trivial⟩ rfl ?_;replace q1 := q1.bl hb;replace hbw := bo_ hbw hb;clear hb;have hc12 : c1 < W.heap.size ∧ c2 < W.heap.size := ⟨qc1.lt, qc2.lt⟩;have qd1 := qc1.below hbw qc1.lt;have qd2 := qc2.below hbw qc2.lt;refine EL.nil (EX.ofD (EXI.seq (ECI.block ?_)));have hg3 : W.heap.size ≤ g1 := bhbw_1;have hkp := Kp.of_below (n0 := n0) (S := S) hbw hn0W;replace hJ0 := hJ _ _ _ hJ0 (Soft.of_below hbw);refine ECI.loopD [4, 5, 20, 21, 22, 23, 24, 25, 26, 27, 28, 30, 31, 32, 33, 34, 35, 36, 37] (fun x_ : Nat × List It × List Deferred => [(20, .int .i64 (x_.1 : Nat))]) (fun x_ => x_.2.2) (fun x_ V => x_.1 ≤ K ∧ x_.2.1.map (·.1) = ldTo xs t x_.1 ∧ J x_.2.1 V ∧ Blk V c1 123 #[.slice (some ⟨b, o, none⟩) (xs.length + 1) c] ∧ Blk V c2 3 #[.int .i64 t] ∧ Blk V g1 175 #[.func (.yield la) #[] #[]] ∧ YA W.heap.size x_.2.2 V ∧ x_.2.2.Nodup ∧ Kp n0 S W V) (fun x_ => K - x_.1) (0, [], []) ⟨Nat.zero_le _, rfl, hJ0, qd1, qd2, q1, QA8, List.nodup_nil, hkp⟩ ⟨rfl, trivial⟩ rfl ?_
  clear qd1 qd2 hkp hJ0 q1 hbw
  rintro ⟨k, out, ds⟩ V ⟨hk, hout, hJ0, qd1, qd2, q3, hM, hnd, hkp⟩
  dsimp only at hk hout hJ0 hM hnd
  by_cases hltk : k < K
  ·
   have hbV := Below.refl V.heap.size V;have hVW : W.heap.size ≤ V.heap.size := hkp.size;refine ECI.seq (ECI.regionLD ?_);refine EL.val (ZO (r := true) rfl rfl (decide_eq_true (by omega))) rfl ?_
   refine EL.nil (EX.ofD (EXI.seq (ECI.seq (ECI.yes rfl (ECI.skip (EXI.seq (ECI.seq (ECI.block (ECI.seq ?_)))))))));refine ECI.regionLD (EL.mv rfl rfl (EL.newP al_3 rfl ?_));intro g2 w2 q2 hb2 hg2 hl2;have n1_2 := q3.na hg2;have bhbV_2 := Nat.le_trans hbV.size hg2;replace q3 := q3.bl hb2;replace qd1 := qd1.bl hb2;replace qd2 := qd2.bl hb2;replace hbV := bo_ hbV hb2;clear hb2 hg2 hl2;refine EL.store rfl rfl q2 sz_3 rfl rfl rfl rfl ?_;intro w3 hq3 hg3;replace q3 := q3.gr hg3 n1_2;replace qd1 := qd1.grown hg3 (fun h => by have := Option.some.inj h; omega)
   replace qd2 := qd2.grown hg3 (fun h => by have := Option.some.inj h; omega)
   replace hbV := ZC hbV hg3 bhbV_2;replace q2 := hq3;clear hg3 hq3;refine EL.nil (EX.ofD (EXI.seq (ECI.seq ?_)));have hg4 : V.heap.size ≤ g2 := bhbV_2;have lt_1 := q3.lt;have lt_2 := q2.lt;refine ECI.regionD (EO.regionP [[], [0], [], [], [2, 3], [0, 1, 2, 3, 4]] 6 [] (phi (fun i_ r => match i_ with | 0 => r 0 = .slice (some ⟨b, o, none⟩) (xs.length + 1) c | 1 => r 1 = .slice (some ⟨b, ro, none⟩) (xs.length + 1 - 1) (c - 1) | 2 => r 2 = .int .i64 t | 3 => r 3 = .int .i64 (k : Nat) | 4 => r 4 = .int .i64 (t - ((k : Nat) : Int)) | _ => True) [(5, fun r w_ => ∃ d1 d2, r 5 = .func (.func 80) #[] #[.pointer (some ⟨d1, 0, none⟩), .pointer (some ⟨d2, 0, none⟩)] ∧ Blk w_ d1 123 #[.slice (some ⟨b, ro, none⟩) (xs.length + 1 - 1) (c - 1)] ∧ Blk w_ d2 3 #[.int .i64 (t - ((k : Nat) : Int))] ∧ w3.heap.size ≤ d1 ∧ w3.heap.size ≤ d2)]) (by kernel_rfl) rfl rfl (ZT QJ4 (ZY)) (fun i_ hi_ => ?_) ?_)
   ·match i_, hi_ with
    | 0, _ =>
     intro val w1 a hb ha hd;have ha := ha.s0 (d := 1) rfl
     exact ZB ha rfl rfl (QAG rfl (ZD hb (qd1.at (j := 0) rfl))) rfl rfl
    | 1, _ =>
     intro val w1 a hb ha hd;have e0 : val 0 = _ := hd 0 (ZA.1 rfl);have ha := ha.s1 (d := 23) rfl e0
     exact ZB ha rfl rfl (QJw (lo := 1) rfl rfl (by omega) ero) rfl rfl
    | 2, _ =>
     intro val w1 a hb ha hd;have ha := ha.s0 (d := 2) rfl
     exact ZB ha rfl rfl (ld_3 rfl (ZD hb (qd2.at (j := 0) rfl))) rfl rfl
    | 3, _ =>
     intro val w1 a hb ha hd;have ha := ha.s0 (d := 4) rfl
     exact ZB ha rfl rfl (ld_3 rfl ((q2.below hb q2.lt).at (j := 0) rfl)) rfl rfl
    | 4, _ =>
     intro val w1 a hb ha hd;have e2 : val 2 = _ := hd 2 (ZA.1 rfl);have e3 : val 3 = _ := hd 3 (ZA.1 rfl);have ha := ha.s2 (d := 26) (e := 25) rfl e3 rfl e2
     exact ZB ha rfl rfl (Z4 rfl rfl (IntWalk.i64_in _ ⟨by omega, by omega⟩)) rfl rfl
    | 5, _ =>
     intro val w1 a hb ha hd;have e1 : val 1 = _ := hd 1 (ZA.1 rfl);have e4 : val 4 = _ := hd 4 (ZA.1 rfl);have ha := ha.s2 (d := 27) (e := 24) rfl e4 rfl e1;refine Zf ha rfl rfl (cA2 cF57 rfl rfl) (QFO _) rfl ?_
     rintro e w' ⟨⟨d1, d2, rfl, qe1, qe2, hd1, hd2⟩, hb'⟩
     exact ⟨_, rfl, hb', ⟨d1, d2, rfl, qe1, qe2, Nat.le_trans hb.size hd1, Nat.le_trans hb.size hd2⟩⟩
    | k + 6, h => exact absurd h (by omega)
   ·intro val wR7 hb halc hd
    have e0 : val 0 = _ := hd 0 (by omega)
    have e1 : val 1 = _ := hd 1 (by omega)
    have e2 : val 2 = _ := hd 2 (by omega)
    have e3 : val 3 = _ := hd 3 (by omega)
    have e4 : val 4 = _ := hd 4 (by omega)
    obtain ⟨d1_, d2_, e5, qe1, qe2, hd1, hd2⟩ := hd 5 (by omega)
    refine EL.ends (cs := [_, _, _, _, _, _]) ⟨e0, e1, e2, e3, e4, e5, trivial⟩ rfl ?_;replace q3 := q3.bl hb;replace q2 := q2.bl hb;replace qd1 := qd1.bl hb;replace qd2 := qd2.bl hb;replace hbV := bo_ hbV hb;clear hb;refine EL.nil (EX.ofD (EXI.seq (ECI.block ?_)));have hV2 : V.heap.size ≤ wR7.heap.size := hbV.size;have hla3 : la + 1 ≤ wR7.heap.size := by omega
    replace hkp := hkp.trans (Kp.of_below hbV (Nat.le_trans hn0W hVW));replace hJ0 := hJ _ _ _ hJ0 (Soft.of_below hbV);replace hM := hM.below hbV;have hWR : W.heap.size ≤ w3.heap.size := by have := hg4; omega
    have hsI : QBM wR7.heap.size wR7.heap.size [] (fun pre X => ∃ po : List It, po.map (·.1) = ldTo xs t k ++ (pre.map fun y => ((k : Nat) : Int) :: y.1) ∧ J po X ∧ Blk X c1 123 #[.slice (some ⟨b, o, none⟩) (xs.length + 1) c] ∧ Blk X c2 3 #[.int .i64 t] ∧ Blk X g1 175 #[.func (.yield la) #[] #[]] ∧ Blk X g2 3 #[.int .i64 (k : Nat)] ∧ MarksIn W.heap.size ds wR7 X ∧ Kp n0 S W X) := fun s A B' ⟨po, h1, h2, h3, h4, h5, h6, h7, h8⟩ hs => ⟨po, h1, hJ _ _ _ h2 (hs.mono2 hla3), hs.blk h3 rfl, hs.blk h4 rfl, hs.blk h5 rfl, hs.blk h6 rfl, h7.soft (Nat.le_refl _) hs, h8.soft hs (by omega) (by omega)⟩
    have hsX : QBM wR7.heap.size wR7.heap.size [] (fun (_ : List It) X => ∃ po : List It, po ≠ [] ∧ po.map (·.1) <+: ldTo xs t K ∧ Jx po X ∧ MarksIn W.heap.size ds wR7 X ∧ Kp n0 S W X) := fun s A B' ⟨po, h1, h2, h3, h4, h5⟩ hs => ⟨po, h1, h2, hJx _ _ _ h3 (hs.mono2 hla3), h4.soft (Nat.le_refl _) hs, h5.soft hs (by omega) (by omega)⟩
    refine QGo (U := []) (Fr := fun l_ => Ze w3.heap.size l_) (ok := okLd w3.heap.size) (n0 := n0) (S := S) (σ1 := fun x => _) rfl (fun args w => by kernel_rfl) rfl (hIH k (by omega) _ _ _ _ _ _ _ _ (hrT.below ((hkp.below).mono (by omega))) hB (show n0 ≤ w3.heap.size by omega) hd1 hd2 qe1 qe2) QFC (by omega) (fun pre X => ∃ po : List It, po.map (·.1) = ldTo xs t k ++ (pre.map fun y => ((k : Nat) : Int) :: y.1) ∧ J po X ∧ Blk X c1 123 #[.slice (some ⟨b, o, none⟩) (xs.length + 1) c] ∧ Blk X c2 3 #[.int .i64 t] ∧ Blk X g1 175 #[.func (.yield la) #[] #[]] ∧ Blk X g2 3 #[.int .i64 (k : Nat)] ∧ MarksIn W.heap.size ds wR7 X ∧ Kp n0 S W X) (fun _ X => ∃ po : List It, po ≠ [] ∧ po.map (·.1) <+: ldTo xs t K ∧ Jx po X ∧ MarksIn W.heap.size ds wR7 X ∧ Kp n0 S W X) hsI hsX ⟨out, by simpa using hout, hJ0, qd1, qd2, q3, q2, hM.refl, hkp⟩ (QD2 _) (fun l_ x X K_ hK => by
      refine ECI.regionL (Zc Zo) (by kernel_rfl) ?_
      refine EL.as rfl rfl (EL.nil (EX.toI ?_))
      exact fun a' ha' => hK a' ha') ?_ ?_ ?_
    ·
     clear hsI hsX qd1 qd2 q3 q2 hM hkp hJ0
     rintro lb pre ⟨r_, v_⟩ X hpf hokx ⟨po, hpo, hJ0, qd1, qd2, q3, q4, hMI, hkp⟩ hsz9
     have hbX := Below.refl X.heap.size X
     unfold okLd at hokx
     dsimp only at hokx
     obtain ⟨Av, cv, rfl, _⟩ := (Rd.of_own hokx).shape;have hrl : r_.length ≤ 1000 := QLK hfew9 (hpf.subset (by simp))
     refine ECI.block (ECI.seq ?_);have lt_1 := q3.lt;have lt_2 := q4.lt;refine ECI.regionYO (by repeat (first | exact Za | exact ZZ | exact Zo | refine Zc ?_ | refine Zj ?_)) (by kernel_rfl) [[], [], [1], [], [1, 2, 3], [0, 1, 2, 3, 4], [0, 1, 2, 3, 4, 5]] 5 [] (phi (fun i_ r => match i_ with | 0 => r 0 = .func (.yield la) #[] #[] | 1 => r 1 = .int .i64 (k : Nat) | 3 => r 3 = .slice Av r_.length cv | _ => True) [(2, fun r w_ => ∃ g_, r 2 = .slice (some ⟨g_, 0, none⟩) 1 1 ∧ Blk w_ g_ 3 #[.int .i64 (k : Nat)] ∧ X.heap.size ≤ g_), (4, fun r w_ => ∃ A_ c_, r 4 = .slice A_ (1 + r_.length) c_ ∧ w_.ownsRow X.heap.size 3 1 (.slice A_ (1 + r_.length) c_) (1 + r_.length) ([.int .i64 (k : Nat)] ++ ints r_))]) (by kernel_rfl) rfl rfl (ZT Zw (ZT QA6 (ZY))) (fun i_ hi_ => ?_) ?_
     ·match i_, hi_ with
      | 0, _ =>
       intro val w1 a hb ha hd;have ha := ha.s0 (d := 3) rfl
       exact ZB ha rfl rfl (QJA rfl ((q3.below hb q3.lt).at (j := 0) rfl)) rfl rfl
      | 1, _ =>
       intro val w1 a hb ha hd;have ha := ha.s0 (d := 4) rfl
       exact ZB ha rfl rfl (ld_3 rfl ((q4.below hb q4.lt).at (j := 0) rfl)) rfl rfl
      | 2, _ =>
       intro val w1 a hb ha hd;have e1 : val 1 = _ := hd 1 (ZA.1 rfl);have ha := ha.s1 (d := 31) rfl e1
       exact YB ha rfl rfl (Zt rfl) rfl (fun g w' hq _ hge => ⟨g, rfl, hq, Nat.le_trans hb.size hge⟩)
      | 3, _ =>
       intro val w1 a hb ha hd;have ha := ha.s0 (d := 5) rfl
       exact ZB ha rfl rfl (ZH rfl) rfl rfl
      | 4, _ =>
       intro val w1 a hb ha hd;obtain ⟨g2_, e2, q2_, h2_⟩ := hd 2 (ZA.1 rfl);change val 2 = _ at e2;have e3 : val 3 = _ := hd 3 (ZA.1 rfl);have ha := ha.s2 (d := 33) (e := 32) rfl e3 rfl e2;refine QJJ (l := [.int .i64 (k : Nat)]) QJG ha rfl rfl rfl q2_ rfl h2_ ((Rd.of_own hokx).below hb) (ints_one _) (by omega) rfl hb.size rfl (fun v' w' ho => ?_)
       obtain ⟨A1, c1_, rfl, _⟩ := (Rd.of_own ho).shape
       exact ⟨A1, c1_, rfl, ho⟩
      | k + 5, h => exact absurd h (by omega)
     ·intro val wR9 hb halc hd
      have e0 : val 0 = _ := hd 0 (by omega)
      have e1 : val 1 = _ := hd 1 (by omega)
      obtain ⟨ga2_9, e2, qa2_9, hga2_9⟩ := hd 2 (by omega)
      change val 2 = _ at e2;change Blk wR9 ga2_9 3 #[.int .i64 (k : Nat)] at qa2_9;have e3 : val 3 = _ := hd 3 (by omega)
      obtain ⟨A4_, c4_, e4, o4_⟩ := hd 4 (by omega)
      refine ELI.ends (cs := [.func (.yield la) #[] #[], .int .i64 (k : Nat), .slice (some ⟨ga2_9, 0, none⟩) 1 1, .slice Av r_.length cv, .slice A4_ (1 + r_.length) c4_]) ⟨e0, e1, e2, e3, e4, trivial⟩ rfl ?_;replace q3 := q3.bl hb;replace q4 := q4.bl hb;have n1_4 : g1 ≠ ga2_9 := Nat.ne_of_lt (Nat.lt_of_lt_of_le lt_1 hga2_9);have n2_4 : g2 ≠ ga2_9 := Nat.ne_of_lt (Nat.lt_of_lt_of_le lt_2 hga2_9);have bhbX_4 := Nat.le_trans hbX.size hga2_9;replace hbX := bo_ hbX hb;clear hb;replace hJ0 := hJ _ _ _ hJ0 (Soft.of_below hbX);have hok4 : okLd b0 (((k : Nat) : Int) :: r_, Value.slice A4_ (1 + r_.length) c4_) wR9 := by show World.ownsRow _ _ _ _ _ (r_.length + 1) _; rw [Nat.add_comm r_.length 1, QHw]; exact own_less o4_ (by omega)
      have hpw : (po ++ [(((k : Nat) : Int) :: r_, Value.slice A4_ (1 + r_.length) c4_)]).map (·.1) <+: ldTo xs t K := by rw [QFF (v' := Value.slice Av r_.length cv) hpo, QGp]; rw [eK]; exact QLJ (by omega) hpf
      have hpo2 := QFF (r := r_) (v := Value.slice A4_ (1 + r_.length) c4_) (v' := Value.slice Av r_.length cv) hpo;obtain ⟨fn_, tmps_, assign_, body_, hi_, hR_⟩ := hY po (((k : Nat) : Int) :: r_, Value.slice A4_ (1 + r_.length) c4_) _ hok4 hJ0 hpw;refine ELI.yield rfl rfl rfl hi_ hR_ ?_
      rintro e wy ⟨hky, hkf, hfr, ⟨rfl, hJy⟩ | ⟨rfl, hJy⟩⟩
      ·refine ⟨_, rfl, ?_⟩
       refine ELI.val (ZV rfl) rfl (ELI.nil (EXI.seq (ECI.no rfl (ECI.skip (EXI.blk ?_)))))
       exact fun a0 ha0 => ⟨(ZP.below hbX).trans (hkf.mono hla3), (Kp.of_below hbX (by have := hkp.size; omega)).trans hky, (Ze.below hbX).trans (hfr.inner (by omega) (by omega)) hbX.size, .inl ⟨rfl, _, hpo2, hJy, hfr.blk (qd1.below hbX qd1.lt) hb1 (by omega), hfr.blk (qd2.below hbX qd2.lt) hb2 (by omega), hfr.blk q3 (by omega) (by omega), hfr.blk q4 (by omega) (by omega), ⟨(hMI.below hbX).marks.keepsFrom hla2 hkf, hMI.old⟩, hkp.trans ((Kp.of_below hbX (by have := hkp.size; omega)).trans hky)⟩⟩
      ·refine ⟨_, rfl, ?_⟩
       refine ELI.val (ZV rfl) rfl (ELI.nil (EXI.seq (ECI.yes rfl (ECI.ret (EXI.blk_ret ?_)))))
       exact fun a0 ha0 => ⟨(ZP.below hbX).trans (hkf.mono hla3), (Kp.of_below hbX (by have := hkp.size; omega)).trans hky, (Ze.below hbX).trans (hfr.inner (by omega) (by omega)) hbX.size, .inr ⟨rfl, _, by simp, hpw, hJy, ⟨(hMI.below hbX).marks.keepsFrom hla2 hkf, hMI.old⟩, hkp.trans ((Kp.of_below hbX (by have := hkp.size; omega)).trans hky)⟩⟩
    ·
     clear hsI hsX qd1 qd2 q3 q2 hM hkp hJ0
     rintro Dm zs X hDm hall9 ⟨po, hpo, hJ0, qd1, qd2, q3, q4, hMI, hkp⟩ hkp9 hdef
     have hpo2 : po.map (·.1) = ldTo xs t (k + 1) := by rw [hpo, QGp, hall9, QCB]
     have hM := hMI.marks.cons (Nat.le_trans hVW (Nat.le_trans hV2 hDm)) hdef;have hnd2 := List.nodup_cons.2 ⟨fun hm => hMI.fresh hDm hm, hnd⟩
     clear hnd hMI hkp9 q4;have hnd := hnd2;clear hnd2;refine EXI.blk (EXI.blk (EXI.seq (ECI.regionLD ?_)));refine EL.val (ZM rfl rfl (c := ((k + 1 : Nat) : Int)) ((IntWalk.i64_in _ ⟨by first | omega | (simp only; omega), by first | omega | (simp only; omega)⟩).trans (by first | omega | (simp only; omega)))) rfl ?_
     refine EL.mv rfl rfl (EL.nil (EX.ofD ?_));refine EXI.roundD (k + 1, po, _) ⟨rfl, trivial⟩ (by repeat first | with_reducible exact .refl _ | refine sp_ rfl ?_ | exact .refl _ | refine sd_ rfl ?_ | refine sn_ ?_) rfl ⟨by omega, hpo2, hJ0, qd1, qd2, q3, hM, hnd, hkp⟩ (show K - (k + 1) < K - k by omega)
    ·
     clear hsI hsX qd1 qd2 q3 q2 hM hkp hJ0
     rintro Dm pre X hDm hne2 hall9 ⟨po, hne, hpw, hJ0, hMI, hkp⟩ hkp9 hdef
     have hM := hMI.marks.cons (Nat.le_trans hVW (Nat.le_trans hV2 hDm)) hdef;have hnd2 := List.nodup_cons.2 ⟨fun hm => hMI.fresh hDm hm, hnd⟩
     clear hnd hMI hkp9;have hnd := hnd2;clear hnd2;refine EXI.blk_ret (EXI.blk_ret (EXI.seq_ret (EXI.seq_ret (EXI.blk_ret ?_))))
     exact EXI.doneZ (Z := fun X => Kp n0 S W X ∧ Jx (po) X) hM hnd ⟨hkp, hJ0⟩ (fun A D h hD hd => ⟨h.1.trans (Kp.putObj _ (Nat.le_trans hn0W hD) hd rfl), hJx _ _ _ h.2 (QAe _ (Nat.le_trans hla2 hD) hd rfl)⟩) (fun w' ht => res0 rfl) (fun w' ht hz => ⟨⟨_, rfl⟩, hz.1, .inr ⟨po, hne, hpw, hz.2⟩⟩)
  ·
   obtain rfl : k = K := by omega
   refine ECI.seq (ECI.regionLD ?_);refine EL.val (ZO (r := false) rfl rfl (decide_eq_false (by omega))) rfl ?_
   refine EL.nil (EX.ofD (EXI.seq (ECI.seq (ECI.no rfl (ECI.exit (EXI.seq_exit (EXI.seq_exit (EXI.blk_here ?_))))))))
   exact EXI.doneZN (Z := fun X => Kp n0 S W X ∧ J (out) X) hM hnd ⟨hkp, hJ0⟩ (fun A D h hD hd => ⟨h.1.trans (Kp.putObj _ (Nat.le_trans hn0W hD) hd rfl), hJ _ _ _ h.2 (QAe _ (Nat.le_trans hla2 hD) hd rfl)⟩) (fun w' ht => res0 rfl) (fun w' ht hz => ⟨⟨_, rfl⟩, hz.1, .inl ⟨out, hout, hz.2⟩⟩)
theorem QG1 : ∀ (xs : List Hold) (t : Int), (∀ x ∈ xs, 0 ≤ x.lots ∧ x.lots ≤ 20) → xs.length ≤ 4 → 0 ≤ t ∧ t ≤ 80 → QEz xs t
 | [], t, _, _, _ => QJ8 t
 | x :: xs, t, h, hl, ht => QJ7 x xs t (h x (by simp)) ht (by simp at hl; omega) fun k hk => QG1 xs _ (fun y hy => h y (List.mem_cons_of_mem _ hy)) (by simp at hl; omega) (by omega)
section
variable {n : Nat} {σ : Sg} {w : World} {dst : Option Tmp} {ty : TypeId} {pos : String} {af : Array Edge} {g : Option (Nat × Bool)} {x y z : Operand} {at' : Array TypeId}
theorem QLs (a : Act) (_ : Env n σ a) : (execOp a.eval ⟨dst, .alloc 56, ty, pos, af, g⟩).run Try.prog w = .ok (.value (.pointer (some ⟨w.heap.size, 0, none⟩))) (w.alloc (.cells #[.slice none 0 0] 56)) := by
 simp only [execOp]
 simp [go_sem]
theorem al_4 (a : Act) (_ : Env n σ a) : (execOp a.eval ⟨dst, .alloc 4, ty, pos, af, g⟩).run Try.prog w = .ok (.value (.pointer (some ⟨w.heap.size, 0, none⟩))) (w.alloc (.cells #[.bool false] 4)) := by
 simp only [execOp]
 simp [go_sem]
theorem ld_4 {b o : Nat} {v0 : Value} (hx : evS σ x = some (.pointer (some ⟨b, o, none⟩))) (c0 : w.cell? ⟨b, o, none⟩ = some v0) : ZE Try.prog n σ w ⟨dst, .load 4 x, ty, pos, af, g⟩ (v0) := fun a ha => by
 simp only [execOp, ha.eval hx]
 simp [go_sem, c0]
theorem sz_4 : (Try.prog.info? 4).map (·.size) = some 1 := by kernel_rfl
theorem QDx : (Try.prog.info? 56).map (·.size) = some 1 := by kernel_rfl
theorem QI_ {b o : Nat} {v0 : Value} (hx : evS σ x = some (.pointer (some ⟨b, o, none⟩))) (c0 : w.cell? ⟨b, o, none⟩ = some v0) : ZE Try.prog n σ w ⟨dst, .load 56 x, ty, pos, af, g⟩ (v0) := fun a ha => by
 simp only [execOp, ha.eval hx]
 simp [go_sem, c0]
theorem QLj {b o : Nat} {v0 : Value} (c0 : w.cell? ⟨b, o, none⟩ = some v0) : (loadVar 56 ⟨b, o, none⟩).run Try.prog w = .ok (v0) w := by
 simp [go_sem, loadVar, c0]
theorem lv_4 {b o : Nat} {v0 : Value} (c0 : w.cell? ⟨b, o, none⟩ = some v0) : (loadVar 4 ⟨b, o, none⟩).run Try.prog w = .ok (v0) w := by
 simp [go_sem, loadVar, c0]
end
section
variable {h : Hul} {d : Bd} {most : Int} {s : Bst} {l : List Int}
theorem QEs (h0 : okL h d most l = false) : Z_ h d most s l = ⟨s.best, s.has, s.flo || Yf h l d, s.least⟩ := if_pos h0
theorem QCm (h1 : okL h d most l = true) (h2 : s.has = false ∨ absI (momT h l) < s.least) : Z_ h d most s l = ⟨l, true, true, absI (momT h l)⟩ := (if_neg (by rw [h1]; decide)).trans (if_pos h2)
theorem QFk (h1 : okL h d most l = true) (h2 : ¬(s.has = false ∨ absI (momT h l) < s.least)) : Z_ h d most s l = ⟨s.best, s.has, true, s.least⟩ := (if_neg (by rw [h1]; decide)).trans (if_neg h2)
end
theorem Ze.turn {b l g : Nat} {X A B : World} (h : Ze b l X A) (hg : A.grownBy B (some g)) (h1 : X.heap.size ≤ g) (hs : X.heap.size ≤ A.heap.size) : Ze b l X B := fun j h2 h3 h4 => (hg.block j (by omega) (fun e => by injection e; omega)).trans (h j h2 h3 h4)
theorem QLC {P : Program} {n : Nat} {σ : Sg} {w : World} {fn : Func} {c1 c2 c3 : Tmp} {t1 t2 t3 : TypeId} {p1 p2 p3 : Addr} {v1 v2 v3 : Value} (h : fn.results = #[.cell c1 t1, .cell c2 t2, .cell c3 t3]) (hc1 : σ c1 = some (.pointer (some p1))) (hc2 : σ c2 = some (.pointer (some p2))) (hc3 : σ c3 = some (.pointer (some p3))) (hl1 : (loadVar t1 p1).run P w = .ok v1 w) (hl2 : (loadVar t2 p2).run P w = .ok v2 w) (hl3 : (loadVar t3 p3).run P w = .ok v3 w) (a : Act) (ha : Env n σ a) : (results fn a.tmps).run P w = .ok (.tuple #[v1, v2, v3]) w := by
 have e1 : a.tmps.getD c1 undef = .pointer (some p1) := ha.eval (x := .tmp c1) hc1;have e2 : a.tmps.getD c2 undef = .pointer (some p2) := ha.eval (x := .tmp c2) hc2;have e3 : a.tmps.getD c3 undef = .pointer (some p3) := ha.eval (x := .tmp c3) hc3;rw [Array.getD_eq_getD_getElem?] at e1 e2 e3
 simp [results, h, e1, e2, e3, asAddr, hl1, hl2, hl3]
set_option maxHeartbeats 4000000 in
set_option maxRecDepth 100000 in
theorem QJa {h : Hul} (hh : HulOk h) (v hv : Value) (vs : List (Value × Value)) (g : Nat) (w : World) (B : Nat) (hs : RdShip w B g h v hv vs) (hB : B ≤ w.heap.size) (lots : Int) (hlo : 0 ≤ lots ∧ lots ≤ 80) (d : Bd) (hd : denB d = true) (most : Int) :
  Calls Try.prog 42 #[.pointer (some ⟨g, 0, none⟩), .int .i64 lots, .agg #[.int .i64 d.lo, .int .i64 d.hi], .int .i64 most] w fun e w' => (∃ v', e = .returned (.tuple #[v', .bool (Zn h d most lots).has, .bool (Zn h d most lots).flo]) ∧ w'.ownsRow w.heap.size 3 1 v' (Zn h d most lots).best.length (ints (Zn h d most lots).best)) ∧ Below w.heap.size w w' := by
 obtain ⟨Ah, ch, rfl, _⟩ := hs.holds.shape;have hbw := Below.refl w.heap.size w;refine EC.marks 59 Try.func42 rfl rfl rfl (ECI.seq (ECI.regionLD (EL.newP (QJV rfl rfl) rfl ?_)));intro g1 w1 q1 hb1 hg1 hl1;have bhbw_1 := Nat.le_trans hbw.size hg1;replace hbw := bo_ hbw hb1;clear hb1 hg1 hl1;refine EL.newP (QBx rfl) rfl ?_;intro g2 w2 q2 hb2 hg2 hl2;have n1_2 := q1.na hg2;have bhbw_2 := Nat.le_trans hbw.size hg2;replace q1 := q1.bl hb2;replace hbw := bo_ hbw hb2;clear hb2 hg2 hl2;refine EL.newP (bx_3 rfl rfl) rfl ?_;intro g3 w3 q3 hb3 hg3 hl3;have n1_3 := q1.na hg3;have n2_3 := q2.na hg3;have bhbw_3 := Nat.le_trans hbw.size hg3;replace q1 := q1.bl hb3;replace q2 := q2.bl hb3;replace hbw := bo_ hbw hb3;clear hb3 hg3 hl3;refine EL.newP QLs rfl ?_;intro g4 w4 q4 hb4 hg4 hl4;have n1_4 := q1.na hg4;have n2_4 := q2.na hg4;have n3_4 := q3.na hg4;have bhbw_4 := Nat.le_trans hbw.size hg4;replace q1 := q1.bl hb4;replace q2 := q2.bl hb4;replace q3 := q3.bl hb4;replace hbw := bo_ hbw hb4;clear hb4 hg4 hl4;refine EL.newP al_4 rfl ?_;intro g5 w5 q5 hb5 hg5 hl5;have n1_5 := q1.na hg5;have n2_5 := q2.na hg5;have n3_5 := q3.na hg5;have n4_5 := q4.na hg5;have bhbw_5 := Nat.le_trans hbw.size hg5;replace q1 := q1.bl hb5;replace q2 := q2.bl hb5;replace q3 := q3.bl hb5;replace q4 := q4.bl hb5;replace hbw := bo_ hbw hb5;clear hb5 hg5 hl5;refine EL.newP al_4 rfl ?_;intro g6 w6 q6 hb6 hg6 hl6;have n1_6 := q1.na hg6;have n2_6 := q2.na hg6;have n3_6 := q3.na hg6;have n4_6 := q4.na hg6;have n5_6 := q5.na hg6;have bhbw_6 := Nat.le_trans hbw.size hg6;replace q1 := q1.bl hb6;replace q2 := q2.bl hb6;replace q3 := q3.bl hb6;replace q4 := q4.bl hb6;replace q5 := q5.bl hb6;replace hbw := bo_ hbw hb6;clear hb6 hg6 hl6;refine EL.nil (EX.ofD (EXI.seq (ECI.seq (ECI.regionLD (EL.newP al_3 rfl ?_)))));intro g7 w7 q7 hb7 hg7 hl7;have n1_7 := q1.na hg7;have n2_7 := q2.na hg7;have n3_7 := q3.na hg7;have n4_7 := q4.na hg7;have n5_7 := q5.na hg7;have n6_7 := q6.na hg7;have bhbw_7 := Nat.le_trans hbw.size hg7;replace q1 := q1.bl hb7;replace q2 := q2.bl hb7;replace q3 := q3.bl hb7;replace q4 := q4.bl hb7;replace q5 := q5.bl hb7;replace q6 := q6.bl hb7;replace hbw := bo_ hbw hb7;clear hb7 hg7 hl7;refine EL.store rfl rfl q7 sz_3 rfl rfl rfl rfl ?_;intro w8 hq8 hg8;replace q1 := q1.gr hg8 n1_7;replace q2 := q2.gr hg8 n2_7;replace q3 := q3.gr hg8 n3_7;replace q4 := q4.gr hg8 n4_7;replace q5 := q5.gr hg8 n5_7;replace q6 := q6.gr hg8 n6_7;replace hbw := ZC hbw hg8 bhbw_7;replace q7 := hq8;clear hg8 hq8;refine EL.nil (EX.ofD (EXI.seq (ECI.seq (ECI.seq (ECI.regionLD (EL.val (QAU rfl (q1.at (j := 0) rfl)) rfl (EL.val (ZK rfl) rfl (EL.val (Y8 rfl) rfl (EL.val (QAG rfl (ZD hbw (hs.c (j := 2) rfl))) rfl ?_)))))))));refine EL.mv rfl rfl ?_;obtain ⟨m0, em0⟩ : ∃ m0, m0 = w8.heap.size := ⟨_, rfl⟩;have hwm0 : w.heap.size ≤ m0 := by rw [em0]; exact hbw.size
 have lm_1 : g1 < m0 := by rw [em0]; exact q1.lt
 have lm_2 : g2 < m0 := by rw [em0]; exact q2.lt
 have lm_3 : g3 < m0 := by rw [em0]; exact q3.lt
 have lm_4 : g4 < m0 := by rw [em0]; exact q4.lt
 have lm_5 : g5 < m0 := by rw [em0]; exact q5.lt
 have lm_6 : g6 < m0 := by rw [em0]; exact q6.lt
 have lm_7 : g7 < m0 := by rw [em0]; exact q7.lt
 refine EL.call (cA2 cF57 rfl rfl) rfl (QFO _) ?_
 rintro e w9 ⟨⟨d1, d2, rfl, qe1, qe2, hd1, hd2⟩, hc9⟩
 refine ⟨_, rfl, ?_⟩;rw [← em0] at hd1 hd2;replace q1 := q1.bl hc9;replace q2 := q2.bl hc9;replace q3 := q3.bl hc9;replace q4 := q4.bl hc9;replace q5 := q5.bl hc9;replace q6 := q6.bl hc9;replace q7 := q7.bl hc9;replace hbw := bo_ hbw hc9;clear hc9;refine EL.nil (EX.ofD (EXI.seq (ECI.block ?_)));have hsz := hbw.size;have hm0V : m0 ≤ w9.heap.size := by have := qe1.lt; omega
 have hsoft : QBM w9.heap.size w9.heap.size [] (fun (pre : List It) X => ∃ vb, Blk X g1 115 #[.pointer (some ⟨g, 0, none⟩)] ∧ Blk X g2 25 #[.int .i64 d.lo, .int .i64 d.hi] ∧ Blk X g3 3 #[.int .i64 most] ∧ Blk X g4 56 #[vb] ∧ Blk X g5 4 #[.bool ((pre.map (·.1)).foldl (Z_ h d most) bst0).has] ∧ Blk X g6 4 #[.bool ((pre.map (·.1)).foldl (Z_ h d most) bst0).flo] ∧ Blk X g7 3 #[.int .i64 ((pre.map (·.1)).foldl (Z_ h d most) bst0).least] ∧ X.ownsRow m0 3 1 vb ((pre.map (·.1)).foldl (Z_ h d most) bst0).best.length (ints ((pre.map (·.1)).foldl (Z_ h d most) bst0).best) ∧ Below w.heap.size w X) := fun s A B' ⟨vb, h1, h2, h3, h4, h5, h6, h7, h8, h9⟩ hs => ⟨vb, hs.blk h1 rfl, hs.blk h2 rfl, hs.blk h3 rfl, hs.blk h4 rfl, hs.blk h5 rfl, hs.blk h6 rfl, hs.blk h7 rfl, hs.row h8 rfl, (hs.mono2 hsz).below h9 h9.size (Nat.le_refl _)⟩
 have hit := QG1 (ZN h) lots (fun x hx => (hh.arms.at_ x hx).2) hh.arms.many hlo w.heap.size m0 d1 d2 w.heap.size _ [56, 4, 3] w9 ((hs.holds.below (hbw.mono hB)).more hB) (Nat.le_refl _) hwm0 hd1 hd2 qe1 qe2
 refine QGo (U := []) (Fr := fun l_ => Ze m0 l_) (ok := okLd m0) (n0 := w.heap.size) (S := [56, 4, 3]) (σ1 := fun x => _) rfl (fun args w => by kernel_rfl) rfl hit QFC hsz (fun pre X => ∃ vb, Blk X g1 115 #[.pointer (some ⟨g, 0, none⟩)] ∧ Blk X g2 25 #[.int .i64 d.lo, .int .i64 d.hi] ∧ Blk X g3 3 #[.int .i64 most] ∧ Blk X g4 56 #[vb] ∧ Blk X g5 4 #[.bool ((pre.map (·.1)).foldl (Z_ h d most) bst0).has] ∧ Blk X g6 4 #[.bool ((pre.map (·.1)).foldl (Z_ h d most) bst0).flo] ∧ Blk X g7 3 #[.int .i64 ((pre.map (·.1)).foldl (Z_ h d most) bst0).least] ∧ X.ownsRow m0 3 1 vb ((pre.map (·.1)).foldl (Z_ h d most) bst0).best.length (ints ((pre.map (·.1)).foldl (Z_ h d most) bst0).best) ∧ Below w.heap.size w X) (fun _ _ => False) hsoft QF1 ⟨_, q1, q2, q3, q4, q5, q6, q7, own_nil _ _ _ _, hbw⟩ (QD2 _) (fun l_ x X K_ hK => by
   refine ECI.regionL (Zc Zo) (by kernel_rfl) ?_
   refine EL.as rfl rfl (EL.nil (EX.toI ?_))
   exact fun a' ha' => hK a' ha') ?_ ?_ ?_
 ·
  clear hsoft hit q1 q2 q3 q4 q5 q6 q7 hbw qe1 qe2
  rintro lb pre ⟨r_, v_⟩ X hpf hox ⟨vb, q1, q2, q3, q4, q5, q6, q7, hob, hbw⟩ hsz9
  unfold okLd at hox
  dsimp only at hox
  obtain ⟨Av, cv, rfl, _⟩ := (Rd.of_own hox).shape;have hmem := (QA9 hlo.1 (fun x hx => (hh.arms.at_ x hx).2.1)).1 (hpf.subset (show r_ ∈ _ by simp))
  have hL : LoadOk (ZN h) r_ := ⟨hh.arms, hmem.1.1, hmem.1.2⟩;have hnew : (((pre ++ [(r_, (.slice Av r_.length cv : Value))]).map (·.1)).foldl (Z_ h d most) bst0) = Z_ h d most ((pre.map (·.1)).foldl (Z_ h d most) bst0) r_ := by rw [List.map_append, List.foldl_append]; rfl
  obtain ⟨Q, eQ⟩ : ∃ z, z = ((pre.map (·.1)).foldl (Z_ h d most) bst0) := ⟨_, rfl⟩;rw [← eQ] at hnew q5 q6 q7 hob;clear eQ;obtain ⟨sb, sh, sf, sl⟩ := Q
  dsimp only at q5 q6 q7 hob
  have hXV : w9.heap.size ≤ X.heap.size := by omega
  have hkp := Kp.refl w.heap.size [56, 4, 3] X;have hkf := ZP.refl w9.heap.size X;have hsx := Ze.refl (b := m0) (l := w9.heap.size + 1) X
  cases hok : Yf h r_ d
  ·
   refine ECI.block (ECI.seq ?_);refine ECI.regionL (by repeat (first | exact Za | exact ZZ | exact Zo | refine Zc ?_ | refine Zj ?_)) (by kernel_rfl) ?_
   refine EL.val (QAU rfl (q1.at (j := 0) rfl)) rfl (EL.mv rfl rfl (EL.val (Zp rfl (q2.at (j := 0) rfl) (q2.at (j := 1) rfl)) rfl ?_));refine EL.call (cA3 cF58 rfl rfl rfl) rfl (by have key := QBC hh _ _ vs g _ _ ((hs.below (hbw.mono hB)).more (Nat.le_trans hB hbw.size)) (Nat.le_refl _) hL d hd _ (rd_of_own hox); rw [hok] at key; exact key) ?_
   rintro e w10 ⟨rfl, hc10⟩
   refine ⟨_, rfl, ?_⟩;replace q1 := q1.bl hc10;replace q2 := q2.bl hc10;replace q3 := q3.bl hc10;replace q4 := q4.bl hc10;replace q5 := q5.bl hc10;replace q6 := q6.bl hc10;replace q7 := q7.bl hc10;replace hsx := hsx.trans (Ze.below hc10) hkp.size;replace hkp := hkp.trans (Kp.of_below hc10 (by have := hkp.size; omega))
   replace hkf := hkf.trans (ZP.below hc10);replace hox := own_below hox hc10 (Nat.le_refl _);replace hob := own_below hob hc10 (Nat.le_refl _);replace hbw := bo_ hbw hc10;clear hc10;refine EL.mv rfl rfl (EL.xt rfl rfl rfl (EL.xt rfl rfl rfl (EL.newP QCW rfl ?_)));intro g11 w11 q11 hb11 hg11 hl11;have n1_11 := q1.na hg11;have n2_11 := q2.na hg11;have n3_11 := q3.na hg11;have n4_11 := q4.na hg11;have n5_11 := q5.na hg11;have n6_11 := q6.na hg11;have n7_11 := q7.na hg11;have bhbw_11 := Nat.le_trans hbw.size hg11;have hX11 : X.heap.size ≤ g11 := Nat.le_trans hkp.size hg11;replace q1 := q1.bl hb11;replace q2 := q2.bl hb11;replace q3 := q3.bl hb11;replace q4 := q4.bl hb11;replace q5 := q5.bl hb11;replace q6 := q6.bl hb11;replace q7 := q7.bl hb11;replace hsx := hsx.trans (Ze.below hb11) hkp.size;replace hkp := hkp.trans (Kp.of_below hb11 (by have := hkp.size; omega))
   replace hkf := hkf.trans (ZP.below hb11);replace hox := own_below hox hb11 (Nat.le_refl _);replace hob := own_below hob hb11 (Nat.le_refl _);replace hbw := bo_ hbw hb11;clear hb11 hg11 hl11;refine EL.store rfl rfl q11 Yp rfl rfl rfl rfl ?_;intro w12 hq12 hg12;replace q1 := q1.gr hg12 n1_11;replace q2 := q2.gr hg12 n2_11;replace q3 := q3.gr hg12 n3_11;replace q4 := q4.gr hg12 n4_11;replace q5 := q5.gr hg12 n5_11;replace q6 := q6.gr hg12 n6_11;replace q7 := q7.gr hg12 n7_11;replace hsx := hsx.turn hg12 hX11 hkp.size;replace hkp := hkp.turn hg12 hX11 (by omega)
   replace hkf := hkf.trans (.of (Zi q11 hg12));replace hox := ZF hox q11 rfl hg12;replace hob := ZF hob q11 rfl hg12;replace hbw := ZC hbw hg12 bhbw_11;replace q11 := hq12;clear hg12 hq12;refine EL.as rfl rfl (EL.nil (EX.toI (EXI.seq (ECI.seq ?_))))
   cases sf
   ·
    refine ECI.regionL (by repeat (first | exact Za | exact ZZ | exact Zo | refine Zc ?_ | refine Zj ?_)) (by kernel_rfl) ?_
    refine EL.val (ld_4 rfl (q6.at (j := 0) rfl)) rfl (EL.mv rfl rfl (EL.mg rfl rfl rfl rfl (EL.pf rfl rfl rfl (EL.store rfl rfl q6 sz_4 rfl rfl rfl rfl ?_))));intro w13 hq13 hg13;replace q1 := q1.gr hg13 n1_6;replace q2 := q2.gr hg13 n2_6;replace q3 := q3.gr hg13 n3_6;replace q4 := q4.gr hg13 n4_6;replace q5 := q5.gr hg13 n5_6;replace q7 := q7.gr hg13 n6_7.symm;replace q11 := q11.gr hg13 n6_11.symm;replace hsx := hsx.trans (Ze.grown hg13 fun k e => by injection e with e; subst e; omega) hkp.size
    replace hkp := hkp.trans (Kp.grown q6 rfl bhbw_6 hg13);replace hkf := hkf.trans (.of (Zi q6 hg13));replace hox := ZF hox q6 rfl hg13;replace hob := ZF hob q6 rfl hg13;replace hbw := ZC hbw hg13 bhbw_6;replace q6 := hq13;clear hg13 hq13;refine EL.nil (EX.toI (EXI.seq (ECI.seq (ECI.seq ?_))));refine ECI.regionL (by repeat (first | exact Za | exact ZZ | exact Zo | refine Zc ?_ | refine Zj ?_)) (by kernel_rfl) ?_
    refine EL.mv rfl rfl (EL.val (ZV rfl) rfl (EL.mv rfl rfl (EL.skip rfl rfl rfl rfl (EL.skip rfl rfl rfl rfl (EL.skip rfl rfl rfl rfl (EL.skip rfl rfl rfl rfl (EL.skip rfl rfl rfl rfl (EL.pt rfl rfl rfl (EL.nil ?_)))))))));refine EX.toI (EXI.seq (ECI.yes rfl (ECI.exit (EXI.seq_exit (EXI.blk_here ?_)))));have hst := hnew.trans (QEs (by unfold okL; rw [hok]; rfl))
    rw [hok] at hst
    exact fun a0 ha0 => ⟨hkf, hkp, hsx, .inl ⟨rfl, _, q1, q2, q3, q4, by rw [hst]; exact q5, by rw [hst]; exact q6, by rw [hst]; exact q7, by rw [hst]; exact hob, hbw⟩⟩
   ·
    refine ECI.regionL (by repeat (first | exact Za | exact ZZ | exact Zo | refine Zc ?_ | refine Zj ?_)) (by kernel_rfl) ?_
    refine EL.val (ld_4 rfl (q6.at (j := 0) rfl)) rfl (EL.mv rfl rfl (EL.skip rfl rfl rfl rfl (EL.pt rfl rfl rfl (EL.store rfl rfl q6 sz_4 rfl rfl rfl rfl ?_))));intro w14 hq14 hg14;replace q1 := q1.gr hg14 n1_6;replace q2 := q2.gr hg14 n2_6;replace q3 := q3.gr hg14 n3_6;replace q4 := q4.gr hg14 n4_6;replace q5 := q5.gr hg14 n5_6;replace q7 := q7.gr hg14 n6_7.symm;replace q11 := q11.gr hg14 n6_11.symm;replace hsx := hsx.trans (Ze.grown hg14 fun k e => by injection e with e; subst e; omega) hkp.size
    replace hkp := hkp.trans (Kp.grown q6 rfl bhbw_6 hg14);replace hkf := hkf.trans (.of (Zi q6 hg14));replace hox := ZF hox q6 rfl hg14;replace hob := ZF hob q6 rfl hg14;replace hbw := ZC hbw hg14 bhbw_6;replace q6 := hq14;clear hg14 hq14;refine EL.nil (EX.toI (EXI.seq (ECI.seq (ECI.seq ?_))));refine ECI.regionL (by repeat (first | exact Za | exact ZZ | exact Zo | refine Zc ?_ | refine Zj ?_)) (by kernel_rfl) ?_
    refine EL.mv rfl rfl (EL.val (ZV rfl) rfl (EL.mv rfl rfl (EL.skip rfl rfl rfl rfl (EL.skip rfl rfl rfl rfl (EL.skip rfl rfl rfl rfl (EL.skip rfl rfl rfl rfl (EL.skip rfl rfl rfl rfl (EL.pt rfl rfl rfl (EL.nil ?_)))))))));refine EX.toI (EXI.seq (ECI.yes rfl (ECI.exit (EXI.seq_exit (EXI.blk_here ?_)))));have hst := hnew.trans (QEs (by unfold okL; rw [hok]; rfl))
    rw [hok] at hst
    exact fun a0 ha0 => ⟨hkf, hkp, hsx, .inl ⟨rfl, _, q1, q2, q3, q4, by rw [hst]; exact q5, by rw [hst]; exact q6, by rw [hst]; exact q7, by rw [hst]; exact hob, hbw⟩⟩
  ·
   refine ECI.block (ECI.seq ?_);refine ECI.regionL (by repeat (first | exact Za | exact ZZ | exact Zo | refine Zc ?_ | refine Zj ?_)) (by kernel_rfl) ?_
   refine EL.val (QAU rfl (q1.at (j := 0) rfl)) rfl (EL.mv rfl rfl (EL.val (Zp rfl (q2.at (j := 0) rfl) (q2.at (j := 1) rfl)) rfl ?_));refine EL.call (cA3 cF58 rfl rfl rfl) rfl (by have key := QBC hh _ _ vs g _ _ ((hs.below (hbw.mono hB)).more (Nat.le_trans hB hbw.size)) (Nat.le_refl _) hL d hd _ (rd_of_own hox); rw [hok] at key; exact key) ?_
   rintro e w15 ⟨rfl, hc15⟩
   refine ⟨_, rfl, ?_⟩;replace q1 := q1.bl hc15;replace q2 := q2.bl hc15;replace q3 := q3.bl hc15;replace q4 := q4.bl hc15;replace q5 := q5.bl hc15;replace q6 := q6.bl hc15;replace q7 := q7.bl hc15;replace hsx := hsx.trans (Ze.below hc15) hkp.size;replace hkp := hkp.trans (Kp.of_below hc15 (by have := hkp.size; omega))
   replace hkf := hkf.trans (ZP.below hc15);replace hox := own_below hox hc15 (Nat.le_refl _);replace hob := own_below hob hc15 (Nat.le_refl _);replace hbw := bo_ hbw hc15;clear hc15;refine EL.mv rfl rfl (EL.xt rfl rfl rfl (EL.xt rfl rfl rfl (EL.newP QCW rfl ?_)));intro g16 w16 q16 hb16 hg16 hl16;have n1_16 := q1.na hg16;have n2_16 := q2.na hg16;have n3_16 := q3.na hg16;have n4_16 := q4.na hg16;have n5_16 := q5.na hg16;have n6_16 := q6.na hg16;have n7_16 := q7.na hg16;have bhbw_16 := Nat.le_trans hbw.size hg16;have hX16 : X.heap.size ≤ g16 := Nat.le_trans hkp.size hg16;replace q1 := q1.bl hb16;replace q2 := q2.bl hb16;replace q3 := q3.bl hb16;replace q4 := q4.bl hb16;replace q5 := q5.bl hb16;replace q6 := q6.bl hb16;replace q7 := q7.bl hb16;replace hsx := hsx.trans (Ze.below hb16) hkp.size;replace hkp := hkp.trans (Kp.of_below hb16 (by have := hkp.size; omega))
   replace hkf := hkf.trans (ZP.below hb16);replace hox := own_below hox hb16 (Nat.le_refl _);replace hob := own_below hob hb16 (Nat.le_refl _);replace hbw := bo_ hbw hb16;clear hb16 hg16 hl16;refine EL.store rfl rfl q16 Yp rfl rfl rfl rfl ?_;intro w17 hq17 hg17;replace q1 := q1.gr hg17 n1_16;replace q2 := q2.gr hg17 n2_16;replace q3 := q3.gr hg17 n3_16;replace q4 := q4.gr hg17 n4_16;replace q5 := q5.gr hg17 n5_16;replace q6 := q6.gr hg17 n6_16;replace q7 := q7.gr hg17 n7_16;replace hsx := hsx.turn hg17 hX16 hkp.size;replace hkp := hkp.turn hg17 hX16 (by omega)
   replace hkf := hkf.trans (.of (Zi q16 hg17));replace hox := ZF hox q16 rfl hg17;replace hob := ZF hob q16 rfl hg17;replace hbw := ZC hbw hg17 bhbw_16;replace q16 := hq17;clear hg17 hq17;refine EL.as rfl rfl (EL.nil (EX.toI (EXI.seq (ECI.seq ?_))))
   cases sf
   ·
    refine ECI.regionL (by repeat (first | exact Za | exact ZZ | exact Zo | refine Zc ?_ | refine Zj ?_)) (by kernel_rfl) ?_
    refine EL.val (ld_4 rfl (q6.at (j := 0) rfl)) rfl (EL.mv rfl rfl (EL.mg rfl rfl rfl rfl (EL.pf rfl rfl rfl (EL.store rfl rfl q6 sz_4 rfl rfl rfl rfl ?_))));intro w18 hq18 hg18;replace q1 := q1.gr hg18 n1_6;replace q2 := q2.gr hg18 n2_6;replace q3 := q3.gr hg18 n3_6;replace q4 := q4.gr hg18 n4_6;replace q5 := q5.gr hg18 n5_6;replace q7 := q7.gr hg18 n6_7.symm;replace q16 := q16.gr hg18 n6_16.symm;replace hsx := hsx.trans (Ze.grown hg18 fun k e => by injection e with e; subst e; omega) hkp.size
    replace hkp := hkp.trans (Kp.grown q6 rfl bhbw_6 hg18);replace hkf := hkf.trans (.of (Zi q6 hg18));replace hox := ZF hox q6 rfl hg18;replace hob := ZF hob q6 rfl hg18;replace hbw := ZC hbw hg18 bhbw_6;replace q6 := hq18;clear hg18 hq18;refine EL.nil (EX.toI (EXI.seq (ECI.seq (ECI.seq ?_))));refine ECI.regionL (by repeat (first | exact Za | exact ZZ | exact Zo | refine Zc ?_ | refine Zj ?_)) (by kernel_rfl) ?_
    refine EL.mv rfl rfl (EL.val (ZV rfl) rfl (EL.mv rfl rfl (EL.valg rfl rfl (Yy rfl) rfl (EL.valg rfl rfl (ZR rfl) rfl (EL.valg rfl rfl (ld_3 rfl (q16.at (j := 3) rfl)) rfl (EL.valg rfl rfl (ld_3 rfl (q3.at (j := 0) rfl)) rfl ?_))))))
    by_cases hgt : most < (fltT h r_ d).deep.hi
    ·
     refine EL.valg rfl rfl (YP (r := true) rfl rfl (decide_eq_true hgt)) rfl (EL.pf rfl rfl rfl (EL.nil (EX.toI (EXI.seq (ECI.yes rfl (ECI.exit (EXI.seq_exit (EXI.blk_here ?_))))))));have hst := hnew.trans (QEs (by unfold okL; rw [hok, decide_eq_false (by omega)]; rfl))
     rw [hok] at hst
     exact fun a0 ha0 => ⟨hkf, hkp, hsx, .inl ⟨rfl, _, q1, q2, q3, q4, by rw [hst]; exact q5, by rw [hst]; exact q6, by rw [hst]; exact q7, by rw [hst]; exact hob, hbw⟩⟩
    ·
     refine EL.valg rfl rfl (YP (r := false) rfl rfl (decide_eq_false hgt)) rfl (EL.pf rfl rfl rfl (EL.nil (EX.toI (EXI.seq (ECI.no rfl (ECI.skip (EXI.seq (ECI.seq ?_))))))));refine ECI.regionL (by repeat (first | exact Za | exact ZZ | exact Zo | refine Zc ?_ | refine Zj ?_)) (by kernel_rfl) ?_
     refine EL.val (QAU rfl (q1.at (j := 0) rfl)) rfl (EL.mv rfl rfl (EL.call (cA2 cF60 rfl rfl) rfl (QDC hh _ _ vs g _ _ ((hs.below (hbw.mono hB)).more (Nat.le_trans hB hbw.size)) (Nat.le_refl _) hL _ (rd_of_own hox)) ?_))
     rintro e w19 ⟨rfl, hc19⟩
     refine ⟨_, rfl, ?_⟩;replace q1 := q1.bl hc19;replace q2 := q2.bl hc19;replace q3 := q3.bl hc19;replace q4 := q4.bl hc19;replace q5 := q5.bl hc19;replace q6 := q6.bl hc19;replace q7 := q7.bl hc19;replace q16 := q16.bl hc19;replace hsx := hsx.trans (Ze.below hc19) hkp.size;replace hkp := hkp.trans (Kp.of_below hc19 (by have := hkp.size; omega))
     replace hkf := hkf.trans (ZP.below hc19);replace hox := own_below hox hc19 (Nat.le_refl _);replace hob := own_below hob hc19 (Nat.le_refl _);replace hbw := bo_ hbw hc19;clear hc19;refine EL.call (cA1 cF59 rfl) rfl (QEy _ (QA7 hh hL).1 (QA7 hh hL).2 _) ?_
     rintro e w20 ⟨rfl, hc20⟩
     refine ⟨_, rfl, ?_⟩;replace q1 := q1.bl hc20;replace q2 := q2.bl hc20;replace q3 := q3.bl hc20;replace q4 := q4.bl hc20;replace q5 := q5.bl hc20;replace q6 := q6.bl hc20;replace q7 := q7.bl hc20;replace q16 := q16.bl hc20;replace hsx := hsx.trans (Ze.below hc20) hkp.size;replace hkp := hkp.trans (Kp.of_below hc20 (by have := hkp.size; omega))
     replace hkf := hkf.trans (ZP.below hc20);replace hox := own_below hox hc20 (Nat.le_refl _);replace hob := own_below hob hc20 (Nat.le_refl _);replace hbw := bo_ hbw hc20;clear hc20;refine EL.as rfl rfl (EL.nil (EX.toI (EXI.seq (ECI.seq ?_))))
     cases sh
     ·
      refine ECI.regionL (by repeat (first | exact Za | exact ZZ | exact Zo | refine Zc ?_ | refine Zj ?_)) (by kernel_rfl) ?_
      refine EL.val (ld_4 rfl (q5.at (j := 0) rfl)) rfl (EL.val (ZV rfl) rfl (EL.mv rfl rfl (EL.skip rfl rfl rfl rfl (EL.skip rfl rfl rfl rfl (EL.skip rfl rfl rfl rfl (EL.pt rfl rfl rfl (EL.nil (EX.toI (EXI.seq ?_)))))))));refine ECI.yes rfl ?_;refine ECI.regionL (by repeat (first | exact Za | exact ZZ | exact Zo | refine Zc ?_ | refine Zj ?_)) (by kernel_rfl) ?_
      refine EL.mv rfl rfl (EL.mv rfl rfl (EL.store rfl rfl q4 QDx rfl rfl rfl rfl ?_));intro w21 hq21 hg21;replace q1 := q1.gr hg21 n1_4;replace q2 := q2.gr hg21 n2_4;replace q3 := q3.gr hg21 n3_4;replace q5 := q5.gr hg21 n4_5.symm;replace q6 := q6.gr hg21 n4_6.symm;replace q7 := q7.gr hg21 n4_7.symm;replace q16 := q16.gr hg21 n4_16.symm;replace hsx := hsx.trans (Ze.grown hg21 fun k e => by injection e with e; subst e; omega) hkp.size
      replace hkp := hkp.trans (Kp.grown q4 rfl bhbw_4 hg21);replace hkf := hkf.trans (.of (Zi q4 hg21));replace hox := ZF hox q4 rfl hg21;replace hob := ZF hob q4 rfl hg21;replace hbw := ZC hbw hg21 bhbw_4;replace q4 := hq21;clear hg21 hq21;refine EL.store rfl rfl q5 sz_4 rfl rfl rfl rfl ?_;intro w22 hq22 hg22;replace q1 := q1.gr hg22 n1_5;replace q2 := q2.gr hg22 n2_5;replace q3 := q3.gr hg22 n3_5;replace q4 := q4.gr hg22 n4_5;replace q6 := q6.gr hg22 n5_6.symm;replace q7 := q7.gr hg22 n5_7.symm;replace q16 := q16.gr hg22 n5_16.symm;replace hsx := hsx.trans (Ze.grown hg22 fun k e => by injection e with e; subst e; omega) hkp.size
      replace hkp := hkp.trans (Kp.grown q5 rfl bhbw_5 hg22);replace hkf := hkf.trans (.of (Zi q5 hg22));replace hox := ZF hox q5 rfl hg22;replace hob := ZF hob q5 rfl hg22;replace hbw := ZC hbw hg22 bhbw_5;replace q5 := hq22;clear hg22 hq22;refine EL.store rfl rfl q7 sz_3 rfl rfl rfl rfl ?_;intro w23 hq23 hg23;replace q1 := q1.gr hg23 n1_7;replace q2 := q2.gr hg23 n2_7;replace q3 := q3.gr hg23 n3_7;replace q4 := q4.gr hg23 n4_7;replace q5 := q5.gr hg23 n5_7;replace q6 := q6.gr hg23 n6_7;replace q16 := q16.gr hg23 n7_16.symm;replace hsx := hsx.trans (Ze.grown hg23 fun k e => by injection e with e; subst e; omega) hkp.size
      replace hkp := hkp.trans (Kp.grown q7 rfl bhbw_7 hg23);replace hkf := hkf.trans (.of (Zi q7 hg23));replace hox := YR hox (fun e => by have := (hox.lt _ e).1; omega) hg23
      replace hob := YR hob (fun e => by have := (hob.lt _ e).1; omega) hg23
      replace hbw := ZC hbw hg23 bhbw_7;replace q7 := hq23;clear hg23 hq23;refine EL.nil (EX.toI (EXI.blk ?_));have hst := hnew.trans (QCm (by unfold okL; rw [hok, decide_eq_true (by omega)]; rfl) (.inl rfl))
      exact fun a0 ha0 => ⟨hkf, hkp, hsx, .inl ⟨rfl, _, q1, q2, q3, q4, by rw [hst]; exact q5, by rw [hst]; exact q6, by rw [hst]; exact q7, by rw [hst]; exact hox, hbw⟩⟩
     ·
      refine ECI.regionL (by repeat (first | exact Za | exact ZZ | exact Zo | refine Zc ?_ | refine Zj ?_)) (by kernel_rfl) ?_
      refine EL.val (ld_4 rfl (q5.at (j := 0) rfl)) rfl (EL.val (ZV rfl) rfl (EL.mv rfl rfl (EL.mg rfl rfl rfl rfl (EL.valg rfl rfl (ld_3 rfl (q7.at (j := 0) rfl)) rfl ?_))))
      by_cases hml : absI (momT h r_) < sl
      ·
       refine EL.valg rfl rfl (ZO (r := true) rfl rfl (decide_eq_true hml)) rfl (EL.pf rfl rfl rfl (EL.nil (EX.toI (EXI.seq (ECI.yes rfl ?_)))));refine ECI.regionL (by repeat (first | exact Za | exact ZZ | exact Zo | refine Zc ?_ | refine Zj ?_)) (by kernel_rfl) ?_
       refine EL.mv rfl rfl (EL.mv rfl rfl (EL.store rfl rfl q4 QDx rfl rfl rfl rfl ?_));intro w24 hq24 hg24;replace q1 := q1.gr hg24 n1_4;replace q2 := q2.gr hg24 n2_4;replace q3 := q3.gr hg24 n3_4;replace q5 := q5.gr hg24 n4_5.symm;replace q6 := q6.gr hg24 n4_6.symm;replace q7 := q7.gr hg24 n4_7.symm;replace q16 := q16.gr hg24 n4_16.symm;replace hsx := hsx.trans (Ze.grown hg24 fun k e => by injection e with e; subst e; omega) hkp.size
       replace hkp := hkp.trans (Kp.grown q4 rfl bhbw_4 hg24);replace hkf := hkf.trans (.of (Zi q4 hg24));replace hox := ZF hox q4 rfl hg24;replace hob := ZF hob q4 rfl hg24;replace hbw := ZC hbw hg24 bhbw_4;replace q4 := hq24;clear hg24 hq24;refine EL.store rfl rfl q5 sz_4 rfl rfl rfl rfl ?_;intro w25 hq25 hg25;replace q1 := q1.gr hg25 n1_5;replace q2 := q2.gr hg25 n2_5;replace q3 := q3.gr hg25 n3_5;replace q4 := q4.gr hg25 n4_5;replace q6 := q6.gr hg25 n5_6.symm;replace q7 := q7.gr hg25 n5_7.symm;replace q16 := q16.gr hg25 n5_16.symm;replace hsx := hsx.trans (Ze.grown hg25 fun k e => by injection e with e; subst e; omega) hkp.size
       replace hkp := hkp.trans (Kp.grown q5 rfl bhbw_5 hg25);replace hkf := hkf.trans (.of (Zi q5 hg25));replace hox := ZF hox q5 rfl hg25;replace hob := ZF hob q5 rfl hg25;replace hbw := ZC hbw hg25 bhbw_5;replace q5 := hq25;clear hg25 hq25;refine EL.store rfl rfl q7 sz_3 rfl rfl rfl rfl ?_;intro w26 hq26 hg26;replace q1 := q1.gr hg26 n1_7;replace q2 := q2.gr hg26 n2_7;replace q3 := q3.gr hg26 n3_7;replace q4 := q4.gr hg26 n4_7;replace q5 := q5.gr hg26 n5_7;replace q6 := q6.gr hg26 n6_7;replace q16 := q16.gr hg26 n7_16.symm;replace hsx := hsx.trans (Ze.grown hg26 fun k e => by injection e with e; subst e; omega) hkp.size
       replace hkp := hkp.trans (Kp.grown q7 rfl bhbw_7 hg26);replace hkf := hkf.trans (.of (Zi q7 hg26));replace hox := YR hox (fun e => by have := (hox.lt _ e).1; omega) hg26
       replace hob := YR hob (fun e => by have := (hob.lt _ e).1; omega) hg26
       replace hbw := ZC hbw hg26 bhbw_7;replace q7 := hq26;clear hg26 hq26;refine EL.nil (EX.toI (EXI.blk ?_));have hst := hnew.trans (QCm (by unfold okL; rw [hok, decide_eq_true (by omega)]; rfl) (.inr hml))
       exact fun a0 ha0 => ⟨hkf, hkp, hsx, .inl ⟨rfl, _, q1, q2, q3, q4, by rw [hst]; exact q5, by rw [hst]; exact q6, by rw [hst]; exact q7, by rw [hst]; exact hox, hbw⟩⟩
      ·
       refine EL.valg rfl rfl (ZO (r := false) rfl rfl (decide_eq_false hml)) rfl (EL.pf rfl rfl rfl (EL.nil (EX.toI (EXI.seq (ECI.no rfl (ECI.skip (EXI.blk ?_)))))));have hst := hnew.trans (QFk (by unfold okL; rw [hok, decide_eq_true (by omega)]; rfl) (fun hx => by rcases hx with hx | hx; cases hx; exact hml hx))
       exact fun a0 ha0 => ⟨hkf, hkp, hsx, .inl ⟨rfl, _, q1, q2, q3, q4, by rw [hst]; exact q5, by rw [hst]; exact q6, by rw [hst]; exact q7, by rw [hst]; exact hob, hbw⟩⟩
   ·
    refine ECI.regionL (by repeat (first | exact Za | exact ZZ | exact Zo | refine Zc ?_ | refine Zj ?_)) (by kernel_rfl) ?_
    refine EL.val (ld_4 rfl (q6.at (j := 0) rfl)) rfl (EL.mv rfl rfl (EL.skip rfl rfl rfl rfl (EL.pt rfl rfl rfl (EL.store rfl rfl q6 sz_4 rfl rfl rfl rfl ?_))));intro w27 hq27 hg27;replace q1 := q1.gr hg27 n1_6;replace q2 := q2.gr hg27 n2_6;replace q3 := q3.gr hg27 n3_6;replace q4 := q4.gr hg27 n4_6;replace q5 := q5.gr hg27 n5_6;replace q7 := q7.gr hg27 n6_7.symm;replace q16 := q16.gr hg27 n6_16.symm;replace hsx := hsx.trans (Ze.grown hg27 fun k e => by injection e with e; subst e; omega) hkp.size
    replace hkp := hkp.trans (Kp.grown q6 rfl bhbw_6 hg27);replace hkf := hkf.trans (.of (Zi q6 hg27));replace hox := ZF hox q6 rfl hg27;replace hob := ZF hob q6 rfl hg27;replace hbw := ZC hbw hg27 bhbw_6;replace q6 := hq27;clear hg27 hq27;refine EL.nil (EX.toI (EXI.seq (ECI.seq (ECI.seq ?_))));refine ECI.regionL (by repeat (first | exact Za | exact ZZ | exact Zo | refine Zc ?_ | refine Zj ?_)) (by kernel_rfl) ?_
    refine EL.mv rfl rfl (EL.val (ZV rfl) rfl (EL.mv rfl rfl (EL.valg rfl rfl (Yy rfl) rfl (EL.valg rfl rfl (ZR rfl) rfl (EL.valg rfl rfl (ld_3 rfl (q16.at (j := 3) rfl)) rfl (EL.valg rfl rfl (ld_3 rfl (q3.at (j := 0) rfl)) rfl ?_))))))
    by_cases hgt : most < (fltT h r_ d).deep.hi
    ·
     refine EL.valg rfl rfl (YP (r := true) rfl rfl (decide_eq_true hgt)) rfl (EL.pf rfl rfl rfl (EL.nil (EX.toI (EXI.seq (ECI.yes rfl (ECI.exit (EXI.seq_exit (EXI.blk_here ?_))))))));have hst := hnew.trans (QEs (by unfold okL; rw [hok, decide_eq_false (by omega)]; rfl))
     rw [hok] at hst
     exact fun a0 ha0 => ⟨hkf, hkp, hsx, .inl ⟨rfl, _, q1, q2, q3, q4, by rw [hst]; exact q5, by rw [hst]; exact q6, by rw [hst]; exact q7, by rw [hst]; exact hob, hbw⟩⟩
    ·
     refine EL.valg rfl rfl (YP (r := false) rfl rfl (decide_eq_false hgt)) rfl (EL.pf rfl rfl rfl (EL.nil (EX.toI (EXI.seq (ECI.no rfl (ECI.skip (EXI.seq (ECI.seq ?_))))))));refine ECI.regionL (by repeat (first | exact Za | exact ZZ | exact Zo | refine Zc ?_ | refine Zj ?_)) (by kernel_rfl) ?_
     refine EL.val (QAU rfl (q1.at (j := 0) rfl)) rfl (EL.mv rfl rfl (EL.call (cA2 cF60 rfl rfl) rfl (QDC hh _ _ vs g _ _ ((hs.below (hbw.mono hB)).more (Nat.le_trans hB hbw.size)) (Nat.le_refl _) hL _ (rd_of_own hox)) ?_))
     rintro e w28 ⟨rfl, hc28⟩
     refine ⟨_, rfl, ?_⟩;replace q1 := q1.bl hc28;replace q2 := q2.bl hc28;replace q3 := q3.bl hc28;replace q4 := q4.bl hc28;replace q5 := q5.bl hc28;replace q6 := q6.bl hc28;replace q7 := q7.bl hc28;replace q16 := q16.bl hc28;replace hsx := hsx.trans (Ze.below hc28) hkp.size;replace hkp := hkp.trans (Kp.of_below hc28 (by have := hkp.size; omega))
     replace hkf := hkf.trans (ZP.below hc28);replace hox := own_below hox hc28 (Nat.le_refl _);replace hob := own_below hob hc28 (Nat.le_refl _);replace hbw := bo_ hbw hc28;clear hc28;refine EL.call (cA1 cF59 rfl) rfl (QEy _ (QA7 hh hL).1 (QA7 hh hL).2 _) ?_
     rintro e w29 ⟨rfl, hc29⟩
     refine ⟨_, rfl, ?_⟩;replace q1 := q1.bl hc29;replace q2 := q2.bl hc29;replace q3 := q3.bl hc29;replace q4 := q4.bl hc29;replace q5 := q5.bl hc29;replace q6 := q6.bl hc29;replace q7 := q7.bl hc29;replace q16 := q16.bl hc29;replace hsx := hsx.trans (Ze.below hc29) hkp.size;replace hkp := hkp.trans (Kp.of_below hc29 (by have := hkp.size; omega))
     replace hkf := hkf.trans (ZP.below hc29);replace hox := own_below hox hc29 (Nat.le_refl _);replace hob := own_below hob hc29 (Nat.le_refl _);replace hbw := bo_ hbw hc29;clear hc29;refine EL.as rfl rfl (EL.nil (EX.toI (EXI.seq (ECI.seq ?_))))
     cases sh
     ·
      refine ECI.regionL (by repeat (first | exact Za | exact ZZ | exact Zo | refine Zc ?_ | refine Zj ?_)) (by kernel_rfl) ?_
      refine EL.val (ld_4 rfl (q5.at (j := 0) rfl)) rfl (EL.val (ZV rfl) rfl (EL.mv rfl rfl (EL.skip rfl rfl rfl rfl (EL.skip rfl rfl rfl rfl (EL.skip rfl rfl rfl rfl (EL.pt rfl rfl rfl (EL.nil (EX.toI (EXI.seq ?_)))))))));refine ECI.yes rfl ?_;refine ECI.regionL (by repeat (first | exact Za | exact ZZ | exact Zo | refine Zc ?_ | refine Zj ?_)) (by kernel_rfl) ?_
      refine EL.mv rfl rfl (EL.mv rfl rfl (EL.store rfl rfl q4 QDx rfl rfl rfl rfl ?_));intro w30 hq30 hg30;replace q1 := q1.gr hg30 n1_4;replace q2 := q2.gr hg30 n2_4;replace q3 := q3.gr hg30 n3_4;replace q5 := q5.gr hg30 n4_5.symm;replace q6 := q6.gr hg30 n4_6.symm;replace q7 := q7.gr hg30 n4_7.symm;replace q16 := q16.gr hg30 n4_16.symm;replace hsx := hsx.trans (Ze.grown hg30 fun k e => by injection e with e; subst e; omega) hkp.size
      replace hkp := hkp.trans (Kp.grown q4 rfl bhbw_4 hg30);replace hkf := hkf.trans (.of (Zi q4 hg30));replace hox := ZF hox q4 rfl hg30;replace hob := ZF hob q4 rfl hg30;replace hbw := ZC hbw hg30 bhbw_4;replace q4 := hq30;clear hg30 hq30;refine EL.store rfl rfl q5 sz_4 rfl rfl rfl rfl ?_;intro w31 hq31 hg31;replace q1 := q1.gr hg31 n1_5;replace q2 := q2.gr hg31 n2_5;replace q3 := q3.gr hg31 n3_5;replace q4 := q4.gr hg31 n4_5;replace q6 := q6.gr hg31 n5_6.symm;replace q7 := q7.gr hg31 n5_7.symm;replace q16 := q16.gr hg31 n5_16.symm;replace hsx := hsx.trans (Ze.grown hg31 fun k e => by injection e with e; subst e; omega) hkp.size
      replace hkp := hkp.trans (Kp.grown q5 rfl bhbw_5 hg31);replace hkf := hkf.trans (.of (Zi q5 hg31));replace hox := ZF hox q5 rfl hg31;replace hob := ZF hob q5 rfl hg31;replace hbw := ZC hbw hg31 bhbw_5;replace q5 := hq31;clear hg31 hq31;refine EL.store rfl rfl q7 sz_3 rfl rfl rfl rfl ?_;intro w32 hq32 hg32;replace q1 := q1.gr hg32 n1_7;replace q2 := q2.gr hg32 n2_7;replace q3 := q3.gr hg32 n3_7;replace q4 := q4.gr hg32 n4_7;replace q5 := q5.gr hg32 n5_7;replace q6 := q6.gr hg32 n6_7;replace q16 := q16.gr hg32 n7_16.symm;replace hsx := hsx.trans (Ze.grown hg32 fun k e => by injection e with e; subst e; omega) hkp.size
      replace hkp := hkp.trans (Kp.grown q7 rfl bhbw_7 hg32);replace hkf := hkf.trans (.of (Zi q7 hg32));replace hox := YR hox (fun e => by have := (hox.lt _ e).1; omega) hg32
      replace hob := YR hob (fun e => by have := (hob.lt _ e).1; omega) hg32
      replace hbw := ZC hbw hg32 bhbw_7;replace q7 := hq32;clear hg32 hq32;refine EL.nil (EX.toI (EXI.blk ?_));have hst := hnew.trans (QCm (by unfold okL; rw [hok, decide_eq_true (by omega)]; rfl) (.inl rfl))
      exact fun a0 ha0 => ⟨hkf, hkp, hsx, .inl ⟨rfl, _, q1, q2, q3, q4, by rw [hst]; exact q5, by rw [hst]; exact q6, by rw [hst]; exact q7, by rw [hst]; exact hox, hbw⟩⟩
     ·
      refine ECI.regionL (by repeat (first | exact Za | exact ZZ | exact Zo | refine Zc ?_ | refine Zj ?_)) (by kernel_rfl) ?_
      refine EL.val (ld_4 rfl (q5.at (j := 0) rfl)) rfl (EL.val (ZV rfl) rfl (EL.mv rfl rfl (EL.mg rfl rfl rfl rfl (EL.valg rfl rfl (ld_3 rfl (q7.at (j := 0) rfl)) rfl ?_))))
      by_cases hml : absI (momT h r_) < sl
      ·
       refine EL.valg rfl rfl (ZO (r := true) rfl rfl (decide_eq_true hml)) rfl (EL.pf rfl rfl rfl (EL.nil (EX.toI (EXI.seq (ECI.yes rfl ?_)))));refine ECI.regionL (by repeat (first | exact Za | exact ZZ | exact Zo | refine Zc ?_ | refine Zj ?_)) (by kernel_rfl) ?_
       refine EL.mv rfl rfl (EL.mv rfl rfl (EL.store rfl rfl q4 QDx rfl rfl rfl rfl ?_));intro w33 hq33 hg33;replace q1 := q1.gr hg33 n1_4;replace q2 := q2.gr hg33 n2_4;replace q3 := q3.gr hg33 n3_4;replace q5 := q5.gr hg33 n4_5.symm;replace q6 := q6.gr hg33 n4_6.symm;replace q7 := q7.gr hg33 n4_7.symm;replace q16 := q16.gr hg33 n4_16.symm;replace hsx := hsx.trans (Ze.grown hg33 fun k e => by injection e with e; subst e; omega) hkp.size
       replace hkp := hkp.trans (Kp.grown q4 rfl bhbw_4 hg33);replace hkf := hkf.trans (.of (Zi q4 hg33));replace hox := ZF hox q4 rfl hg33;replace hob := ZF hob q4 rfl hg33;replace hbw := ZC hbw hg33 bhbw_4;replace q4 := hq33;clear hg33 hq33;refine EL.store rfl rfl q5 sz_4 rfl rfl rfl rfl ?_;intro w34 hq34 hg34;replace q1 := q1.gr hg34 n1_5;replace q2 := q2.gr hg34 n2_5;replace q3 := q3.gr hg34 n3_5;replace q4 := q4.gr hg34 n4_5;replace q6 := q6.gr hg34 n5_6.symm;replace q7 := q7.gr hg34 n5_7.symm;replace q16 := q16.gr hg34 n5_16.symm;replace hsx := hsx.trans (Ze.grown hg34 fun k e => by injection e with e; subst e; omega) hkp.size
       replace hkp := hkp.trans (Kp.grown q5 rfl bhbw_5 hg34);replace hkf := hkf.trans (.of (Zi q5 hg34));replace hox := ZF hox q5 rfl hg34;replace hob := ZF hob q5 rfl hg34;replace hbw := ZC hbw hg34 bhbw_5;replace q5 := hq34;clear hg34 hq34;refine EL.store rfl rfl q7 sz_3 rfl rfl rfl rfl ?_;intro w35 hq35 hg35;replace q1 := q1.gr hg35 n1_7;replace q2 := q2.gr hg35 n2_7;replace q3 := q3.gr hg35 n3_7;replace q4 := q4.gr hg35 n4_7;replace q5 := q5.gr hg35 n5_7;replace q6 := q6.gr hg35 n6_7;replace q16 := q16.gr hg35 n7_16.symm;replace hsx := hsx.trans (Ze.grown hg35 fun k e => by injection e with e; subst e; omega) hkp.size
       replace hkp := hkp.trans (Kp.grown q7 rfl bhbw_7 hg35);replace hkf := hkf.trans (.of (Zi q7 hg35));replace hox := YR hox (fun e => by have := (hox.lt _ e).1; omega) hg35
       replace hob := YR hob (fun e => by have := (hob.lt _ e).1; omega) hg35
       replace hbw := ZC hbw hg35 bhbw_7;replace q7 := hq35;clear hg35 hq35;refine EL.nil (EX.toI (EXI.blk ?_));have hst := hnew.trans (QCm (by unfold okL; rw [hok, decide_eq_true (by omega)]; rfl) (.inr hml))
       exact fun a0 ha0 => ⟨hkf, hkp, hsx, .inl ⟨rfl, _, q1, q2, q3, q4, by rw [hst]; exact q5, by rw [hst]; exact q6, by rw [hst]; exact q7, by rw [hst]; exact hox, hbw⟩⟩
      ·
       refine EL.valg rfl rfl (ZO (r := false) rfl rfl (decide_eq_false hml)) rfl (EL.pf rfl rfl rfl (EL.nil (EX.toI (EXI.seq (ECI.no rfl (ECI.skip (EXI.blk ?_)))))));have hst := hnew.trans (QFk (by unfold okL; rw [hok, decide_eq_true (by omega)]; rfl) (fun hx => by rcases hx with hx | hx; cases hx; exact hml hx))
       exact fun a0 ha0 => ⟨hkf, hkp, hsx, .inl ⟨rfl, _, q1, q2, q3, q4, by rw [hst]; exact q5, by rw [hst]; exact q6, by rw [hst]; exact q7, by rw [hst]; exact hob, hbw⟩⟩
 ·
  clear hsoft hit q1 q2 q3 q4 q5 q6 q7 hbw qe1 qe2
  rintro Dm zs X hDm hall9 ⟨vb, q1, q2, q3, q4, q5, q6, q7, hob, hbw⟩ hkp9 hdef
  rw [hall9, show (loadsL (ZN h) lots).foldl (Z_ h d most) bst0 = Zn h d most lots from rfl] at q5 q6 q7 hob;obtain ⟨Ab, cb_, rfl, _⟩ := (Rd.of_own hob).shape;refine EXI.blk (EXI.seq (ECI.seq ?_));have lt_1 := q1.lt;have lt_2 := q2.lt;have lt_3 := q3.lt;have lt_4 := q4.lt;have lt_5 := q5.lt;have lt_6 := q6.lt;have lt_7 := q7.lt;refine ECI.regionD (EO.regionS [[], [], [], [0], [0, 1, 3], [0, 1, 2, 3, 4]] 6 [] [3, 4, 5] (fun fl w_ => Touch X w_ [g4, g5, g6] ∧ (fl 3 = false → Blk w_ g4 56 #[.slice Ab (Zn h d most lots).best.length cb_]) ∧ (fl 4 = false → Blk w_ g5 4 #[.bool (Zn h d most lots).has]) ∧ (fl 5 = false → Blk w_ g6 4 #[.bool (Zn h d most lots).flo])) (phiS (fun i_ r => match i_ with | 0 => r 0 = .slice Ab (Zn h d most lots).best.length cb_ | 1 => r 1 = .bool (Zn h d most lots).has | 2 => r 2 = .bool (Zn h d most lots).flo | _ => True) [(3, fun _ r w_ => Blk w_ g4 56 #[.slice Ab (Zn h d most lots).best.length cb_]), (4, fun _ r w_ => Blk w_ g5 4 #[.bool (Zn h d most lots).has]), (5, fun _ r w_ => Blk w_ g6 4 #[.bool (Zn h d most lots).flo])]) (by kernel_rfl) rfl rfl (by intro i hi; simp at hi; rcases hi with rfl | rfl | rfl <;> exact ⟨by simp, by omega⟩) ⟨fun _ _ => ⟨Touch.start _ _, fun _ => q4, fun _ => q5, fun _ => q6⟩, fun _ _ _ ⟨hT, hs3, hs4, hs5⟩ hb => ⟨hT.below hb, fun h => (hs3 h).below hb (hs3 h).lt, fun h => (hs4 h).below hb (hs4 h).lt, fun h => (hs5 h).below hb (hs5 h).lt⟩, fun _ _ h => h.1.size⟩ (ZU Y0 (ZU Y0 (ZU Y0 (YZ)))) (fun i_ hi_ hs_ => ?_) (fun i_ hi_ => ?_) ?_)
  ·match i_, hi_ with
   | 0, _ =>
    intro val fl w1 a hb ha hd hfl;obtain ⟨hT, hs3, hs4, hs5⟩ := hb;have ha := ha.s0 (d := 8) rfl
    exact ZJ ha rfl rfl (QI_ rfl ((hs3 (hfl 3 (by simp) (ZA.1 rfl))).at (j := 0) rfl)) rfl rfl
   | 1, _ =>
    intro val fl w1 a hb ha hd hfl;obtain ⟨hT, hs3, hs4, hs5⟩ := hb;have ha := ha.s0 (d := 9) rfl
    exact ZJ ha rfl rfl (ld_4 rfl ((hs4 (hfl 4 (by simp) (ZA.1 rfl))).at (j := 0) rfl)) rfl rfl
   | 2, _ =>
    intro val fl w1 a hb ha hd hfl;obtain ⟨hT, hs3, hs4, hs5⟩ := hb;have ha := ha.s0 (d := 10) rfl
    exact ZJ ha rfl rfl (ld_4 rfl ((hs5 (hfl 5 (by simp) (ZA.1 rfl))).at (j := 0) rfl)) rfl rfl
   | 3, _ =>
    exact absurd (by simp) hs_
   | 4, _ =>
    exact absurd (by simp) hs_
   | 5, _ =>
    exact absurd (by simp) hs_
   | k + 6, h => exact absurd h (by omega)
  ·simp only [List.mem_cons, List.not_mem_nil, or_false] at hi_; rcases hi_ with rfl | rfl | rfl
   ·
    intro val fl w1 a hb hfi ha hd hfl;obtain ⟨hT, hs3, hs4, hs5⟩ := hb;have e0 : val 0 = _ := hd 0 (ZA.1 rfl);have ha := ha.sub (Sub.ins (d := 56) (Sub.ins (d := 8) (Sub.nil _) rfl) (ZI rfl e0));refine YD ha rfl rfl rfl (hs3 hfi) QDx rfl rfl rfl rfl ?_;intro w' hq hgr;refine ⟨undef, rfl, hgr.size, ⟨hT.grown hgr (by simp), (fun h => by rw [Zs] at h; cases h), (fun h => (hs4 (by rwa [Yj rfl] at h)).grown hgr (fun h => n4_5.symm (Option.some.inj h))), (fun h => (hs5 (by rwa [Yj rfl] at h)).grown hgr (fun h => n4_6.symm (Option.some.inj h)))⟩, hq, fun j _ hj hn hA => ?_⟩
    exact ZG (C := fun j => j ≠ 3 ∧ 3 ∉ clsAt [[], [], [], [0], [0, 1, 3], [0, 1, 2, 3, 4]] j) (fun hc => absurd rfl hc.1) (ZG (fun _ h => h.grown hgr (fun h => n4_5.symm (Option.some.inj h))) (ZG (fun _ h => h.grown hgr (fun h => n4_6.symm (Option.some.inj h))) (fun _ _ h => h))) j ⟨hj, hn⟩
   ·
    intro val fl w1 a hb hfi ha hd hfl;obtain ⟨hT, hs3, hs4, hs5⟩ := hb;have e1 : val 1 = _ := hd 1 (ZA.1 rfl);have ha := ha.sub (Sub.ins (d := 57) (Sub.ins (d := 9) (Sub.nil _) rfl) (ZI rfl e1));refine YD ha rfl rfl rfl (hs4 hfi) sz_4 rfl rfl rfl rfl ?_;intro w' hq hgr;refine ⟨undef, rfl, hgr.size, ⟨hT.grown hgr (by simp), (fun h => (hs3 (by rwa [Yj rfl] at h)).grown hgr (fun h => n4_5 (Option.some.inj h))), (fun h => by rw [Zs] at h; cases h), (fun h => (hs5 (by rwa [Yj rfl] at h)).grown hgr (fun h => n5_6.symm (Option.some.inj h)))⟩, hq, fun j _ hj hn hA => ?_⟩
    exact ZG (C := fun j => j ≠ 4 ∧ 4 ∉ clsAt [[], [], [], [0], [0, 1, 3], [0, 1, 2, 3, 4]] j) (fun _ h => h.grown hgr (fun h => n4_5 (Option.some.inj h))) (ZG (fun hc => absurd rfl hc.1) (ZG (fun _ h => h.grown hgr (fun h => n5_6.symm (Option.some.inj h))) (fun _ _ h => h))) j ⟨hj, hn⟩
   ·
    intro val fl w1 a hb hfi ha hd hfl;obtain ⟨hT, hs3, hs4, hs5⟩ := hb;have e2 : val 2 = _ := hd 2 (ZA.1 rfl);have ha := ha.sub (Sub.ins (d := 58) (Sub.ins (d := 10) (Sub.nil _) rfl) (ZI rfl e2));refine YD ha rfl rfl rfl (hs5 hfi) sz_4 rfl rfl rfl rfl ?_;intro w' hq hgr;refine ⟨undef, rfl, hgr.size, ⟨hT.grown hgr (by simp), (fun h => (hs3 (by rwa [Yj rfl] at h)).grown hgr (fun h => n4_6 (Option.some.inj h))), (fun h => (hs4 (by rwa [Yj rfl] at h)).grown hgr (fun h => n5_6 (Option.some.inj h))), (fun h => by rw [Zs] at h; cases h)⟩, hq, fun j _ hj hn hA => ?_⟩
    exact ZG (C := fun j => j ≠ 5 ∧ 5 ∉ clsAt [[], [], [], [0], [0, 1, 3], [0, 1, 2, 3, 4]] j) (fun _ h => h.grown hgr (fun h => n4_6 (Option.some.inj h))) (ZG (fun _ h => h.grown hgr (fun h => n5_6 (Option.some.inj h))) (ZG (fun hc => absurd rfl hc.1) (fun _ _ h => h))) j ⟨hj, hn⟩
  ·intro val fl wR10 hfl hb halc hd
   have hT := hb.1;clear hb;have e0 : val 0 = _ := hd 0 (by omega)
   have e1 : val 1 = _ := hd 1 (by omega)
   have e2 : val 2 = _ := hd 2 (by omega)
   refine EL.ends (cs := [_, _, _, val 3, val 4, val 5]) ⟨e0, e1, e2, rfl, rfl, rfl, trivial⟩ rfl ?_;replace q1 := q1.touch hT (by simp only [List.mem_cons, List.not_mem_nil, or_false, not_or]; exact ⟨n1_4, n1_5, n1_6⟩)
   replace q2 := q2.touch hT (by simp only [List.mem_cons, List.not_mem_nil, or_false, not_or]; exact ⟨n2_4, n2_5, n2_6⟩)
   replace q3 := q3.touch hT (by simp only [List.mem_cons, List.not_mem_nil, or_false, not_or]; exact ⟨n3_4, n3_5, n3_6⟩)
   have q4 : Blk wR10 g4 56 #[.slice Ab (Zn h d most lots).best.length cb_] := hd 3 (by omega)
   have q5 : Blk wR10 g5 4 #[.bool (Zn h d most lots).has] := hd 4 (by omega)
   have q6 : Blk wR10 g6 4 #[.bool (Zn h d most lots).flo] := hd 5 (by omega)
   replace q7 := q7.touch hT (by simp only [List.mem_cons, List.not_mem_nil, or_false, not_or]; exact ⟨n4_7.symm, n5_7.symm, n6_7.symm⟩)
   replace hbw := hT.anchor hbw (by simp only [List.mem_cons, List.not_mem_nil, or_false, forall_eq_or_imp, forall_eq]; exact ⟨bhbw_4, bhbw_5, bhbw_6⟩)
   replace hdef := (hT.block Dm (Array.getElem?_eq_some_iff.1 hdef).1 (by simp only [List.mem_cons, List.not_mem_nil, or_false]; omega)).trans hdef
   replace hob := QHf hob hT (fun k e => by have := (hob.lt k e).1; simp only [List.mem_cons, List.not_mem_nil, or_false]; omega)
   refine EL.nil (EX.ofD (EXI.seq (ECI.ret ?_)));have hmk : YA w.heap.size [({ target := .collected Dm, args := #[] } : Deferred)] wR10 := fun d hd => ⟨Dm, by omega, List.mem_singleton.1 hd, hdef⟩
   exact EXI.doneO hmk (by simp) (fun w' ht_ => (QLC rfl rfl rfl rfl (QLj ((ht_.took.blk _ _ _ q4).at (j := 0) rfl)) (lv_4 ((ht_.took.blk _ _ _ q5).at (j := 0) rfl)) (lv_4 ((ht_.took.blk _ _ _ q6).at (j := 0) rfl)))) (fun w' ht_ => ⟨⟨_, rfl, own_less (QIl hob ht_.took) hwm0⟩, hbw.trans ht_.took.below⟩)
 ·intro Dm pre X hD hne2 hall9 h9
  exact absurd h9 id
def advJ (h : Hul) (d : Bd) (most : Int) : Nat → Int → Option (List Int × Int × Int)
 | 0, _ => none
 | j + 1, c => if (Zn h d most ((j : Nat) : Int)).has = true then some ((Zn h d most ((j : Nat) : Int)).best, ((j : Nat) : Int), c) else advJ h d most j (if (Zn h d most ((j : Nat) : Int)).flo = true then 1 else 2)
theorem QAy {h : Hul} {d : Bd} {most : Int} {j : Nat} {c : Int} (hb : (Zn h d most ((j : Nat) : Int)).has = true) : advJ h d most (j + 1) c = some ((Zn h d most ((j : Nat) : Int)).best, ((j : Nat) : Int), c) := if_pos hb
theorem Yd {h : Hul} {d : Bd} {most : Int} {j : Nat} {c : Int} (hb : (Zn h d most ((j : Nat) : Int)).has = false) : advJ h d most (j + 1) c = advJ h d most j (if (Zn h d most ((j : Nat) : Int)).flo = true then 1 else 2) := if_neg (by rw [hb]; decide)
/-- how many lots all holds can hold -/
def QBg (h : Hul) (k : Nat) : Int := sumI (((ZN h).map Hold.lots).take k)
def QDH (h : Hul) : Int := QBg h (ZN h).length
theorem QDF {h : Hul} {k : Nat} (hk : k < (ZN h).length) : QBg h (k + 1) = QBg h k + ((ZN h).getD k Z6).lots := by
 unfold QBg
 rw [QB4 (by rw [List.length_map]; exact hk), Ye (l := (ZN h).map Hold.lots) (by rw [List.length_map]; exact hk), Ye hk, List.getElem_map]
theorem QDG {h : Hul} (ha : ArmsOk (ZN h)) : ∀ k, k ≤ (ZN h).length → 0 ≤ QBg h k ∧ QBg h k ≤ 20 * k
 | 0, _ => by simp [QBg, sumI]
 | k + 1, hk => by
  have h1 := QDG ha k (by omega)
  have h2 := (ha.at_ _ (getD_mem (d := Z6) (show k < (ZN h).length by omega))).2
  rw [QDF (by omega)]
  omega
structure Adv where
 load : List Int
 lots : Int
 cause : Int
 pass : Int
 hour : Int
def adv0 : Adv := ⟨[], 0, 0, 0, 0⟩
def advB (h : Hul) (d : Bd) (p : Pas) : Option (List Int × Int × Int) := advJ h d ((sndR p).lo - p.keel) (QDH h + 1).toNat 0
def advE (h : Hul) (d : Bd) (p : Pas) : Int := if hulB h = true then (if denB d = true then (if sndE p = 0 then (match advB h d p with | none => 9 | some _ => 0) else sndE p) else 2) else 2
def advR (h : Hul) (d : Bd) (p : Pas) : Adv := if advE h d p = 0 then (match advB h d p with | none => adv0 | some (l, n, c) => ⟨l, n, c, if c = 1 then (sndR p).pass else 0, if c = 1 then (sndR p).hour else 0⟩) else adv0
section
variable {h : Hul} {d : Bd} {p : Pas}
theorem QKz (h1 : hulB h = false) : advE h d p = 2 ∧ advR h d p = adv0 := by simp [advR, advE, h1]
theorem QJl (h1 : hulB h = true) (h2 : denB d = false) : advE h d p = 2 ∧ advR h d p = adv0 := by simp [advR, advE, h1, h2]
theorem QKx (h1 : hulB h = true) (h2 : denB d = true) (h3 : sndE p ≠ 0) : advE h d p = sndE p ∧ advR h d p = adv0 := by simp [advR, advE, h1, h2, h3]
theorem QKy (h1 : hulB h = true) (h2 : denB d = true) (h3 : sndE p = 0) (h4 : advB h d p = none) : advE h d p = 9 ∧ advR h d p = adv0 := by simp [advR, advE, h1, h2, h3, h4]
theorem QFu {l : List Int} {n c : Int} (h1 : hulB h = true) (h2 : denB d = true) (h3 : sndE p = 0) (h4 : advB h d p = some (l, n, c)) : advE h d p = 0 ∧ advR h d p = ⟨l, n, c, if c = 1 then (sndR p).pass else 0, if c = 1 then (sndR p).hour else 0⟩ := by simp [advR, advE, h1, h2, h3, h4]
end
section
variable {n : Nat} {σ : Sg} {w : World} {dst : Option Tmp} {ty : TypeId} {pos : String} {af : Array Edge} {g : Option (Nat × Bool)} {x y z : Operand} {at' : Array TypeId}
theorem QKw (a : Act) (_ : Env n σ a) : (execOp a.eval ⟨dst, .alloc 59, ty, pos, af, g⟩).run Try.prog w = .ok (.value (.pointer (some ⟨w.heap.size, 0, none⟩))) (w.alloc (.cells #[.slice none 0 0, .int .i64 0, .int .i64 0, .int .i64 0, .int .i64 0] 59)) := by
 simp only [execOp]
 simp [go_sem]
theorem QFT {b o : Nat} {v0 v1 v2 v3 v4 : Value} (hx : evS σ x = some (.pointer (some ⟨b, o, none⟩))) (c0 : w.cell? ⟨b, o, none⟩ = some v0) (c1 : w.cell? ⟨b, o + 1, none⟩ = some v1) (c2 : w.cell? ⟨b, o + 2, none⟩ = some v2) (c3 : w.cell? ⟨b, o + 3, none⟩ = some v3) (c4 : w.cell? ⟨b, o + 4, none⟩ = some v4) : ZE Try.prog n σ w ⟨dst, .load 59 x, ty, pos, af, g⟩ (.agg #[v0, v1, v2, v3, v4]) := fun a ha => by
 simp only [execOp, ha.eval hx]
 simp [go_sem, c0, c1, c2, c3, c4]
theorem QCt : (Try.prog.info? 59).map (·.size) = some 5 := by kernel_rfl
theorem QD3 {b o : Nat} {v0 v1 v2 v3 v4 : Value} (c0 : w.cell? ⟨b, o, none⟩ = some v0) (c1 : w.cell? ⟨b, o + 1, none⟩ = some v1) (c2 : w.cell? ⟨b, o + 2, none⟩ = some v2) (c3 : w.cell? ⟨b, o + 3, none⟩ = some v3) (c4 : w.cell? ⟨b, o + 4, none⟩ = some v4) : (loadVar 59 ⟨b, o, none⟩).run Try.prog w = .ok (.agg #[v0, v1, v2, v3, v4]) w := by
 simp [go_sem, loadVar, c0, c1, c2, c3, c4]
theorem Yl {b o : Nat} (hx : evS σ x = some (.pointer (some ⟨b, o, none⟩))) : ZE Try.prog n σ w ⟨dst, .fieldAddr 59 x 1, ty, pos, af, g⟩ (.pointer (some ⟨b, o + 1, none⟩)) := fun a ha => by
 simp only [execOp, ha.eval hx]
 simp [go_sem]
theorem cA4 {F : FuncId} (hF : cF F) {x0 x1 x2 x3 : Operand} {v0 v1 v2 v3 : Value} (h0 : evS σ x0 = some v0) (h1 : evS σ x1 = some v1) (h2 : evS σ x2 = some v2) (h3 : evS σ x3 = some v3) (a : Act) (ha : Env n σ a) : (execOp a.eval ⟨dst, .call { callee := .value (.func F), args := #[x0, x1, x2, x3], argTypes := at' }, ty, pos, af, g⟩).run Try.prog w = .ok (.enter F #[v0, v1, v2, v3]) w := by
 simp only [execOp, resolve, List.map_toArray, List.map_cons, List.map_nil, ha.eval h0, ha.eval h1, ha.eval h2, ha.eval h3]
 simp [go_sem, Act.eval, hF _ _]
theorem cF42 : cF 42 := fun _ _ => by simp [go_sem]
theorem QCk {b o : Nat} (hx : evS σ x = some (.pointer (some ⟨b, o, none⟩))) : ZE Try.prog n σ w ⟨dst, .fieldAddr 59 x 2, ty, pos, af, g⟩ (.pointer (some ⟨b, o + 2, none⟩)) := fun a ha => by
 simp only [execOp, ha.eval hx]
 simp [go_sem]
theorem QKj : (Try.prog.info? 57).map (·.size) = some 1 := by kernel_rfl
theorem QEl {b o : Nat} (hx : evS σ x = some (.pointer (some ⟨b, o, none⟩))) : ZE Try.prog n σ w ⟨dst, .fieldAddr 59 x 0, ty, pos, af, g⟩ (.pointer (some ⟨b, o, none⟩)) := fun a ha => by
 simp only [execOp, ha.eval hx]
 simp [go_sem]
theorem QKm {b o : Nat} {v0 : Value} (hx : evS σ x = some (.pointer (some ⟨b, o, none⟩))) (c0 : w.cell? ⟨b, o, none⟩ = some v0) : ZE Try.prog n σ w ⟨dst, .load 57 x, ty, pos, af, g⟩ (v0) := fun a ha => by
 simp only [execOp, ha.eval hx]
 simp [go_sem, c0]
theorem QKH {b o : Nat} (hx : evS σ x = some (.pointer (some ⟨b, o, none⟩))) : ZE Try.prog n σ w ⟨dst, .fieldAddr 59 x 3, ty, pos, af, g⟩ (.pointer (some ⟨b, o + 3, none⟩)) := fun a ha => by
 simp only [execOp, ha.eval hx]
 simp [go_sem]
theorem QKG {b o : Nat} (hx : evS σ x = some (.pointer (some ⟨b, o, none⟩))) : ZE Try.prog n σ w ⟨dst, .fieldAddr 59 x 4, ty, pos, af, g⟩ (.pointer (some ⟨b, o + 4, none⟩)) := fun a ha => by
 simp only [execOp, ha.eval hx]
 simp [go_sem]
theorem QLS    : ZE Try.prog n σ w ⟨dst, .build 59 #[], ty, pos, af, g⟩ (.agg #[.slice none 0 0, .int .i64 0, .int .i64 0, .int .i64 0, .int .i64 0]) := fun a _ => by
 simp only [execOp, List.map_toArray, List.map_nil]
 go_simp
end
end Go.Proofs.Ytfgfenmaommclaa
