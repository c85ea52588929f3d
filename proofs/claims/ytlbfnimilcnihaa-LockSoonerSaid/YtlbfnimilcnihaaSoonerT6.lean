/- ExX33, X33, X34, LkWater, ExX35, X35, LkTry, LkFound, LkAll, X37, LkOrder, LkSooner, ExX38, X38: what LockSoonerProof needs of them (merged by trimpack.py). -/
import Derived.Test.YtlbfnimilcnihaaSoonerT5
set_option linter.unusedVariables false
set_option linter.unusedSimpArgs false
namespace Go.Proofs.Ytlbfnimilcnihaa
open Go Go.RowKit
section
variable {n : Nat} {σ : Sg} {w : World} {dst : Option Tmp} {ty : TypeId} {pos : String} {af : Array Edge} {g : Option (Nat × Bool)} {x y z : Operand} {at' : Array TypeId}
theorem Yw {m : Int} (hx : evS σ x = some (.int .u8 m)) (hm : IntKind.i64.wrap m = m) : ZI Try.prog n σ w ⟨dst, .convert 5 3 x, ty, pos, af, g⟩ (.int .i64 m) := fun a ha => by
 simp only [execOp, ha.eval hx]
 simp [go_sem, hm]
theorem QKo {v0 v1 v2 v3 v4 v5 v6 v7 : Value} (hx : evS σ x = some (.agg #[v0, v1, v2, v3, v4, v5, v6, v7])) (a : Act) (ha : Env n σ a) : (execOp a.eval ⟨dst, .box 82 x, ty, pos, af, g⟩).run Try.prog w = .ok (.value (.pointer (some ⟨w.heap.size, 0, none⟩))) (w.alloc (.cells #[v0, v1, v2, v3, v4, v5, v6, v7] 82)) := by
 simp only [execOp, ha.eval hx]
 simp [go_sem]
theorem QCu {b o : Nat} (hx : evS σ x = some (.pointer (some ⟨b, o, none⟩))) : ZI Try.prog n σ w ⟨dst, .fieldAddr 82 x 0, ty, pos, af, g⟩ (.pointer (some ⟨b, o, none⟩)) := fun a ha => by
 simp only [execOp, ha.eval hx]
 simp [go_sem]
theorem Y3 {b o k : Nat} (hx : evS σ x = some (.pointer (some ⟨b, o, none⟩))) (hy : evS σ y = some (.int .i64 (k : Int))) (hk : k < 5) : ZI Try.prog n σ w ⟨dst, .indexAddr 78 x y, ty, pos, af, g⟩ (.pointer (some ⟨b, o + k, none⟩)) := fun a ha => by
 have k0 : (0 : Int) ≤ (k : Int) := Int.natCast_nonneg _;have k1 : (k : Int) < 5 := by omega
 simp only [execOp, ha.eval hx, ha.eval hy]
 simp [go_sem, k0, k1]
theorem ld_5 {b o : Nat} {v0 : Value} (hx : evS σ x = some (.pointer (some ⟨b, o, none⟩))) (c0 : w.cell? ⟨b, o, none⟩ = some v0) : ZI Try.prog n σ w ⟨dst, .load 5 x, ty, pos, af, g⟩ (v0) := fun a ha => by
 simp only [execOp, ha.eval hx]
 simp [go_sem, c0]
theorem QLg {b o : Nat} (hx : evS σ x = some (.pointer (some ⟨b, o, none⟩))) : ZI Try.prog n σ w ⟨dst, .fieldAddr 82 x 1, ty, pos, af, g⟩ (.pointer (some ⟨b, o + 5, none⟩)) := fun a ha => by
 simp only [execOp, ha.eval hx]
 simp [go_sem]
theorem QC0 {x0 x1 x2 x3 x4 x5 : Operand} {z0 : Int} {z1 : Int} {z2 : Int} {z3 : Int} {z4 : Int} {b5 : Bool} (h0 : evS σ x0 = some (.int .i64 z0)) (h1 : evS σ x1 = some (.int .i64 z1)) (h2 : evS σ x2 = some (.int .i64 z2)) (h3 : evS σ x3 = some (.int .i64 z3)) (h4 : evS σ x4 = some (.int .i64 z4)) (h5 : evS σ x5 = some (.bool b5)) : ZI Try.prog n σ w ⟨dst, .build 23 #[(0, x0), (1, x1), (2, x2), (3, x3), (4, x4), (5, x5)], ty, pos, af, g⟩ (.agg #[.int .i64 z0, .int .i64 z1, .int .i64 z2, .int .i64 z3, .int .i64 z4, .bool b5]) := fun a ha => by
 simp only [execOp, List.map_toArray, List.map_cons, List.map_nil, ha.eval h0, ha.eval h1, ha.eval h2, ha.eval h3, ha.eval h4, ha.eval h5]
 go_simp
theorem QKK {b o : Nat} {v0 v1 v2 v3 v4 v5 v6 v7 : Value} (hx : evS σ x = some (.pointer (some ⟨b, o, none⟩))) (c0 : w.cell? ⟨b, o, none⟩ = some v0) (c1 : w.cell? ⟨b, o + 1, none⟩ = some v1) (c2 : w.cell? ⟨b, o + 2, none⟩ = some v2) (c3 : w.cell? ⟨b, o + 3, none⟩ = some v3) (c4 : w.cell? ⟨b, o + 4, none⟩ = some v4) (c5 : w.cell? ⟨b, o + 5, none⟩ = some v5) (c6 : w.cell? ⟨b, o + 6, none⟩ = some v6) (c7 : w.cell? ⟨b, o + 7, none⟩ = some v7) : ZI Try.prog n σ w ⟨dst, .load 82 x, ty, pos, af, g⟩ (.agg #[v0, v1, v2, v3, v4, v5, v6, v7]) := fun a ha => by
 simp only [execOp, ha.eval hx]
 simp [go_sem, c0, c1, c2, c3, c4, c5, c6, c7]
theorem cF31 : cF 31 := fun _ _ => by simp [go_sem]
theorem QNL {b o m c k : Nat} (hx : evS σ x = some (.slice (some ⟨b, o, none⟩) m c)) (hy : evS σ y = some (.int .i64 (k : Int))) (hk : k < m) : ZI Try.prog n σ w ⟨dst, .indexAddr 79 x y, ty, pos, af, g⟩ (.pointer (some ⟨b, o + k * 5, none⟩)) := fun a ha => by
 have k0 : (0 : Int) ≤ (k : Int) := Int.natCast_nonneg _;have k1 : (k : Int) < (m : Int) := by omega
 simp only [execOp, ha.eval hx, ha.eval hy]
 simp [go_sem, k0, k1]
theorem QMp {p q r : Int} (hx : evS σ x = some (.int .i64 p)) (hy : evS σ y = some (.int .i64 q)) (hr : min p q = r) : ZI Try.prog n σ w ⟨dst, .call { callee := .builtin .min, args := #[x, y], argTypes := at' }, ty, pos, af, g⟩ (.int .i64 r) := fun a ha => by
 simp only [execOp, resolve, List.map_toArray, List.map_cons, List.map_nil, ha.eval hx, ha.eval hy]
 subst hr
 simp [go_sem, Int.min_def]
 split <;> split <;> omega
theorem QDk {b o : Nat} (hx : evS σ x = some (.pointer (some ⟨b, o, none⟩))) : ZI Try.prog n σ w ⟨dst, .fieldAddr 82 x 2, ty, pos, af, g⟩ (.pointer (some ⟨b, o + 6, none⟩)) := fun a ha => by
 simp only [execOp, ha.eval hx]
 simp [go_sem]
theorem QIJ {b o : Nat} {v0 : Value} (hx : evS σ x = some (.pointer (some ⟨b, o, none⟩))) (c0 : w.cell? ⟨b, o, none⟩ = some v0) : ZI Try.prog n σ w ⟨dst, .load 79 x, ty, pos, af, g⟩ (v0) := fun a ha => by
 simp only [execOp, ha.eval hx]
 simp [go_sem, c0]
theorem QKA {A : Option Addr} {m c : Nat} (hx : evS σ x = some (.slice A m c)) : ZI Try.prog n σ w ⟨dst, .call { callee := .builtin .len, args := #[x], argTypes := #[79] }, ty, pos, af, g⟩ (.int .i64 (m : Int)) := fun a ha => by
 simp only [execOp, resolve, List.map_toArray, List.map_cons, List.map_nil, ha.eval hx]
 simp [go_sem]
theorem QNI {b o : Nat} {v0 v1 v2 v3 v4 : Value} (hx : evS σ x = some (.pointer (some ⟨b, o, none⟩))) (c0 : w.cell? ⟨b, o, none⟩ = some v0) (c1 : w.cell? ⟨b, o + 1, none⟩ = some v1) (c2 : w.cell? ⟨b, o + 2, none⟩ = some v2) (c3 : w.cell? ⟨b, o + 3, none⟩ = some v3) (c4 : w.cell? ⟨b, o + 4, none⟩ = some v4) : ZI Try.prog n σ w ⟨dst, .load 78 x, ty, pos, af, g⟩ (.agg #[v0, v1, v2, v3, v4]) := fun a ha => by
 simp only [execOp, ha.eval hx]
 simp [go_sem, c0, c1, c2, c3, c4]
theorem QNX (a : Act) (_ : Env n σ a) : (execOp a.eval ⟨dst, .alloc 78, ty, pos, af, g⟩).run Try.prog w = .ok (.value (.pointer (some ⟨w.heap.size, 0, none⟩))) (w.alloc (.cells #[.int .u8 0, .int .u8 0, .int .u8 0, .int .u8 0, .int .u8 0] 78)) := by
 simp only [execOp]
 simp [go_sem]
theorem QNA : (Try.prog.info? 78).map (·.size) = some 5 := by kernel_rfl
theorem QDY {x0 x1 x2 x3 x4 : Operand} {b0 : Bool} {z1 : Int} {z2 : Int} {z3 : Int} {z4 : Int} (h0 : evS σ x0 = some (.bool b0)) (h1 : evS σ x1 = some (.int .i64 z1)) (h2 : evS σ x2 = some (.int .i64 z2)) (h3 : evS σ x3 = some (.int .i64 z3)) (h4 : evS σ x4 = some (.int .i64 z4)) : ZI Try.prog n σ w ⟨dst, .build 39 #[(0, x0), (1, x1), (2, x2), (3, x3), (4, x4)], ty, pos, af, g⟩ (.agg #[.bool b0, .int .i64 z1, .int .i64 z2, .int .i64 z3, .int .i64 z4]) := fun a ha => by
 simp only [execOp, List.map_toArray, List.map_cons, List.map_nil, ha.eval h0, ha.eval h1, ha.eval h2, ha.eval h3, ha.eval h4]
 go_simp
end
theorem QE3 {x : Sml} (hx : SmlOk x) {At As : Option Addr} {ct cs : Nat} (w : World) : Calls Try.prog 31 #[.agg #[.int .u8 x.a0, .int .u8 x.a1, .int .u8 x.a2, .int .u8 x.a3, .int .u8 x.a4, .bool x.hi, .slice At x.tows.length ct, .slice As x.steps.length cs]] w fun e w' => e = .returned (.agg #[.int .i64 (Zd x).length, .int .i64 (Zd x).cycle, .int .i64 (Zd x).turn, .int .i64 (Zd x).fill, .int .i64 (Zd x).save, .bool (Zd x).high]) ∧ Below w.heap.size w w' := by
 have hbw := Below.refl w.heap.size w;have e0 := YG hx.a0 (n := 100) (by decide)
 have e1 := YG hx.a1 (n := 60) (by decide)
 have e3 := hx.a3
 unfold byte at e3
 refine EC.enter 33 Try.func31 rfl rfl rfl (EC.seq (EC.region (EL.newP (QKo rfl) rfl ?_)));intro g1 w1 q1 hb1 hg1 hl1;have bhbw_1 := Nat.le_trans hbw.size hg1;replace hbw := bo_ hbw hb1;clear hb1 hg1 hl1;refine EL.newP QG_ rfl ?_;intro g2 w2 q2 hb2 hg2 hl2;have n1_2 := q1.na hg2;have bhbw_2 := Nat.le_trans hbw.size hg2;replace q1 := q1.bl hb2;replace hbw := bo_ hbw hb2;clear hb2 hg2 hl2;refine EL.nil (EX.seq (EC.seq (EC.region (EL.val (QCu rfl) rfl ?_))));refine EL.val (Y3 (k := 0) rfl rfl (by omega)) rfl ?_
 refine EL.val (ld_5 rfl (q1.at (j := 0) rfl)) rfl (EL.val (Yw rfl (Zy hx.a0)) rfl ?_);refine EL.val (QAj rfl rfl (by decide) rfl) rfl ?_
 refine EL.val (ZS rfl rfl (c := 40 + x.a0.tmod 100) (IntWalk.i64_in (40 + x.a0.tmod 100) ⟨by omega, by omega⟩)) rfl ?_
 refine EL.val (QCu rfl) rfl ?_;refine EL.val (Y3 (k := 1) rfl rfl (by omega)) rfl ?_
 refine EL.val (ld_5 rfl (q1.at (j := 1) rfl)) rfl (EL.val (Yw rfl (Zy hx.a1)) rfl ?_);refine EL.val (QAj rfl rfl (by decide) rfl) rfl ?_
 refine EL.val (ZS rfl rfl (c := 1 + x.a1.tmod 60) (IntWalk.i64_in (1 + x.a1.tmod 60) ⟨by omega, by omega⟩)) rfl ?_
 refine EL.val (QCu rfl) rfl ?_;refine EL.val (Y3 (k := 2) rfl rfl (by omega)) rfl ?_
 refine EL.val (ld_5 rfl (q1.at (j := 2) rfl)) rfl (EL.val (Yw rfl (Zy hx.a2)) rfl ?_);refine EL.val (QAj rfl rfl (by decide) rfl) rfl ?_
 refine EL.val (QCu rfl) rfl ?_;refine EL.val (Y3 (k := 3) rfl rfl (by omega)) rfl ?_
 refine EL.val (ld_5 rfl (q1.at (j := 3) rfl)) rfl (EL.val (Yw rfl (Zy hx.a3)) rfl ?_);refine EL.val (QAk rfl rfl (c := 10 * x.a3) (IntWalk.i64_in (10 * x.a3) ⟨by omega, by omega⟩)) rfl ?_
 refine EL.val (QCu rfl) rfl ?_;refine EL.val (Y3 (k := 4) rfl rfl (by omega)) rfl ?_
 refine EL.val (ld_5 rfl (q1.at (j := 4) rfl)) rfl (EL.val (Yw rfl (Zy hx.a4)) rfl ?_);refine EL.val (QAj rfl rfl (by decide) rfl) rfl ?_
 refine EL.val (QLg rfl) rfl (EL.val (ld_4 rfl (q1.at (j := 5) rfl)) rfl (EL.val (QC0 rfl rfl rfl rfl rfl rfl) rfl (EL.store rfl rfl q2 QDw rfl rfl rfl rfl ?_)));intro w3 hq3 hg3;replace q1 := q1.gr hg3 n1_2;replace hbw := ZE hbw hg3 bhbw_2;replace q2 := hq3;clear hg3 hq3;refine EL.nil (EX.seq (EC.ret ?_))
 exact EX.done (QE5 rfl rfl (QME (q2.at (j := 0) rfl) (q2.at (j := 1) rfl) (q2.at (j := 2) rfl) (q2.at (j := 3) rfl) (q2.at (j := 4) rfl) (q2.at (j := 5) rfl))) ⟨rfl, hbw⟩
set_option maxRecDepth 100000 in
theorem QIt {x : Sml} (hx : SmlOk x) {At As : Option Addr} {ct cs : Nat} {w : World} {B : Nat} (hr : Rd w B 5 (.slice At x.tows.length ct) x.tows.length (e5s x.tows)) (hB : B ≤ w.heap.size) {m : Nat} (hm : m ≤ 1000) :
  Calls Try.prog 32 #[.agg #[.int .u8 x.a0, .int .u8 x.a1, .int .u8 x.a2, .int .u8 x.a3, .int .u8 x.a4, .bool x.hi, .slice At x.tows.length ct, .slice As x.steps.length cs], .int .i64 (m : Nat)] w fun e w' => (∃ v', e = .returned v' ∧ w'.ownsRow w.heap.size 39 5 v' (QAn x m).length (twsC (QAn x m))) ∧ Below w.heap.size w w' := by
 have hbw := Below.refl w.heap.size w;refine EC.enter 69 Try.func32 rfl rfl rfl (EC.seq (EC.region (EL.newP (QKo rfl) rfl ?_)));intro g1 w1 q1 hb1 hg1 hl1;have bhbw_1 := Nat.le_trans hbw.size hg1;have hbg1 : w.heap.size ≤ g1 := Nat.le_trans hbw.size hg1;replace hbw := bo_ hbw hb1;clear hb1 hg1 hl1;refine EL.as rfl rfl (EL.nil (EX.seq (EC.seq (EC.region (EL.newS (QIg) rfl ?_)))));intro g2 w2 q2 hb2 hg2 hl2;have n1_2 := q1.na hg2;have bhbw_2 := Nat.le_trans hbw.size hg2;have hbg2 : w.heap.size ≤ g2 := Nat.le_trans hbw.size hg2;replace q1 := q1.bl hb2;replace hbw := bo_ hbw hb2;clear hb2 hg2 hl2;have hO : w2.ownsRow w.heap.size 39 5 (.slice (some ⟨g2, 0, none⟩) 0 0) 0 [] := QE6 5 q2 hbg2;refine EL.val (QKK rfl (q1.at (j := 0) rfl) (q1.at (j := 1) rfl) (q1.at (j := 2) rfl) (q1.at (j := 3) rfl) (q1.at (j := 4) rfl) (q1.at (j := 5) rfl) (q1.at (j := 6) rfl) (q1.at (j := 7) rfl)) rfl (EL.call (cA1 cF31 rfl) rfl (QE3 hx _) ?_)
 rintro e w3 ⟨rfl, hc3⟩
 refine ⟨_, rfl, ?_⟩;replace q1 := q1.bl hc3;replace hO := ZD hO hc3 (Nat.le_refl _);replace hbw := bo_ hbw hc3;clear hc3;refine EL.newP QG_ rfl ?_;intro g4 w4 q4 hb4 hg4 hl4;have n1_4 := q1.na hg4;have bhbw_4 := Nat.le_trans hbw.size hg4;have hbg4 : w.heap.size ≤ g4 := Nat.le_trans hbw.size hg4;replace q1 := q1.bl hb4;replace hO := ZD hO hb4 (Nat.le_refl _);replace hbw := bo_ hbw hb4;clear hb4 hg4 hl4;refine EL.as rfl rfl (EL.store rfl rfl q4 QDw rfl rfl rfl rfl ?_);intro w5 hq5 hg5;replace q1 := q1.gr hg5 n1_4;replace hO := ZJ hO q4 rfl hg5;replace hbw := ZE hbw hg5 bhbw_4;replace q4 := hq5;clear hg5 hq5;refine EL.nil (EX.seq (EC.seq (EC.seq (EC.region (EL.as rfl rfl (EL.nil (EX.seq (EC.block ?_))))))));refine EC.loopD [5, 7, 8, 9, 13, 14, 15, 16, 17, 18, 19, 20, 21, 22, 23, 24, 25, 26, 27, 28, 29, 30, 31, 32, 33, 34, 35, 36, 37, 38, 39, 40, 41, 42, 43, 44, 45, 46, 47, 48, 49, 50, 51, 52, 53, 54, 55, 56, 57, 58, 59, 60, 61, 62, 63, 64, 65, 66, 67] (fun y : Nat × Value => [(7, .int .i64 (y.1 : Nat)), (5, y.2)]) (fun y W => (y.1 ≤ x.tows.length ∧ y.1 ≤ m) ∧ W.ownsRow w.heap.size 39 5 y.2 y.1 (twsC ((x.tows.take y.1).map (towS (Zd x).length))) ∧ Below w.heap.size w W ∧ Blk W g1 82 #[.int .u8 x.a0, .int .u8 x.a1, .int .u8 x.a2, .int .u8 x.a3, .int .u8 x.a4, .bool x.hi, .slice At x.tows.length ct, .slice As x.steps.length cs] ∧ Blk W g4 23 #[.int .i64 (Zd x).length, .int .i64 (Zd x).cycle, .int .i64 (Zd x).turn, .int .i64 (Zd x).fill, .int .i64 (Zd x).save, .bool (Zd x).high]) (fun y => x.tows.length - y.1) (0, .slice (some ⟨g2, 0, none⟩) 0 0) ⟨⟨Nat.zero_le _, Nat.zero_le _⟩, hO, hbw, q1, q4⟩ ⟨rfl, rfl, trivial⟩ ?_
 clear hbw hO q1 q4
 rintro ⟨i, v3⟩ wx ⟨⟨hi, hi2⟩, hO, hbw, q1, q4⟩
 dsimp only at hi hi2 hO
 by_cases hlt : i < x.tows.length
 ·
  by_cases hlm : i < m
  ·
   obtain ⟨bx, ox, ebx, _, c0, c1, c2, c3, c4⟩ := QJC x.tows i hlt wx B _ _ _ (hr.below (hbw.mono hB));have hv := hx.t _ (Zw hlt z5);have hsu := QEn (towS (Zd x).length) x.tows z5 hlt
   generalize x.tows.getD i z5 = v at *
   obtain ⟨p0, p1, p2, p3, p4⟩ := hv;have hlb := QCo hx;have r2 := YG p2 (n := (Zd x).length) (by omega)
   have hbl := QGp (L := (Zd x).length) (v := v) (by omega) p2
   have p2b : 0 ≤ v.2.2.1 ∧ v.2.2.1 ≤ 255 := p2;refine EC.seq (EC.seq (EC.region (EL.mv rfl rfl (EL.val (QDk rfl) rfl (EL.val (QIJ rfl (q1.at (j := 6) rfl)) rfl (EL.val (QKA rfl) rfl ?_))))));refine EL.val (ZT rfl rfl (decide_eq_true (show (((i : Nat) : Int) < ((x.tows.length : Nat) : Int)) by omega))) rfl ?_
   refine EL.mv rfl rfl (EL.mg rfl rfl rfl rfl (EL.mg rfl rfl rfl rfl ?_));refine EL.valg rfl rfl (ZT rfl rfl (decide_eq_true (show (((i : Nat) : Int) < ((m : Nat) : Int)) by omega))) rfl ?_
   refine EL.pt rfl rfl rfl (EL.nil (EX.seq (EC.yes rfl (EC.skip (EX.seq (EC.seq (EC.block (EC.seq (EC.region ?_)))))))));refine EL.val (QDk rfl) rfl (EL.val (QIJ rfl (q1.at (j := 6) rfl)) rfl (EL.mv rfl rfl ?_));refine EL.val (QNL (by show some (Value.slice At _ _) = _; rw [ebx]) rfl hlt) rfl ?_
   refine EL.val (QNI rfl c0 c1 c2 c3 c4) rfl (EL.newP QNX rfl ?_);intro g6 w6 q6 hb6 hg6 hl6;have n1_6 := q1.na hg6;have n4_6 := q4.na hg6;have bhbw_6 := Nat.le_trans hbw.size hg6;have hbg6 : w.heap.size ≤ g6 := Nat.le_trans hbw.size hg6;replace q1 := q1.bl hb6;replace q4 := q4.bl hb6;replace hO := ZD hO hb6 (Nat.le_refl _);replace hbw := bo_ hbw hb6;clear hb6 hg6 hl6;refine EL.store rfl rfl q6 QNA rfl rfl rfl rfl ?_;intro w7 hq7 hg7;replace q1 := q1.gr hg7 n1_6;replace q4 := q4.gr hg7 n4_6;replace hO := ZJ hO q6 rfl hg7;replace hbw := ZE hbw hg7 bhbw_6;replace q6 := hq7;clear hg7 hq7;refine EL.nil (EX.seq (EC.seq (EC.region ?_)));refine EL.val (Y3 (k := 2) rfl rfl (by omega)) rfl ?_
   refine EL.val (ld_5 rfl (q6.at (j := 2) rfl)) rfl (EL.val (Yw rfl (Zy p2)) rfl (EL.val (Yv rfl) rfl (EL.val (ld_3 rfl (q4.at (j := 0) rfl)) rfl ?_)));refine EL.val (QAj rfl rfl (by omega) rfl) rfl ?_
   refine EL.val (ZS rfl rfl (c := 1 + v.2.2.1.tmod (Zd x).length) (IntWalk.i64_in (1 + v.2.2.1.tmod (Zd x).length) ⟨by omega, by omega⟩)) rfl ?_
   refine EL.as rfl rfl (EL.nil (EX.seq ?_));refine EC.cutD [9, 37, 38, 39, 40, 41, 42, 43, 44] (fun _ : Unit => [(9, .int .i64 (QEG (Zd x).length v))]) (fun _ W => W.ownsRow w.heap.size 39 5 v3 i (twsC ((x.tows.take i).map (towS (Zd x).length))) ∧ Below w.heap.size w W ∧ Blk W g1 82 #[.int .u8 x.a0, .int .u8 x.a1, .int .u8 x.a2, .int .u8 x.a3, .int .u8 x.a4, .bool x.hi, .slice At x.tows.length ct, .slice As x.steps.length cs] ∧ Blk W g4 23 #[.int .i64 (Zd x).length, .int .i64 (Zd x).cycle, .int .i64 (Zd x).turn, .int .i64 (Zd x).fill, .int .i64 (Zd x).save, .bool (Zd x).high] ∧ Blk W g6 78 #[.int .u8 v.1, .int .u8 v.2.1, .int .u8 v.2.2.1, .int .u8 v.2.2.2.1, .int .u8 v.2.2.2.2]) ?_ ?_
   ·
    by_cases h7 : v.1.tmod 8 = 7
    ·
     refine EC.seq (EC.region ?_);refine EL.val (Y3 (k := 0) rfl rfl (by omega)) rfl ?_
     refine EL.val (ld_5 rfl (q6.at (j := 0) rfl)) rfl ?_;refine EL.val (QAj rfl rfl (by decide) rfl) rfl ?_
     refine EL.val (YZ (r := true) rfl rfl (decide_eq_true h7)) rfl (EL.nil (EX.seq (EC.yes rfl (EC.region ?_))));refine EL.val (Y3 (k := 2) rfl rfl (by omega)) rfl ?_
     refine EL.val (ld_5 rfl (q6.at (j := 2) rfl)) rfl (EL.val (Yw rfl (Zy p2)) rfl ?_);refine EL.val (ZS rfl rfl (c := 1 + v.2.2.1) (IntWalk.i64_in (1 + v.2.2.1) ⟨by omega, by omega⟩)) rfl ?_
     refine EL.as rfl rfl (EL.nil ?_)
     exact EX.cutE () ⟨QDs (by unfold QEG; rw [if_pos h7]) rfl, trivial⟩ (by repeat first | with_reducible exact (Sub.refl _).del _ | refine sp_ rfl ?_ | exact (Sub.refl _).del _ | refine sd_ rfl ?_ | refine sn_ ?_) ⟨hO, hbw, q1, q4, q6⟩
    ·
     refine EC.seq (EC.region ?_);refine EL.val (Y3 (k := 0) rfl rfl (by omega)) rfl ?_
     refine EL.val (ld_5 rfl (q6.at (j := 0) rfl)) rfl ?_;refine EL.val (QAj rfl rfl (by decide) rfl) rfl ?_
     refine EL.val (YZ (r := false) rfl rfl (decide_eq_false h7)) rfl (EL.nil (EX.seq (EC.no rfl (EC.skip ?_))))
     exact EX.cutE () ⟨QDs (by unfold QEG; rw [if_neg h7]) rfl, trivial⟩ (by repeat first | with_reducible exact (Sub.refl _).del _ | refine sp_ rfl ?_ | exact (Sub.refl _).del _ | refine sd_ rfl ?_ | refine sn_ ?_) ⟨hO, hbw, q1, q4, q6⟩
   ·
    clear hO hbw q1 q4 q6
    rintro ⟨⟩ w7 ⟨hO, hbw, q1, q4, q6⟩
    refine EC.region (EL.mv rfl rfl ?_);refine EL.val (Y3 (k := 0) rfl rfl (by omega)) rfl ?_
    refine EL.val (ld_5 rfl (q6.at (j := 0) rfl)) rfl ?_;refine EL.val (QAj rfl rfl (by decide) rfl) rfl ?_
    refine EL.val (YZ (r := decide (v.1.tmod 2 = 1)) rfl rfl rfl) rfl ?_;refine EL.val (Y3 (k := 1) rfl rfl (by omega)) rfl ?_
    refine EL.val (ld_5 rfl (q6.at (j := 1) rfl)) rfl (EL.val (Yw rfl (Zy p1)) rfl (EL.mv rfl rfl (EL.val (Yv rfl) rfl (EL.val (ld_3 rfl (q4.at (j := 0) rfl)) rfl ?_))));refine EL.val (QAk rfl rfl (c := 3 * (Zd x).length) (IntWalk.i64_in (3 * (Zd x).length) ⟨by omega, by omega⟩)) rfl ?_
    refine EL.val (QMp rfl rfl rfl) rfl ?_;refine EL.val (Y3 (k := 3) rfl rfl (by omega)) rfl ?_
    refine EL.val (ld_5 rfl (q6.at (j := 3) rfl)) rfl (EL.val (Yw rfl (Zy p3)) rfl ?_);refine EL.val (QAj rfl rfl (by decide) rfl) rfl ?_
    refine EL.val (Y3 (k := 4) rfl rfl (by omega)) rfl ?_
    refine EL.val (ld_5 rfl (q6.at (j := 4) rfl)) rfl (EL.val (Yw rfl (Zy p4)) rfl (EL.val (QDY rfl rfl rfl rfl rfl) rfl (EL.newS (QF9 rfl) rfl ?_)));intro g8 w8 q8 hb8 hg8 hl8;have n1_8 := q1.na hg8;have n4_8 := q4.na hg8;have n6_8 := q6.na hg8;have bhbw_8 := Nat.le_trans hbw.size hg8;have hbg8 : w.heap.size ≤ g8 := Nat.le_trans hbw.size hg8;replace q1 := q1.bl hb8;replace q4 := q4.bl hb8;replace q6 := q6.bl hb8;replace hO := ZD hO hb8 (Nat.le_refl _);replace hbw := bo_ hbw hb8;clear hb8 hg8 hl8;refine EL.push QBU rfl rfl hO (QA_ (l := twC (towS (Zd x).length v)) q8 rfl) (twsC_one [towS (Zd x).length v]) (by omega) rfl hbw.size rfl ?_
    intro v9 w9 ho9 hgr hb_ hat;replace hbw := hbw.trans hb_;replace q1 := ZL q1 hO rfl hgr;replace q4 := ZL q4 hO rfl hgr;clear hO hgr hb_ hat;refine EL.as rfl rfl (EL.nil (EX.blk (EX.seq (EC.region (EL.mv rfl rfl ?_)))));refine EL.val (ZS rfl rfl (c := ((i + 1 : Nat) : Int)) ((IntWalk.i64_in _ ⟨by first | omega | (simp only; omega), by first | omega | (simp only; omega)⟩).trans (by first | omega | (simp only; omega)))) rfl ?_
    refine EL.as rfl rfl (EL.nil ?_);refine EX.roundD (i + 1, v9) ⟨rfl, rfl, trivial⟩ (by repeat first | with_reducible exact .refl _ | refine sp_ rfl ?_ | exact .refl _ | refine sd_ rfl ?_ | refine sn_ ?_) ⟨⟨hlt, hlm⟩, by simp only; rw [hsu, QCU]; exact ho9, hbw, q1, q4⟩ (by simp only; omega)
  ·
   have hxe : i = min x.tows.length m := by omega
   refine EC.seq (EC.seq (EC.region (EL.mv rfl rfl (EL.val (QDk rfl) rfl (EL.val (QIJ rfl (q1.at (j := 6) rfl)) rfl (EL.val (QKA rfl) rfl ?_))))));refine EL.val (ZT rfl rfl (decide_eq_true (show (((i : Nat) : Int) < ((x.tows.length : Nat) : Int)) by omega))) rfl ?_
   refine EL.mv rfl rfl (EL.mg rfl rfl rfl rfl (EL.mg rfl rfl rfl rfl ?_));refine EL.valg rfl rfl (ZT rfl rfl (decide_eq_false (show ¬(((i : Nat) : Int) < ((m : Nat) : Int)) by omega))) rfl ?_
   refine EL.pt rfl rfl rfl (EL.nil (EX.seq (EC.no rfl (EC.exit (EX.seq_exit (EX.seq_exit (EX.blk_here (EX.seq (EC.seq ?_)))))))));refine EC.region (EL.mv rfl rfl (EL.as rfl rfl (EL.nil (EX.seq (EC.ret ?_)))))
   exact EX.done (res1 rfl rfl) ⟨⟨_, rfl, QGJ hxe hO⟩, hbw⟩
 ·
  have hxe : i = min x.tows.length m := by omega
  refine EC.seq (EC.seq (EC.region (EL.mv rfl rfl (EL.val (QDk rfl) rfl (EL.val (QIJ rfl (q1.at (j := 6) rfl)) rfl (EL.val (QKA rfl) rfl ?_))))));refine EL.val (ZT rfl rfl (decide_eq_false (show ¬(((i : Nat) : Int) < ((x.tows.length : Nat) : Int)) by omega))) rfl ?_
  refine EL.mv rfl rfl (EL.skip rfl rfl rfl rfl (EL.skip rfl rfl rfl rfl (EL.skip rfl rfl rfl rfl (EL.pf rfl rfl rfl (EL.nil (EX.seq (EC.no rfl (EC.exit (EX.seq_exit ?_)))))))));refine EX.seq_exit (EX.blk_here (EX.seq (EC.seq (EC.region (EL.mv rfl rfl (EL.as rfl rfl (EL.nil (EX.seq (EC.ret ?_)))))))))
  exact EX.done (res1 rfl rfl) ⟨⟨_, rfl, QGJ hxe hO⟩, hbw⟩
structure PlV where
 d : Dr
 i : Nat
 v : Value
 Ad : Option Addr
 nd : Nat
 cd : Nat
 Au : Option Addr
 nu : Nat
 cu : Nat
theorem QIw {w : World} {B z n c : Nat} {A : Option Addr} {xs : List Value} (h : Rd w B z (.slice A n c) n xs) : n ≤ c := by
 obtain ⟨_, A2, c2, e, hc, _⟩ := h
 injection e with _ _ e
 omega
theorem QMb {w : World} {B m c lo : Nat} {A : Option Addr} {ts : List TW} (hr : Rd w B 5 (.slice A m c) m (twsC ts)) (hlo : lo ≤ m) : Rd w B 5 (.slice (QBd A c lo) (m - lo) (c - lo)) (m - lo) (twsC (ts.drop lo)) := by
 have hl := hr.len;obtain ⟨_, A2, c2, e, hc2, hrr⟩ := hr
 injection e with e1 _ e3
 subst e1 e3;have hd : twsC (ts.drop lo) = (twsC ts).drop (lo * 5) := QBF QAW ts lo;refine ⟨by rw [hd, List.length_drop, hl]; omega, _, _, rfl, by omega, fun h0 => ?_⟩
 obtain ⟨b, off, e2, hb2, hcell⟩ := hrr (by omega)
 subst e2;refine ⟨b, _, rfl, hb2, fun j u hu => ?_⟩
 rw [if_neg (by omega)]
 rw [hd, List.getElem?_drop] at hu;have := hcell (lo * 5 + j) u hu;rw [← Nat.add_assoc] at this
 exact this
/-! ### How often the chamber was filled and emptied in m movements -/
def fiN (h : Bool) (m : Nat) : Nat := if h = true then m / 2 else (m + 1) / 2
def emN (h : Bool) (m : Nat) : Nat := if h = true then (m + 1) / 2 else m / 2
def hiN (h : Bool) (m : Nat) : Bool := if m % 2 = 1 then !h else h
def baN (l : LK) (m : Nat) : Int := if hiN l.high m = true then 0 else if emN l.high m = 0 then 0 else Yt l
def chN (l : LK) (m : Nat) : Int := if hiN l.high m = true then (if l.high = true then 0 else l.fill) else (if l.high = true then -l.fill else 0)
theorem QIP (h : Bool) (m : Nat) : hiN h (m + 1) = !hiN h m := by
 unfold hiN
 by_cases e : m % 2 = 1
 ·rw [if_pos e, if_neg (by omega)]; cases h <;> rfl
 ·rw [if_neg e, if_pos (by omega)]
theorem QMX {h : Bool} {m : Nat} (hv : hiN h m = true) : fiN h (m + 1) = fiN h m ∧ emN h (m + 1) = emN h m + 1 := by
 unfold hiN at hv
 unfold fiN emN
 cases h <;> simp at hv ⊢ <;> omega
theorem QMY {h : Bool} {m : Nat} (hv : hiN h m = false) : fiN h (m + 1) = fiN h m + 1 ∧ emN h (m + 1) = emN h m := by
 unfold hiN at hv
 unfold fiN emN
 cases h <;> simp at hv ⊢ <;> omega
structure WS (l : LK) (s : ST) (P : Int) (m : Nat) : Prop where
 mv : s.mv = (m : Int)
 lk : s.lk = lkW l (hiN l.high m)
 up : s.up + P = (emN l.high m : Int) * Yt l - (fiN l.high m : Int) * l.fill - baN l m
 ch : s.ch = chN l m
 ba : s.ba = baN l m
 sum : s.up + s.lo + s.ch + s.ba = 0
theorem WS.start (l : LK) : WS l (stL l) 0 0 := by
 have hb : baN l 0 = 0 := by unfold baN emN; cases l.high <;> simp
 have hc : chN l 0 = 0 := by unfold chN hiN; cases l.high <;> simp
 refine ⟨rfl, (QKF l).symm, ?_, hc.symm, hb.symm, rfl⟩;rw [hb];have e1 : emN l.high 0 = 0 := by unfold emN; cases l.high <;> rfl
 have e2 : fiN l.high 0 = 0 := by unfold fiN; cases l.high <;> rfl
 rw [e1, e2]
 simp [stL]
section
variable {l : LK} {s : ST} {P : Int} {m : Nat}
theorem WS.mvS (h : WS l s P m) : WS l (mvS s) P (m + 1) := by
 obtain ⟨h1, h2, h3, h4, h5, h6⟩ := h;have hs := QIP l.high m;have hf : s.lk.fill = l.fill := by rw [h2]; rfl
 have hk : Yt s.lk = Yt l := by rw [h2]; rfl
 cases hv : hiN l.high m with
 | true =>
  obtain ⟨e1, e2⟩ := QMX hv;have hh : s.lk.high = true := by rw [h2]; exact hv
  have e3 : Go.Proofs.Ytlbfnimilcnihaa.mvS s = ⟨lkW s.lk false, s.up, s.lo + s.lk.fill - Yt s.lk, s.ch - s.lk.fill, s.ba + Yt s.lk, s.mv + 1, s.fr, s.t0, s.t1, s.cost⟩ := by unfold Go.Proofs.Ytlbfnimilcnihaa.mvS; rw [if_pos hh]
  rw [hv] at hs;have hs : hiN l.high (m + 1) = false := hs;have b0 : baN l m = 0 := by unfold baN; rw [if_pos hv]
  have b1 : baN l (m + 1) = Yt l := by unfold baN; rw [if_neg (by rw [hs]; decide), if_neg (by rw [e2]; omega)]
  have c0 : chN l m = if l.high = true then 0 else l.fill := by unfold chN; rw [if_pos hv]
  have c1 : chN l (m + 1) = if l.high = true then -l.fill else 0 := by unfold chN; rw [if_neg (by rw [hs]; decide)]
  rw [e3];refine ⟨by show s.mv + 1 = _; omega, ?_, ?_, ?_, ?_, ?_⟩
  ·show lkW s.lk false = _
   rw [h2, hs]
   rfl
  ·show s.up + P = _
   rw [h3, e1, e2, b0, b1, Int.natCast_add, Int.add_mul]
   omega
  ·show s.ch - s.lk.fill = _
   rw [h4, c0, c1, hf]
   split <;> omega
  ·show s.ba + Yt s.lk = _
   rw [h5, b0, b1, hk]
   omega
  ·show s.up + (s.lo + s.lk.fill - Yt s.lk) + (s.ch - s.lk.fill) + (s.ba + Yt s.lk) = 0
   omega
 | false =>
  obtain ⟨e1, e2⟩ := QMY hv;have hh : s.lk.high = false := by rw [h2]; exact hv
  have e3 : Go.Proofs.Ytlbfnimilcnihaa.mvS s = ⟨lkW s.lk true, s.up - s.lk.fill + s.ba, s.lo, s.ch + s.lk.fill, 0, s.mv + 1, s.fr, s.t0, s.t1, s.cost⟩ := by unfold Go.Proofs.Ytlbfnimilcnihaa.mvS; rw [if_neg (by rw [hh]; decide)]
  rw [hv] at hs;have hs : hiN l.high (m + 1) = true := hs;have b1 : baN l (m + 1) = 0 := by unfold baN; rw [if_pos hs]
  have c0 : chN l m = if l.high = true then -l.fill else 0 := by unfold chN; rw [if_neg (by rw [hv]; decide)]
  have c1 : chN l (m + 1) = if l.high = true then 0 else l.fill := by unfold chN; rw [if_pos hs]
  rw [e3];refine ⟨by show s.mv + 1 = _; omega, ?_, ?_, ?_, ?_, ?_⟩
  ·show lkW s.lk true = _
   rw [h2, hs]
   rfl
  ·show s.up - s.lk.fill + s.ba + P = _
   rw [e1, e2, b1, Int.natCast_add, Int.add_mul, hf, h5]
   omega
  ·show s.ch + s.lk.fill = _
   rw [h4, c0, c1, hf]
   split <;> omega
  ·exact b1.symm
  ·show s.up - s.lk.fill + s.ba + s.lo + (s.ch + s.lk.fill) + 0 = 0
   omega
theorem WS.mvN (h : WS l s P m) : ∀ n, WS l (mvN n s) P (m + n)
 | 0 => h
 | n + 1 => (h.mvN n).mvS
theorem WS.turn (h : WS l s P m) (u : Bool) : ∃ m1, m ≤ m1 ∧ WS l (Zc s u) P m1 := by
 unfold Zc
 split
 ·have k := h.mvS
  exact ⟨m + 1, by omega, ⟨k.mv, k.lk, k.up, k.ch, k.ba, k.sum⟩⟩
 ·exact ⟨m, by omega, h⟩
theorem QGi : ∀ (n : Nat) (s : ST), (mvN n s).lk.high = hiN s.lk.high n
 | 0, s => rfl
 | n + 1, s => by
  show (Go.Proofs.Ytlbfnimilcnihaa.mvS (Go.Proofs.Ytlbfnimilcnihaa.mvN n s)).lk.high = _
  rw [QCI]
  show (!(Go.Proofs.Ytlbfnimilcnihaa.mvN n s).lk.high) = _
  rw [QGi n s, QIP]
theorem QFT (s : ST) (ts : List TW) (u : Bool) (hp : 0 < partsN (ZR ts) s.lk.length) : (tkS s ts u).lk.high = u := by
 show (Go.Proofs.Ytlbfnimilcnihaa.mvN _ (Zc s u)).lk.high = u
 rw [QGi, QBS]
 unfold hiN
 rw [if_pos (by omega)]
 show (!!u) = u
 cases u <;> rfl
end
/-! ### Along a plan -/
theorem QFY {l : LK} {q : QS} {d : Dr} {k : Nat} (hQ : QOk l q) (h : PlOk l q d) (hk : k < d.plan.length) :
  DrOk l q ⟨sAt l q d.plan k, d.plan.take k⟩ ∧ (∀ t ∈ twAt l q d.plan k, twB l t = true) ∧ (sAt l q d.plan k).t0 + (sAt l q d.plan k).t1 + (twAt l q d.plan k).length ≤ 8 ∧ 1 ≤ (twAt l q d.plan k).length ∧ (twAt l q d.plan k).length ≤ (waitL q (sAt l q d.plan k) (d.plan.getD k sp0).up).length ∧ (waitL q (sAt l q d.plan k) (d.plan.getD k sp0).up).take (twAt l q d.plan k).length = twAt l q d.plan k ∧ (d.plan.getD k sp0).tows = (((twAt l q d.plan k).length : Nat) : Int) ∧ fitB l.length (twAt l q d.plan k) = true := by
 obtain ⟨hd, ht⟩ := QEZ hQ (Nat.le_of_lt hk) (fun i hi => (h.at_ i (by omega)).1) (fun i hi => (h.at_ i (by omega)).2)
 obtain ⟨a, b⟩ := QCN (h.at_ k hk).1;have hu := ht (d.plan.getD k sp0).up;have hw : (d.plan.getD k sp0).tows.toNat ≤ (waitL q (sAt l q d.plan k) (d.plan.getD k sp0).up).length := by
  rw [Zv]
  unfold Zg at b
  omega
 have hl : (twAt l q d.plan k).length = (d.plan.getD k sp0).tows.toNat := Ze (d := ⟨sAt l q d.plan k, d.plan.take k⟩) hw;have hf := (h.at_ k hk).2
 unfold QAy at hf
 have hlk : (sAt l q d.plan k).lk.length = l.length := hd.lkl;rw [hlk] at hf;refine ⟨hd, Yd (d := ⟨sAt l q d.plan k, d.plan.take k⟩) hQ, ?_, by omega, by omega, by rw [hl]; rfl, by omega, hf⟩
 rw [hl]
 exact QBK hQ hd hw
theorem QCa (f : TW → Int) (a b : List TW) : sumF f (a ++ b) = sumF f a + sumF f b := by simp [sumF]
section
variable {n : Nat} {σ : Sg} {w : World} {dst : Option Tmp} {ty : TypeId} {pos : String} {af : Array Edge} {g : Option (Nat × Bool)} {x y z : Operand} {at' : Array TypeId}
theorem cF32 : cF 32 := fun _ _ => by simp [go_sem]
end
theorem QJl {x : Sml} {l : LK} (hl : l = Zd x) (hx : SmlOk x) {At As : Option Addr} {ct cs : Nat} {w : World} : Calls Try.prog 31 #[.agg #[.int .u8 x.a0, .int .u8 x.a1, .int .u8 x.a2, .int .u8 x.a3, .int .u8 x.a4, .bool x.hi, .slice At x.tows.length ct, .slice As x.steps.length cs]] w fun e w' => e = .returned (.agg #[.int .i64 l.length, .int .i64 l.cycle, .int .i64 l.turn, .int .i64 l.fill, .int .i64 l.save, .bool l.high]) ∧ Below w.heap.size w w' := hl ▸ QE3 hx w
theorem QJh {x : Sml} {ts : List TW} {m : Nat} (hts : ts = QAn x m) (hx : SmlOk x) {At As : Option Addr} {ct cs : Nat} {w : World} {B : Nat} (hr : Rd w B 5 (.slice At x.tows.length ct) x.tows.length (e5s x.tows)) (hB : B ≤ w.heap.size) (hm : m ≤ 1000) :
  Calls Try.prog 32 #[.agg #[.int .u8 x.a0, .int .u8 x.a1, .int .u8 x.a2, .int .u8 x.a3, .int .u8 x.a4, .bool x.hi, .slice At x.tows.length ct, .slice As x.steps.length cs], .int .i64 (m : Nat)] w fun e w' => (∃ v', e = .returned v' ∧ w'.ownsRow w.heap.size 39 5 v' ts.length (twsC ts)) ∧ Below w.heap.size w w' := hts ▸ QIt hx hr hB hm
/-! ### The program's choice is the reference's -/
theorem QEV (a b : Int) : (a < b ∧ cmpI a b = -1) ∨ (a = b ∧ cmpI a b = 0) ∨ (b < a ∧ cmpI a b = 1) := by
 unfold cmpI
 by_cases h1 : a < b
 ·exact .inl ⟨h1, if_pos h1⟩
 ·by_cases h2 : b < a
  ·exact .inr (.inr ⟨h2, by rw [if_neg h1, if_pos h2]⟩)
  ·exact .inr (.inl ⟨by omega, by rw [if_neg h1, if_neg h2]⟩)
theorem QII {a b : Dr} : leD a b ↔ a.s.cost < b.s.cost ∨ a.s.cost = b.s.cost ∧ (a.s.mv < b.s.mv ∨ a.s.mv = b.s.mv ∧ cmpL a.plan b.plan ≤ 0) := by
 unfold leD cmpD
 rw [QMC]
 unfold or3
 rcases QEV a.s.cost b.s.cost with ⟨h, e⟩ | ⟨h, e⟩ | ⟨h, e⟩ <;> rw [e]
 ·rw [if_neg (by decide)]; omega
 ·rw [if_pos rfl]
  rcases QEV a.s.mv b.s.mv with ⟨k, e⟩ | ⟨k, e⟩ | ⟨k, e⟩ <;> rw [e]
  ·rw [if_neg (by decide)]; omega
  ·rw [if_pos rfl]; omega
  ·rw [if_neg (by decide)]; omega
 ·rw [if_neg (by decide)]; omega
theorem QFJ {l : LK} {q : QS} (hq : QOk l q) : ∀ {k : Nat} {d : Dr}, DrOk l q d → remD q d.s ≤ k → YL q k d ≠ []
 | k, d, h, hr => by
  by_cases hc : Z4 q d.s = true
  ·cases k <;> rw [YL, if_pos hc] <;> simp
  ·have h0 : 0 < remD q d.s := Nat.pos_of_ne_zero fun e => hc ((QEU h).2 e)
   obtain ⟨k, rfl⟩ : ∃ j, k = j + 1 := ⟨k - 1, by omega⟩
   have hw : ∃ u, 0 < (waitL q d.s u).length := by
    rcases Nat.lt_or_ge 0 ((q false).length - d.s.t0) with h1 | h1
    ·exact ⟨false, by rw [Zv]; exact h1⟩
    ·refine ⟨true, ?_⟩
     rw [Zv]
     unfold remD at h0
     show 0 < (q true).length - d.s.t1
     omega
   obtain ⟨u, hu⟩ := hw;have hf : fitN q d.s u 1 = true := by
    have : ((waitL q d.s u).take 1).length = 1 := by rw [List.length_take]; omega
    unfold fitN fitB
    rw [this]
    simp
   have hc1 : 0 < (cntU q d.s u).length := (QA0 (Nat.zero_le _) hu).1 hf;have hn : 0 < (nextL q d).length := by
    rw [QB0]
    unfold cntN
    cases u <;> omega
   cases e : nextL q d with
   | nil => rw [e] at hn; cases hn
   | cons x xs =>
    have hx : x ∈ nextL q d := by rw [e]; exact List.mem_cons_self ..
    obtain ⟨a, _, c⟩ := QBC hq h hx;have := QFJ hq (k := k) a (by omega)
    rw [YL, e, List.flatMap_cons];intro h2;have h3 := (List.append_eq_nil_iff.1 h2).2
    exact this (List.append_eq_nil_iff.1 h3).1
theorem QEg (l : LK) (q : QS) : (allD l q).Perm (YL q 8 ⟨stL l, []⟩) := Yf _
/-- a slice that is read, in a block behind g -/
def RdX (w : World) (g size : Nat) (v : Value) (n : Nat) (xs : List Value) : Prop :=
 xs.length = n * size ∧ ∃ A c, v = .slice A n c ∧ n ≤ c ∧ (0 < n → ∃ b off, A = some ⟨b, off, none⟩ ∧ b < w.heap.size ∧ g < b ∧ ∀ j u, xs[j]? = some u → w.cell? ⟨b, off + j, none⟩ = some u)
section
variable {w w' : World} {B g size n : Nat} {v : Value} {xs : List Value}
theorem RdX.rd (h : RdX w g size v n xs) : Rd w w.heap.size size v n xs := by
 obtain ⟨hl, A, c, e, hc, h⟩ := h;refine ⟨hl, A, c, e, hc, fun h0 => ?_⟩
 obtain ⟨b, o, e, hb, _, h⟩ := h h0
 exact ⟨b, o, e, hb, h⟩
theorem RdX.grown (h : RdX w g size v n xs) (hg : w.grownBy w' (some g)) : RdX w' g size v n xs := by
 obtain ⟨hl, A, c, e, hc, h⟩ := h;refine ⟨hl, A, c, e, hc, fun h0 => ?_⟩
 obtain ⟨b, o, e, hb, hn, h⟩ := h h0
 exact ⟨b, o, e, Nat.lt_of_lt_of_le hb hg.size, hn, fun j u hu => (World.cell?_of_block (hg.block b hb fun e => by injection e with e; omega)).trans (h j u hu)⟩
theorem RdX.nil_ (w : World) (g size c : Nat) (A : Option Addr) : RdX w g size (.slice A 0 c) 0 [] := ⟨by simp, A, c, rfl, Nat.zero_le _, fun h => absurd h (by omega)⟩
theorem RdX.of_own {base : Nat} {e : TypeId} (h : w.ownsRow base e size v n xs) (hg : g < base) : RdX w g size v n xs := by
 have hr := Rd.of_own h;obtain ⟨hl, ⟨rfl, rfl⟩ | ⟨b, cap, cur, rfl, hbg, _⟩⟩ := h
 ·exact ⟨hl, none, 0, rfl, Nat.le_refl _, fun h => absurd h (by omega)⟩
 ·obtain ⟨hl2, A, c, e1, hc, h2⟩ := hr
  injection e1 with e1 e2 e3
  subst e1 e3;refine ⟨hl, _, _, rfl, hc, fun h0 => ?_⟩
  obtain ⟨b2, o, e4, hb, h⟩ := h2 h0
  injection e4 with e4
  injection e4 with e5 e6
  subst e5 e6
  exact ⟨_, _, rfl, hb, by omega, h⟩
theorem RdX.rest {A : Option Addr} {m c lo : Nat} {ts : List TW} (hr : RdX w g 5 (.slice A m c) m (twsC ts)) (hlo : lo ≤ m) : RdX w g 5 (.slice (QBd A c lo) (m - lo) (c - lo)) (m - lo) (twsC (ts.drop lo)) := by
 obtain ⟨hl, A2, c2, e, hc2, hrr⟩ := hr
 injection e with e1 _ e3
 subst e1 e3;have hd : twsC (ts.drop lo) = (twsC ts).drop (lo * 5) := QBF QAW ts lo;refine ⟨by rw [hd, List.length_drop, hl]; omega, _, _, rfl, by omega, fun h0 => ?_⟩
 obtain ⟨b, off, e2, hb2, hn, hcell⟩ := hrr (by omega)
 subst e2;refine ⟨b, _, rfl, hb2, hn, fun j u hu => ?_⟩
 rw [if_neg (by omega)]
 rw [hd, List.getElem?_drop] at hu;have := hcell (lo * 5 + j) u hu;rw [← Nat.add_assoc] at this
 exact this
end
/-! ### The loops of the search -/
section
variable {q : QS} {d : Dr} {u : Bool} {n k : Nat} {th : Bool} {most : Int} {b : Option Dr}
theorem QC_ (t : TW) (ts : List TW) : ZR (t :: ts) = t.length + ZR ts := by simp [ZR, sumF]
theorem QFD : ∀ {ts : List TW} {n : Nat}, (∀ t ∈ ts, 0 ≤ t.length) → ZR (ts.take n) ≤ ZR (ts.take (n + 1))
 | [], _, _ => by simp
 | t :: ts, 0, h => by
  rw [List.take_zero, List.take_succ_cons, List.take_zero, QC_];have := h t (List.mem_cons_self ..);have e : ZR [] = 0 := rfl
  omega
 | t :: ts, n + 1, h => by
  rw [List.take_succ_cons, List.take_succ_cons, QC_, QC_];have := QFD (ts := ts) (n := n) fun x hx => h x (List.mem_cons_of_mem _ hx)
  omega
theorem QKd {l : LK} (hq : QOk l q) (hn : n + 2 ≤ (waitL q d.s u).length) (h : fitN q d.s u (n + 2) = true) : fitN q d.s u (n + 1) = true := by
 unfold fitN fitB at *
 have hl : ∀ t ∈ waitL q d.s u, 0 ≤ t.length := fun t ht => by
  have := (Yz (hq.tw u t (List.mem_of_mem_drop ht))).2.1
  omega
 have h1 : ZR ((waitL q d.s u).take (n + 1)) ≤ ZR ((waitL q d.s u).take (n + 2)) := QFD (n := n + 1) hl;have e : ((waitL q d.s u).take (n + 2)).length = n + 2 := Ze (by omega)
 have e1 : ((waitL q d.s u).take (n + 1)).length = n + 1 := Ze (by omega)
 rw [e] at h;rw [e1];have a : decide (1 < n + 2) = true := decide_eq_true (by omega)
 rw [a, Bool.true_and] at h;have h2 : ¬d.s.lk.length < ZR ((waitL q d.s u).take (n + 2)) := by simpa using h
 have h3 : ¬d.s.lk.length < ZR ((waitL q d.s u).take (n + 1)) := by omega
 rw [decide_eq_false h3, Bool.and_false]
 rfl
theorem QLf {l : LK} (hq : QOk l q) (hn : n < (waitL q d.s u).length) : fitN q d.s u (n + 1) = true ↔ n < (cntU q d.s u).length := by
 refine ⟨fun h => ?_, QIa⟩
 rcases Nat.lt_or_ge n (cntU q d.s u).length with h1 | h1
 ·exact h1
 ·exfalso
  have hx : fitN q d.s u ((cntU q d.s u).length + 1) = false := by
   have := QA0 (q := q) (s := d.s) (u := u) (Nat.le_refl (cntU q d.s u).length) (by omega)
   cases e : fitN q d.s u ((cntU q d.s u).length + 1)
   ·rfl
   ·exact absurd (this.1 e) (Nat.lt_irrefl _)
  have : ∀ j, (cntU q d.s u).length + j ≤ n → fitN q d.s u (n - j + 1) = true := by
   intro j
   induction j with
   | zero => intro _; exact h
   | succ j ih =>
    intro hj;have h2 := ih (by omega)
    have e : n - j + 1 = (n - (j + 1)) + 2 := by omega
    rw [e] at h2
    exact QKd hq (by omega) h2
  have h3 := this (n - (cntU q d.s u).length) (by omega)
  rw [show n - (n - (cntU q d.s u).length) = (cntU q d.s u).length by omega, hx] at h3
  cases h3
theorem QDE {l : LK} (h : DrOk l q d) : Z4 q d.s = true ↔ (waitL q d.s true).length + (waitL q d.s false).length = 0 := by
 rw [QEU h, Zv, Zv]
 unfold remD
 show _ ↔ ((q true).length - d.s.t1) + ((q false).length - d.s.t0) = 0
 omega
end
/-- what follows a plan that fits, fits -/
theorem QIY {l : LK} {q : QS} (hq : QOk l q) : ∀ {k : Nat} {d e : Dr}, PlOk l q d → e ∈ YL q k d → PlOk l q e ∧ Z4 q e.s = true
 | 0, d, e, h, he => by
  rw [YL] at he
  split at he
  ·rename_i hc; rw [List.mem_singleton.1 he]; exact ⟨h, hc⟩
  ·cases he
 | k + 1, d, e, h, he => by
  rw [YL] at he
  rcases List.mem_append.1 he with he | he
  ·split at he
   ·rename_i hc; rw [List.mem_singleton.1 he]; exact ⟨h, hc⟩
   ·cases he
  ·obtain ⟨x, hx, he⟩ := List.mem_flatMap.1 he
   obtain ⟨u, n, a, b, c, rfl⟩ := QGf (l := l) hx
   exact QIY hq (h.one hq a b c) he
theorem QKw {l : LK} {q : QS} (hq : QOk l q) {e : Dr} (h : e ∈ allD l q) : PlOk l q e ∧ Z4 q e.s = true := QIY hq (PlOk.start hq.lk) ((QEg l q).mem_iff.1 h)
theorem QLQ {l : LK} {q : QS} {d : Dr} {u : Bool} {n : Nat} (hq : QOk l q) (h1 : 1 ≤ n) (h2 : n ≤ (waitL q d.s u).length) (hf : fitN q d.s u n = true) : oneD q d u n ∈ nextL q d := by
 obtain ⟨m, rfl⟩ : ∃ m, n = m + 1 := ⟨n - 1, by omega⟩
 have hl := (QLf (d := d) (u := u) hq h2).1 hf;have hm : m + 1 ∈ cntU q d.s u := by
  have := Zw hl 0
  rwa [QHZ hl] at this
 have hx : oneD q d u (m + 1) ∈ QAu q d u := List.mem_map.2 ⟨m + 1, hm, rfl⟩
 unfold nextL
 cases u
 ·exact List.mem_append_left _ hx
 ·exact List.mem_append_right _ hx
/-- every complete plan that fits is among all -/
theorem QMA {l : LK} {q : QS} {d : Dr} (hq : QOk l q) (h : PlOk l q d) (hc : Z4 q d.s = true) : d ∈ allD l q := by
 rw [(QEg l q).mem_iff];have h8 : d.plan.length ≤ 8 := by
  have h1 := h.dr.len;have h2 := QBK (u := true) (n := 0) hq h.dr (Nat.zero_le _)
  omega
 have key : ∀ j, j ≤ d.plan.length → d ∈ YL q (8 - (d.plan.length - j)) ⟨sAt l q d.plan (d.plan.length - j), d.plan.take (d.plan.length - j)⟩ := by
  intro j
  induction j with
  | zero =>
   intro _;rw [Nat.sub_zero, h.end_, List.take_length]
   cases e : 8 - d.plan.length with
   | zero => rw [YL, if_pos hc]; exact List.mem_singleton.2 rfl
   | succ f => rw [YL, if_pos hc]; exact List.mem_append_left _ (List.mem_singleton.2 rfl)
  | succ j ih =>
   intro hj;have h2 := ih (by omega)
   obtain ⟨k, hk⟩ : ∃ k, k = d.plan.length - (j + 1) := ⟨_, rfl⟩;have hk1 : d.plan.length - j = k + 1 := by omega
   rw [hk1] at h2;rw [← hk];have hkl : k < d.plan.length := by omega
   obtain ⟨hd, htw, ht8, h1, hn, hp, htt, hfit⟩ := QFY hq h hkl;obtain ⟨n, hnn⟩ : ∃ n, n = (twAt l q d.plan k).length := ⟨_, rfl⟩;have hf : fitN q (sAt l q d.plan k) (d.plan.getD k sp0).up n = true := by
    unfold fitN
    rw [hnn, hp, show (sAt l q d.plan k).lk.length = l.length from hd.lkl]
    exact hfit
   have hnx := QLQ (d := ⟨sAt l q d.plan k, d.plan.take k⟩) (u := (d.plan.getD k sp0).up) (n := n) hq (by omega) (by rw [hnn]; exact hn) hf
   have e : oneD q ⟨sAt l q d.plan k, d.plan.take k⟩ (d.plan.getD k sp0).up n = ⟨sAt l q d.plan (k + 1), d.plan.take (k + 1)⟩ := by
    have e1 : (⟨(d.plan.getD k sp0).up, (n : Int)⟩ : SP) = d.plan.getD k sp0 := by rw [hnn, ← htt]
    unfold oneD
    rw [e1, QAP hkl, Z5 (d := sp0) hkl]
    simp only
    rw [hnn, hp]
   rw [e] at hnx;obtain ⟨f, hf8⟩ : ∃ f, 8 - k = f + 1 := ⟨8 - k - 1, by omega⟩
   rw [hf8, YL];refine List.mem_append_right _ (List.mem_flatMap.2 ⟨_, hnx, ?_⟩);rw [show 8 - (k + 1) = f by omega] at h2
   exact h2
 have := key d.plan.length (Nat.le_refl _);rw [Nat.sub_self] at this
 exact this
/-- what Best answers -/
theorem QEb {l : LK} {ts : List TW} (he : towE l ts = 0) : ∃ b, QA3 l ts = (b.plan, b.s.cost, 0) ∧ PlOk l (qL ts) b ∧ Z4 (qL ts) b.s = true ∧ b ∈ allD l (qL ts) ∧ ∀ d ∈ allD l (qL ts), leD b d := by
 have hq := QBA he;have hne := QFJ hq (k := 8) (QBl (q := qL ts) hq.lk) (rem8 hq _);have hl : 0 < (allD l (qL ts)).length := by
  rw [(QEg l (qL ts)).length_eq]
  exact List.length_pos_iff.2 hne
 have hm := Zw hl dr0;refine ⟨_, QDG he hl, (QKw hq hm).1, (QKw hq hm).2, hm, fun d hd => ?_⟩
 have hs := QHg l (qL ts)
 cases e : allD l (qL ts) with
 | nil => rw [e] at hl; cases hl
 | cons x m =>
  rw [e] at hs hd
  show leD x d
  rcases List.mem_cons.1 hd with rfl | hd
  ·exact QAS _
  ·exact (List.pairwise_cons.1 hs).1 _ hd
theorem QGE {l : LK} {ts : List TW} {P : List SP} {C X : Int} {v : Value} {w : World} {B : Nat} (h : QA3 l ts = (P, C, X)) (hr : Rd w B 5 v ts.length (twsC ts)) (hB : B ≤ w.heap.size) :
  Calls Try.prog 23 #[.agg #[.int .i64 l.length, .int .i64 l.cycle, .int .i64 l.turn, .int .i64 l.fill, .int .i64 l.save, .bool l.high], v] w fun e w' => ∃ sl, e = .returned (.tuple #[sl, .int .i64 C, .int .i64 X]) ∧ w'.ownsRow w.heap.size 87 2 sl P.length (spsC P) ∧ Below w.heap.size w w' := by
 have k := QHD (l := l) hr hB;rw [h] at k
 exact k
/-- what a step of a plan does -/
structure Ord (l : LK) (S : ST) (tw : List TW) (u : Bool) (p : Nat) : Prop where
 pp : p = partsN (ZR tw) l.length
 p1 : 1 ≤ p ∧ p ≤ 3
 fr : 0 ≤ S.fr ∧ S.fr ≤ 140000
 F : (Zc S u).fr = if S.lk.high = u then S.fr + l.turn else S.fr
 Fb : S.fr ≤ (Zc S u).fr ∧ (Zc S u).fr ≤ 141000
 st : (runT S tw u).start = max (Zc S u).fr (arrT tw)
 sp : (runT S tw u).stop - (runT S tw u).start = (p : Int) * l.cycle + ((p : Int) - 1) * l.turn
 pc : (0 ≤ (p : Int) * l.cycle ∧ (p : Int) * l.cycle ≤ 1500) ∧ 0 ≤ ((p : Int) - 1) * l.turn ∧ ((p : Int) - 1) * l.turn ≤ 1500
 arr : 0 ≤ arrT tw ∧ arrT tw ≤ 100000
 ge : arrT tw + l.cycle ≤ (runT S tw u).stop
 bd : -500 ≤ (runT S tw u).stop ∧ (runT S tw u).stop ≤ 200000
 mv : (tkS S tw u).mv = (Zc S u).mv + 2 * p - 1
 hi : (tkS S tw u).lk.high = u
 cost : (tkS S tw u).cost = S.cost + YF (runT S tw u).stop tw
 cb : 0 ≤ S.cost ∧ S.cost ≤ 200000000
/-- a lock that is not worse -/
structure LeL (l l' : LK) : Prop where
 ok : lkB l = true
 ok' : lkB l' = true
 len : l.length ≤ l'.length
 cyc : l'.cycle ≤ l.cycle
 trn : l'.turn ≤ l.turn
theorem LeL.self {l : LK} (h : lkB l = true) : LeL l l := ⟨h, h, Int.le_refl _, Int.le_refl _, Int.le_refl _⟩
/-- a state that is not later, nor dearer -/
def Rel (l' : LK) (s s' : ST) : Prop := s'.cost ≤ s.cost ∧ ((s'.lk.high = s.lk.high ∧ s'.fr ≤ s.fr) ∨ (s'.lk.high = !s.lk.high ∧ s'.fr + l'.turn ≤ s.fr))
theorem QHO {a b L M : Int} (hL : 0 < L) (hM : L ≤ M) (h0 : 0 ≤ a) (h : a ≤ b) : partsN a M ≤ partsN b L := by
 refine QGZ (by omega) ?_
 have hb : b ≤ (partsN b L : Nat) * L := by
  rcases Int.lt_or_le ((partsN b L : Nat) * L) b with h1 | h1
  ·exact absurd ((QBf hL (partsN b L)).1 h1) (Nat.lt_irrefl _)
  ·exact h1
 have h2 : ((partsN b L : Nat) : Int) * L ≤ ((partsN b L : Nat) : Int) * M := Int.mul_le_mul_of_nonneg_left hM (by omega)
 omega
theorem QJs {l l' : LK} {s s' : ST} (h : LeL l l') (hl : s.lk = lkW l s.lk.high) (hl' : s'.lk = lkW l' s'.lk.high) (hr : Rel l' s s') (u : Bool) : (Zc s' u).fr ≤ (Zc s u).fr := by
 have e1 := QCV s u;have e2 := QCV s' u;have t1 : s.lk.turn = l.turn := by rw [hl]; rfl
 have t2 : s'.lk.turn = l'.turn := by rw [hl']; rfl
 have ht := h.trn;have hb := (Yb h.ok).2.2.1;have hb' := (Yb h.ok').2.2.1;rw [t1] at e1;rw [t2] at e2;obtain ⟨_, ⟨hh, hf⟩ | ⟨hh, hf⟩⟩ := hr
 ·rw [hh] at e2
  split at e1
  ·rename_i hu
   rw [if_pos hu] at e2
   omega
  ·rename_i hu
   rw [if_neg hu] at e2
   omega
 ·rw [hh] at e2
  split at e1
  ·rename_i hu
   rw [if_neg (by rw [hu]; cases u <;> decide)] at e2
   omega
  ·split at e2 <;> omega
/-- the tows that a step takes: not more, not longer, none later -/
structure LeT (tw tw' : List TW) : Prop where
 long : ZR tw' ≤ ZR tw
 arr : arrT tw' ≤ arrT tw
 cost : ∀ e e' : Int, e' ≤ e → arrT tw ≤ e → YF e' tw' ≤ YF e tw
theorem QCO {e e' : Int} : ∀ {tw : List TW}, (∀ t ∈ tw, 0 ≤ t.weight) → e' ≤ e → YF e' tw ≤ YF e tw
 | [], _, _ => Int.le_refl _
 | t :: tw, h, he => by
  have ih := QCO (tw := tw) (fun x hx => h x (List.mem_cons_of_mem _ hx)) he
  have c : ∀ e, YF e (t :: tw) = t.weight * (e - t.arrive) + YF e tw := fun e => by simp [YF, sumF]
  have hm : t.weight * (e' - t.arrive) ≤ t.weight * (e - t.arrive) := Int.mul_le_mul_of_nonneg_left (by omega) (h t (List.mem_cons_self ..))
  rw [c, c]
  omega
theorem LeT.self {l : LK} {tw : List TW} (h : ∀ t ∈ tw, twB l t = true) : LeT tw tw := ⟨Int.le_refl _, Int.le_refl _, fun e e' he _ => QCO (fun t ht => (Yz (h t ht)).2.2.1.1) he⟩
theorem QM6 {b : Int} {tw : List TW} (h0 : 0 ≤ b) (h : ∀ t ∈ tw, t.arrive ≤ b) : arrT tw ≤ b := (QDq h0 h).2
theorem LeT.drop {l : LK} {A C : List TW} {x : TW} (h : ∀ t ∈ A ++ x :: C, twB l t = true) : LeT (A ++ x :: C) (A ++ C) := by
 have hx := Yz (h x (by simp))
 have hs : ∀ t ∈ A ++ C, t ∈ A ++ x :: C := fun t ht => by
  rcases List.mem_append.1 ht with h1 | h1
  ·exact List.mem_append_left _ h1
  ·exact List.mem_append_right _ (List.mem_cons_of_mem _ h1)
 refine ⟨?_, QM6 (QDq (b := 100000) (by omega) fun t ht => (Yz (h t ht)).1.2).1 (fun t ht => QGA (hs t ht)), fun e e' he ha => ?_⟩
 ·have e1 : ZR (A ++ C) = ZR A + ZR C := QCa _ _ _
  have e2 : ZR (A ++ x :: C) = ZR A + (x.length + ZR C) := by
   have : ZR (x :: C) = x.length + ZR C := by simp [ZR, sumF]
   rw [← this]
   exact QCa _ _ _
  omega
 ·have m1 := QCO (e := e) (e' := e') (tw := A ++ C) (fun t ht => (Yz (h t (hs t ht))).2.2.1.1) he
  have e1 : YF e (A ++ C) = YF e A + YF e C := QCa _ _ _;have e2 : YF e (A ++ x :: C) = YF e A + (x.weight * (e - x.arrive) + YF e C) := by
   have : YF e (x :: C) = x.weight * (e - x.arrive) + YF e C := by simp [YF, sumF]
   rw [← this]
   exact QCa _ _ _
  have hxa := QGA (show x ∈ A ++ x :: C by simp)
  have := Int.mul_nonneg hx.2.2.1.1 (show 0 ≤ e - x.arrive by omega)
  omega
/-- one step, of both -/
theorem QGV {l l' : LK} {s s' : ST} {tw tw' : List TW} {u : Bool} (h : LeL l l') (hs : StOk l s) (hl' : s'.lk = lkW l' s'.lk.high) (hF : (Zc s' u).fr ≤ (Zc s u).fr) (hc : s'.cost ≤ s.cost)
  (ht : ∀ t ∈ tw, twB l t = true) (h8 : s.t0 + s.t1 + tw.length ≤ 8) (hf : fitB l.length tw = true) (h1 : 1 ≤ tw.length) (hp' : 0 < ZR tw') (hle : LeT tw tw') : Rel l' (tkS s tw u) (tkS s' tw' u) := by
 have hl := hs.lk;have a1 : s.lk.length = l.length ∧ s.lk.turn = l.turn ∧ s.lk.cycle = l.cycle := by rw [hl]; exact ⟨rfl, rfl, rfl⟩
 have a2 : s'.lk.length = l'.length ∧ s'.lk.turn = l'.turn ∧ s'.lk.cycle = l'.cycle := by rw [hl']; exact ⟨rfl, rfl, rfl⟩
 obtain ⟨b1, b2, b3, _, _⟩ := Yb h.ok;obtain ⟨d1, d2, d3, _, _⟩ := Yb h.ok';have hlen := h.len;have hcyc := h.cyc;have htrn := h.trn;have hp : 0 < partsN (ZR tw) l.length := QC8 ht h.ok (by omega) (by omega)
 have hpp : 0 < partsN (ZR tw') l'.length := QC7 (by omega) hp'
 have hpm := QHO (a := ZR tw') (b := ZR tw) (L := l.length) (M := l'.length) (by omega) hlen (by omega) hle.long
 obtain ⟨_, _, _, _, _, r6⟩ := QC6 (u := u) hs ht hf h8;have hge := (r6 (by omega)).1
 obtain ⟨p, ep⟩ : ∃ p, p = partsN (ZR tw) l.length := ⟨_, rfl⟩;obtain ⟨p', ep'⟩ : ∃ p, p = partsN (ZR tw') l'.length := ⟨_, rfl⟩;rw [← ep] at hp hpm;rw [← ep'] at hpp hpm;have e1 : (runT s tw u).stop = max (Zc s u).fr (arrT tw) + ((p : Int) * l.cycle + ((p : Int) - 1) * l.turn) := by
  show max (Zc s u).fr (arrT tw) - s.lk.turn + partsN (ZR tw) s.lk.length * (s.lk.turn + s.lk.cycle) = _
  rw [a1.1, a1.2.1, a1.2.2, ← ep, Int.sub_mul, Int.one_mul, Int.mul_add]
  omega
 have e2 : (runT s' tw' u).stop = max (Zc s' u).fr (arrT tw') + ((p' : Int) * l'.cycle + ((p' : Int) - 1) * l'.turn) := by
  show max (Zc s' u).fr (arrT tw') - s'.lk.turn + partsN (ZR tw') s'.lk.length * (s'.lk.turn + s'.lk.cycle) = _
  rw [a2.1, a2.2.1, a2.2.2, ← ep', Int.sub_mul, Int.one_mul, Int.mul_add]
  omega
 have m1 : (p' : Int) * l'.cycle ≤ (p : Int) * l.cycle := Int.mul_le_mul (by omega) hcyc (by omega) (by omega)
 have m2 : ((p' : Int) - 1) * l'.turn ≤ ((p : Int) - 1) * l.turn := Int.mul_le_mul (by omega) htrn (by omega) (by omega)
 have harr := hle.arr;have hst : (runT s' tw' u).stop ≤ (runT s tw u).stop := by omega
 refine ⟨?_, .inl ⟨?_, hst⟩⟩
 ·rw [QBW, QBW]
  have := hle.cost _ _ hst (by omega)
  omega
 ·rw [QFT s' tw' u (by rw [a2.1, ← ep']; exact hpp), QFT s tw u (by rw [a1.1, ← ep]; exact hp)]
theorem QGo {l : LK} {tw : List TW} (h : ∀ t ∈ tw, twB l t = true) (h1 : 1 ≤ tw.length) (h8 : tw.length ≤ 8) (hl : lkB l = true) : 0 < ZR tw := by
 have := (QDh h h8 hl).1
 omega
theorem QKb {L M : Int} {tw : List TW} (h : L ≤ M) (hf : fitB L tw = true) : fitB M tw = true := by
 unfold fitB at *
 by_cases h1 : 1 < tw.length
 ·have h2 : ¬L < ZR tw := by simpa [h1] using hf
  rw [decide_eq_false (p := M < ZR tw) (by omega)]
  simp
 ·rw [decide_eq_false h1]
  rfl
theorem QKc {L : Int} {tw tw' : List TW} (h : ZR tw' ≤ ZR tw) (hn : tw'.length ≤ tw.length) (hf : fitB L tw = true) : fitB L tw' = true := by
 unfold fitB at *
 by_cases h1 : 1 < tw.length
 ·have h2 : ¬L < ZR tw := by simpa [h1] using hf
  rw [decide_eq_false (p := L < ZR tw') (by omega)]
  simp
 ·rw [decide_eq_false (p := 1 < tw'.length) (by omega)]
  rfl
/-- the rest of a plan serves, too, for a state that is not later -/
theorem QFa {l l' : LK} {q q' : QS} {d : Dr} (hL : LeL l l') (hq : QOk l q) (hq' : QOk l' q') (h : PlOk l q d) (hc : Z4 q d.s = true) : ∀ (j : Nat), j ≤ d.plan.length → ∀ e' : Dr, PlOk l' q' e' → (∀ u, waitL q' e'.s u = waitL q (sAt l q d.plan (d.plan.length - j)) u) → Rel l' (sAt l q d.plan (d.plan.length - j)) e'.s → ∃ e, PlOk l' q' e ∧ Z4 q' e.s = true ∧ e.s.cost ≤ d.s.cost
 | 0, _, e', he, hw, hr => by
  rw [Nat.sub_zero, h.end_] at hw hr;refine ⟨e', he, ?_, hr.1⟩;have hz := (QDE h.dr).1 hc;rw [QDE he.dr, hw, hw]
  exact hz
 | j + 1, hj, e', he, hw, hr => by
  obtain ⟨k, hk⟩ : ∃ k, k = d.plan.length - (j + 1) := ⟨_, rfl⟩;have hk1 : d.plan.length - j = k + 1 := by omega
  have hkl : k < d.plan.length := by omega
  rw [← hk] at hw hr;obtain ⟨hd, htw, ht8, h1, hn, hp, htt, hfit⟩ := QFY hq h hkl;have hsuc := QAP (l := l) (q := q) hkl
  generalize (d.plan.getD k sp0).up = u at *
  generalize twAt l q d.plan k = tw at *
  generalize sAt l q d.plan k = S at *
  have hwu := hw u;have hn' : tw.length ≤ (waitL q' e'.s u).length := by rw [hwu]; exact hn
  have htk : (waitL q' e'.s u).take tw.length = tw := by rw [hwu]; exact hp
  have hlk' : e'.s.lk = lkW l' e'.s.lk.high := he.dr.st.lk;have hf' : fitN q' e'.s u tw.length = true := by
   unfold fitN
   rw [htk, he.dr.lkl]
   exact QKb hL.len hfit
  have hone := he.one hq' h1 hn' hf';have hos : (oneD q' e' u tw.length).s = tkS e'.s tw u := by show tkS e'.s _ u = _; rw [htk]
  refine QFa hL hq hq' h hc j (by omega) _ hone (fun v => ?_) ?_
  ·rw [hk1, hsuc, hos, QBQ, QBQ, hw, hw]
  ·rw [hk1, hsuc, hos]
   exact QGV hL hd.st hlk' (QJs hL hd.st.lk hlk' hr u) hr.1 htw ht8 hfit h1 (QGo htw h1 (by omega) hL.ok) (LeT.self htw)
theorem QGN {l l' : LK} {ts : List TW} {b b' : Dr} (hL : LeL l l') (hh : l'.high = l.high) (he : towE l ts = 0) (he' : towE l' ts = 0) (hb : PlOk l (qL ts) b) (hc : Z4 (qL ts) b.s = true) (hm : ∀ d ∈ allD l' (qL ts), leD b' d) : b'.s.cost ≤ b.s.cost := by
 have hq := QBA he;have hq' := QBA he';obtain ⟨e, e1, e2, e3⟩ := QFa hL hq hq' hb hc b.plan.length (Nat.le_refl _) ⟨stL l', []⟩ (PlOk.start hq'.lk) (fun u => by rw [Nat.sub_self]; rfl) (by rw [Nat.sub_self]; exact ⟨Int.le_refl _, .inl ⟨hh, Int.le_refl _⟩⟩)
 have := QII.1 (hm e (QMA hq' e1 e2))
 omega
/-! ### A tow less -/
/-- the queues without one tow -/
structure Less (q q' : QS) (u0 : Bool) (x : TW) (P R : List TW) : Prop where
 a : q u0 = P ++ x :: R
 b : q' u0 = P ++ R
 c : q' (!u0) = q (!u0)
theorem QFe {l : LK} {q q' : QS} {d : Dr} {u0 : Bool} {x : TW} {P R : List TW} (hct : l.turn ≤ l.cycle) (hq : QOk l q) (hq' : QOk l q') (hx : Less q q' u0 x P R) (h : PlOk l q d) (hc : Z4 q d.s = true) : ∀ (j : Nat), j ≤ d.plan.length → ∀ e' : Dr, PlOk l q' e' → e'.s = sAt l q d.plan (d.plan.length - j) → tkn e'.s u0 ≤ P.length → ∃ e, PlOk l q' e ∧ Z4 q' e.s = true ∧ e.s.cost ≤ d.s.cost
 | 0, _, e', he, hs, ht => by
  rw [Nat.sub_zero, h.end_] at hs;have hz := (QDE h.dr).1 hc;have hl := Zv q d.s u0;rw [hx.a, ← hs] at hl;rw [← hs] at hz
  simp only [List.length_append, List.length_cons] at hl
  cases u0 <;> omega
 | j + 1, hj, e', he, hs, ht => by
  obtain ⟨k, hk⟩ : ∃ k, k = d.plan.length - (j + 1) := ⟨_, rfl⟩;have hk1 : d.plan.length - j = k + 1 := by omega
  have hkl : k < d.plan.length := by omega
  rw [← hk] at hs;obtain ⟨hd, htw, ht8, h1, hn, hp, htt, hfit⟩ := QFY hq h hkl;have hsuc := QAP (l := l) (q := q) hkl;have hsim := QFa (LeL.self hq.lk) hq hq' h hc j (by omega)
  rw [hk1, hsuc] at hsim
  generalize (d.plan.getD k sp0).up = u at *
  generalize twAt l q d.plan k = tw at *
  rw [← hs] at hd ht8 hn hp hsuc hsim;obtain ⟨S, eS⟩ : ∃ S, S = e'.s := ⟨_, rfl⟩;have hst : StOk l S := by rw [eS]; exact he.dr.st
  rw [← eS] at hd ht8 hn hp hsuc hsim ht;have hlkl : S.lk.length = l.length := by rw [hst.lk]; rfl
  by_cases hu : u = u0
  ·subst hu
   have w1 : waitL q S u = P.drop (tkn S u) ++ x :: R := by
    unfold waitL
    rw [hx.a, List.drop_append_of_le_length ht]
   have w2 : waitL q' S u = P.drop (tkn S u) ++ R := by
    unfold waitL
    rw [hx.b, List.drop_append_of_le_length ht]
   have w3 : waitL q' S (!u) = waitL q S (!u) := by
    unfold waitL
    rw [hx.c]
   generalize hA : P.drop (tkn S u) = A at *
   have hAl : A.length = P.length - tkn S u := by rw [← hA, List.length_drop]
   rw [w1] at hn hp
   simp only [List.length_append, List.length_cons] at hn
   by_cases hle : tw.length ≤ A.length
   ·-- the tow is not taken yet
    have hta : A.take tw.length = tw := by
     rw [List.take_append_of_le_length hle] at hp
     exact hp
    have htk : (waitL q' e'.s u).take tw.length = tw := by rw [← eS, w2, List.take_append_of_le_length hle]; exact hta
    have hf' : fitN q' e'.s u tw.length = true := by
     unfold fitN
     rw [htk, ← eS, hlkl]
     exact hfit
    have hn' : tw.length ≤ (waitL q' e'.s u).length := by rw [← eS, w2, List.length_append]; omega
    have hone := he.one hq' h1 hn' hf';have hos : (oneD q' e' u tw.length).s = tkS S tw u := by show tkS e'.s _ u = _; rw [htk, eS]
    refine QFe hct hq hq' hx h hc j (by omega) _ hone (by rw [hos, hk1, hsuc]) ?_
    rw [hos, QBs, if_pos rfl]
    omega
   ·-- the tow is among those that are taken
    obtain ⟨m, hm⟩ : ∃ m, tw.length = A.length + 1 + m := ⟨tw.length - A.length - 1, by omega⟩
    have etw : tw = A ++ x :: R.take m := by
     rw [← hp, hm, List.take_append, List.take_of_length_le (by omega), show A.length + 1 + m - A.length = m + 1 by omega, List.take_succ_cons]
    have hdr : (waitL q S u).drop tw.length = R.drop m := by
     rw [w1, hm, List.drop_append, List.drop_of_length_le (by omega), show A.length + 1 + m - A.length = m + 1 by omega, List.drop_succ_cons, List.nil_append]
    by_cases hz : A.length + m = 0
    ·-- it was alone: the step is left out
     have hA0 : A = [] := List.length_eq_zero_iff.1 (by omega)
     have hm0 : m = 0 := by omega
     subst hA0 hm0;have et : tw = [x] := by rw [etw]; rfl
     have hp1 : 0 < partsN (ZR tw) l.length := QC8 htw hq.lk (by omega) (by omega)
     have hth := QFT S tw u (by rw [hlkl]; exact hp1)
     obtain ⟨_, _, _, _, _, r6⟩ := QC6 (u := u) hst htw hfit ht8;have hgf := (r6 (by omega)).2
     have hcst := QDD (u := u) hst htw hfit ht8 (by omega)
     have hF := QCV S u;have hst2 : (Zc S u).fr + l.cycle ≤ (runT S tw u).stop := by
      obtain ⟨p, ep⟩ : ∃ p, p = partsN (ZR tw) l.length := ⟨_, rfl⟩;have e1 : (runT S tw u).stop = max (Zc S u).fr (arrT tw) + ((p : Int) * l.cycle + ((p : Int) - 1) * l.turn) := by
       show max (Zc S u).fr (arrT tw) - S.lk.turn + partsN (ZR tw) S.lk.length * (S.lk.turn + S.lk.cycle) = _
       have a1 : S.lk.turn = l.turn ∧ S.lk.cycle = l.cycle := by rw [hst.lk]; exact ⟨rfl, rfl⟩
       rw [hlkl, a1.1, a1.2, ← ep, Int.sub_mul, Int.one_mul, Int.mul_add]
       omega
      obtain ⟨_, b2, b3, _, _⟩ := Yb hq.lk;have m1 : 1 * l.cycle ≤ (p : Int) * l.cycle := Int.mul_le_mul_of_nonneg_right (by omega) (by omega)
      have m2 : 0 ≤ ((p : Int) - 1) * l.turn := Int.mul_nonneg (by omega) (by omega)
      omega
     refine hsim e' he (fun v => ?_) ?_
     ·rw [QBQ, ← eS]
      by_cases hv : v = u
      ·subst hv
       rw [if_pos rfl, hdr, w2]
       rfl
      ·rw [if_neg hv]
       have : v = !u := by cases v <;> cases u <;> simp at hv ⊢
       rw [this]
       exact w3
     ·rw [← eS]
      refine ⟨by rw [QBW]; omega, ?_⟩
      rw [hth, QJT]
      by_cases hh : S.lk.high = u
      ·exact .inl ⟨hh, hgf⟩
      ·refine .inr ⟨by cases hb : S.lk.high <;> cases u <;> simp_all, ?_⟩
       rw [if_neg hh] at hF
       omega
    ·-- the others go without it
     have htw' : A ++ R.take m = (waitL q' e'.s u).take (A.length + m) := by
      rw [← eS, w2, List.take_append, List.take_of_length_le (l := A) (by omega), show A.length + m - A.length = m by omega]
     have hn' : A.length + m ≤ (waitL q' e'.s u).length := by rw [← eS, w2, List.length_append]; omega
     have hsub := LeT.drop (l := l) (A := A) (C := R.take m) (x := x) (by rw [← etw]; exact htw)
     rw [← etw] at hsub;have hlen' : (A ++ R.take m).length = A.length + m := by rw [htw', List.length_take]; omega
     have htwB' : ∀ t ∈ A ++ R.take m, twB l t = true := fun t hm2 => htw t (by
      rw [etw]
      rcases List.mem_append.1 hm2 with h3 | h3
      ·exact List.mem_append_left _ h3
      ·exact List.mem_append_right _ (List.mem_cons_of_mem _ h3))
     have hf' : fitN q' e'.s u (A.length + m) = true := by
      unfold fitN
      rw [← htw', ← eS, hlkl]
      exact QKc hsub.long (by omega) hfit
     have hone := he.one hq' (by omega) hn' hf'
     have hos : (oneD q' e' u (A.length + m)).s = tkS S (A ++ R.take m) u := by show tkS e'.s _ u = _; rw [← htw', eS]
     refine hsim _ hone (fun v => ?_) ?_
     ·rw [hos, QBQ, QBQ]
      by_cases hv : v = u
      ·subst hv
       rw [if_pos rfl, if_pos rfl, hdr, hlen', w2, List.drop_append, List.drop_of_length_le (by omega), show A.length + m - A.length = m by omega, List.nil_append]
      ·rw [if_neg hv, if_neg hv]
       have : v = !u := by cases v <;> cases u <;> simp at hv ⊢
       rw [this]
       exact w3
     ·rw [hos]
      exact QGV (LeL.self hq.lk) hst hst.lk (Int.le_refl _) (Int.le_refl _) htw ht8 hfit h1 (QGo htwB' (by omega) (by omega) hq.lk) hsub
  ·-- the other way: the same
   have hv : u = !u0 := by cases u <;> cases u0 <;> simp at hu ⊢
   have w3 : waitL q' S u = waitL q S u := by
    unfold waitL
    rw [hv, hx.c]
   have htk : (waitL q' e'.s u).take tw.length = tw := by rw [← eS, w3]; exact hp
   have hf' : fitN q' e'.s u tw.length = true := by
    unfold fitN
    rw [htk, ← eS, hlkl]
    exact hfit
   have hone := he.one hq' h1 (by rw [← eS, w3]; exact hn) hf'
   have hos : (oneD q' e' u tw.length).s = tkS S tw u := by show tkS e'.s _ u = _; rw [htk, eS]
   refine QFe hct hq hq' hx h hc j (by omega) _ hone (by rw [hos, hk1, hsuc]) ?_
   rw [hos, QBs, if_neg (fun e => hu e.symm)]
   exact ht
/-! ### The queues without one tow -/
theorem QBe (a b : List TW) (u : Bool) (n : Int) : qA (a ++ b) u n = qA a u n ++ qA b u n := by unfold qA; exact List.filter_append ..
theorem QDe (x : TW) (c : List TW) (u : Bool) (n : Int) : qA (x :: c) u n = (if x.up = u ∧ x.arrive = n then [x] else []) ++ qA c u n := by
 unfold qA
 rw [List.filter_cons]
 by_cases h : x.up = u ∧ x.arrive = n
 ·rw [if_pos h, if_pos (by simp [h.1, h.2])]; rfl
 ·rw [if_neg h, if_neg (by simpa using h)]; rfl
theorem QJu {a c : List TW} {x : TW} {u : Bool} (h : ¬x.up = u) (n : Nat) : qN (a ++ x :: c) u n = qN (a ++ c) u n := by
 induction n with
 | zero => rfl
 | succ n ih => rw [qN_succ, qN_succ, ih, QBe, QBe, QDe, if_neg (fun e => h e.1), List.nil_append]
theorem QLH {a c : List TW} {x : TW} {u : Bool} (hu : x.up = u) (h0 : 0 ≤ x.arrive) {n : Nat} (hn : x.arrive < n) : ∃ P R, qN (a ++ x :: c) u n = P ++ x :: R ∧ qN (a ++ c) u n = P ++ R := by
 obtain ⟨k, hk⟩ : ∃ k : Nat, x.arrive = k := ⟨x.arrive.toNat, by omega⟩
 have low : ∀ m, m ≤ k → qN (a ++ x :: c) u m = qN (a ++ c) u m := by
  intro m
  induction m with
  | zero => intro _; rfl
  | succ m ih => intro hm; rw [qN_succ, qN_succ, ih (by omega), QBe, QBe, QDe, if_neg (fun e => by have := e.2; omega), List.nil_append]
 have up : ∀ m, k + 1 ≤ m → ∃ P R, qN (a ++ x :: c) u m = P ++ x :: R ∧ qN (a ++ c) u m = P ++ R := by
  intro m
  induction m with
  | zero => intro h; omega
  | succ m ih =>
   intro hm
   rcases Nat.lt_or_ge m (k + 1) with h1 | h1
   ·obtain rfl : m = k := by omega
    refine ⟨qN (a ++ c) u m ++ qA a u m, qA c u m, ?_, ?_⟩
    ·rw [qN_succ, low m (Nat.le_refl _), QBe, QDe, if_pos ⟨hu, hk⟩, List.append_assoc]
     rfl
    ·rw [qN_succ, QBe, List.append_assoc]
   ·obtain ⟨P, R, e1, e2⟩ := ih h1
    refine ⟨P, R ++ qA (a ++ c) u m, ?_, ?_⟩
    ·rw [qN_succ, e1, QBe, QDe, if_neg (fun e => by have := e.2; omega), QBe, List.nil_append, List.append_assoc]
     rfl
    ·rw [qN_succ, e2, List.append_assoc]
 exact up n (by omega)
theorem QMe {a c : List TW} {x : TW} (h : ∀ t ∈ a ++ x :: c, 0 ≤ t.arrive ∧ t.arrive < (256 : Nat)) : ∃ P R, Less (qL (a ++ x :: c)) (qL (a ++ c)) x.up x P R := by
 have h2 : ∀ t ∈ a ++ c, 0 ≤ t.arrive ∧ t.arrive < (256 : Nat) := fun t ht => h t (by
  rcases List.mem_append.1 ht with h1 | h1
  ·exact List.mem_append_left _ h1
  ·exact List.mem_append_right _ (List.mem_cons_of_mem _ h1))
 have hx := h x (by simp)
 obtain ⟨P, R, e1, e2⟩ := QLH (a := a) (c := c) (x := x) (u := x.up) rfl hx.1 hx.2;rw [QH1 h] at e1;rw [QH1 h2] at e2;refine ⟨P, R, e1, e2, ?_⟩;rw [← QH1 h, ← QH1 h2]
 exact (QJu (by cases x.up <;> decide) _).symm
theorem QGO {l : LK} {a c : List TW} {x : TW} {b b' : Dr} (hct : l.turn ≤ l.cycle) (harr : ∀ t ∈ a ++ x :: c, 0 ≤ t.arrive ∧ t.arrive < (256 : Nat)) (he : towE l (a ++ x :: c) = 0) (he' : towE l (a ++ c) = 0) (hb : PlOk l (qL (a ++ x :: c)) b) (hc : Z4 (qL (a ++ x :: c)) b.s = true) (hm : ∀ d ∈ allD l (qL (a ++ c)), leD b' d) : b'.s.cost ≤ b.s.cost := by
 have hq := QBA he;have hq' := QBA he';obtain ⟨P, R, hx⟩ := QMe harr;obtain ⟨e, e1, e2, e3⟩ := QFe hct hq hq' hx hb hc b.plan.length (Nat.le_refl _) ⟨stL l, []⟩ (PlOk.start hq'.lk) (by rw [Nat.sub_self]; rfl) (by cases x.up <;> exact Nat.zero_le _)
 have := QII.1 (hm e (QMA hq' e1 e2))
 omega
section
variable {n : Nat} {σ : Sg} {w : World} {dst : Option Tmp} {ty : TypeId} {pos : String} {af : Array Edge} {g : Option (Nat × Bool)} {x y z : Operand} {at' : Array TypeId}
theorem QNU {v0 v1 v2 : Value} (hx : evS σ x = some (.agg #[v0, v1, v2])) (a : Act) (ha : Env n σ a) : (execOp a.eval ⟨dst, .box 93 x, ty, pos, af, g⟩).run Try.prog w = .ok (.value (.pointer (some ⟨w.heap.size, 0, none⟩))) (w.alloc (.cells #[v0, v1, v2] 93)) := by
 simp only [execOp, ha.eval hx]
 simp [go_sem]
theorem QHU {b o k : Nat} (hx : evS σ x = some (.pointer (some ⟨b, o, none⟩))) (hy : evS σ y = some (.int .i64 (k : Int))) (hk : k < 3) : ZI Try.prog n σ w ⟨dst, .indexAddr 93 x y, ty, pos, af, g⟩ (.pointer (some ⟨b, o + k, none⟩)) := fun a ha => by
 have k0 : (0 : Int) ≤ (k : Int) := Int.natCast_nonneg _;have k1 : (k : Int) < 3 := by omega
 simp only [execOp, ha.eval hx, ha.eval hy]
 simp [go_sem, k0, k1]
end
def betS (l : LK) (b0 b1 b2 : Int) : LK := ⟨l.length + b0.tmod 60, max 1 (l.cycle - b1.tmod 30), max 0 (l.turn - b2.tmod 30), l.fill, l.save, l.high⟩
theorem QJR {o : Int} {n : Nat} (h : byte o) : o.tmod (n : Int) = ((o.toNat % n : Nat) : Int) := by
 obtain ⟨k, rfl⟩ : ∃ k : Nat, o = k := ⟨o.toNat, by have := h.1; omega⟩
 rfl
theorem QM3 {x : Sml} (hx : SmlOk x) {b0 b1 b2 : Int} (h0 : byte b0) (h1 : byte b1) (h2 : byte b2) : LeL (Zd x) (betS (Zd x) b0 b1 b2) := by
 obtain ⟨c1, c2, c3, c4, c5⟩ := QCo hx;have d0 := YG h0 (n := 60) (by decide)
 have d1 := YG h1 (n := 30) (by decide)
 have d2 := YG h2 (n := 30) (by decide)
 refine ⟨QEH hx, ?_, by show (Zd x).length ≤ (Zd x).length + b0.tmod 60; omega, by show max 1 ((Zd x).cycle - b1.tmod 30) ≤ (Zd x).cycle; omega, by show max 0 ((Zd x).turn - b2.tmod 30) ≤ (Zd x).turn; omega⟩
 unfold lkB betS
 simp only [Bool.and_eq_true, Z8]
 omega
theorem QFS {l : LK} {ts : List TW} (hl : lkB l = true) (h8 : ts.length ≤ 8) (h : ∀ t ∈ ts, twB l t = true) : towE l ts = 0 := by
 unfold towE
 rw [if_pos hl, if_neg (by omega), if_pos (List.all_eq_true.2 h)]
theorem QK2 {l l' : LK} {t : TW} (h : twB l t = true) (hl : l.length ≤ l'.length) : twB l' t = true := by
 have := Yz h
 unfold twB
 simp only [Bool.and_eq_true, Z8]
 omega
theorem QHS {ts : List TW} {k : Nat} {v : Value} {w : World} {B : Nat} (hk : k < ts.length) (hr : Rd w B 5 v k (twsC (ts.take k))) (hB : B ≤ w.heap.size) (hn : ts.length ≤ 1000000) : Calls Try.prog 13 #[v] w fun e w' => (∃ v', e = .returned v' ∧ w'.ownsRow w.heap.size 39 5 v' k (twsC (ts.take k))) ∧ Below w.heap.size w w' := by
 have e : (ts.take k).length = k := by rw [List.length_take]; omega
 have h := QC9 (l := ts.take k) (v := v) (w := w) (B := B) (by rw [e]; exact hr) hB (by omega)
 rw [e] at h
 exact h
/-- the best plan for a tow less -/
theorem QKH {l : LK} {ts : List TW} {b : Dr} {k : Nat} (hl : lkB l = true) (ht : ∀ t ∈ ts, twB l t = true) (h8 : ts.length ≤ 8) (harr : ∀ t ∈ ts, 0 ≤ t.arrive ∧ t.arrive < (256 : Nat)) (hb : PlOk l (qL ts) b) (hc : Z4 (qL ts) b.s = true) (hk : k < ts.length) :
  ∃ b3 : Dr, QA3 l (ts.take k ++ ts.drop (k + 1)) = (b3.plan, b3.s.cost, 0) ∧ (l.turn ≤ l.cycle → b3.s.cost ≤ b.s.cost) := by
 have ets : ts = ts.take k ++ ts.getD k tw0 :: ts.drop (k + 1) := by
  rw [← QB5 (d := tw0) hk, List.take_append_drop]
 have hmem : ∀ t ∈ ts.take k ++ ts.drop (k + 1), t ∈ ts := fun t h => by
  rcases List.mem_append.1 h with h | h
  ·exact List.mem_of_mem_take h
  ·exact List.mem_of_mem_drop h
 have he2 : towE l (ts.take k ++ ts.drop (k + 1)) = 0 := QFS hl (by rw [List.length_append, List.length_take, List.length_drop]; omega) fun t h => ht t (hmem t h)
 obtain ⟨b3, h1, _, _, _, hmin⟩ := QEb he2;refine ⟨b3, h1, fun hct => ?_⟩
 generalize ts.getD k tw0 = y at *
 generalize ts.take k = A at *
 generalize ts.drop (k + 1) = C at *
 subst ets
 exact QGO hct harr (QFS hl h8 ht) he2 hb hc hmin
set_option maxHeartbeats 1000000 in
set_option maxRecDepth 100000 in
theorem sooner_law {x : Sml} {b0 b1 b2 o : Int} (hx : SmlOk x) (hb0 : byte b0) (hb1 : byte b1) (hb2 : byte b2) (ho : byte o) {At As : Option Addr} {ct cs : Nat} {w : World} {B : Nat} (hrt : Rd w B 5 (.slice At x.tows.length ct) x.tows.length (e5s x.tows)) (hB : B ≤ w.heap.size) :
  Calls Try.prog 10 #[.agg #[.int .u8 x.a0, .int .u8 x.a1, .int .u8 x.a2, .int .u8 x.a3, .int .u8 x.a4, .bool x.hi, .slice At x.tows.length ct, .slice As x.steps.length cs], .agg #[.int .u8 b0, .int .u8 b1, .int .u8 b2], .int .u8 o] w fun e w' => e = .returned (.bool true) ∧ Below w.heap.size w w' := by
 obtain ⟨l, hl⟩ : ∃ z, z = Zd x := ⟨_, rfl⟩;obtain ⟨ts, hts⟩ : ∃ z, z = QAn x 6 := ⟨_, rfl⟩;have he0 : towE l ts = 0 := by rw [hl, hts]; exact QK3 hx (by omega)
 have hLe := QM3 hx hb0 hb1 hb2;rw [← hl] at hLe;have hq := QBA he0;have hlk := hq.lk;have hlb := QCo hx;rw [← hl] at hlb;obtain ⟨_, hts8, htwB⟩ := QAo he0;have he2 : towE (betS l b0 b1 b2) ts = 0 := QFS hLe.ok' hts8 fun t ht => QK2 (htwB t ht) hLe.len
 have harr : ∀ t ∈ ts, 0 ≤ t.arrive ∧ t.arrive < (256 : Nat) := fun t ht => by have := (QEx hx (hts ▸ ht)).2; omega
 obtain ⟨b, hbp, hbk, hbc, hbi, hmin⟩ := QEb he0;obtain ⟨b2_, hbp2, _, _, _, hmin2⟩ := QEb he2;have hlo := QGN hLe rfl he0 he2 hbk hbc hmin2;have hbco := hbk.dr.st.cost;have d0 := YG hb0 (n := 60) (by decide)
 have d1 := YG hb1 (n := 30) (by decide)
 have d2 := YG hb2 (n := 30) (by decide)
 have hbw := Below.refl w.heap.size w;refine EC.enter 122 Try.func10 rfl rfl rfl (EC.seq (EC.region (EL.newP (QKo rfl) rfl ?_)));intro g1 w1 q1 hb1 hg1 hl1;have bhbw_1 := Nat.le_trans hbw.size hg1;replace hbw := bo_ hbw hb1;clear hb1 hg1 hl1;refine EL.newP (QNU rfl) rfl ?_;intro g2 w2 q2 hb2 hg2 hl2;have n1_2 := q1.na hg2;have bhbw_2 := Nat.le_trans hbw.size hg2;replace q1 := q1.bl hb2;replace hbw := bo_ hbw hb2;clear hb2 hg2 hl2;refine EL.as rfl rfl (EL.nil (EX.seq (EC.seq (EC.region (EL.val (QKK rfl (q1.at (j := 0) rfl) (q1.at (j := 1) rfl) (q1.at (j := 2) rfl) (q1.at (j := 3) rfl) (q1.at (j := 4) rfl) (q1.at (j := 5) rfl) (q1.at (j := 6) rfl) (q1.at (j := 7) rfl)) rfl (EL.call (cA1 cF31 rfl) rfl (QJl hl hx) ?_))))))
 rintro e w3 ⟨rfl, hc3⟩
 refine ⟨_, rfl, ?_⟩;replace q1 := q1.bl hc3;replace q2 := q2.bl hc3;replace hbw := bo_ hbw hc3;clear hc3;refine EL.newP QG_ rfl ?_;intro g4 w4 q4 hb4 hg4 hl4;have n1_4 := q1.na hg4;have n2_4 := q2.na hg4;have bhbw_4 := Nat.le_trans hbw.size hg4;replace q1 := q1.bl hb4;replace q2 := q2.bl hb4;replace hbw := bo_ hbw hb4;clear hb4 hg4 hl4;refine EL.store rfl rfl q4 QDw rfl rfl rfl rfl ?_;intro w5 hq5 hg5;replace q1 := q1.gr hg5 n1_4;replace q2 := q2.gr hg5 n2_4;replace hbw := ZE hbw hg5 bhbw_4;replace q4 := hq5;clear hg5 hq5;refine EL.nil (EX.seq (EC.seq (EC.region (EL.val (QKK rfl (q1.at (j := 0) rfl) (q1.at (j := 1) rfl) (q1.at (j := 2) rfl) (q1.at (j := 3) rfl) (q1.at (j := 4) rfl) (q1.at (j := 5) rfl) (q1.at (j := 6) rfl) (q1.at (j := 7) rfl)) rfl ?_))));refine EL.call (cA2 cF32 rfl rfl) rfl (QJh hts hx (hrt.below (hbw.mono hB)) (Nat.le_trans hB hbw.size) (by omega)) ?_
 rintro e wt ⟨⟨vt, rfl, htw⟩, hct⟩
 refine ⟨_, rfl, ?_⟩;replace htw := QAt htw hbw.size;replace q1 := q1.bl hct;replace q2 := q2.bl hct;replace q4 := q4.bl hct;replace hbw := bo_ hbw hct;clear hct;obtain ⟨Aw, cw, rfl, _⟩ := (Rd.of_own htw).shape;refine EL.as rfl rfl (EL.nil (EX.seq (EC.seq ?_)));have hsz := hbw.size;have lt_1 := q1.lt;have lt_2 := q2.lt;have lt_4 := q4.lt;refine EC.regionP [[], [], [1], [0, 1, 2], [0, 1, 2, 3], [0, 1, 2, 3, 4], [0, 1, 2, 3, 4], [0, 1, 2, 3, 4], [0, 1, 2, 3, 4, 5], [0, 1, 2, 3, 4, 5, 6, 8], [0, 1, 2, 3, 4, 5, 6, 7, 8, 9]] 11 [] (phi (fun i_ r => match i_ with | 0 => r 0 = .agg #[.int .i64 l.length, .int .i64 l.cycle, .int .i64 l.turn, .int .i64 l.fill, .int .i64 l.save, .bool l.high] | 1 => r 1 = .slice Aw ts.length cw | 6 => r 6 = .int .i64 b.s.cost | 7 => r 7 = .int .i64 0 | 9 => r 9 = .int .i64 b.s.cost | 10 => r 10 = .int .i64 0 | _ => True) [(2, fun r w_ => ∃ A_ c_, r 2 = .slice A_ ts.length c_ ∧ w_.ownsRow wt.heap.size 39 5 (.slice A_ ts.length c_) ts.length (twsC ts)), (3, fun r w_ => ∃ A_ c_, r 3 = .tuple #[.slice A_ b.plan.length c_, .int .i64 b.s.cost, .int .i64 0] ∧ w_.ownsRow wt.heap.size 87 2 (.slice A_ b.plan.length c_) b.plan.length (spsC b.plan)), (4, fun r w_ => ∃ A_ c_, r 4 = .tuple #[.slice A_ b.plan.length c_, .int .i64 b.s.cost, .int .i64 0] ∧ w_.ownsRow wt.heap.size 87 2 (.slice A_ b.plan.length c_) b.plan.length (spsC b.plan)), (5, fun r w_ => ∃ A_ c_, r 5 = .slice A_ b.plan.length c_ ∧ w_.ownsRow wt.heap.size 87 2 (.slice A_ b.plan.length c_) b.plan.length (spsC b.plan)), (8, fun r w_ => ∃ A_ c_, r 8 = .slice A_ b.plan.length c_ ∧ w_.ownsRow wt.heap.size 87 2 (.slice A_ b.plan.length c_) b.plan.length (spsC b.plan))]) (by kernel_rfl) rfl rfl (Zq YH (Zq YH (Zq YH (Zq YH (Zq YH (YN)))))) (fun i_ hi_ => ?_) ?_
 ·match i_, hi_ with
  | 0, _ =>
   intro val w1 a hb ha hd;have ha := ha.s0 (d := 7) rfl
   exact ZG ha rfl rfl (QAZ rfl ((q4.below hb q4.lt).at (j := 0) rfl) ((q4.below hb q4.lt).at (j := 1) rfl) ((q4.below hb q4.lt).at (j := 2) rfl) ((q4.below hb q4.lt).at (j := 3) rfl) ((q4.below hb q4.lt).at (j := 4) rfl) ((q4.below hb q4.lt).at (j := 5) rfl)) rfl rfl
  | 1, _ =>
   intro val w1 a hb ha hd;have ha := ha.s0 (d := 8) rfl
   exact ZG ha rfl rfl (x_move rfl) rfl rfl
  | 2, _ =>
   intro val w1 a hb ha hd;have e1 : val 1 = _ := hd 1 (ZA.1 rfl);have ha := ha.s1 (d := 24) rfl e1;refine YW ha rfl rfl (cA1 cF13 rfl) (QC9 ((Rd.of_own htw).below hb) hb.size (by omega)) rfl ?_
   rintro e w' ⟨⟨v, rfl, p1⟩, hb'⟩
   obtain ⟨A1, c1, rfl, _⟩ := (Rd.of_own p1).shape
   exact ⟨_, rfl, hb', A1, c1, rfl, QAt p1 hb.size⟩
  | 3, _ =>
   intro val w1 a hb ha hd;have e0 : val 0 = _ := hd 0 (ZA.1 rfl);obtain ⟨A2_, c2_, e2, o2_⟩ := hd 2 (ZA.1 rfl);have ha := ha.s2 (d := 25) (e := 23) rfl e2 rfl e0;refine YW ha rfl rfl (cA2 cF23 rfl rfl) (QGE hbp (Rd.of_own o2_) (Nat.le_refl _)) rfl ?_
   rintro e w' ⟨sl, rfl, p1, hb'⟩
   obtain ⟨A1, c1, rfl, _⟩ := (Rd.of_own p1).shape
   exact ⟨_, rfl, hb', A1, c1, rfl, QAt p1 hb.size⟩
  | 4, _ =>
   intro val w1 a hb ha hd;obtain ⟨A3_, c3_, e3, o3_⟩ := hd 3 (ZA.1 rfl);have ha := ha.s1 (d := 26) rfl e3
   exact ZG ha rfl rfl (x_move rfl) ⟨A3_, c3_, rfl, o3_⟩ rfl
  | 5, _ =>
   intro val w1 a hb ha hd;obtain ⟨A4_, c4_, e4, o4_⟩ := hd 4 (ZA.1 rfl);have ha := ha.s1 (d := 22) rfl e4
   exact ZG ha rfl rfl (ZO (v := .slice A4_ b.plan.length c4_) rfl rfl) ⟨A4_, c4_, rfl, o4_⟩ rfl
  | 6, _ =>
   intro val w1 a hb ha hd;obtain ⟨A4_, c4_, e4, o4_⟩ := hd 4 (ZA.1 rfl);have ha := ha.s1 (d := 22) rfl e4
   exact ZG ha rfl rfl (ZO (v := .int .i64 b.s.cost) rfl rfl) rfl rfl
  | 7, _ =>
   intro val w1 a hb ha hd;obtain ⟨A4_, c4_, e4, o4_⟩ := hd 4 (ZA.1 rfl);have ha := ha.s1 (d := 22) rfl e4
   exact ZG ha rfl rfl (ZO (v := .int .i64 0) rfl rfl) rfl rfl
  | 8, _ =>
   intro val w1 a hb ha hd;obtain ⟨A5_, c5_, e5, o5_⟩ := hd 5 (ZA.1 rfl);have ha := ha.s1 (d := 27) rfl e5
   exact ZG ha rfl rfl (ZY rfl) ⟨A5_, c5_, rfl, o5_⟩ rfl
  | 9, _ =>
   intro val w1 a hb ha hd;have e6 : val 6 = _ := hd 6 (ZA.1 rfl);have ha := ha.s1 (d := 28) rfl e6
   exact ZG ha rfl rfl (ZY rfl) rfl rfl
  | 10, _ =>
   intro val w1 a hb ha hd;have e7 : val 7 = _ := hd 7 (ZA.1 rfl);have ha := ha.s1 (d := 29) rfl e7
   exact ZG ha rfl rfl (ZY rfl) rfl rfl
  | k + 11, h => exact absurd h (by omega)
 ·intro val wR3 hb halc hd
  have e0 : val 0 = _ := hd 0 (by omega)
  have e1 : val 1 = _ := hd 1 (by omega)
  obtain ⟨A2_, c2_, e2, o2_⟩ := hd 2 (by omega)
  obtain ⟨A3_, c3_, e3, o3_⟩ := hd 3 (by omega)
  obtain ⟨A4_, c4_, e4, o4_⟩ := hd 4 (by omega)
  obtain ⟨A5_, c5_, e5, o5_⟩ := hd 5 (by omega)
  have e6 : val 6 = _ := hd 6 (by omega)
  have e7 : val 7 = _ := hd 7 (by omega)
  obtain ⟨A8_, c8_, e8, o8_⟩ := hd 8 (by omega)
  have e9 : val 9 = _ := hd 9 (by omega)
  have e10 : val 10 = _ := hd 10 (by omega)
  refine EL.ends (cs := [_, _, _, _, _, _, _, _, _, _, _]) ⟨e0, e1, e2, e3, e4, e5, e6, e7, e8, e9, e10, trivial⟩ rfl ?_;replace q1 := q1.bl hb;replace q2 := q2.bl hb;replace q4 := q4.bl hb;replace htw := ZD htw hb (Nat.le_refl _);replace hbw := bo_ hbw hb;clear hb;refine EL.nil (EX.seq (EC.seq (EC.region (EL.val (QAZ rfl (q4.at (j := 0) rfl) (q4.at (j := 1) rfl) (q4.at (j := 2) rfl) (q4.at (j := 3) rfl) (q4.at (j := 4) rfl) (q4.at (j := 5) rfl)) rfl (EL.newP QG_ rfl ?_)))));intro g6 w6 q6 hb6 hg6 hl6;have n1_6 := q1.na hg6;have n2_6 := q2.na hg6;have n4_6 := q4.na hg6;have bhbw_6 := Nat.le_trans hbw.size hg6;replace q1 := q1.bl hb6;replace q2 := q2.bl hb6;replace q4 := q4.bl hb6;replace htw := ZD htw hb6 (Nat.le_refl _);replace hbw := bo_ hbw hb6;clear hb6 hg6 hl6;refine EL.store rfl rfl q6 QDw rfl rfl rfl rfl ?_;intro w7 hq7 hg7;replace q1 := q1.gr hg7 n1_6;replace q2 := q2.gr hg7 n2_6;replace q4 := q4.gr hg7 n4_6;replace htw := ZJ htw q6 rfl hg7;replace hbw := ZE hbw hg7 bhbw_6;replace q6 := hq7;clear hg7 hq7;refine EL.nil (EX.seq (EC.seq ?_));refine EC.regionS [[], [0], [], [2], [2, 3], [2, 3, 4], [0, 1, 2, 3, 4, 5], [], [7], [], [9], [9, 10], [9, 10, 11], [7, 8, 9, 10, 11, 12], [7, 8, 9, 10, 11, 12, 13], [], [15], [], [17], [17, 18], [17, 18, 19], [15, 16, 17, 18, 19, 20], [15, 16, 17, 18, 19, 20, 21], [0, 1, 2, 3, 4, 5, 6], [0, 1, 2, 3, 4, 5, 6, 23], [0, 1, 2, 3, 4, 5, 6, 7, 8, 9, 10, 11, 12, 13, 14, 23, 24], [0, 1, 2, 3, 4, 5, 6, 7, 8, 9, 10, 11, 12, 13, 14, 23, 24, 25], [0, 1, 2, 3, 4, 5, 6, 7, 8, 9, 10, 11, 12, 13, 14, 15, 16, 17, 18, 19, 20, 21, 22, 23, 24, 25, 26], [0, 1, 2, 3, 4, 5, 6, 7, 8, 9, 10, 11, 12, 13, 14, 15, 16, 17, 18, 19, 20, 21, 22, 23, 24, 25, 26, 27]] 29 [] [24, 26, 28] (fun fl w_ => w7.grownBy w_ (some g6) ∧ (fl 24 = false → Blk w_ g6 23 #[.int .i64 l.length, .int .i64 l.cycle, .int .i64 l.turn, .int .i64 l.fill, .int .i64 l.save, .bool l.high])) (phiS (fun i_ r => match i_ with | 0 => r 0 = .pointer (some ⟨g4, 0, none⟩) | 1 => r 1 = .int .i64 l.length | 2 => r 2 = .pointer (some ⟨g2, 0 + 0, none⟩) | 3 => r 3 = .int .u8 b0 | 4 => r 4 = .int .i64 b0 | 5 => r 5 = .int .i64 (b0.tmod 60) | 6 => r 6 = .int .i64 (l.length + b0.tmod 60) | 7 => r 7 = .pointer (some ⟨g4, 1, none⟩) | 8 => r 8 = .int .i64 l.cycle | 9 => r 9 = .pointer (some ⟨g2, 0 + 1, none⟩) | 10 => r 10 = .int .u8 b1 | 11 => r 11 = .int .i64 b1 | 12 => r 12 = .int .i64 (b1.tmod 30) | 13 => r 13 = .int .i64 (l.cycle - b1.tmod 30) | 14 => r 14 = .int .i64 (max 1 (l.cycle - b1.tmod 30)) | 15 => r 15 = .pointer (some ⟨g4, 2, none⟩) | 16 => r 16 = .int .i64 l.turn | 17 => r 17 = .pointer (some ⟨g2, 0 + 2, none⟩) | 18 => r 18 = .int .u8 b2 | 19 => r 19 = .int .i64 b2 | 20 => r 20 = .int .i64 (b2.tmod 30) | 21 => r 21 = .int .i64 (l.turn - b2.tmod 30) | 22 => r 22 = .int .i64 (max 0 (l.turn - b2.tmod 30)) | 23 => r 23 = .pointer (some ⟨g6, 0, none⟩) | 25 => r 25 = .pointer (some ⟨g6, 1, none⟩) | 27 => r 27 = .pointer (some ⟨g6, 2, none⟩) | _ => True) [(24, fun fl _ w_ => fl 24 = true ∧ (fl 26 = false → Blk w_ g6 23 #[.int .i64 (l.length + b0.tmod 60), .int .i64 l.cycle, .int .i64 l.turn, .int .i64 l.fill, .int .i64 l.save, .bool l.high])), (26, fun fl _ w_ => fl 26 = true ∧ (fl 28 = false → Blk w_ g6 23 #[.int .i64 (l.length + b0.tmod 60), .int .i64 (max 1 (l.cycle - b1.tmod 30)), .int .i64 l.turn, .int .i64 l.fill, .int .i64 l.save, .bool l.high])), (28, fun fl _ w_ => fl 28 = true ∧ Blk w_ g6 23 #[.int .i64 (l.length + b0.tmod 60), .int .i64 (max 1 (l.cycle - b1.tmod 30)), .int .i64 (max 0 (l.turn - b2.tmod 30)), .int .i64 l.fill, .int .i64 l.save, .bool l.high])]) (by kernel_rfl) rfl rfl (by intro i hi; simp at hi; rcases hi with rfl | rfl | rfl <;> exact ⟨by simp, by omega⟩) (Yx q6) (ZK (fun _ _ _ _ hb ⟨h1, h2⟩ => ⟨h1, fun h => (h2 h).below hb (h2 h).lt⟩) (ZK (fun _ _ _ _ hb ⟨h1, h2⟩ => ⟨h1, fun h => (h2 h).below hb (h2 h).lt⟩) (ZK (fun _ _ _ _ hb ⟨h1, h2⟩ => ⟨h1, h2.below hb h2.lt⟩) (Zh)))) (fun i_ hi_ hs_ => ?_) (fun i_ hi_ => ?_) ?_
  ·match i_, hi_ with
   | 0, _ =>
    intro val fl w1 a hb ha hd hfl;obtain ⟨hgb, hz0_⟩ := hb;have ha := ha.s0 (d := 7) rfl
    exact ZB ha rfl rfl (Yv rfl) rfl rfl
   | 1, _ =>
    intro val fl w1 a hb ha hd hfl;obtain ⟨hgb, hz0_⟩ := hb;have e0 : val 0 = _ := hd 0 (ZA.1 rfl);have ha := ha.s1 (d := 31) rfl e0
    exact ZB ha rfl rfl (ld_3 rfl ((q4.grown hgb (fun h => n4_6 (Option.some.inj h))).at (j := 0) rfl)) rfl rfl
   | 2, _ =>
    intro val fl w1 a hb ha hd hfl;obtain ⟨hgb, hz0_⟩ := hb;have ha := ha.s0 (d := 4) rfl
    exact ZB ha rfl rfl (QHU (k := 0) rfl rfl (by omega)) rfl rfl
   | 3, _ =>
    intro val fl w1 a hb ha hd hfl;obtain ⟨hgb, hz0_⟩ := hb;have e2 : val 2 = _ := hd 2 (ZA.1 rfl);have ha := ha.s1 (d := 33) rfl e2
    exact ZB ha rfl rfl (ld_5 rfl ((q2.grown hgb (fun h => n2_6 (Option.some.inj h))).at (j := 0) rfl)) rfl rfl
   | 4, _ =>
    intro val fl w1 a hb ha hd hfl;obtain ⟨hgb, hz0_⟩ := hb;have e3 : val 3 = _ := hd 3 (ZA.1 rfl);have ha := ha.s1 (d := 34) rfl e3
    exact ZB ha rfl rfl (Yw rfl (Zy hb0)) rfl rfl
   | 5, _ =>
    intro val fl w1 a hb ha hd hfl;obtain ⟨hgb, hz0_⟩ := hb;have e4 : val 4 = _ := hd 4 (ZA.1 rfl);have ha := ha.s1 (d := 35) rfl e4
    exact ZB ha rfl rfl (QAj rfl rfl (by decide) rfl) rfl rfl
   | 6, _ =>
    intro val fl w1 a hb ha hd hfl;obtain ⟨hgb, hz0_⟩ := hb;have e1 : val 1 = _ := hd 1 (ZA.1 rfl);have e5 : val 5 = _ := hd 5 (ZA.1 rfl);have ha := ha.s2 (d := 36) (e := 32) rfl e5 rfl e1
    exact ZB ha rfl rfl (ZS rfl rfl (c := l.length + b0.tmod 60) (IntWalk.i64_in (l.length + b0.tmod 60) ⟨by omega, by omega⟩)) rfl rfl
   | 7, _ =>
    intro val fl w1 a hb ha hd hfl;obtain ⟨hgb, hz0_⟩ := hb;have ha := ha.s0 (d := 7) rfl
    exact ZB ha rfl rfl (QAb rfl) rfl rfl
   | 8, _ =>
    intro val fl w1 a hb ha hd hfl;obtain ⟨hgb, hz0_⟩ := hb;have e7 : val 7 = _ := hd 7 (ZA.1 rfl);have ha := ha.s1 (d := 38) rfl e7
    exact ZB ha rfl rfl (ld_3 rfl ((q4.grown hgb (fun h => n4_6 (Option.some.inj h))).at (j := 1) rfl)) rfl rfl
   | 9, _ =>
    intro val fl w1 a hb ha hd hfl;obtain ⟨hgb, hz0_⟩ := hb;have ha := ha.s0 (d := 4) rfl
    exact ZB ha rfl rfl (QHU (k := 1) rfl rfl (by omega)) rfl rfl
   | 10, _ =>
    intro val fl w1 a hb ha hd hfl;obtain ⟨hgb, hz0_⟩ := hb;have e9 : val 9 = _ := hd 9 (ZA.1 rfl);have ha := ha.s1 (d := 40) rfl e9
    exact ZB ha rfl rfl (ld_5 rfl ((q2.grown hgb (fun h => n2_6 (Option.some.inj h))).at (j := 1) rfl)) rfl rfl
   | 11, _ =>
    intro val fl w1 a hb ha hd hfl;obtain ⟨hgb, hz0_⟩ := hb;have e10 : val 10 = _ := hd 10 (ZA.1 rfl);have ha := ha.s1 (d := 41) rfl e10
    exact ZB ha rfl rfl (Yw rfl (Zy hb1)) rfl rfl
   | 12, _ =>
    intro val fl w1 a hb ha hd hfl;obtain ⟨hgb, hz0_⟩ := hb;have e11 : val 11 = _ := hd 11 (ZA.1 rfl);have ha := ha.s1 (d := 42) rfl e11
    exact ZB ha rfl rfl (QAj rfl rfl (by decide) rfl) rfl rfl
   | 13, _ =>
    intro val fl w1 a hb ha hd hfl;obtain ⟨hgb, hz0_⟩ := hb;have e8 : val 8 = _ := hd 8 (ZA.1 rfl);have e12 : val 12 = _ := hd 12 (ZA.1 rfl);have ha := ha.s2 (d := 43) (e := 39) rfl e12 rfl e8
    exact ZB ha rfl rfl (Z9 rfl rfl (c := l.cycle - b1.tmod 30) (IntWalk.i64_in (l.cycle - b1.tmod 30) ⟨by omega, by omega⟩)) rfl rfl
   | 14, _ =>
    intro val fl w1 a hb ha hd hfl;obtain ⟨hgb, hz0_⟩ := hb;have e13 : val 13 = _ := hd 13 (ZA.1 rfl);have ha := ha.s1 (d := 44) rfl e13
    exact ZB ha rfl rfl (QEF rfl rfl (show max 1 (l.cycle - b1.tmod 30) = max 1 (l.cycle - b1.tmod 30) from rfl)) rfl rfl
   | 15, _ =>
    intro val fl w1 a hb ha hd hfl;obtain ⟨hgb, hz0_⟩ := hb;have ha := ha.s0 (d := 7) rfl
    exact ZB ha rfl rfl (Ye rfl) rfl rfl
   | 16, _ =>
    intro val fl w1 a hb ha hd hfl;obtain ⟨hgb, hz0_⟩ := hb;have e15 : val 15 = _ := hd 15 (ZA.1 rfl);have ha := ha.s1 (d := 46) rfl e15
    exact ZB ha rfl rfl (ld_3 rfl ((q4.grown hgb (fun h => n4_6 (Option.some.inj h))).at (j := 2) rfl)) rfl rfl
   | 17, _ =>
    intro val fl w1 a hb ha hd hfl;obtain ⟨hgb, hz0_⟩ := hb;have ha := ha.s0 (d := 4) rfl
    exact ZB ha rfl rfl (QHU (k := 2) rfl rfl (by omega)) rfl rfl
   | 18, _ =>
    intro val fl w1 a hb ha hd hfl;obtain ⟨hgb, hz0_⟩ := hb;have e17 : val 17 = _ := hd 17 (ZA.1 rfl);have ha := ha.s1 (d := 48) rfl e17
    exact ZB ha rfl rfl (ld_5 rfl ((q2.grown hgb (fun h => n2_6 (Option.some.inj h))).at (j := 2) rfl)) rfl rfl
   | 19, _ =>
    intro val fl w1 a hb ha hd hfl;obtain ⟨hgb, hz0_⟩ := hb;have e18 : val 18 = _ := hd 18 (ZA.1 rfl);have ha := ha.s1 (d := 49) rfl e18
    exact ZB ha rfl rfl (Yw rfl (Zy hb2)) rfl rfl
   | 20, _ =>
    intro val fl w1 a hb ha hd hfl;obtain ⟨hgb, hz0_⟩ := hb;have e19 : val 19 = _ := hd 19 (ZA.1 rfl);have ha := ha.s1 (d := 50) rfl e19
    exact ZB ha rfl rfl (QAj rfl rfl (by decide) rfl) rfl rfl
   | 21, _ =>
    intro val fl w1 a hb ha hd hfl;obtain ⟨hgb, hz0_⟩ := hb;have e16 : val 16 = _ := hd 16 (ZA.1 rfl);have e20 : val 20 = _ := hd 20 (ZA.1 rfl);have ha := ha.s2 (d := 51) (e := 47) rfl e20 rfl e16
    exact ZB ha rfl rfl (Z9 rfl rfl (c := l.turn - b2.tmod 30) (IntWalk.i64_in (l.turn - b2.tmod 30) ⟨by omega, by omega⟩)) rfl rfl
   | 22, _ =>
    intro val fl w1 a hb ha hd hfl;obtain ⟨hgb, hz0_⟩ := hb;have e21 : val 21 = _ := hd 21 (ZA.1 rfl);have ha := ha.s1 (d := 52) rfl e21
    exact ZB ha rfl rfl (QEF rfl rfl (show max 0 (l.turn - b2.tmod 30) = max 0 (l.turn - b2.tmod 30) from rfl)) rfl rfl
   | 23, _ =>
    intro val fl w1 a hb ha hd hfl;obtain ⟨hgb, hz0_⟩ := hb;have ha := ha.s0 (d := 12) rfl
    exact ZB ha rfl rfl (Yv rfl) rfl rfl
   | 24, _ =>
    exact absurd (by simp) hs_
   | 25, _ =>
    intro val fl w1 a hb ha hd hfl;obtain ⟨hgb, hz0_⟩ := hb;have ha := ha.s0 (d := 12) rfl
    exact ZB ha rfl rfl (QAb rfl) rfl rfl
   | 26, _ =>
    exact absurd (by simp) hs_
   | 27, _ =>
    intro val fl w1 a hb ha hd hfl;obtain ⟨hgb, hz0_⟩ := hb;have ha := ha.s0 (d := 12) rfl
    exact ZB ha rfl rfl (Ye rfl) rfl rfl
   | 28, _ =>
    exact absurd (by simp) hs_
   | k + 29, h => exact absurd h (by omega)
  ·simp only [List.mem_cons, List.not_mem_nil, or_false] at hi_
   rcases hi_ with rfl | rfl | rfl
   ·
    intro val fl w1 a hb hfi ha hd hfl;obtain ⟨hgb, hz0_⟩ := hb;have e23 : val 23 = _ := hd 23 (ZA.1 rfl);have e6 : val 6 = _ := hd 6 (ZA.1 rfl);have ha := ha.s2 (d := 37) (e := 54) rfl e6 rfl e23;refine ZZ ha rfl rfl rfl (hz0_ hfi) sz_3 rfl rfl rfl rfl ?_;intro w' hq hgr;refine ⟨undef, rfl, hgr.size, ⟨Z6 hgb hgr, fun h => by rw [ZQ] at h; cases h⟩, ⟨ZQ, fun _ => hq⟩, fun j _ hj hn hA => ?_⟩
    exact ZF (C := fun j => j ≠ 24 ∧ 24 ∉ clsAt [[], [0], [], [2], [2, 3], [2, 3, 4], [0, 1, 2, 3, 4, 5], [], [7], [], [9], [9, 10], [9, 10, 11], [7, 8, 9, 10, 11, 12], [7, 8, 9, 10, 11, 12, 13], [], [15], [], [17], [17, 18], [17, 18, 19], [15, 16, 17, 18, 19, 20], [15, 16, 17, 18, 19, 20, 21], [0, 1, 2, 3, 4, 5, 6], [0, 1, 2, 3, 4, 5, 6, 23], [0, 1, 2, 3, 4, 5, 6, 7, 8, 9, 10, 11, 12, 13, 14, 23, 24], [0, 1, 2, 3, 4, 5, 6, 7, 8, 9, 10, 11, 12, 13, 14, 23, 24, 25], [0, 1, 2, 3, 4, 5, 6, 7, 8, 9, 10, 11, 12, 13, 14, 15, 16, 17, 18, 19, 20, 21, 22, 23, 24, 25, 26], [0, 1, 2, 3, 4, 5, 6, 7, 8, 9, 10, 11, 12, 13, 14, 15, 16, 17, 18, 19, 20, 21, 22, 23, 24, 25, 26, 27]] j) (fun hc => absurd rfl hc.1) (ZF (fun hc => absurd (ZA.1 rfl) hc.2) (ZF (fun hc => absurd (ZA.1 rfl) hc.2) (fun _ _ h => h))) j ⟨hj, hn⟩
   ·
    intro val fl w1 a hb hfi ha hd hfl;obtain ⟨hgb, hz0_⟩ := hb;have e25 : val 25 = _ := hd 25 (ZA.1 rfl);have e14 : val 14 = _ := hd 14 (ZA.1 rfl);have ha := ha.s2 (d := 45) (e := 55) rfl e14 rfl e25;obtain ⟨ht0_, hp0_⟩ := hd 24 (ZA.1 rfl);refine ZZ ha rfl rfl rfl (hp0_ hfi) sz_3 rfl rfl rfl rfl ?_;intro w' hq hgr;refine ⟨undef, rfl, hgr.size, ⟨Z6 hgb hgr, fun h => by rw [Zp rfl, ht0_] at h; cases h⟩, ⟨ZQ, fun _ => hq⟩, fun j _ hj hn hA => ?_⟩
    exact ZF (C := fun j => j ≠ 26 ∧ 26 ∉ clsAt [[], [0], [], [2], [2, 3], [2, 3, 4], [0, 1, 2, 3, 4, 5], [], [7], [], [9], [9, 10], [9, 10, 11], [7, 8, 9, 10, 11, 12], [7, 8, 9, 10, 11, 12, 13], [], [15], [], [17], [17, 18], [17, 18, 19], [15, 16, 17, 18, 19, 20], [15, 16, 17, 18, 19, 20, 21], [0, 1, 2, 3, 4, 5, 6], [0, 1, 2, 3, 4, 5, 6, 23], [0, 1, 2, 3, 4, 5, 6, 7, 8, 9, 10, 11, 12, 13, 14, 23, 24], [0, 1, 2, 3, 4, 5, 6, 7, 8, 9, 10, 11, 12, 13, 14, 23, 24, 25], [0, 1, 2, 3, 4, 5, 6, 7, 8, 9, 10, 11, 12, 13, 14, 15, 16, 17, 18, 19, 20, 21, 22, 23, 24, 25, 26], [0, 1, 2, 3, 4, 5, 6, 7, 8, 9, 10, 11, 12, 13, 14, 15, 16, 17, 18, 19, 20, 21, 22, 23, 24, 25, 26, 27]] j) (fun _ ⟨h1, _⟩ => ⟨by rw [Zp rfl]; exact h1, fun h => by rw [ZQ] at h; cases h⟩) (ZF (fun hc => absurd rfl hc.1) (ZF (fun hc => absurd (ZA.1 rfl) hc.2) (fun _ _ h => h))) j ⟨hj, hn⟩
   ·
    intro val fl w1 a hb hfi ha hd hfl;obtain ⟨hgb, hz0_⟩ := hb;have e27 : val 27 = _ := hd 27 (ZA.1 rfl);have e22 : val 22 = _ := hd 22 (ZA.1 rfl);have ha := ha.s2 (d := 53) (e := 56) rfl e22 rfl e27;obtain ⟨ht0_, hp0_⟩ := hd 24 (ZA.1 rfl);obtain ⟨ht1_, hp1_⟩ := hd 26 (ZA.1 rfl);refine ZZ ha rfl rfl rfl (hp1_ hfi) sz_3 rfl rfl rfl rfl ?_;intro w' hq hgr;refine ⟨undef, rfl, hgr.size, ⟨Z6 hgb hgr, fun h => by rw [Zp rfl, ht0_] at h; cases h⟩, ⟨ZQ, hq⟩, fun j _ hj hn hA => ?_⟩
    exact ZF (C := fun j => j ≠ 28 ∧ 28 ∉ clsAt [[], [0], [], [2], [2, 3], [2, 3, 4], [0, 1, 2, 3, 4, 5], [], [7], [], [9], [9, 10], [9, 10, 11], [7, 8, 9, 10, 11, 12], [7, 8, 9, 10, 11, 12, 13], [], [15], [], [17], [17, 18], [17, 18, 19], [15, 16, 17, 18, 19, 20], [15, 16, 17, 18, 19, 20, 21], [0, 1, 2, 3, 4, 5, 6], [0, 1, 2, 3, 4, 5, 6, 23], [0, 1, 2, 3, 4, 5, 6, 7, 8, 9, 10, 11, 12, 13, 14, 23, 24], [0, 1, 2, 3, 4, 5, 6, 7, 8, 9, 10, 11, 12, 13, 14, 23, 24, 25], [0, 1, 2, 3, 4, 5, 6, 7, 8, 9, 10, 11, 12, 13, 14, 15, 16, 17, 18, 19, 20, 21, 22, 23, 24, 25, 26], [0, 1, 2, 3, 4, 5, 6, 7, 8, 9, 10, 11, 12, 13, 14, 15, 16, 17, 18, 19, 20, 21, 22, 23, 24, 25, 26, 27]] j) (fun _ ⟨h1, _⟩ => ⟨by rw [Zp rfl]; exact h1, fun h => by rw [Zp rfl, ht1_] at h; cases h⟩) (ZF (fun _ ⟨h1, _⟩ => ⟨by rw [Zp rfl]; exact h1, fun h => by rw [ZQ] at h; cases h⟩) (ZF (fun hc => absurd rfl hc.1) (fun _ _ h => h))) j ⟨hj, hn⟩
  ·intro val fl wR5 hfl hb halc hd
   obtain ⟨hgb, _⟩ := hb;have hz_ := (hd 28 (by omega)).2
   change Blk wR5 g6 23 #[.int .i64 (l.length + b0.tmod 60), .int .i64 (max 1 (l.cycle - b1.tmod 30)), .int .i64 (max 0 (l.turn - b2.tmod 30)), .int .i64 l.fill, .int .i64 l.save, .bool l.high] at hz_;have e0 : val 0 = _ := hd 0 (by omega)
   have e1 : val 1 = _ := hd 1 (by omega)
   have e2 : val 2 = _ := hd 2 (by omega)
   have e3 : val 3 = _ := hd 3 (by omega)
   have e4 : val 4 = _ := hd 4 (by omega)
   have e5 : val 5 = _ := hd 5 (by omega)
   have e6 : val 6 = _ := hd 6 (by omega)
   have e7 : val 7 = _ := hd 7 (by omega)
   have e8 : val 8 = _ := hd 8 (by omega)
   have e9 : val 9 = _ := hd 9 (by omega)
   have e10 : val 10 = _ := hd 10 (by omega)
   have e11 : val 11 = _ := hd 11 (by omega)
   have e12 : val 12 = _ := hd 12 (by omega)
   have e13 : val 13 = _ := hd 13 (by omega)
   have e14 : val 14 = _ := hd 14 (by omega)
   have e15 : val 15 = _ := hd 15 (by omega)
   have e16 : val 16 = _ := hd 16 (by omega)
   have e17 : val 17 = _ := hd 17 (by omega)
   have e18 : val 18 = _ := hd 18 (by omega)
   have e19 : val 19 = _ := hd 19 (by omega)
   have e20 : val 20 = _ := hd 20 (by omega)
   have e21 : val 21 = _ := hd 21 (by omega)
   have e22 : val 22 = _ := hd 22 (by omega)
   have e23 : val 23 = _ := hd 23 (by omega)
   have e25 : val 25 = _ := hd 25 (by omega)
   have e27 : val 27 = _ := hd 27 (by omega)
   refine EL.ends (cs := [_, _, _, _, _, _, _, _, _, _, _, _, _, _, _, _, _, _, _, _, _, _, _, _, val 24, _, val 26, _, val 28]) ⟨e0, e1, e2, e3, e4, e5, e6, e7, e8, e9, e10, e11, e12, e13, e14, e15, e16, e17, e18, e19, e20, e21, e22, e23, rfl, e25, rfl, e27, rfl, trivial⟩ rfl ?_;replace q1 := q1.gr hgb n1_6;replace q2 := q2.gr hgb n2_6;replace q4 := q4.gr hgb n4_6;replace htw := ZJ htw q6 rfl hgb;replace hbw := ZE hbw hgb bhbw_6;replace q6 := hz_;clear hgb hz_;refine EL.nil (EX.seq (EC.seq ?_));have hsz := hbw.size;have lt_1 := q1.lt;have lt_2 := q2.lt;have lt_4 := q4.lt;have lt_6 := q6.lt;refine EC.regionP [[], [], [1], [0, 1, 2], [0, 1, 2, 3], [0, 1, 2, 3, 4], [0, 1, 2, 3, 4], [0, 1, 2, 3, 4], [0, 1, 2, 3, 4, 5], [0, 1, 2, 3, 4, 5, 6, 8], [0, 1, 2, 3, 4, 5, 6, 7, 8, 9]] 11 [] (phi (fun i_ r => match i_ with | 0 => r 0 = .agg #[.int .i64 (l.length + b0.tmod 60), .int .i64 (max 1 (l.cycle - b1.tmod 30)), .int .i64 (max 0 (l.turn - b2.tmod 30)), .int .i64 l.fill, .int .i64 l.save, .bool l.high] | 1 => r 1 = .slice Aw ts.length cw | 6 => r 6 = .int .i64 b2_.s.cost | 7 => r 7 = .int .i64 0 | 9 => r 9 = .int .i64 b2_.s.cost | 10 => r 10 = .int .i64 0 | _ => True) [(2, fun r w_ => ∃ A_ c_, r 2 = .slice A_ ts.length c_ ∧ w_.ownsRow wR5.heap.size 39 5 (.slice A_ ts.length c_) ts.length (twsC ts)), (3, fun r w_ => ∃ A_ c_, r 3 = .tuple #[.slice A_ b2_.plan.length c_, .int .i64 b2_.s.cost, .int .i64 0] ∧ w_.ownsRow wR5.heap.size 87 2 (.slice A_ b2_.plan.length c_) b2_.plan.length (spsC b2_.plan)), (4, fun r w_ => ∃ A_ c_, r 4 = .tuple #[.slice A_ b2_.plan.length c_, .int .i64 b2_.s.cost, .int .i64 0] ∧ w_.ownsRow wR5.heap.size 87 2 (.slice A_ b2_.plan.length c_) b2_.plan.length (spsC b2_.plan)), (5, fun r w_ => ∃ A_ c_, r 5 = .slice A_ b2_.plan.length c_ ∧ w_.ownsRow wR5.heap.size 87 2 (.slice A_ b2_.plan.length c_) b2_.plan.length (spsC b2_.plan)), (8, fun r w_ => ∃ A_ c_, r 8 = .slice A_ b2_.plan.length c_ ∧ w_.ownsRow wR5.heap.size 87 2 (.slice A_ b2_.plan.length c_) b2_.plan.length (spsC b2_.plan))]) (by kernel_rfl) rfl rfl (Zq YH (Zq YH (Zq YH (Zq YH (Zq YH (YN)))))) (fun i_ hi_ => ?_) ?_
   ·match i_, hi_ with
    | 0, _ =>
     intro val w1 a hb ha hd;have ha := ha.s0 (d := 12) rfl
     exact ZG ha rfl rfl (QAZ rfl ((q6.below hb q6.lt).at (j := 0) rfl) ((q6.below hb q6.lt).at (j := 1) rfl) ((q6.below hb q6.lt).at (j := 2) rfl) ((q6.below hb q6.lt).at (j := 3) rfl) ((q6.below hb q6.lt).at (j := 4) rfl) ((q6.below hb q6.lt).at (j := 5) rfl)) rfl rfl
    | 1, _ =>
     intro val w1 a hb ha hd;have ha := ha.s0 (d := 8) rfl
     exact ZG ha rfl rfl (x_move rfl) rfl rfl
    | 2, _ =>
     intro val w1 a hb ha hd;have e1 : val 1 = _ := hd 1 (ZA.1 rfl);have ha := ha.s1 (d := 59) rfl e1;refine YW ha rfl rfl (cA1 cF13 rfl) (QC9 ((Rd.of_own htw).below hb) hb.size (by omega)) rfl ?_
     rintro e w' ⟨⟨v, rfl, p1⟩, hb'⟩
     obtain ⟨A1, c1, rfl, _⟩ := (Rd.of_own p1).shape
     exact ⟨_, rfl, hb', A1, c1, rfl, QAt p1 hb.size⟩
    | 3, _ =>
     intro val w1 a hb ha hd;have e0 : val 0 = _ := hd 0 (ZA.1 rfl);obtain ⟨A2_, c2_, e2, o2_⟩ := hd 2 (ZA.1 rfl);have ha := ha.s2 (d := 60) (e := 58) rfl e2 rfl e0;refine YW ha rfl rfl (cA2 cF23 rfl rfl) (QGE (l := betS l b0 b1 b2) hbp2 (Rd.of_own o2_) (Nat.le_refl _)) rfl ?_
     rintro e w' ⟨sl, rfl, p1, hb'⟩
     obtain ⟨A1, c1, rfl, _⟩ := (Rd.of_own p1).shape
     exact ⟨_, rfl, hb', A1, c1, rfl, QAt p1 hb.size⟩
    | 4, _ =>
     intro val w1 a hb ha hd;obtain ⟨A3_, c3_, e3, o3_⟩ := hd 3 (ZA.1 rfl);have ha := ha.s1 (d := 61) rfl e3
     exact ZG ha rfl rfl (x_move rfl) ⟨A3_, c3_, rfl, o3_⟩ rfl
    | 5, _ =>
     intro val w1 a hb ha hd;obtain ⟨A4_, c4_, e4, o4_⟩ := hd 4 (ZA.1 rfl);have ha := ha.s1 (d := 57) rfl e4
     exact ZG ha rfl rfl (ZO (v := .slice A4_ b2_.plan.length c4_) rfl rfl) ⟨A4_, c4_, rfl, o4_⟩ rfl
    | 6, _ =>
     intro val w1 a hb ha hd;obtain ⟨A4_, c4_, e4, o4_⟩ := hd 4 (ZA.1 rfl);have ha := ha.s1 (d := 57) rfl e4
     exact ZG ha rfl rfl (ZO (v := .int .i64 b2_.s.cost) rfl rfl) rfl rfl
    | 7, _ =>
     intro val w1 a hb ha hd;obtain ⟨A4_, c4_, e4, o4_⟩ := hd 4 (ZA.1 rfl);have ha := ha.s1 (d := 57) rfl e4
     exact ZG ha rfl rfl (ZO (v := .int .i64 0) rfl rfl) rfl rfl
    | 8, _ =>
     intro val w1 a hb ha hd;obtain ⟨A5_, c5_, e5, o5_⟩ := hd 5 (ZA.1 rfl);have ha := ha.s1 (d := 62) rfl e5
     exact ZG ha rfl rfl (ZY rfl) ⟨A5_, c5_, rfl, o5_⟩ rfl
    | 9, _ =>
     intro val w1 a hb ha hd;have e6 : val 6 = _ := hd 6 (ZA.1 rfl);have ha := ha.s1 (d := 63) rfl e6
     exact ZG ha rfl rfl (ZY rfl) rfl rfl
    | 10, _ =>
     intro val w1 a hb ha hd;have e7 : val 7 = _ := hd 7 (ZA.1 rfl);have ha := ha.s1 (d := 64) rfl e7
     exact ZG ha rfl rfl (ZY rfl) rfl rfl
    | k + 11, h => exact absurd h (by omega)
   ·intro val wR6 hb halc hd
    have e0 : val 0 = _ := hd 0 (by omega)
    have e1 : val 1 = _ := hd 1 (by omega)
    obtain ⟨A2_, c2_, e2, o2_⟩ := hd 2 (by omega)
    obtain ⟨A3_, c3_, e3, o3_⟩ := hd 3 (by omega)
    obtain ⟨A4_, c4_, e4, o4_⟩ := hd 4 (by omega)
    obtain ⟨A5_, c5_, e5, o5_⟩ := hd 5 (by omega)
    have e6 : val 6 = _ := hd 6 (by omega)
    have e7 : val 7 = _ := hd 7 (by omega)
    obtain ⟨A8_, c8_, e8, o8_⟩ := hd 8 (by omega)
    have e9 : val 9 = _ := hd 9 (by omega)
    have e10 : val 10 = _ := hd 10 (by omega)
    refine EL.ends (cs := [_, _, _, _, _, _, _, _, _, _, _]) ⟨e0, e1, e2, e3, e4, e5, e6, e7, e8, e9, e10, trivial⟩ rfl ?_;replace q1 := q1.bl hb;replace q2 := q2.bl hb;replace q4 := q4.bl hb;replace q6 := q6.bl hb;replace htw := ZD htw hb (Nat.le_refl _);replace hbw := bo_ hbw hb;clear hb;refine EL.nil (EX.seq (EC.seq (EC.seq (EC.region (EL.mv rfl rfl ?_)))));refine EL.val (Zt (r := false) rfl rfl (decide_eq_false (by decide))) rfl ?_
    refine EL.mv rfl rfl (EL.mg rfl rfl rfl rfl ?_);refine EL.valg rfl rfl (Zt (r := false) rfl rfl (decide_eq_false (by decide))) rfl ?_
    refine EL.pf rfl rfl rfl (EL.mv rfl rfl (EL.mg rfl rfl rfl rfl (EL.mg rfl rfl rfl rfl ?_)));refine EL.valg rfl rfl (Zz (r := false) rfl rfl (decide_eq_false (by omega))) rfl ?_
    refine EL.pf rfl rfl rfl (EL.mv rfl rfl (EL.mg rfl rfl rfl rfl ?_));refine EL.valg rfl rfl (ZT (r := false) rfl rfl (decide_eq_false (by omega))) rfl ?_
    refine EL.pf rfl rfl rfl (EL.nil (EX.seq (EC.no rfl (EC.skip (EX.seq (EC.seq (EC.seq (EC.region (EL.mv rfl rfl ?_)))))))));refine EL.val (YR rfl) rfl ?_
    by_cases hz : ts.length = 0
    ·
     refine EL.val (YZ (r := true) rfl rfl (decide_eq_true (by omega))) rfl ?_
     refine EL.nil (EX.seq (EC.yes rfl (EC.seq (EC.region (EL.call (cA0 cF12) rfl (QDA _) ?_)))))
     rintro e w8 ⟨rfl, hc8⟩
     refine ⟨_, rfl, ?_⟩;replace q1 := q1.bl hc8;replace q2 := q2.bl hc8;replace q4 := q4.bl hc8;replace q6 := q6.bl hc8;replace htw := ZD htw hc8 (Nat.le_refl _);replace hbw := bo_ hbw hc8;clear hc8;refine EL.as rfl rfl (EL.nil (EX.seq (EC.ret (EX.seq_ret ?_))))
     exact EX.done (res1 rfl rfl) ⟨rfl, hbw⟩
    ·
     refine EL.val (YZ (r := false) rfl rfl (decide_eq_false (by omega))) rfl ?_
     refine EL.nil (EX.seq (EC.no rfl (EC.skip (EX.seq (EC.seq (EC.region (EL.mv rfl rfl (EL.val (Yw rfl (Zy ho)) rfl (EL.mv rfl rfl ?_)))))))));refine EL.val (YR rfl) rfl ?_;refine EL.val (QAj rfl rfl (by omega) (c := ((o.toNat % ts.length : Nat) : Int)) (QJR ho)) rfl ?_
     refine EL.as rfl rfl (EL.nil (EX.seq (EC.seq ?_)));obtain ⟨kk, hkk⟩ : ∃ z, z = o.toNat % ts.length := ⟨_, rfl⟩;rw [← hkk];have hkl : kk < ts.length := by rw [hkk]; exact Nat.mod_lt _ (by omega)
     obtain ⟨bA, oA, rfl, _⟩ := (Rd.of_own htw).at_ (by omega)
     have hlc := QIw (Rd.of_own htw);obtain ⟨b3, hbp3, hb3⟩ := QKH (l := l) hlk htwB hts8 harr hbk hbc hkl;have hsz := hbw.size;have hbT := Below.refl wR6.heap.size wR6;have lt_1 := q1.lt;have lt_2 := q2.lt;have lt_4 := q4.lt;have lt_6 := q6.lt;refine EC.regionP [[], [], [0, 1], [0, 1, 2], [], [], [5], [4, 5, 6], [0, 1, 2, 3, 4, 5, 6, 7], [0, 1, 2, 3, 4, 5, 6, 7, 8]] 8 [] (phi (fun i_ r => match i_ with | 0 => r 0 = .slice (some ⟨bA, oA, none⟩) ts.length cw | 1 => r 1 = .int .i64 (kk : Nat) | 2 => r 2 = .slice (some ⟨bA, oA, none⟩) kk cw | 4 => r 4 = .slice (some ⟨bA, oA, none⟩) ts.length cw | 5 => r 5 = .int .i64 (kk : Nat) | 6 => r 6 = .int .i64 ((kk + 1) : Nat) | 7 => r 7 = .slice (QBd (some ⟨bA, oA, none⟩) cw (kk + 1)) (ts.length - (kk + 1)) (cw - (kk + 1)) | _ => True) [(3, fun r w_ => ∃ A_ c_, r 3 = .slice A_ kk c_ ∧ w_.ownsRow wR6.heap.size 39 5 (.slice A_ kk c_) kk (twsC (ts.take kk)))]) (by kernel_rfl) rfl rfl (Zq YH (YN)) (fun i_ hi_ => ?_) ?_
     ·match i_, hi_ with
      | 0, _ =>
       intro val w1 a hb ha hd;have ha := ha.s0 (d := 8) rfl
       exact ZG ha rfl rfl (x_move rfl) rfl rfl
      | 1, _ =>
       intro val w1 a hb ha hd;have ha := ha.s0 (d := 16) rfl
       exact ZG ha rfl rfl (x_move rfl) rfl rfl
      | 2, _ =>
       intro val w1 a hb ha hd;have e0 : val 0 = _ := hd 0 (ZA.1 rfl);have e1 : val 1 = _ := hd 1 (ZA.1 rfl);have ha := ha.s2 (d := 90) (e := 89) rfl e1 rfl e0
       exact ZG ha rfl rfl (QD2 (hi := kk) rfl rfl (by omega)) rfl rfl
      | 3, _ =>
       intro val w1 a hb ha hd;have e2 : val 2 = _ := hd 2 (ZA.1 rfl);have ha := ha.s1 (d := 91) rfl e2;have hpre := Yp (Rd.of_own htw) (Nat.le_of_lt hkl);rw [← YU] at hpre;refine YW ha rfl rfl (cA1 cF13 rfl) (QHS hkl (hpre.below hb) hb.size (by omega)) rfl ?_
       rintro e w' ⟨⟨v, rfl, p1⟩, hb'⟩
       obtain ⟨A1, c1, rfl, _⟩ := (Rd.of_own p1).shape
       exact ⟨_, rfl, hb', A1, c1, rfl, QAt p1 hb.size⟩
      | 4, _ =>
       intro val w1 a hb ha hd;have ha := ha.s0 (d := 8) rfl
       exact ZG ha rfl rfl (x_move rfl) rfl rfl
      | 5, _ =>
       intro val w1 a hb ha hd;have ha := ha.s0 (d := 16) rfl
       exact ZG ha rfl rfl (x_move rfl) rfl rfl
      | 6, _ =>
       intro val w1 a hb ha hd;have e5 : val 5 = _ := hd 5 (ZA.1 rfl);have ha := ha.s1 (d := 94) rfl e5
       exact ZG ha rfl rfl (ZS rfl rfl (c := ((kk + 1 : Nat) : Int)) ((IntWalk.i64_in _ ⟨by first | omega | (simp only; omega), by first | omega | (simp only; omega)⟩).trans (by first | omega | (simp only; omega)))) rfl rfl
      | 7, _ =>
       intro val w1 a hb ha hd;have e4 : val 4 = _ := hd 4 (ZA.1 rfl);have e6 : val 6 = _ := hd 6 (ZA.1 rfl);have ha := ha.s2 (d := 95) (e := 93) rfl e6 rfl e4
       exact ZG ha rfl rfl (QJm (lo := kk + 1) rfl rfl (by omega) rfl) rfl rfl
      | k + 8, h => exact absurd h (by omega)
     ·intro val wR12 hb halc hd
      have e0 : val 0 = _ := hd 0 (by omega)
      have e1 : val 1 = _ := hd 1 (by omega)
      have e2 : val 2 = _ := hd 2 (by omega)
      obtain ⟨A3_, c3_, e3, o3_⟩ := hd 3 (by omega)
      have e4 : val 4 = _ := hd 4 (by omega)
      have e5 : val 5 = _ := hd 5 (by omega)
      have e6 : val 6 = _ := hd 6 (by omega)
      have e7 : val 7 = _ := hd 7 (by omega)
      refine EL.ends (cs := [_, _, _, _, _, _, _, _]) ⟨e0, e1, e2, e3, e4, e5, e6, e7, trivial⟩ rfl ?_;replace q1 := q1.bl hb;replace q2 := q2.bl hb;replace q4 := q4.bl hb;replace q6 := q6.bl hb;replace htw := ZD htw hb (Nat.le_refl _);replace hbw := bo_ hbw hb;replace hbT := bo_ hbT hb;clear hb;have hsz3 := hbT.size;have hsz0 : w.heap.size ≤ wR6.heap.size := hsz;refine EL.push QBU rfl rfl o3_ (QMb (Rd.of_own htw) (by omega)) (twsC_one _) (by omega) rfl hsz3 rfl ?_
      intro v9 w9 ho9 hgr hb_ hat;replace q1 := ZL q1 o3_ rfl hgr;replace q2 := ZL q2 o3_ rfl hgr;replace q4 := ZL q4 o3_ rfl hgr;replace q6 := ZL q6 o3_ rfl hgr;have hbn := hb_;replace hbw := hbw.trans (hbn.mono hsz0);clear hgr hb_ hat o3_ htw hbn;rw [← QCU] at ho9;have hlf : kk + (ts.length - (kk + 1)) = (ts.take kk ++ ts.drop (kk + 1)).length := by rw [List.length_append, List.length_take, List.length_drop]; omega
      rw [hlf] at ho9;obtain ⟨A9, c9, rfl, _⟩ := (Rd.of_own ho9).shape;clear hbT;refine EL.as rfl rfl (EL.nil (EX.seq (EC.seq (EC.region (EL.val (QAZ rfl (q4.at (j := 0) rfl) (q4.at (j := 1) rfl) (q4.at (j := 2) rfl) (q4.at (j := 3) rfl) (q4.at (j := 4) rfl) (q4.at (j := 5) rfl)) rfl (EL.mv rfl rfl (EL.call (cA2 cF23 rfl rfl) rfl (QGE hbp3 (Rd.of_own ho9) (Nat.le_refl _)) ?_)))))))
      rintro e wr ⟨sl, rfl, hp3, hcr⟩
      refine ⟨_, rfl, ?_⟩;replace q1 := q1.bl hcr;replace q2 := q2.bl hcr;replace q4 := q4.bl hcr;replace q6 := q6.bl hcr;replace ho9 := ZD ho9 hcr (Nat.le_refl _);replace hbw := bo_ hbw hcr;clear hcr;obtain ⟨A7, c7, rfl, _⟩ := (Rd.of_own hp3).shape;refine EL.mv rfl rfl (EL.val (ZO (v := .slice A7 b3.plan.length c7) rfl rfl) rfl (EL.val (ZO (v := .int .i64 b3.s.cost) rfl rfl) rfl (EL.val (ZO (v := .int .i64 0) rfl rfl) rfl (EL.as rfl rfl (EL.as rfl rfl (EL.nil (EX.seq (EC.seq (EC.region ?_)))))))));refine EL.mv rfl rfl (EL.val (YZ (r := true) rfl rfl (decide_eq_true rfl)) rfl (EL.mv rfl rfl (EL.mg rfl rfl rfl rfl (EL.mg rfl rfl rfl rfl ?_))))
      by_cases hle : b3.s.cost ≤ b.s.cost
      ·
       refine EL.valg rfl rfl (QGF (r := true) rfl rfl (decide_eq_true hle)) rfl (EL.mg rfl rfl rfl rfl (EL.skip rfl rfl rfl rfl (EL.skip rfl rfl rfl rfl (EL.skip rfl rfl rfl rfl (EL.skip rfl rfl rfl rfl (EL.skip rfl rfl rfl rfl (EL.valg rfl rfl (Yn rfl rfl) rfl (EL.pt rfl rfl rfl (EL.mv rfl rfl ?_)))))))));refine EL.callg rfl rfl (cA0 cF12) rfl (QDA _) ?_
       rintro e w9 ⟨rfl, hc9⟩
       refine ⟨_, rfl, ?_⟩;replace q1 := q1.bl hc9;replace q2 := q2.bl hc9;replace q4 := q4.bl hc9;replace q6 := q6.bl hc9;replace ho9 := ZD ho9 hc9 (Nat.le_refl _);replace hbw := bo_ hbw hc9;clear hc9;refine EL.pt rfl rfl rfl (EL.as rfl rfl (EL.nil (EX.seq (EC.ret ?_))))
       exact EX.done (res1 rfl rfl) ⟨rfl, hbw⟩
      ·
       refine EL.valg rfl rfl (QGF (r := false) rfl rfl (decide_eq_false hle)) rfl (EL.mg rfl rfl rfl rfl (EL.valg rfl rfl (Ye rfl) rfl (EL.valg rfl rfl (ld_3 rfl (q4.at (j := 2) rfl)) rfl (EL.valg rfl rfl (QAb rfl) rfl (EL.valg rfl rfl (ld_3 rfl (q4.at (j := 1) rfl)) rfl ?_)))));refine EL.valg rfl rfl (Zz (r := true) rfl rfl (decide_eq_true (by have := hb3; omega))) rfl ?_
       refine EL.valg rfl rfl (QAM rfl rfl) rfl (EL.pt rfl rfl rfl (EL.mv rfl rfl (EL.callg rfl rfl (cA0 cF12) rfl (QDA _) ?_)))
       rintro e w10 ⟨rfl, hc10⟩
       refine ⟨_, rfl, ?_⟩;replace q1 := q1.bl hc10;replace q2 := q2.bl hc10;replace q4 := q4.bl hc10;replace q6 := q6.bl hc10;replace ho9 := ZD ho9 hc10 (Nat.le_refl _);replace hbw := bo_ hbw hc10;clear hc10;refine EL.pt rfl rfl rfl (EL.as rfl rfl (EL.nil (EX.seq (EC.ret ?_))))
       exact EX.done (res1 rfl rfl) ⟨rfl, hbw⟩
end Go.Proofs.Ytlbfnimilcnihaa
