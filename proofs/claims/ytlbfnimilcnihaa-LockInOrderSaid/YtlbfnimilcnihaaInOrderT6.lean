/- ExX33, X33, ExX34, X34, LkWater, ExX35, X35, LkOrder, X36: what LockInOrderProof needs of them (merged by trimpack.py). -/
import Derived.Test.YtlbfnimilcnihaaInOrderT5
set_option linter.unusedVariables false
set_option linter.unusedSimpArgs false
namespace Go.Proofs.Ytlbfnimilcnihaa
open Go Go.RowKit
section
variable {n : Nat} {σ : Sg} {w : World} {dst : Option Tmp} {ty : TypeId} {pos : String} {af : Array Edge} {g : Option (Nat × Bool)} {x y z : Operand} {at' : Array TypeId}
theorem QAO {m : Int} (hx : evS σ x = some (.int .u8 m)) (hm : IntKind.i64.wrap m = m) : ZJ Try.prog n σ w ⟨dst, .convert 5 3 x, ty, pos, af, g⟩ (.int .i64 m) := fun a ha => by
 simp only [execOp, ha.eval hx]
 simp [go_sem, hm]
theorem QIZ {v0 v1 v2 v3 v4 v5 v6 v7 : Value} (hx : evS σ x = some (.agg #[v0, v1, v2, v3, v4, v5, v6, v7])) (a : Act) (ha : Env n σ a) : (execOp a.eval ⟨dst, .box 82 x, ty, pos, af, g⟩).run Try.prog w = .ok (.value (.pointer (some ⟨w.heap.size, 0, none⟩))) (w.alloc (.cells #[v0, v1, v2, v3, v4, v5, v6, v7] 82)) := by
 simp only [execOp, ha.eval hx]
 simp [go_sem]
theorem QCw {b o : Nat} (hx : evS σ x = some (.pointer (some ⟨b, o, none⟩))) : ZJ Try.prog n σ w ⟨dst, .fieldAddr 82 x 0, ty, pos, af, g⟩ (.pointer (some ⟨b, o, none⟩)) := fun a ha => by
 simp only [execOp, ha.eval hx]
 simp [go_sem]
theorem QAA {b o k : Nat} (hx : evS σ x = some (.pointer (some ⟨b, o, none⟩))) (hy : evS σ y = some (.int .i64 (k : Int))) (hk : k < 5) : ZJ Try.prog n σ w ⟨dst, .indexAddr 78 x y, ty, pos, af, g⟩ (.pointer (some ⟨b, o + k, none⟩)) := fun a ha => by
 have k0 : (0 : Int) ≤ (k : Int) := Int.natCast_nonneg _;have k1 : (k : Int) < 5 := by omega
 simp only [execOp, ha.eval hx, ha.eval hy]
 simp [go_sem, k0, k1]
theorem ld_5 {b o : Nat} {v0 : Value} (hx : evS σ x = some (.pointer (some ⟨b, o, none⟩))) (c0 : w.cell? ⟨b, o, none⟩ = some v0) : ZJ Try.prog n σ w ⟨dst, .load 5 x, ty, pos, af, g⟩ (v0) := fun a ha => by
 simp only [execOp, ha.eval hx]
 simp [go_sem, c0]
theorem QLk {b o : Nat} (hx : evS σ x = some (.pointer (some ⟨b, o, none⟩))) : ZJ Try.prog n σ w ⟨dst, .fieldAddr 82 x 1, ty, pos, af, g⟩ (.pointer (some ⟨b, o + 5, none⟩)) := fun a ha => by
 simp only [execOp, ha.eval hx]
 simp [go_sem]
theorem QC7 {x0 x1 x2 x3 x4 x5 : Operand} {z0 : Int} {z1 : Int} {z2 : Int} {z3 : Int} {z4 : Int} {b5 : Bool} (h0 : evS σ x0 = some (.int .i64 z0)) (h1 : evS σ x1 = some (.int .i64 z1)) (h2 : evS σ x2 = some (.int .i64 z2)) (h3 : evS σ x3 = some (.int .i64 z3)) (h4 : evS σ x4 = some (.int .i64 z4)) (h5 : evS σ x5 = some (.bool b5)) : ZJ Try.prog n σ w ⟨dst, .build 23 #[(0, x0), (1, x1), (2, x2), (3, x3), (4, x4), (5, x5)], ty, pos, af, g⟩ (.agg #[.int .i64 z0, .int .i64 z1, .int .i64 z2, .int .i64 z3, .int .i64 z4, .bool b5]) := fun a ha => by
 simp only [execOp, List.map_toArray, List.map_cons, List.map_nil, ha.eval h0, ha.eval h1, ha.eval h2, ha.eval h3, ha.eval h4, ha.eval h5]
 go_simp
theorem QIE {b o : Nat} {v0 v1 v2 v3 v4 v5 v6 v7 : Value} (hx : evS σ x = some (.pointer (some ⟨b, o, none⟩))) (c0 : w.cell? ⟨b, o, none⟩ = some v0) (c1 : w.cell? ⟨b, o + 1, none⟩ = some v1) (c2 : w.cell? ⟨b, o + 2, none⟩ = some v2) (c3 : w.cell? ⟨b, o + 3, none⟩ = some v3) (c4 : w.cell? ⟨b, o + 4, none⟩ = some v4) (c5 : w.cell? ⟨b, o + 5, none⟩ = some v5) (c6 : w.cell? ⟨b, o + 6, none⟩ = some v6) (c7 : w.cell? ⟨b, o + 7, none⟩ = some v7) : ZJ Try.prog n σ w ⟨dst, .load 82 x, ty, pos, af, g⟩ (.agg #[v0, v1, v2, v3, v4, v5, v6, v7]) := fun a ha => by
 simp only [execOp, ha.eval hx]
 simp [go_sem, c0, c1, c2, c3, c4, c5, c6, c7]
theorem cF31 : cF 31 := fun _ _ => by simp [go_sem]
theorem QNa {b o m c k : Nat} (hx : evS σ x = some (.slice (some ⟨b, o, none⟩) m c)) (hy : evS σ y = some (.int .i64 (k : Int))) (hk : k < m) : ZJ Try.prog n σ w ⟨dst, .indexAddr 79 x y, ty, pos, af, g⟩ (.pointer (some ⟨b, o + k * 5, none⟩)) := fun a ha => by
 have k0 : (0 : Int) ≤ (k : Int) := Int.natCast_nonneg _;have k1 : (k : Int) < (m : Int) := by omega
 simp only [execOp, ha.eval hx, ha.eval hy]
 simp [go_sem, k0, k1]
theorem QJ9 {p q r : Int} (hx : evS σ x = some (.int .i64 p)) (hy : evS σ y = some (.int .i64 q)) (hr : min p q = r) : ZJ Try.prog n σ w ⟨dst, .call { callee := .builtin .min, args := #[x, y], argTypes := at' }, ty, pos, af, g⟩ (.int .i64 r) := fun a ha => by
 simp only [execOp, resolve, List.map_toArray, List.map_cons, List.map_nil, ha.eval hx, ha.eval hy]
 subst hr
 simp [go_sem, Int.min_def]
 split <;> split <;> omega
theorem QDl {b o : Nat} (hx : evS σ x = some (.pointer (some ⟨b, o, none⟩))) : ZJ Try.prog n σ w ⟨dst, .fieldAddr 82 x 2, ty, pos, af, g⟩ (.pointer (some ⟨b, o + 6, none⟩)) := fun a ha => by
 simp only [execOp, ha.eval hx]
 simp [go_sem]
theorem QIG {b o : Nat} {v0 : Value} (hx : evS σ x = some (.pointer (some ⟨b, o, none⟩))) (c0 : w.cell? ⟨b, o, none⟩ = some v0) : ZJ Try.prog n σ w ⟨dst, .load 79 x, ty, pos, af, g⟩ (v0) := fun a ha => by
 simp only [execOp, ha.eval hx]
 simp [go_sem, c0]
theorem QKD {A : Option Addr} {m c : Nat} (hx : evS σ x = some (.slice A m c)) : ZJ Try.prog n σ w ⟨dst, .call { callee := .builtin .len, args := #[x], argTypes := #[79] }, ty, pos, af, g⟩ (.int .i64 (m : Int)) := fun a ha => by
 simp only [execOp, resolve, List.map_toArray, List.map_cons, List.map_nil, ha.eval hx]
 simp [go_sem]
theorem QNX {b o : Nat} {v0 v1 v2 v3 v4 : Value} (hx : evS σ x = some (.pointer (some ⟨b, o, none⟩))) (c0 : w.cell? ⟨b, o, none⟩ = some v0) (c1 : w.cell? ⟨b, o + 1, none⟩ = some v1) (c2 : w.cell? ⟨b, o + 2, none⟩ = some v2) (c3 : w.cell? ⟨b, o + 3, none⟩ = some v3) (c4 : w.cell? ⟨b, o + 4, none⟩ = some v4) : ZJ Try.prog n σ w ⟨dst, .load 78 x, ty, pos, af, g⟩ (.agg #[v0, v1, v2, v3, v4]) := fun a ha => by
 simp only [execOp, ha.eval hx]
 simp [go_sem, c0, c1, c2, c3, c4]
theorem QNj (a : Act) (_ : Env n σ a) : (execOp a.eval ⟨dst, .alloc 78, ty, pos, af, g⟩).run Try.prog w = .ok (.value (.pointer (some ⟨w.heap.size, 0, none⟩))) (w.alloc (.cells #[.int .u8 0, .int .u8 0, .int .u8 0, .int .u8 0, .int .u8 0] 78)) := by
 simp only [execOp]
 simp [go_sem]
theorem QNO : (Try.prog.info? 78).map (·.size) = some 5 := by kernel_rfl
theorem QDY {x0 x1 x2 x3 x4 : Operand} {b0 : Bool} {z1 : Int} {z2 : Int} {z3 : Int} {z4 : Int} (h0 : evS σ x0 = some (.bool b0)) (h1 : evS σ x1 = some (.int .i64 z1)) (h2 : evS σ x2 = some (.int .i64 z2)) (h3 : evS σ x3 = some (.int .i64 z3)) (h4 : evS σ x4 = some (.int .i64 z4)) : ZJ Try.prog n σ w ⟨dst, .build 39 #[(0, x0), (1, x1), (2, x2), (3, x3), (4, x4)], ty, pos, af, g⟩ (.agg #[.bool b0, .int .i64 z1, .int .i64 z2, .int .i64 z3, .int .i64 z4]) := fun a ha => by
 simp only [execOp, List.map_toArray, List.map_cons, List.map_nil, ha.eval h0, ha.eval h1, ha.eval h2, ha.eval h3, ha.eval h4]
 go_simp
end
theorem QE5 {x : Sml} (hx : SmlOk x) {At As : Option Addr} {ct cs : Nat} (w : World) : Calls Try.prog 31 #[.agg #[.int .u8 x.a0, .int .u8 x.a1, .int .u8 x.a2, .int .u8 x.a3, .int .u8 x.a4, .bool x.hi, .slice At x.tows.length ct, .slice As x.steps.length cs]] w fun e w' => e = .returned (.agg #[.int .i64 (Zn x).length, .int .i64 (Zn x).cycle, .int .i64 (Zn x).turn, .int .i64 (Zn x).fill, .int .i64 (Zn x).save, .bool (Zn x).high]) ∧ Below w.heap.size w w' := by
 have hbw := Below.refl w.heap.size w;have e0 := Yr hx.a0 (n := 100) (by decide)
 have e1 := Yr hx.a1 (n := 60) (by decide)
 have e3 := hx.a3
 unfold byte at e3
 refine EC.enter 33 Try.func31 rfl rfl rfl (EC.seq (EC.region (EL.newP (QIZ rfl) rfl ?_)));intro g1 w1 q1 hb1 hg1 hl1;have bhbw_1 := Nat.le_trans hbw.size hg1;replace hbw := bo_ hbw hb1;clear hb1 hg1 hl1;refine EL.newP QIl rfl ?_;intro g2 w2 q2 hb2 hg2 hl2;have n1_2 := q1.na hg2;have bhbw_2 := Nat.le_trans hbw.size hg2;replace q1 := q1.bl hb2;replace hbw := bo_ hbw hb2;clear hb2 hg2 hl2;refine EL.nil (EX.seq (EC.seq (EC.region (EL.val (QCw rfl) rfl ?_))));refine EL.val (QAA (k := 0) rfl rfl (by omega)) rfl ?_
 refine EL.val (ld_5 rfl (q1.at (j := 0) rfl)) rfl (EL.val (QAO rfl (YB hx.a0)) rfl ?_);refine EL.val (QBa rfl rfl (by decide) rfl) rfl ?_
 refine EL.val (ZP rfl rfl (c := 40 + x.a0.tmod 100) (IntWalk.i64_in (40 + x.a0.tmod 100) ⟨by omega, by omega⟩)) rfl ?_
 refine EL.val (QCw rfl) rfl ?_;refine EL.val (QAA (k := 1) rfl rfl (by omega)) rfl ?_
 refine EL.val (ld_5 rfl (q1.at (j := 1) rfl)) rfl (EL.val (QAO rfl (YB hx.a1)) rfl ?_);refine EL.val (QBa rfl rfl (by decide) rfl) rfl ?_
 refine EL.val (ZP rfl rfl (c := 1 + x.a1.tmod 60) (IntWalk.i64_in (1 + x.a1.tmod 60) ⟨by omega, by omega⟩)) rfl ?_
 refine EL.val (QCw rfl) rfl ?_;refine EL.val (QAA (k := 2) rfl rfl (by omega)) rfl ?_
 refine EL.val (ld_5 rfl (q1.at (j := 2) rfl)) rfl (EL.val (QAO rfl (YB hx.a2)) rfl ?_);refine EL.val (QBa rfl rfl (by decide) rfl) rfl ?_
 refine EL.val (QCw rfl) rfl ?_;refine EL.val (QAA (k := 3) rfl rfl (by omega)) rfl ?_
 refine EL.val (ld_5 rfl (q1.at (j := 3) rfl)) rfl (EL.val (QAO rfl (YB hx.a3)) rfl ?_);refine EL.val (QAI rfl rfl (c := 10 * x.a3) (IntWalk.i64_in (10 * x.a3) ⟨by omega, by omega⟩)) rfl ?_
 refine EL.val (QCw rfl) rfl ?_;refine EL.val (QAA (k := 4) rfl rfl (by omega)) rfl ?_
 refine EL.val (ld_5 rfl (q1.at (j := 4) rfl)) rfl (EL.val (QAO rfl (YB hx.a4)) rfl ?_);refine EL.val (QBa rfl rfl (by decide) rfl) rfl ?_
 refine EL.val (QLk rfl) rfl (EL.val (ld_4 rfl (q1.at (j := 5) rfl)) rfl (EL.val (QC7 rfl rfl rfl rfl rfl rfl) rfl (EL.store rfl rfl q2 QE2 rfl rfl rfl rfl ?_)));intro w3 hq3 hg3;replace q1 := q1.gr hg3 n1_2;replace hbw := ZE hbw hg3 bhbw_2;replace q2 := hq3;clear hg3 hq3;refine EL.nil (EX.seq (EC.ret ?_))
 exact EX.done (QE7 rfl rfl (QMJ (q2.at (j := 0) rfl) (q2.at (j := 1) rfl) (q2.at (j := 2) rfl) (q2.at (j := 3) rfl) (q2.at (j := 4) rfl) (q2.at (j := 5) rfl))) ⟨rfl, hbw⟩
set_option maxRecDepth 100000 in
theorem QIs {x : Sml} (hx : SmlOk x) {At As : Option Addr} {ct cs : Nat} {w : World} {B : Nat} (hr : Rd w B 5 (.slice At x.tows.length ct) x.tows.length (e5s x.tows)) (hB : B ≤ w.heap.size) {m : Nat} (hm : m ≤ 1000) :
  Calls Try.prog 32 #[.agg #[.int .u8 x.a0, .int .u8 x.a1, .int .u8 x.a2, .int .u8 x.a3, .int .u8 x.a4, .bool x.hi, .slice At x.tows.length ct, .slice As x.steps.length cs], .int .i64 (m : Nat)] w fun e w' => (∃ v', e = .returned v' ∧ w'.ownsRow w.heap.size 39 5 v' (QAz x m).length (twsC (QAz x m))) ∧ Below w.heap.size w w' := by
 have hbw := Below.refl w.heap.size w;refine EC.enter 69 Try.func32 rfl rfl rfl (EC.seq (EC.region (EL.newP (QIZ rfl) rfl ?_)));intro g1 w1 q1 hb1 hg1 hl1;have bhbw_1 := Nat.le_trans hbw.size hg1;have hbg1 : w.heap.size ≤ g1 := Nat.le_trans hbw.size hg1;replace hbw := bo_ hbw hb1;clear hb1 hg1 hl1;refine EL.as rfl rfl (EL.nil (EX.seq (EC.seq (EC.region (EL.newS (QF9) rfl ?_)))));intro g2 w2 q2 hb2 hg2 hl2;have n1_2 := q1.na hg2;have bhbw_2 := Nat.le_trans hbw.size hg2;have hbg2 : w.heap.size ≤ g2 := Nat.le_trans hbw.size hg2;replace q1 := q1.bl hb2;replace hbw := bo_ hbw hb2;clear hb2 hg2 hl2;have hO : w2.ownsRow w.heap.size 39 5 (.slice (some ⟨g2, 0, none⟩) 0 0) 0 [] := QB3 5 q2 hbg2;refine EL.val (QIE rfl (q1.at (j := 0) rfl) (q1.at (j := 1) rfl) (q1.at (j := 2) rfl) (q1.at (j := 3) rfl) (q1.at (j := 4) rfl) (q1.at (j := 5) rfl) (q1.at (j := 6) rfl) (q1.at (j := 7) rfl)) rfl (EL.call (cA1 cF31 rfl) rfl (QE5 hx _) ?_)
 rintro e w3 ⟨rfl, hc3⟩
 refine ⟨_, rfl, ?_⟩;replace q1 := q1.bl hc3;replace hO := ZD hO hc3 (Nat.le_refl _);replace hbw := bo_ hbw hc3;clear hc3;refine EL.newP QIl rfl ?_;intro g4 w4 q4 hb4 hg4 hl4;have n1_4 := q1.na hg4;have bhbw_4 := Nat.le_trans hbw.size hg4;have hbg4 : w.heap.size ≤ g4 := Nat.le_trans hbw.size hg4;replace q1 := q1.bl hb4;replace hO := ZD hO hb4 (Nat.le_refl _);replace hbw := bo_ hbw hb4;clear hb4 hg4 hl4;refine EL.as rfl rfl (EL.store rfl rfl q4 QE2 rfl rfl rfl rfl ?_);intro w5 hq5 hg5;replace q1 := q1.gr hg5 n1_4;replace hO := ZK hO q4 rfl hg5;replace hbw := ZE hbw hg5 bhbw_4;replace q4 := hq5;clear hg5 hq5;refine EL.nil (EX.seq (EC.seq (EC.seq (EC.region (EL.as rfl rfl (EL.nil (EX.seq (EC.block ?_))))))));refine EC.loopD [5, 7, 8, 9, 13, 14, 15, 16, 17, 18, 19, 20, 21, 22, 23, 24, 25, 26, 27, 28, 29, 30, 31, 32, 33, 34, 35, 36, 37, 38, 39, 40, 41, 42, 43, 44, 45, 46, 47, 48, 49, 50, 51, 52, 53, 54, 55, 56, 57, 58, 59, 60, 61, 62, 63, 64, 65, 66, 67] (fun y : Nat × Value => [(7, .int .i64 (y.1 : Nat)), (5, y.2)]) (fun y W => (y.1 ≤ x.tows.length ∧ y.1 ≤ m) ∧ W.ownsRow w.heap.size 39 5 y.2 y.1 (twsC ((x.tows.take y.1).map (towS (Zn x).length))) ∧ Below w.heap.size w W ∧ Blk W g1 82 #[.int .u8 x.a0, .int .u8 x.a1, .int .u8 x.a2, .int .u8 x.a3, .int .u8 x.a4, .bool x.hi, .slice At x.tows.length ct, .slice As x.steps.length cs] ∧ Blk W g4 23 #[.int .i64 (Zn x).length, .int .i64 (Zn x).cycle, .int .i64 (Zn x).turn, .int .i64 (Zn x).fill, .int .i64 (Zn x).save, .bool (Zn x).high]) (fun y => x.tows.length - y.1) (0, .slice (some ⟨g2, 0, none⟩) 0 0) ⟨⟨Nat.zero_le _, Nat.zero_le _⟩, hO, hbw, q1, q4⟩ ⟨rfl, rfl, trivial⟩ ?_
 clear hbw hO q1 q4
 rintro ⟨i, v3⟩ wx ⟨⟨hi, hi2⟩, hO, hbw, q1, q4⟩
 dsimp only at hi hi2 hO
 by_cases hlt : i < x.tows.length
 ·
  by_cases hlm : i < m
  ·
   obtain ⟨bx, ox, ebx, _, c0, c1, c2, c3, c4⟩ := QJD x.tows i hlt wx B _ _ _ (hr.below (hbw.mono hB));have hv := hx.t _ (Zs hlt z5);have hsu := QEo (towS (Zn x).length) x.tows z5 hlt
   generalize x.tows.getD i z5 = v at *
   obtain ⟨p0, p1, p2, p3, p4⟩ := hv;have hlb := QGn hx;have r2 := Yr p2 (n := (Zn x).length) (by omega)
   have hbl := QGl (L := (Zn x).length) (v := v) (by omega) p2
   have p2b : 0 ≤ v.2.2.1 ∧ v.2.2.1 ≤ 255 := p2;refine EC.seq (EC.seq (EC.region (EL.mv rfl rfl (EL.val (QDl rfl) rfl (EL.val (QIG rfl (q1.at (j := 6) rfl)) rfl (EL.val (QKD rfl) rfl ?_))))));refine EL.val (ZQ rfl rfl (decide_eq_true (show (((i : Nat) : Int) < ((x.tows.length : Nat) : Int)) by omega))) rfl ?_
   refine EL.mv rfl rfl (EL.mg rfl rfl rfl rfl (EL.mg rfl rfl rfl rfl ?_));refine EL.valg rfl rfl (ZQ rfl rfl (decide_eq_true (show (((i : Nat) : Int) < ((m : Nat) : Int)) by omega))) rfl ?_
   refine EL.pt rfl rfl rfl (EL.nil (EX.seq (EC.yes rfl (EC.skip (EX.seq (EC.seq (EC.block (EC.seq (EC.region ?_)))))))));refine EL.val (QDl rfl) rfl (EL.val (QIG rfl (q1.at (j := 6) rfl)) rfl (EL.mv rfl rfl ?_));refine EL.val (QNa (by show some (Value.slice At _ _) = _; rw [ebx]) rfl hlt) rfl ?_
   refine EL.val (QNX rfl c0 c1 c2 c3 c4) rfl (EL.newP QNj rfl ?_);intro g6 w6 q6 hb6 hg6 hl6;have n1_6 := q1.na hg6;have n4_6 := q4.na hg6;have bhbw_6 := Nat.le_trans hbw.size hg6;have hbg6 : w.heap.size ≤ g6 := Nat.le_trans hbw.size hg6;replace q1 := q1.bl hb6;replace q4 := q4.bl hb6;replace hO := ZD hO hb6 (Nat.le_refl _);replace hbw := bo_ hbw hb6;clear hb6 hg6 hl6;refine EL.store rfl rfl q6 QNO rfl rfl rfl rfl ?_;intro w7 hq7 hg7;replace q1 := q1.gr hg7 n1_6;replace q4 := q4.gr hg7 n4_6;replace hO := ZK hO q6 rfl hg7;replace hbw := ZE hbw hg7 bhbw_6;replace q6 := hq7;clear hg7 hq7;refine EL.nil (EX.seq (EC.seq (EC.region ?_)));refine EL.val (QAA (k := 2) rfl rfl (by omega)) rfl ?_
   refine EL.val (ld_5 rfl (q6.at (j := 2) rfl)) rfl (EL.val (QAO rfl (YB p2)) rfl (EL.val (Yj rfl) rfl (EL.val (ld_3 rfl (q4.at (j := 0) rfl)) rfl ?_)));refine EL.val (QBa rfl rfl (by omega) rfl) rfl ?_
   refine EL.val (ZP rfl rfl (c := 1 + v.2.2.1.tmod (Zn x).length) (IntWalk.i64_in (1 + v.2.2.1.tmod (Zn x).length) ⟨by omega, by omega⟩)) rfl ?_
   refine EL.as rfl rfl (EL.nil (EX.seq ?_));refine EC.cutD [9, 37, 38, 39, 40, 41, 42, 43, 44] (fun _ : Unit => [(9, .int .i64 (QEL (Zn x).length v))]) (fun _ W => W.ownsRow w.heap.size 39 5 v3 i (twsC ((x.tows.take i).map (towS (Zn x).length))) ∧ Below w.heap.size w W ∧ Blk W g1 82 #[.int .u8 x.a0, .int .u8 x.a1, .int .u8 x.a2, .int .u8 x.a3, .int .u8 x.a4, .bool x.hi, .slice At x.tows.length ct, .slice As x.steps.length cs] ∧ Blk W g4 23 #[.int .i64 (Zn x).length, .int .i64 (Zn x).cycle, .int .i64 (Zn x).turn, .int .i64 (Zn x).fill, .int .i64 (Zn x).save, .bool (Zn x).high] ∧ Blk W g6 78 #[.int .u8 v.1, .int .u8 v.2.1, .int .u8 v.2.2.1, .int .u8 v.2.2.2.1, .int .u8 v.2.2.2.2]) ?_ ?_
   ·
    by_cases h7 : v.1.tmod 8 = 7
    ·
     refine EC.seq (EC.region ?_);refine EL.val (QAA (k := 0) rfl rfl (by omega)) rfl ?_
     refine EL.val (ld_5 rfl (q6.at (j := 0) rfl)) rfl ?_;refine EL.val (QBa rfl rfl (by decide) rfl) rfl ?_
     refine EL.val (YF (r := true) rfl rfl (decide_eq_true h7)) rfl (EL.nil (EX.seq (EC.yes rfl (EC.region ?_))));refine EL.val (QAA (k := 2) rfl rfl (by omega)) rfl ?_
     refine EL.val (ld_5 rfl (q6.at (j := 2) rfl)) rfl (EL.val (QAO rfl (YB p2)) rfl ?_);refine EL.val (ZP rfl rfl (c := 1 + v.2.2.1) (IntWalk.i64_in (1 + v.2.2.1) ⟨by omega, by omega⟩)) rfl ?_
     refine EL.as rfl rfl (EL.nil ?_)
     exact EX.cutE () ⟨YH (by unfold QEL; rw [if_pos h7]) rfl, trivial⟩ (by repeat first | with_reducible exact (Sub.refl _).del _ | refine sp_ rfl ?_ | exact (Sub.refl _).del _ | refine sd_ rfl ?_ | refine sn_ ?_) ⟨hO, hbw, q1, q4, q6⟩
    ·
     refine EC.seq (EC.region ?_);refine EL.val (QAA (k := 0) rfl rfl (by omega)) rfl ?_
     refine EL.val (ld_5 rfl (q6.at (j := 0) rfl)) rfl ?_;refine EL.val (QBa rfl rfl (by decide) rfl) rfl ?_
     refine EL.val (YF (r := false) rfl rfl (decide_eq_false h7)) rfl (EL.nil (EX.seq (EC.no rfl (EC.skip ?_))))
     exact EX.cutE () ⟨YH (by unfold QEL; rw [if_neg h7]) rfl, trivial⟩ (by repeat first | with_reducible exact (Sub.refl _).del _ | refine sp_ rfl ?_ | exact (Sub.refl _).del _ | refine sd_ rfl ?_ | refine sn_ ?_) ⟨hO, hbw, q1, q4, q6⟩
   ·
    clear hO hbw q1 q4 q6
    rintro ⟨⟩ w7 ⟨hO, hbw, q1, q4, q6⟩
    refine EC.region (EL.mv rfl rfl ?_);refine EL.val (QAA (k := 0) rfl rfl (by omega)) rfl ?_
    refine EL.val (ld_5 rfl (q6.at (j := 0) rfl)) rfl ?_;refine EL.val (QBa rfl rfl (by decide) rfl) rfl ?_
    refine EL.val (YF (r := decide (v.1.tmod 2 = 1)) rfl rfl rfl) rfl ?_;refine EL.val (QAA (k := 1) rfl rfl (by omega)) rfl ?_
    refine EL.val (ld_5 rfl (q6.at (j := 1) rfl)) rfl (EL.val (QAO rfl (YB p1)) rfl (EL.mv rfl rfl (EL.val (Yj rfl) rfl (EL.val (ld_3 rfl (q4.at (j := 0) rfl)) rfl ?_))));refine EL.val (QAI rfl rfl (c := 3 * (Zn x).length) (IntWalk.i64_in (3 * (Zn x).length) ⟨by omega, by omega⟩)) rfl ?_
    refine EL.val (QJ9 rfl rfl rfl) rfl ?_;refine EL.val (QAA (k := 3) rfl rfl (by omega)) rfl ?_
    refine EL.val (ld_5 rfl (q6.at (j := 3) rfl)) rfl (EL.val (QAO rfl (YB p3)) rfl ?_);refine EL.val (QBa rfl rfl (by decide) rfl) rfl ?_
    refine EL.val (QAA (k := 4) rfl rfl (by omega)) rfl ?_
    refine EL.val (ld_5 rfl (q6.at (j := 4) rfl)) rfl (EL.val (QAO rfl (YB p4)) rfl (EL.val (QDY rfl rfl rfl rfl rfl) rfl (EL.newS (QDs rfl) rfl ?_)));intro g8 w8 q8 hb8 hg8 hl8;have n1_8 := q1.na hg8;have n4_8 := q4.na hg8;have n6_8 := q6.na hg8;have bhbw_8 := Nat.le_trans hbw.size hg8;have hbg8 : w.heap.size ≤ g8 := Nat.le_trans hbw.size hg8;replace q1 := q1.bl hb8;replace q4 := q4.bl hb8;replace q6 := q6.bl hb8;replace hO := ZD hO hb8 (Nat.le_refl _);replace hbw := bo_ hbw hb8;clear hb8 hg8 hl8;refine EL.push QBg rfl rfl hO (QAM (l := twC (towS (Zn x).length v)) q8 rfl) (twsC_one [towS (Zn x).length v]) (by omega) rfl hbw.size rfl ?_
    intro v9 w9 ho9 hgr hb_ hat;replace hbw := hbw.trans hb_;replace q1 := ZM q1 hO rfl hgr;replace q4 := ZM q4 hO rfl hgr;clear hO hgr hb_ hat;refine EL.as rfl rfl (EL.nil (EX.blk (EX.seq (EC.region (EL.mv rfl rfl ?_)))));refine EL.val (ZP rfl rfl (c := ((i + 1 : Nat) : Int)) ((IntWalk.i64_in _ ⟨by first | omega | (simp only; omega), by first | omega | (simp only; omega)⟩).trans (by first | omega | (simp only; omega)))) rfl ?_
    refine EL.as rfl rfl (EL.nil ?_);refine EX.roundD (i + 1, v9) ⟨rfl, rfl, trivial⟩ (by repeat first | with_reducible exact .refl _ | refine sp_ rfl ?_ | exact .refl _ | refine sd_ rfl ?_ | refine sn_ ?_) ⟨⟨hlt, hlm⟩, by simp only; rw [hsu, QCa]; exact ho9, hbw, q1, q4⟩ (by simp only; omega)
  ·
   have hxe : i = min x.tows.length m := by omega
   refine EC.seq (EC.seq (EC.region (EL.mv rfl rfl (EL.val (QDl rfl) rfl (EL.val (QIG rfl (q1.at (j := 6) rfl)) rfl (EL.val (QKD rfl) rfl ?_))))));refine EL.val (ZQ rfl rfl (decide_eq_true (show (((i : Nat) : Int) < ((x.tows.length : Nat) : Int)) by omega))) rfl ?_
   refine EL.mv rfl rfl (EL.mg rfl rfl rfl rfl (EL.mg rfl rfl rfl rfl ?_));refine EL.valg rfl rfl (ZQ rfl rfl (decide_eq_false (show ¬(((i : Nat) : Int) < ((m : Nat) : Int)) by omega))) rfl ?_
   refine EL.pt rfl rfl rfl (EL.nil (EX.seq (EC.no rfl (EC.exit (EX.seq_exit (EX.seq_exit (EX.blk_here (EX.seq (EC.seq ?_)))))))));refine EC.region (EL.mv rfl rfl (EL.as rfl rfl (EL.nil (EX.seq (EC.ret ?_)))))
   exact EX.done (res1 rfl rfl) ⟨⟨_, rfl, QGK hxe hO⟩, hbw⟩
 ·
  have hxe : i = min x.tows.length m := by omega
  refine EC.seq (EC.seq (EC.region (EL.mv rfl rfl (EL.val (QDl rfl) rfl (EL.val (QIG rfl (q1.at (j := 6) rfl)) rfl (EL.val (QKD rfl) rfl ?_))))));refine EL.val (ZQ rfl rfl (decide_eq_false (show ¬(((i : Nat) : Int) < ((x.tows.length : Nat) : Int)) by omega))) rfl ?_
  refine EL.mv rfl rfl (EL.skip rfl rfl rfl rfl (EL.skip rfl rfl rfl rfl (EL.skip rfl rfl rfl rfl (EL.pf rfl rfl rfl (EL.nil (EX.seq (EC.no rfl (EC.exit (EX.seq_exit ?_)))))))));refine EX.seq_exit (EX.blk_here (EX.seq (EC.seq (EC.region (EL.mv rfl rfl (EL.as rfl rfl (EL.nil (EX.seq (EC.ret ?_)))))))))
  exact EX.done (res1 rfl rfl) ⟨⟨_, rfl, QGK hxe hO⟩, hbw⟩
theorem QJt (ts : List TW) (u : Bool) (a : Int) : (qA ts u a).length ≤ ts.length := List.length_filter_le _ _
theorem QMq {ts : List TW} {u : Bool} {n : Nat} : (qN ts u n).length ≤ n * ts.length := by
 induction n with
 | zero => simp [QLJ]
 | succ n ih =>
  rw [QAT, List.length_append, Nat.succ_mul];have := QJt ts u n
  omega
theorem QLI {ts : List TW} {u : Bool} {a i : Nat} (hn : ts.length ≤ 12) (ha : a ≤ 256) (h : a < 256) (hi : i ≤ ts.length) : (qN ts u a ++ qA (ts.take i) u a).length ≤ 300 * 12 := by
 rw [List.length_append];have h1 := QMq (ts := ts) (u := u) (n := a);have h2 := QJt (ts.take i) u a;rw [List.length_take] at h2;have h3 : a * ts.length ≤ 256 * 12 := Nat.mul_le_mul (by omega) hn
 omega
set_option maxRecDepth 100000 in
theorem QBN {ts : List TW} {u : Bool} (harr : ∀ t ∈ ts, 0 ≤ t.arrive ∧ t.arrive < (256 : Nat)) {v : Value} {w : World} {B : Nat} (hr : Rd w B 5 v ts.length (twsC ts)) (hB : B ≤ w.heap.size) (hn : ts.length ≤ 12) :
  Calls Try.prog 34 #[v, .bool u] w fun e w' => (∃ v', e = .returned v' ∧ w'.ownsRow w.heap.size 39 5 v' (qL ts u).length (twsC (qL ts u))) ∧ Below w.heap.size w w' := by
 obtain ⟨At, ct, rfl, _⟩ := hr.shape;have hbw := Below.refl w.heap.size w;refine EC.enter 43 Try.func34 rfl rfl rfl (EC.seq (EC.region (EL.as rfl rfl (EL.nil (EX.seq (EC.seq (EC.region (EL.newS (QF9) rfl ?_))))))));intro g1 w1 q1 hb1 hg1 hl1;have bhbw_1 := Nat.le_trans hbw.size hg1;have hbg1 : w.heap.size ≤ g1 := Nat.le_trans hbw.size hg1;replace hbw := bo_ hbw hb1;clear hb1 hg1 hl1;have hO : w1.ownsRow w.heap.size 39 5 (.slice (some ⟨g1, 0, none⟩) 0 0) 0 [] := QB3 5 q1 hbg1;refine EL.as rfl rfl (EL.nil (EX.seq (EC.seq (EC.seq (EC.region (EL.as rfl rfl (EL.nil (EX.seq (EC.block ?_)))))))));refine EC.loopD [5, 6, 7, 9, 10, 11, 12, 13, 14, 15, 16, 17, 18, 19, 20, 21, 22, 23, 24, 25, 26, 27, 28, 29, 30, 31, 32, 33, 34, 35, 36, 37, 38, 39, 40, 41] (fun y : Nat × Value => [(6, .int .i64 (y.1 : Nat)), (5, y.2)]) (fun y W => y.1 ≤ 256 ∧ W.ownsRow w.heap.size 39 5 y.2 (qN ts u y.1).length (twsC (qN ts u y.1)) ∧ Below w.heap.size w W) (fun y => 256 - y.1) (0, .slice (some ⟨g1, 0, none⟩) 0 0) ⟨Nat.zero_le _, hO, hbw⟩ ⟨rfl, rfl, trivial⟩ ?_
 clear hbw hO
 rintro ⟨a, v3⟩ wx ⟨ha, hO, hbw⟩
 dsimp only at ha hO
 by_cases hlta : a < 256
 ·
  refine EC.seq (EC.seq (EC.region (EL.mv rfl rfl ?_)));refine EL.val (QDx (r := true) rfl rfl (decide_eq_true (by omega))) rfl ?_
  refine EL.nil (EX.seq (EC.yes rfl (EC.skip (EX.seq (EC.seq (EC.block (EC.seq (EC.region (EL.as rfl rfl ?_)))))))));refine EL.nil (EX.seq (EC.block ?_));have hz : qN ts u a ++ qA (ts.take 0) u a = qN ts u a := List.append_nil _;refine EC.loopD [5, 7, 13, 14, 15, 16, 17, 18, 19, 20, 21, 22, 23, 24, 25, 26, 27, 28, 29, 30, 31, 32, 33, 34, 35, 36, 37, 38, 39, 40, 41] (fun y : Nat × Value => [(7, .int .i64 (y.1 : Nat)), (5, y.2)]) (fun y W => y.1 ≤ ts.length ∧ W.ownsRow w.heap.size 39 5 y.2 (qN ts u a ++ qA (ts.take y.1) u a).length (twsC (qN ts u a ++ qA (ts.take y.1) u a)) ∧ Below w.heap.size w W) (fun y => ts.length - y.1) (0, v3) ⟨Nat.zero_le _, by rw [hz]; exact hO, hbw⟩ ⟨rfl, rfl, trivial⟩ ?_
  clear hbw hO
  rintro ⟨i, v4⟩ wy ⟨hi, hO, hbw⟩
  dsimp only at hi hO
  by_cases hlti : i < ts.length
  ·
   obtain ⟨b, o, eA_, _, cc⟩ := Z6 ts i hlti wy B _ _ _ (hr.below (hbw.mono hB))
   cases eA_
   have hsu := QDf (ts.take i) (ts.getD i tw0) u a;rw [← Z7 (d := tw0) hlti] at hsu;have hlq : (qN ts u a ++ qA (ts.take i) u a).length ≤ 300 * 12 := QLI hn ha hlta (by omega)
   generalize ts.getD i tw0 = y at cc hsu
   refine EC.seq (EC.seq (EC.region (EL.mv rfl rfl (EL.mv rfl rfl (EL.val (Zw rfl) rfl ?_)))));refine EL.val (ZQ rfl rfl (decide_eq_true (show (((i : Nat) : Int) < ((ts.length : Nat) : Int)) by omega))) rfl ?_
   refine EL.nil (EX.seq (EC.yes rfl (EC.skip (EX.seq (EC.seq (EC.block (EC.seq (EC.region (EL.mv rfl rfl ?_)))))))));refine EL.mv rfl rfl (EL.val (Yd rfl rfl hlti) rfl (EL.val (QIS rfl) rfl (EL.val (ld_4 rfl cc.c0) rfl (EL.mv rfl rfl ?_))))
   by_cases hu : y.up = u
   ·
    refine EL.val (QBb (r := true) rfl rfl (decide_eq_true hu)) rfl (EL.mv rfl rfl (EL.mg rfl rfl rfl rfl (EL.mg rfl rfl rfl rfl (EL.valg rfl rfl (Yd rfl rfl hlti) rfl (EL.valg rfl rfl (QAE rfl) rfl (EL.valg rfl rfl (ld_3 rfl cc.c1) rfl (EL.mg rfl rfl rfl rfl ?_)))))))
    by_cases hay : y.arrive = (a : Int)
    ·
     rw [if_pos ⟨hu, hay⟩] at hsu;refine EL.valg rfl rfl (YF (r := true) rfl rfl (decide_eq_true hay)) rfl (EL.pt rfl rfl rfl (EL.nil (EX.seq (EC.yes rfl (EC.region (EL.mv rfl rfl (EL.mv rfl rfl (EL.mv rfl rfl (EL.val (Yd rfl rfl hlti) rfl ?_)))))))));refine EL.val (QAl rfl cc.c0 cc.c1 cc.c2 cc.c3 cc.c4) rfl (EL.newS (QDs rfl) rfl ?_);intro g2 w2 q2 hb2 hg2 hl2;have bhbw_2 := Nat.le_trans hbw.size hg2;have hbg2 : w.heap.size ≤ g2 := Nat.le_trans hbw.size hg2;replace hO := ZD hO hb2 (Nat.le_refl _);replace hbw := bo_ hbw hb2;clear hb2 hg2 hl2;refine EL.push QBg rfl rfl hO (QAM (l := twC y) q2 rfl) (twsC_one [y]) (by omega) rfl hbw.size rfl ?_
     intro v9 w9 ho9 hgr hb_ hat;replace hbw := hbw.trans hb_;clear hO hgr hb_ hat;refine EL.as rfl rfl (EL.nil (EX.blk (EX.seq (EC.region (EL.mv rfl rfl ?_)))));refine EL.val (ZP rfl rfl (c := ((i + 1 : Nat) : Int)) ((IntWalk.i64_in _ ⟨by first | omega | (simp only; omega), by first | omega | (simp only; omega)⟩).trans (by first | omega | (simp only; omega)))) rfl ?_
     refine EL.as rfl rfl (EL.nil ?_);refine EX.roundD (i + 1, v9) ⟨rfl, rfl, trivial⟩ (by repeat first | with_reducible exact .refl _ | refine sp_ rfl ?_ | exact .refl _ | refine sd_ rfl ?_ | refine sn_ ?_) ⟨hlti, by simp only; rw [hsu, ← List.append_assoc, QCa, List.length_append]; exact ho9, hbw⟩ (by simp only; omega)
    ·
     rw [if_neg (fun h => hay h.2)] at hsu
     refine EL.valg rfl rfl (YF (r := false) rfl rfl (decide_eq_false hay)) rfl (EL.pt rfl rfl rfl (EL.nil (EX.seq (EC.no rfl (EC.skip (EX.blk (EX.seq (EC.region (EL.mv rfl rfl ?_)))))))));refine EL.val (ZP rfl rfl (c := ((i + 1 : Nat) : Int)) ((IntWalk.i64_in _ ⟨by first | omega | (simp only; omega), by first | omega | (simp only; omega)⟩).trans (by first | omega | (simp only; omega)))) rfl ?_
     refine EL.as rfl rfl (EL.nil ?_);refine EX.roundD (i + 1, v4) ⟨rfl, rfl, trivial⟩ (by repeat first | with_reducible exact .refl _ | refine sp_ rfl ?_ | exact .refl _ | refine sd_ rfl ?_ | refine sn_ ?_) ⟨hlti, by simp only; rw [hsu, List.append_nil]; exact hO, hbw⟩ (by simp only; omega)
   ·
    rw [if_neg (fun h => hu h.1)] at hsu
    refine EL.val (QBb (r := false) rfl rfl (decide_eq_false hu)) rfl (EL.mv rfl rfl (EL.skip rfl rfl rfl rfl (EL.skip rfl rfl rfl rfl (EL.skip rfl rfl rfl rfl (EL.skip rfl rfl rfl rfl (EL.skip rfl rfl rfl rfl (EL.skip rfl rfl rfl rfl (EL.skip rfl rfl rfl rfl (EL.pf rfl rfl rfl ?_)))))))));refine EL.nil (EX.seq (EC.no rfl (EC.skip (EX.blk (EX.seq (EC.region (EL.mv rfl rfl ?_)))))));refine EL.val (ZP rfl rfl (c := ((i + 1 : Nat) : Int)) ((IntWalk.i64_in _ ⟨by first | omega | (simp only; omega), by first | omega | (simp only; omega)⟩).trans (by first | omega | (simp only; omega)))) rfl ?_
    refine EL.as rfl rfl (EL.nil ?_);refine EX.roundD (i + 1, v4) ⟨rfl, rfl, trivial⟩ (by repeat first | with_reducible exact .refl _ | refine sp_ rfl ?_ | exact .refl _ | refine sd_ rfl ?_ | refine sn_ ?_) ⟨hlti, by simp only; rw [hsu, List.append_nil]; exact hO, hbw⟩ (by simp only; omega)
  ·
   obtain rfl : i = ts.length := by omega
   rw [List.take_length] at hO;refine EC.seq (EC.seq (EC.region (EL.mv rfl rfl (EL.mv rfl rfl (EL.val (Zw rfl) rfl ?_)))));refine EL.val (ZQ rfl rfl (decide_eq_false (show ¬(((ts.length : Nat) : Int) < ((ts.length : Nat) : Int)) by omega))) rfl ?_
   refine EL.nil (EX.seq (EC.no rfl (EC.exit (EX.seq_exit (EX.seq_exit (EX.blk_here (EX.blk (EX.seq (EC.region ?_)))))))));refine EL.mv rfl rfl ?_;refine EL.val (ZP rfl rfl (c := ((a + 1 : Nat) : Int)) ((IntWalk.i64_in _ ⟨by first | omega | (simp only; omega), by first | omega | (simp only; omega)⟩).trans (by first | omega | (simp only; omega)))) rfl ?_
   refine EL.as rfl rfl (EL.nil ?_);refine EX.roundD (a + 1, v4) ⟨rfl, rfl, trivial⟩ (by repeat first | with_reducible exact .refl _ | refine sp_ rfl ?_ | exact .refl _ | refine sd_ rfl ?_ | refine sn_ ?_) ⟨hlta, by rw [QAT]; exact hO, hbw⟩ (by simp only; omega)
 ·
  obtain rfl : a = 256 := by omega
  refine EC.seq (EC.seq (EC.region (EL.mv rfl rfl ?_)));refine EL.val (QDx (r := false) rfl rfl (decide_eq_false (by simp only; omega))) rfl ?_
  refine EL.nil (EX.seq (EC.no rfl (EC.exit (EX.seq_exit (EX.seq_exit (EX.blk_here (EX.seq (EC.seq (EC.region ?_)))))))));refine EL.mv rfl rfl (EL.as rfl rfl (EL.nil (EX.seq (EC.ret ?_))))
  exact EX.done (res1 rfl rfl) ⟨⟨_, rfl, by rw [QNR harr] at hO; exact hO⟩, hbw⟩
section
variable {n : Nat} {σ : Sg} {w : World} {dst : Option Tmp} {ty : TypeId} {pos : String} {af : Array Edge} {g : Option (Nat × Bool)} {x y z : Operand} {at' : Array TypeId}
theorem cF34 : cF 34 := fun _ _ => by simp [go_sem]
theorem QFN {x0 x1 : Operand} {A0 : Option Addr} {m0 : Nat} {c0 : Nat} {A1 : Option Addr} {m1 : Nat} {c1 : Nat} (h0 : evS σ x0 = some (.slice A0 m0 c0)) (h1 : evS σ x1 = some (.slice A1 m1 c1)) : ZJ Try.prog n σ w ⟨dst, .build 90 #[(0, x0), (1, x1)], ty, pos, af, g⟩ (.agg #[.slice A0 m0 c0, .slice A1 m1 c1]) := fun a ha => by
 simp only [execOp, List.map_toArray, List.map_cons, List.map_nil, ha.eval h0, ha.eval h1]
 go_simp
theorem QMV (a : Act) (_ : Env n σ a) : (execOp a.eval ⟨dst, .alloc 90, ty, pos, af, g⟩).run Try.prog w = .ok (.value (.pointer (some ⟨w.heap.size, 0, none⟩))) (w.alloc (.cells #[.slice none 0 0, .slice none 0 0] 90)) := by
 simp only [execOp]
 simp [go_sem]
theorem QMC : (Try.prog.info? 90).map (·.size) = some 2 := by kernel_rfl
theorem YV {b o k : Nat} (hx : evS σ x = some (.pointer (some ⟨b, o, none⟩))) (hy : evS σ y = some (.int .i64 (k : Int))) (hk : k < 2) : ZJ Try.prog n σ w ⟨dst, .indexAddr 90 x y, ty, pos, af, g⟩ (.pointer (some ⟨b, o + k, none⟩)) := fun a ha => by
 have k0 : (0 : Int) ≤ (k : Int) := Int.natCast_nonneg _;have k1 : (k : Int) < 2 := by omega
 simp only [execOp, ha.eval hx, ha.eval hy]
 simp [go_sem, k0, k1]
theorem QMO {b o m c k : Nat} (hx : evS σ x = some (.slice (some ⟨b, o, none⟩) m c)) (hy : evS σ y = some (.int .i64 (k : Int))) (hk : k < m) : ZJ Try.prog n σ w ⟨dst, .indexAddr 80 x y, ty, pos, af, g⟩ (.pointer (some ⟨b, o + k * 2, none⟩)) := fun a ha => by
 have k0 : (0 : Int) ≤ (k : Int) := Int.natCast_nonneg _;have k1 : (k : Int) < (m : Int) := by omega
 simp only [execOp, ha.eval hx, ha.eval hy]
 simp [go_sem, k0, k1]
theorem QII {b o k : Nat} (hx : evS σ x = some (.pointer (some ⟨b, o, none⟩))) (hy : evS σ y = some (.int .i64 (k : Int))) (hk : k < 2) : ZJ Try.prog n σ w ⟨dst, .indexAddr 131 x y, ty, pos, af, g⟩ (.pointer (some ⟨b, o + k, none⟩)) := fun a ha => by
 have k0 : (0 : Int) ≤ (k : Int) := Int.natCast_nonneg _;have k1 : (k : Int) < 2 := by omega
 simp only [execOp, ha.eval hx, ha.eval hy]
 simp [go_sem, k0, k1]
theorem QDk {b o : Nat} (hx : evS σ x = some (.pointer (some ⟨b, o, none⟩))) : ZJ Try.prog n σ w ⟨dst, .fieldAddr 82 x 3, ty, pos, af, g⟩ (.pointer (some ⟨b, o + 7, none⟩)) := fun a ha => by
 simp only [execOp, ha.eval hx]
 simp [go_sem]
theorem QIF {b o : Nat} {v0 : Value} (hx : evS σ x = some (.pointer (some ⟨b, o, none⟩))) (c0 : w.cell? ⟨b, o, none⟩ = some v0) : ZJ Try.prog n σ w ⟨dst, .load 80 x, ty, pos, af, g⟩ (v0) := fun a ha => by
 simp only [execOp, ha.eval hx]
 simp [go_sem, c0]
theorem QMK {A : Option Addr} {m c : Nat} (hx : evS σ x = some (.slice A m c)) : ZJ Try.prog n σ w ⟨dst, .call { callee := .builtin .len, args := #[x], argTypes := #[80] }, ty, pos, af, g⟩ (.int .i64 (m : Int)) := fun a ha => by
 simp only [execOp, resolve, List.map_toArray, List.map_cons, List.map_nil, ha.eval hx]
 simp [go_sem]
end
structure PlV where
 d : Dr
 i : Nat
 v : Value
 Ad : Option Addr
 nd : Nat
 cd : Nat
 Au : Option Addr
 nu : Nat
 cu : Nat
theorem QMG {l : LK} {q : QS} {d : Dr} {nd nu : Nat} (hq : QOk l q) (h : PlOk l q d) (hd : nd = (waitL q d.s false).length) (hu : nu = (waitL q d.s true).length) : nd + nu ≤ 8 ∧ d.plan.length ≤ 8 := by
 have h1 := h.dr.len;have h2 := QA1 (u := true) (n := 0) hq h.dr (Nat.zero_le _);have h3 := hq.len;rw [Zz] at hd hu
 exact ⟨by omega, by omega⟩
theorem QLN {l : LK} {q : QS} {d : Dr} (h : PlOk l q d) (hz : (waitL q d.s false).length + (waitL q d.s true).length = 0) : YX q d.s = true := by
 rw [QGy h.dr];rw [Zz, Zz] at hz
 exact hz
theorem QDt {W : World} {g nd cd nu cu nw : Nat} {u : Bool} {Ad Au : Option Addr} (hs : sel u nd nu = nw) (h : Blk W g 90 #[.slice Ad nd cd, .slice Au nu cu]) : W.cell? ⟨g, 0 + uI u, none⟩ = some (.slice (sel u Ad Au) nw (sel u cd cu)) := by
 subst hs
 cases u
 ·exact h.at (j := 0) rfl
 ·exact h.at (j := 1) rfl
theorem QDB {w : World} {B z n c : Nat} {A : Option Addr} {xs : List Value} (h : Rd w B z (.slice A n c) n xs) : n ≤ c := by
 obtain ⟨_, A2, c2, e, hc, _⟩ := h
 injection e with _ _ e
 omega
theorem QHJ {w : World} {B m c lo : Nat} {A : Option Addr} {ts : List TW} (hr : Rd w B 5 (.slice A m c) m (twsC ts)) (hlo : lo ≤ m) : Rd w B 5 (.slice (Z0 A c lo) (m - lo) (c - lo)) (m - lo) (twsC (ts.drop lo)) := by
 have hl := hr.len;obtain ⟨_, A2, c2, e, hc2, hrr⟩ := hr
 injection e with e1 _ e3
 subst e1 e3;have hd : twsC (ts.drop lo) = (twsC ts).drop (lo * 5) := QCU QBF ts lo;refine ⟨by rw [hd, List.length_drop, hl]; omega, _, _, rfl, by omega, fun h0 => ?_⟩
 obtain ⟨b, off, e2, hb2, hcell⟩ := hrr (by omega)
 subst e2;refine ⟨b, _, rfl, hb2, fun j u hu => ?_⟩
 rw [if_neg (by omega)]
 rw [hd, List.getElem?_drop] at hu;have := hcell (lo * 5 + j) u hu;rw [← Nat.add_assoc] at this
 exact this
set_option maxHeartbeats 1000000 in
set_option maxRecDepth 100000 in
theorem QIu {x : Sml} (hx : SmlOk x) {At As : Option Addr} {ct cs : Nat} {l : LK} {ts : List TW} {v : Value} {w : World} {B : Nat} (hs : Rd w B 2 (.slice As x.steps.length cs) x.steps.length (e2s x.steps)) (hr : Rd w B 5 v ts.length (twsC ts)) (hB : B ≤ w.heap.size) (hq : QOk l (qL ts)) (harr : ∀ t ∈ ts, 0 ≤ t.arrive ∧ t.arrive < (256 : Nat)) (hn : ts.length ≤ 12) :
  Calls Try.prog 33 #[.agg #[.int .u8 x.a0, .int .u8 x.a1, .int .u8 x.a2, .int .u8 x.a3, .int .u8 x.a4, .bool x.hi, .slice At x.tows.length ct, .slice As x.steps.length cs], .agg #[.int .i64 l.length, .int .i64 l.cycle, .int .i64 l.turn, .int .i64 l.fill, .int .i64 l.save, .bool l.high], v] w fun e w' => (∃ d v', PlOk l (qL ts) d ∧ YX (qL ts) d.s = true ∧ e = .returned v' ∧ w'.ownsRow w.heap.size 87 2 v' d.plan.length (spsC d.plan)) ∧ Below w.heap.size w w' := by
 obtain ⟨Av, cv, rfl, _⟩ := hr.shape;have hbw := Below.refl w.heap.size w;refine EC.enter 102 Try.func33 rfl rfl rfl (EC.seq (EC.region (EL.newP (QIZ rfl) rfl ?_)));intro g1 w1 q1 hb1 hg1 hl1;have bhbw_1 := Nat.le_trans hbw.size hg1;replace hbw := bo_ hbw hb1;clear hb1 hg1 hl1;refine EL.newP (QC5 rfl) rfl ?_;intro g2 w2 q2 hb2 hg2 hl2;have n1_2 := q1.na hg2;have bhbw_2 := Nat.le_trans hbw.size hg2;replace q1 := q1.bl hb2;replace hbw := bo_ hbw hb2;clear hb2 hg2 hl2;refine EL.as rfl rfl (EL.nil (EX.seq (EC.seq (EC.region (EL.mv rfl rfl (EL.call (cA2 cF34 rfl rfl) rfl (QBN (u := false) harr (hr.below (hbw.mono hB)) (Nat.le_trans hB hbw.size) hn) ?_))))))
 rintro e wq0 ⟨⟨vq0, rfl, hqq0⟩, hcq⟩
 refine ⟨_, rfl, ?_⟩;replace hqq0 := YU hqq0 hbw.size;replace q1 := q1.bl hcq;replace q2 := q2.bl hcq;replace hbw := bo_ hbw hcq;clear hcq;obtain ⟨Aq0, cq0, rfl, _⟩ := (Rd.of_own hqq0).shape;refine EL.mv rfl rfl (EL.call (cA2 cF34 rfl rfl) rfl (QBN (u := true) harr (hr.below (hbw.mono hB)) (Nat.le_trans hB hbw.size) hn) ?_)
 rintro e wq1 ⟨⟨vq1, rfl, hqq1⟩, hcq⟩
 refine ⟨_, rfl, ?_⟩;replace hqq1 := YU hqq1 hbw.size;replace q1 := q1.bl hcq;replace q2 := q2.bl hcq;replace hqq0 := ZD hqq0 hcq (Nat.le_refl _);replace hbw := bo_ hbw hcq;clear hcq;obtain ⟨Aq1, cq1, rfl, _⟩ := (Rd.of_own hqq1).shape;have hd2 := Rd.of_own hqq0;have hu2 := Rd.of_own hqq1;clear hqq0 hqq1;have hb2 := Below.refl wq1.heap.size wq1;have hwq := hbw.size;refine EL.val (QFN rfl rfl) rfl (EL.newS (QIc) rfl ?_);intro g3 w3 q3 hb3 hg3 hl3;have n1_3 := q1.na hg3;have n2_3 := q2.na hg3;have bhbw_3 := Nat.le_trans hbw.size hg3;have bhb2_3 := Nat.le_trans hb2.size hg3;have hbg3 : wq1.heap.size ≤ g3 := Nat.le_trans hb2.size hg3;replace q1 := q1.bl hb3;replace q2 := q2.bl hb3;replace hbw := bo_ hbw hb3;replace hb2 := bo_ hb2 hb3;clear hb3 hg3 hl3;have hO : w3.ownsRow wq1.heap.size 87 2 (.slice (some ⟨g3, 0, none⟩) 0 0) 0 [] := QB3 2 q3 hbg3;refine EL.newP QMV rfl ?_;intro g4 w4 q4 hb4 hg4 hl4;have n1_4 := q1.na hg4;have n2_4 := q2.na hg4;have bhbw_4 := Nat.le_trans hbw.size hg4;have bhb2_4 := Nat.le_trans hb2.size hg4;have hbg4 : wq1.heap.size ≤ g4 := Nat.le_trans hb2.size hg4;replace q1 := q1.bl hb4;replace q2 := q2.bl hb4;replace hO := ZD hO hb4 (Nat.le_refl _);replace hbw := bo_ hbw hb4;replace hb2 := bo_ hb2 hb4;clear hb4 hg4 hl4;refine EL.store rfl rfl q4 QMC rfl rfl rfl rfl ?_;intro w5 hq5 hg5;replace q1 := q1.gr hg5 n1_4;replace q2 := q2.gr hg5 n2_4;replace hO := ZK hO q4 rfl hg5;replace hbw := ZE hbw hg5 bhbw_4;replace hb2 := ZE hb2 hg5 bhb2_4;replace q4 := hq5;clear hg5 hq5;refine EL.as rfl rfl (EL.nil (EX.seq (EC.seq (EC.seq (EC.region (EL.as rfl rfl (EL.nil (EX.seq (EC.block ?_)))))))));refine EC.loopD [8, 9, 10, 11, 12, 13, 20, 21, 22, 23, 24, 25, 26, 27, 28, 29, 30, 31, 32, 33, 34, 35, 36, 37, 38, 39, 40, 41, 42, 43, 44, 45, 46, 47, 48, 49, 50, 51, 52, 53, 54, 55, 56, 57, 58, 59, 60, 61, 62, 63, 64, 65, 66, 67, 68, 69, 70, 71, 72, 73, 74, 75, 76, 77, 78, 79, 80, 81, 82, 83, 84, 85, 86, 87, 88, 89, 90, 91, 92, 93, 94, 95, 96, 97, 98, 99, 100] (fun y : PlV => [(9, .int .i64 (y.i : Nat)), (8, y.v)]) (fun y W => PlOk l (qL ts) y.d ∧ y.i = y.d.plan.length ∧ y.nd = (waitL (qL ts) y.d.s false).length ∧ Rd wq1 wq1.heap.size 5 (.slice y.Ad y.nd y.cd) y.nd (twsC (waitL (qL ts) y.d.s false)) ∧ y.nu = (waitL (qL ts) y.d.s true).length ∧ Rd wq1 wq1.heap.size 5 (.slice y.Au y.nu y.cu) y.nu (twsC (waitL (qL ts) y.d.s true)) ∧ W.ownsRow wq1.heap.size 87 2 y.v y.i (spsC y.d.plan) ∧ Blk W g1 82 #[.int .u8 x.a0, .int .u8 x.a1, .int .u8 x.a2, .int .u8 x.a3, .int .u8 x.a4, .bool x.hi, .slice At x.tows.length ct, .slice As x.steps.length cs] ∧ Blk W g2 23 #[.int .i64 l.length, .int .i64 l.cycle, .int .i64 l.turn, .int .i64 l.fill, .int .i64 l.save, .bool l.high] ∧ Blk W g4 90 #[.slice y.Ad y.nd y.cd, .slice y.Au y.nu y.cu] ∧ Below wq1.heap.size wq1 W ∧ Below w.heap.size w W) (fun y => remD (qL ts) y.d.s) ⟨⟨stL l, []⟩, 0, .slice (some ⟨g3, 0, none⟩) 0 0, Aq0, ((qL ts) false).length, cq0, Aq1, ((qL ts) true).length, cq1⟩ ⟨PlOk.start hq.lk, rfl, rfl, hd2, rfl, hu2, hO, q1, q2, q4, hb2, hbw⟩ ⟨rfl, rfl, trivial⟩ ?_
 clear hO hd2 hu2 q1 q2 q4 hb2 hbw
 rintro ⟨d, i, v8, Ad, nd, cd, Au, nu, cu⟩ wx ⟨hpk, hi, hnd, hd2, hnu, hu2, hO, q1, q2, q4, hb2, hbw⟩
 dsimp only at hpk hi hnd hd2 hnu hu2 hO q4
 have h8 := QMG hq hpk hnd hnu
 by_cases hz : nd + nu = 0
 ·
  have hcp : YX (qL ts) d.s = true := QLN hpk (by omega)
  refine EC.seq (EC.seq (EC.region ?_));refine EL.val (YV (k := 0) rfl rfl (by omega)) rfl ?_
  refine EL.val (YA rfl (q4.at (j := 0) rfl)) rfl (EL.val (Zw rfl) rfl ?_);refine EL.val (YV (k := 1) rfl rfl (by omega)) rfl ?_
  refine EL.val (YA rfl (q4.at (j := 1) rfl)) rfl (EL.val (Zw rfl) rfl ?_);refine EL.val (ZP rfl rfl (c := ((nd + nu : Nat) : Int)) ((IntWalk.i64_in _ ⟨by omega, by omega⟩).trans (by omega))) rfl ?_
  refine EL.val (Zx (r := false) rfl rfl (decide_eq_false (by omega))) rfl ?_
  refine EL.nil (EX.seq (EC.no rfl (EC.exit (EX.seq_exit (EX.seq_exit (EX.blk_here (EX.seq (EC.seq (EC.region ?_)))))))));refine EL.mv rfl rfl (EL.as rfl rfl (EL.nil (EX.seq (EC.ret ?_))))
  exact EX.done (res1 rfl rfl) ⟨⟨d, _, hpk, hcp, rfl, by rw [← hi]; exact YU hO hwq⟩, hbw⟩
 ·
  refine EC.seq (EC.seq (EC.region ?_));refine EL.val (YV (k := 0) rfl rfl (by omega)) rfl ?_
  refine EL.val (YA rfl (q4.at (j := 0) rfl)) rfl (EL.val (Zw rfl) rfl ?_);refine EL.val (YV (k := 1) rfl rfl (by omega)) rfl ?_
  refine EL.val (YA rfl (q4.at (j := 1) rfl)) rfl (EL.val (Zw rfl) rfl ?_);refine EL.val (ZP rfl rfl (c := ((nd + nu : Nat) : Int)) ((IntWalk.i64_in _ ⟨by omega, by omega⟩).trans (by omega))) rfl ?_
  refine EL.val (Zx (r := true) rfl rfl (decide_eq_true (by omega))) rfl ?_
  refine EL.nil (EX.seq (EC.yes rfl (EC.skip (EX.seq (EC.seq (EC.block (EC.seq (EC.region (EL.as rfl rfl ?_)))))))));refine EL.as rfl rfl (EL.nil (EX.seq ?_));refine EC.cutD [10, 11, 30, 31, 32, 33, 34, 35, 36, 37, 38, 39, 40, 41, 42, 43, 44, 45, 46, 47, 48, 49, 50, 51] (fun y : Bool × Nat => [(10, .int .i64 ((uI y.1 : Nat) : Int)), (11, .int .i64 (y.2 : Nat))]) (fun y W => (1 ≤ y.2 ∧ y.2 ≤ 3) ∧ W.ownsRow wq1.heap.size 87 2 v8 i (spsC d.plan) ∧ Blk W g1 82 #[.int .u8 x.a0, .int .u8 x.a1, .int .u8 x.a2, .int .u8 x.a3, .int .u8 x.a4, .bool x.hi, .slice At x.tows.length ct, .slice As x.steps.length cs] ∧ Blk W g2 23 #[.int .i64 l.length, .int .i64 l.cycle, .int .i64 l.turn, .int .i64 l.fill, .int .i64 l.save, .bool l.high] ∧ Blk W g4 90 #[.slice Ad nd cd, .slice Au nu cu] ∧ Below wq1.heap.size wq1 W ∧ Below w.heap.size w W) ?_ ?_
  ·
   by_cases hst : i < x.steps.length
   ·
    obtain ⟨bx, ox, ebx, _, x0, x1⟩ := QJE x.steps i hst w B _ _ _ hs
    cases ebx
    obtain ⟨hy0, hy1⟩ := hx.s _ (Zs hst (0, 0));have t2 := Yr hy1 (n := 3) (by decide)
    have t1 := QMd hy0;refine EC.seq (EC.region (EL.mv rfl rfl (EL.val (QDk rfl) rfl (EL.val (QIF rfl (q1.at (j := 7) rfl)) rfl (EL.val (QMK rfl) rfl ?_)))));refine EL.val (ZQ rfl rfl (decide_eq_true (show (((i : Nat) : Int) < ((x.steps.length : Nat) : Int)) by omega))) rfl ?_
    refine EL.nil (EX.seq (EC.yes rfl ?_));refine EC.regionQ (by kernel_rfl) (by kernel_rfl) ?_
    refine EQ.val (fun _ hw => (QDk rfl)) rfl ?_
    refine EQ.val (fun _ hw => (QIF rfl (ZB hw (q1.at (j := 7) rfl)))) rfl ?_
    refine EQ.mv rfl rfl ?_;refine EQ.val (fun _ hw => (QMO rfl rfl hst)) rfl ?_
    refine EQ.val (fun _ hw => (QII (k := 0) rfl rfl (by omega))) rfl ?_
    refine EQ.val (fun _ hw => (ld_5 rfl (ZB hw (ZB hbw x0)))) rfl ?_
    refine EQ.val (fun _ hw => (QAO rfl (YB hy0))) rfl ?_
    refine EQ.val (fun _ hw => (QBa rfl rfl (by decide) rfl)) rfl ?_
    refine EQ.val (fun _ hw => (QDk rfl)) rfl ?_
    refine EQ.val (fun _ hw => (QIF rfl (ZB hw (q1.at (j := 7) rfl)))) rfl ?_
    refine EQ.mv rfl rfl ?_;refine EQ.val (fun _ hw => (QMO rfl rfl hst)) rfl ?_
    refine EQ.val (fun _ hw => (QII (k := 1) rfl rfl (by omega))) rfl ?_
    refine EQ.val (fun _ hw => (ld_5 rfl (ZB hw (ZB hbw x1)))) rfl ?_
    refine EQ.val (fun _ hw => (QAO rfl (YB hy1))) rfl ?_
    refine EQ.val (fun _ hw => (QBa rfl rfl (by decide) rfl)) rfl ?_
    refine EQ.val (fun _ hw => (ZP rfl rfl (c := 1 + (x.steps.getD i (0, 0)).2.tmod 3) (IntWalk.i64_in (1 + (x.steps.getD i (0, 0)).2.tmod 3) ⟨by omega, by omega⟩))) rfl ?_
    refine EQ.val (fun _ hw => (ZT rfl)) rfl ?_
    refine EQ.val (fun _ hw => (ZT rfl)) rfl ?_
    refine EQ.fin (fun w6 hw_ => ?_)
    replace q1 := q1.bl hw_;replace q2 := q2.bl hw_;replace q4 := q4.bl hw_;replace hO := ZD hO hw_ (Nat.le_refl _);replace hb2 := bo_ hb2 hw_;replace hbw := bo_ hbw hw_;clear hw_
    exact EX.cutE (decide ((x.steps.getD i (0, 0)).1.tmod 2 = 1), (1 + (x.steps.getD i (0, 0)).2.tmod 3).toNat) ⟨YH t1 rfl, YH (by show _ = (((1 + (x.steps.getD i (0, 0)).2.tmod 3).toNat : Nat) : Int); omega) rfl, trivial⟩ (by repeat first | with_reducible exact (Sub.refl _).del _ | refine sp_ rfl ?_ | exact (Sub.refl _).del _ | refine sd_ rfl ?_ | refine sn_ ?_) ⟨by simp only; omega, hO, q1, q2, q4, hb2, hbw⟩
   ·
    refine EC.seq (EC.region (EL.mv rfl rfl (EL.val (QDk rfl) rfl (EL.val (QIF rfl (q1.at (j := 7) rfl)) rfl (EL.val (QMK rfl) rfl ?_)))));refine EL.val (ZQ rfl rfl (decide_eq_false (show ¬(((i : Nat) : Int) < ((x.steps.length : Nat) : Int)) by omega))) rfl ?_
    refine EL.nil (EX.seq (EC.no rfl (EC.skip ?_)))
    exact EX.cutE (false, 1) ⟨rfl, rfl, trivial⟩ (by repeat first | with_reducible exact (Sub.refl _).del _ | refine sp_ rfl ?_ | exact (Sub.refl _).del _ | refine sd_ rfl ?_ | refine sn_ ?_) ⟨by simp, hO, q1, q2, q4, hb2, hbw⟩
  ·
   clear hO q1 q2 q4 hb2 hbw
   rintro ⟨u0, n0⟩ w6 ⟨hn0, hO, q1, q2, q4, hb2, hbw⟩
   dsimp only at hn0
   refine EC.cutD [10, 52, 53, 54, 55, 56, 57, 58] (fun y : Bool => [(10, .int .i64 ((uI y : Nat) : Int))]) (fun y W => 1 ≤ (waitL (qL ts) d.s y).length ∧ W.ownsRow wq1.heap.size 87 2 v8 i (spsC d.plan) ∧ Blk W g1 82 #[.int .u8 x.a0, .int .u8 x.a1, .int .u8 x.a2, .int .u8 x.a3, .int .u8 x.a4, .bool x.hi, .slice At x.tows.length ct, .slice As x.steps.length cs] ∧ Blk W g2 23 #[.int .i64 l.length, .int .i64 l.cycle, .int .i64 l.turn, .int .i64 l.fill, .int .i64 l.save, .bool l.high] ∧ Blk W g4 90 #[.slice Ad nd cd, .slice Au nu cu] ∧ Below wq1.heap.size wq1 W ∧ Below w.heap.size w W) ?_ ?_
   ·
    cases u0
    ·
     by_cases hz0 : nd = 0
     ·
      refine EC.seq (EC.region (EL.mv rfl rfl ?_));refine EL.val (YV (k := 0) rfl rfl (by omega)) rfl ?_
      refine EL.val (YA rfl (q4.at (j := 0) rfl)) rfl (EL.val (Zw rfl) rfl ?_);refine EL.val (YF (r := true) rfl rfl (decide_eq_true (by omega))) rfl ?_
      refine EL.nil (EX.seq (EC.yes rfl (EC.region (EL.mv rfl rfl (EL.val (Zv rfl rfl (c := 1) rfl) rfl (EL.as rfl rfl (EL.nil ?_)))))))
      exact EX.cutE true ⟨rfl, trivial⟩ (by repeat first | with_reducible exact (Sub.refl _).del _ | refine sp_ rfl ?_ | exact (Sub.refl _).del _ | refine sd_ rfl ?_ | refine sn_ ?_) ⟨by rw [← hnu]; omega, hO, q1, q2, q4, hb2, hbw⟩
     ·
      refine EC.seq (EC.region (EL.mv rfl rfl ?_));refine EL.val (YV (k := 0) rfl rfl (by omega)) rfl ?_
      refine EL.val (YA rfl (q4.at (j := 0) rfl)) rfl (EL.val (Zw rfl) rfl ?_);refine EL.val (YF (r := false) rfl rfl (decide_eq_false (by omega))) rfl ?_
      refine EL.nil (EX.seq (EC.no rfl (EC.skip ?_)))
      exact EX.cutE false ⟨rfl, trivial⟩ (by repeat first | with_reducible exact (Sub.refl _).del _ | refine sp_ rfl ?_ | exact (Sub.refl _).del _ | refine sd_ rfl ?_ | refine sn_ ?_) ⟨by rw [← hnd]; omega, hO, q1, q2, q4, hb2, hbw⟩
    ·
     by_cases hz0 : nu = 0
     ·
      refine EC.seq (EC.region (EL.mv rfl rfl ?_));refine EL.val (YV (k := 1) rfl rfl (by omega)) rfl ?_
      refine EL.val (YA rfl (q4.at (j := 1) rfl)) rfl (EL.val (Zw rfl) rfl ?_);refine EL.val (YF (r := true) rfl rfl (decide_eq_true (by omega))) rfl ?_
      refine EL.nil (EX.seq (EC.yes rfl (EC.region (EL.mv rfl rfl (EL.val (Zv rfl rfl (c := 0) rfl) rfl (EL.as rfl rfl (EL.nil ?_)))))))
      exact EX.cutE false ⟨rfl, trivial⟩ (by repeat first | with_reducible exact (Sub.refl _).del _ | refine sp_ rfl ?_ | exact (Sub.refl _).del _ | refine sd_ rfl ?_ | refine sn_ ?_) ⟨by rw [← hnd]; omega, hO, q1, q2, q4, hb2, hbw⟩
     ·
      refine EC.seq (EC.region (EL.mv rfl rfl ?_));refine EL.val (YV (k := 1) rfl rfl (by omega)) rfl ?_
      refine EL.val (YA rfl (q4.at (j := 1) rfl)) rfl (EL.val (Zw rfl) rfl ?_);refine EL.val (YF (r := false) rfl rfl (decide_eq_false (by omega))) rfl ?_
      refine EL.nil (EX.seq (EC.no rfl (EC.skip ?_)))
      exact EX.cutE true ⟨rfl, trivial⟩ (by repeat first | with_reducible exact (Sub.refl _).del _ | refine sp_ rfl ?_ | exact (Sub.refl _).del _ | refine sd_ rfl ?_ | refine sn_ ?_) ⟨by rw [← hnu]; omega, hO, q1, q2, q4, hb2, hbw⟩
   ·
    clear hO q1 q2 q4 hb2 hbw
    rintro u w8 ⟨hw1, hO, q1, q2, q4, hb2, hbw⟩
    have hwl := Zz (qL ts) d.s u;obtain ⟨nw, hnw⟩ : ∃ z, z = (waitL (qL ts) d.s u).length := ⟨_, rfl⟩;rw [← hnw] at hw1;have hsn : sel u nd nu = nw := by rw [hnw]; cases u; exact hnd; exact hnu
    have hw2 : Rd wq1 wq1.heap.size 5 (.slice (sel u Ad Au) nw (sel u cd cu)) nw (twsC (waitL (qL ts) d.s u)) := by rw [← hsn]; cases u; exact hd2; exact hu2
    have hw8 : nw ≤ 8 := by rw [← hsn]; cases u <;> simp [sel] <;> omega
    refine EC.seq (EC.region (EL.mv rfl rfl (EL.mv rfl rfl (EL.val (YV (k := uI u) rfl rfl (QGI u)) rfl (EL.val (YA rfl (QDt hsn q4)) rfl (EL.val (Zw rfl) rfl ?_))))));refine EL.val (QJ9 rfl rfl (show min ((n0 : Nat) : Int) ((nw : Nat) : Int) = ((min n0 nw : Nat) : Int) by omega)) rfl ?_
    refine EL.as rfl rfl (EL.nil (EX.seq ?_));refine EC.cutD [11, 12, 13, 65, 66, 67, 68, 69, 70, 71, 72, 73, 74, 75, 76, 77, 78, 79, 80, 81, 82, 83, 84, 85, 86] (fun n : Nat => [(11, .int .i64 (n : Nat))]) (fun n W => (1 ≤ n ∧ n ≤ nw ∧ fitN (qL ts) d.s u n = true) ∧ W.ownsRow wq1.heap.size 87 2 v8 i (spsC d.plan) ∧ Blk W g1 82 #[.int .u8 x.a0, .int .u8 x.a1, .int .u8 x.a2, .int .u8 x.a3, .int .u8 x.a4, .bool x.hi, .slice At x.tows.length ct, .slice As x.steps.length cs] ∧ Blk W g2 23 #[.int .i64 l.length, .int .i64 l.cycle, .int .i64 l.turn, .int .i64 l.fill, .int .i64 l.save, .bool l.high] ∧ Blk W g4 90 #[.slice Ad nd cd, .slice Au nu cu] ∧ Below wq1.heap.size wq1 W ∧ Below w.heap.size w W) ?_ ?_
    ·
     refine EC.seq (EC.region (EL.as rfl rfl (EL.nil (EX.seq (EC.block ?_)))));refine EC.loopD [11, 12, 13, 65, 66, 67, 68, 69, 70, 71, 72, 73, 74, 75, 76, 77, 78, 79, 80, 81, 82, 83, 84, 85, 86] (fun n : Nat => [(11, .int .i64 (n : Nat))]) (fun n W => (1 ≤ n ∧ n ≤ nw ∧ n ≤ 3) ∧ W.ownsRow wq1.heap.size 87 2 v8 i (spsC d.plan) ∧ Blk W g1 82 #[.int .u8 x.a0, .int .u8 x.a1, .int .u8 x.a2, .int .u8 x.a3, .int .u8 x.a4, .bool x.hi, .slice At x.tows.length ct, .slice As x.steps.length cs] ∧ Blk W g2 23 #[.int .i64 l.length, .int .i64 l.cycle, .int .i64 l.turn, .int .i64 l.fill, .int .i64 l.save, .bool l.high] ∧ Blk W g4 90 #[.slice Ad nd cd, .slice Au nu cu] ∧ Below wq1.heap.size wq1 W ∧ Below w.heap.size w W) (fun n => n) (min n0 nw) ⟨⟨by omega, by omega, by omega⟩, hO, q1, q2, q4, hb2, hbw⟩ ⟨rfl, trivial⟩ ?_
     clear hO q1 q2 q4 hb2 hbw
     rintro n wm ⟨⟨hn1, hn2, hn3⟩, hO, q1, q2, q4, hb2, hbw⟩
     by_cases hgt : 1 < n
     ·
      refine EC.seq (EC.seq (EC.region (EL.mv rfl rfl ?_)));refine EL.val (Zx (r := true) rfl rfl (decide_eq_true (by omega))) rfl ?_
      refine EL.nil (EX.seq (EC.yes rfl (EC.skip (EX.seq (EC.seq (EC.block (EC.seq (EC.region (EL.as rfl rfl ?_)))))))));refine EL.nil (EX.seq (EC.seq (EC.seq (EC.region (EL.as rfl rfl (EL.nil (EX.seq (EC.block ?_))))))));refine EC.loopD [12, 13, 69, 70, 71, 72, 73, 74, 75, 76, 77, 78, 79, 80, 81, 82] (fun k : Nat => [(13, .int .i64 (k : Nat)), (12, .int .i64 (ZX ((waitL (qL ts) d.s u).take k)))]) (fun k W => k ≤ n ∧ W.ownsRow wq1.heap.size 87 2 v8 i (spsC d.plan) ∧ Blk W g1 82 #[.int .u8 x.a0, .int .u8 x.a1, .int .u8 x.a2, .int .u8 x.a3, .int .u8 x.a4, .bool x.hi, .slice At x.tows.length ct, .slice As x.steps.length cs] ∧ Blk W g2 23 #[.int .i64 l.length, .int .i64 l.cycle, .int .i64 l.turn, .int .i64 l.fill, .int .i64 l.save, .bool l.high] ∧ Blk W g4 90 #[.slice Ad nd cd, .slice Au nu cu] ∧ Below wq1.heap.size wq1 W ∧ Below w.heap.size w W) (fun k => n - k) 0 ⟨Nat.zero_le _, hO, q1, q2, q4, hb2, hbw⟩ ⟨rfl, rfl, trivial⟩ ?_
      clear hO q1 q2 q4 hb2 hbw
      rintro k wk ⟨hk, hO, q1, q2, q4, hb2, hbw⟩
      have htwU : ∀ y ∈ (waitL (qL ts) d.s u), twB l y = true := fun y hy => hq.tw u y (List.mem_of_mem_drop hy)
      have hpb := QFf htwU (hnw ▸ hw8) hq.lk k;have hlb := Yz hq.lk
      by_cases hkn : k < n
      ·
       have hkw : k < (waitL (qL ts) d.s u).length := by omega
       obtain ⟨b, o, eb_, _, cc⟩ := Z6 (waitL (qL ts) d.s u) k hkw wq1 wq1.heap.size _ _ _ hw2;have hy := htwU _ (Zs hkw tw0);have hs1 : (ZX ((waitL (qL ts) d.s u).take (k + 1))) = (ZX ((waitL (qL ts) d.s u).take k)) + ((waitL (qL ts) d.s u).getD k tw0).length := QB1 (f := (·.length)) hkw
       generalize (waitL (qL ts) d.s u).getD k tw0 = y at cc hy hs1
       obtain ⟨_, y2, _, _⟩ := QAZ hy;refine EC.seq (EC.seq (EC.region (EL.mv rfl rfl (EL.mv rfl rfl ?_))));refine EL.val (ZQ rfl rfl (decide_eq_true (show (((k : Nat) : Int) < ((n : Nat) : Int)) by omega))) rfl ?_
       refine EL.nil (EX.seq (EC.yes rfl (EC.skip (EX.seq (EC.seq (EC.block (EC.region (EL.mv rfl rfl (EL.mv rfl rfl ?_)))))))));refine EL.val (YV (k := uI u) rfl rfl (QGI u)) rfl (EL.val (YA rfl (QDt hsn q4)) rfl (EL.mv rfl rfl ?_));refine EL.val (Yd (by show some (Value.slice (sel u Ad Au) _ _) = _; rw [eb_]) rfl (show k < nw by omega)) rfl ?_
       refine EL.val (QDn rfl) rfl (EL.val (ld_3 rfl (ZB hb2 cc.c2)) rfl ?_);refine EL.val (ZP rfl rfl (c := (ZX ((waitL (qL ts) d.s u).take (k + 1)))) ((IntWalk.i64_in _ ⟨by omega, by omega⟩).trans hs1.symm)) rfl ?_
       refine EL.as rfl rfl (EL.nil (EX.blk (EX.seq (EC.region (EL.mv rfl rfl ?_)))));refine EL.val (ZP rfl rfl (c := ((k + 1 : Nat) : Int)) ((IntWalk.i64_in _ ⟨by first | omega | (simp only; omega), by first | omega | (simp only; omega)⟩).trans (by first | omega | (simp only; omega)))) rfl ?_
       refine EL.as rfl rfl (EL.nil ?_);refine EX.roundD (k + 1) ⟨rfl, rfl, trivial⟩ (by repeat first | with_reducible exact .refl _ | refine sp_ rfl ?_ | exact .refl _ | refine sd_ rfl ?_ | refine sn_ ?_) ⟨hkn, hO, q1, q2, q4, hb2, hbw⟩ (by omega)
      ·
       obtain rfl : k = n := by omega
       refine EC.seq (EC.seq (EC.region (EL.mv rfl rfl (EL.mv rfl rfl ?_))));refine EL.val (ZQ rfl rfl (decide_eq_false (show ¬(((k : Nat) : Int) < ((k : Nat) : Int)) by omega))) rfl ?_
       refine EL.nil (EX.seq (EC.no rfl (EC.exit (EX.seq_exit (EX.seq_exit (EX.blk_here (EX.seq (EC.seq (EC.region ?_)))))))));refine EL.mv rfl rfl (EL.val (Yj rfl) rfl (EL.val (ld_3 rfl (q2.at (j := 0) rfl)) rfl ?_))
       by_cases hle : (ZX ((waitL (qL ts) d.s u).take k)) ≤ l.length
       ·
        refine EL.val (QDx (r := true) rfl rfl (decide_eq_true hle)) rfl (EL.nil (EX.seq (EC.yes rfl (EC.exit (EX.blk_other rfl (EX.seq_exit (EX.seq_exit (EX.blk_here ?_))))))))
        exact EX.cutE k ⟨rfl, trivial⟩ (by repeat first | with_reducible exact (Sub.refl _).del _ | refine sp_ rfl ?_ | exact (Sub.refl _).del _ | refine sd_ rfl ?_ | refine sn_ ?_) ⟨⟨hn1, hn2, QNB hpk.dr hle⟩, hO, q1, q2, q4, hb2, hbw⟩
       ·
        refine EL.val (QDx (r := false) rfl rfl (decide_eq_false hle)) rfl (EL.nil (EX.seq (EC.no rfl (EC.skip (EX.blk (EX.seq (EC.region (EL.mv rfl rfl ?_))))))));refine EL.val (Zv rfl rfl (c := ((k - 1 : Nat) : Int)) ((IntWalk.i64_in _ ⟨by omega, by omega⟩).trans (by omega))) rfl ?_
        refine EL.as rfl rfl (EL.nil ?_);refine EX.roundD (k - 1) ⟨rfl, trivial⟩ (by repeat first | with_reducible exact .refl _ | refine sp_ rfl ?_ | exact .refl _ | refine sd_ rfl ?_ | refine sn_ ?_) ⟨⟨by omega, by omega, by omega⟩, hO, q1, q2, q4, hb2, hbw⟩ (by omega)
     ·
      obtain rfl : n = 1 := by omega
      refine EC.seq (EC.seq (EC.region (EL.mv rfl rfl ?_)));refine EL.val (Zx (r := false) rfl rfl (decide_eq_false (by decide))) rfl ?_
      refine EL.nil (EX.seq (EC.no rfl (EC.exit (EX.seq_exit (EX.seq_exit (EX.blk_here ?_))))))
      exact EX.cutE 1 ⟨rfl, trivial⟩ (by repeat first | with_reducible exact (Sub.refl _).del _ | refine sp_ rfl ?_ | exact (Sub.refl _).del _ | refine sd_ rfl ?_ | refine sn_ ?_) ⟨⟨hn1, hn2, QLQ (hnw ▸ hn2)⟩, hO, q1, q2, q4, hb2, hbw⟩
    ·
     clear hO q1 q2 q4 hb2 hbw
     rintro n wn ⟨⟨hn1, hn2, hfit⟩, hO, q1, q2, q4, hb2, hbw⟩
     cases u
     ·
      have hsn2 : nd = nw := hsn;obtain ⟨bA, oA, rfl, _⟩ := hd2.at_ (by omega)
      have hlc := QDB hd2;have hW := ZG hO (w1 := wn) ⟨rfl, rfl, rfl, Nat.le_refl _, fun _ _ _ => rfl⟩ hb2.size
      clear hW;have lt_1 := q1.lt;have lt_2 := q2.lt;have lt_4 := q4.lt;refine EC.regionS [[], [], [], [2], [], [2, 3, 4], [2, 3, 4, 5], [1, 2, 3, 4, 5, 6], [], [8], [8, 9], [], [8, 9, 10, 11], [1, 2, 3, 4, 5, 6, 7], [0, 1, 2, 3, 4, 5, 6, 7, 8, 9, 10, 11, 12, 13], [0, 1, 2, 3, 4, 5, 6, 7, 8, 9, 10, 11, 12, 13, 14]] 14 [] [7] (fun fl w_ => wn.grownBy w_ (v8 : Value).ownBlock ∧ (fl 7 = false → w_.ownsRow wq1.heap.size 87 2 v8 i (spsC d.plan))) (phiS (fun i_ r => match i_ with | 0 => r 0 = .int .i64 ((uI false : Nat) : Int) | 1 => r 1 = v8 | 2 => r 2 = .int .i64 ((uI false : Nat) : Int) | 3 => r 3 = .bool false | 4 => r 4 = .int .i64 (n : Nat) | 5 => r 5 = .agg #[.bool false, .int .i64 (n : Nat)] | 8 => r 8 = .int .i64 ((uI false : Nat) : Int) | 9 => r 9 = .pointer (some ⟨g4, 0 + 0, none⟩) | 10 => r 10 = .slice (some ⟨bA, oA, none⟩) nd cd | 11 => r 11 = .int .i64 (n : Nat) | 12 => r 12 = .slice (Z0 (some ⟨bA, oA, none⟩) cd n) (nd - n) (cd - n) | _ => True) [(6, fun fl r w_ => fl 7 = false → (∃ g_, r 6 = .slice (some ⟨g_, 0, none⟩) 1 1 ∧ Blk w_ g_ 87 #[.bool false, .int .i64 (n : Nat)] ∧ wn.heap.size ≤ g_)), (7, fun _ r w_ => w_.ownsRow wq1.heap.size 87 2 (r 7) (i + 1) ((spsC d.plan) ++ [.bool false, .int .i64 (n : Nat)]) ∧ ∀ b, (r 7).ownBlock = some b → (v8 : Value).ownBlock = some b ∨ wn.heap.size ≤ b), (13, fun _ r w_ => r 13 = r 7)]) (by kernel_rfl) rfl rfl (by intro i hi; simp at hi; subst hi; exact ⟨by simp, by omega⟩) (QAh hO) (ZL (Yk Yy) (ZL (Y9 (e := 7) (C := fun u_ => ∀ b, u_.ownBlock = some b → (v8 : Value).ownBlock = some b ∨ wn.heap.size ≤ b)) (ZL (fun _ _ _ _ _ h => h) (Zd)))) (fun i_ hi_ hs_ => ?_) (fun i_ hi_ => ?_) ?_
      ·match i_, hi_ with
       | 0, _ =>
        intro val fl w1 a hb ha hd hfl;obtain ⟨hgb, hg0⟩ := hb;have hb := ZG hO hgb hb2.size;have ha := ha.s0 (d := 10) rfl
        exact ZC ha rfl rfl (x_move rfl) rfl rfl
       | 1, _ =>
        intro val fl w1 a hb ha hd hfl;obtain ⟨hgb, hg0⟩ := hb;have hb := ZG hO hgb hb2.size;have ha := ha.s0 (d := 8) rfl
        exact ZC ha rfl rfl (x_move rfl) rfl rfl
       | 2, _ =>
        intro val fl w1 a hb ha hd hfl;obtain ⟨hgb, hg0⟩ := hb;have hb := ZG hO hgb hb2.size;have ha := ha.s0 (d := 10) rfl
        exact ZC ha rfl rfl (x_move rfl) rfl rfl
       | 3, _ =>
        intro val fl w1 a hb ha hd hfl;obtain ⟨hgb, hg0⟩ := hb;have hb := ZG hO hgb hb2.size;have e2 : val 2 = _ := hd 2 (ZA.1 rfl);have ha := ha.s1 (d := 89) rfl e2
        exact ZC ha rfl rfl (YF (r := false) rfl rfl rfl) rfl rfl
       | 4, _ =>
        intro val fl w1 a hb ha hd hfl;obtain ⟨hgb, hg0⟩ := hb;have hb := ZG hO hgb hb2.size;have ha := ha.s0 (d := 11) rfl
        exact ZC ha rfl rfl (x_move rfl) rfl rfl
       | 5, _ =>
        intro val fl w1 a hb ha hd hfl;obtain ⟨hgb, hg0⟩ := hb;have hb := ZG hO hgb hb2.size;have e3 : val 3 = _ := hd 3 (ZA.1 rfl);have e4 : val 4 = _ := hd 4 (ZA.1 rfl);have ha := ha.s2 (d := 91) (e := 90) rfl e4 rfl e3
        exact ZC ha rfl rfl (QAB rfl rfl) rfl rfl
       | 6, _ =>
        intro val fl w1 a hb ha hd hfl;obtain ⟨hgb, hg0⟩ := hb;have hb := ZG hO hgb hb2.size;have e5 : val 5 = _ := hd 5 (ZA.1 rfl);have ha := ha.s1 (d := 92) rfl e5
        exact QBI ha rfl rfl (QDr rfl) rfl (fun g w' hq _ hge => fun _ => ⟨g, rfl, hq, Nat.le_trans hgb.size hge⟩)
       | 7, _ =>
        exact absurd (by simp) hs_
       | 8, _ =>
        intro val fl w1 a hb ha hd hfl;obtain ⟨hgb, hg0⟩ := hb;have hb := ZG hO hgb hb2.size;have ha := ha.s0 (d := 10) rfl
        exact ZC ha rfl rfl (x_move rfl) rfl rfl
       | 9, _ =>
        intro val fl w1 a hb ha hd hfl;obtain ⟨hgb, hg0⟩ := hb;have hb := ZG hO hgb hb2.size;have e8 : val 8 = _ := hd 8 (ZA.1 rfl);have ha := ha.sub (Sub.ins (d := 95) (Sub.ins (d := 7) (Sub.nil _) rfl) (ZO rfl e8))
        exact ZC ha rfl rfl (YV (k := 0) rfl rfl (by omega)) rfl rfl
       | 10, _ =>
        intro val fl w1 a hb ha hd hfl;obtain ⟨hgb, hg0⟩ := hb;have hb := ZG hO hgb hb2.size;have e9 : val 9 = _ := hd 9 (ZA.1 rfl);have ha := ha.s1 (d := 96) rfl e9
        exact ZC ha rfl rfl (YA rfl ((ZM q4 hO rfl hgb).at (j := 0) rfl)) rfl rfl
       | 11, _ =>
        intro val fl w1 a hb ha hd hfl;obtain ⟨hgb, hg0⟩ := hb;have hb := ZG hO hgb hb2.size;have ha := ha.s0 (d := 11) rfl
        exact ZC ha rfl rfl (x_move rfl) rfl rfl
       | 12, _ =>
        intro val fl w1 a hb ha hd hfl;obtain ⟨hgb, hg0⟩ := hb;have hb := ZG hO hgb hb2.size;have e10 : val 10 = _ := hd 10 (ZA.1 rfl);have e11 : val 11 = _ := hd 11 (ZA.1 rfl);have ha := ha.s2 (d := 98) (e := 97) rfl e11 rfl e10
        exact ZC ha rfl rfl (QFb (lo := n) rfl rfl (by omega) rfl) rfl rfl
       | 13, _ =>
        intro val fl w1 a hb ha hd hfl;obtain ⟨hgb, hg0⟩ := hb;have hb := ZG hO hgb hb2.size;obtain ⟨ho7_, hn7_⟩ := hd 7 (ZA.1 rfl);change w1.ownsRow _ _ _ (val 7) _ _ at ho7_;obtain ⟨A7_, c7_, e7, _⟩ := (Rd.of_own ho7_).shape;rw [e7] at ho7_;have ha := ha.s1 (d := 94) rfl e7
        exact ZC ha rfl rfl (ZT rfl) e7.symm rfl
       | k + 14, h => exact absurd h (by omega)
      ·simp only [List.mem_singleton] at hi_; subst hi_
       intro val fl w1 a hb hfi ha hd hfl;obtain ⟨hgb, hg0⟩ := hb;have hb := ZG hO hgb hb2.size;have e1 : val 1 = _ := hd 1 (ZA.1 rfl);obtain ⟨g6_, e6, q6_, h6_⟩ := hd 6 (ZA.1 rfl) hfi;change val 6 = _ at e6;have ha := ha.s2 (d := 93) (e := 88) rfl e6 rfl e1;refine QBG QCe ha rfl rfl rfl (hg0 hfi) (QAM (l := [.bool false, .int .i64 (n : Nat)]) q6_ rfl) (by intro u hu; simp only [List.mem_cons, List.not_mem_nil, or_false] at hu; rcases hu with rfl | rfl <;> rfl) (by omega) rfl (Nat.le_trans hb2.size hgb.size) ?_
       intro v' w' ho' hgr hat;refine ⟨v', rfl, hgr.size, ⟨Zh hgb hgr, fun h => by rw [ZS] at h; cases h⟩, ⟨ho', fun b hb' => ?_⟩, fun j _ hj hn hA => ?_⟩
       ·rcases hat with h | h
        ·exact .inl (h ▸ hb')
        ·refine .inr ?_
         change v'.ownBlock = some b at hb';rw [h] at hb'
         injection hb' with hb'
         have := hgb.size
         omega
       ·exact ZF (C := fun j => j ≠ 7 ∧ 7 ∉ clsAt [[], [], [], [2], [], [2, 3, 4], [2, 3, 4, 5], [1, 2, 3, 4, 5, 6], [], [8], [8, 9], [], [8, 9, 10, 11], [1, 2, 3, 4, 5, 6, 7], [0, 1, 2, 3, 4, 5, 6, 7, 8, 9, 10, 11, 12, 13], [0, 1, 2, 3, 4, 5, 6, 7, 8, 9, 10, 11, 12, 13, 14]] j) (fun _ _ h => by rw [ZS] at h; cases h) (ZF (fun hc => absurd rfl hc.1) (ZF (fun hc => absurd (ZA.1 rfl) hc.2) (fun _ _ h => h))) j ⟨hj, hn⟩
      ·intro val fl w' hfl hb halc hd
       obtain ⟨hgb, _⟩ := hb;have hb := ZG hO hgb hb2.size;have e0 : val 0 = _ := hd 0 (by omega)
       have e1 : val 1 = _ := hd 1 (by omega)
       have e2 : val 2 = _ := hd 2 (by omega)
       have e3 : val 3 = _ := hd 3 (by omega)
       have e4 : val 4 = _ := hd 4 (by omega)
       have e5 : val 5 = _ := hd 5 (by omega)
       obtain ⟨ho7, hn7⟩ := hd 7 (by omega)
       change w'.ownsRow _ _ _ (val 7) _ _ at ho7;have e8 : val 8 = _ := hd 8 (by omega)
       have e9 : val 9 = _ := hd 9 (by omega)
       have e10 : val 10 = _ := hd 10 (by omega)
       have e11 : val 11 = _ := hd 11 (by omega)
       have e12 : val 12 = _ := hd 12 (by omega)
       have e13 : val 13 = val 7 := hd 13 (by omega)
       refine EL.ends (cs := [_, _, _, _, _, _, val 6, val 7, _, _, _, _, _, _]) ⟨e0, e1, e2, e3, e4, e5, rfl, rfl, e8, e9, e10, e11, e12, e13, trivial⟩ rfl ?_;replace q1 := ZM q1 hO rfl hgb;replace q2 := ZM q2 hO rfl hgb;replace q4 := ZM q4 hO rfl hgb;replace hb2 := hb2.trans (hb.mono (Nat.le_refl _));replace hbw := hbw.trans (hb.mono hwq);obtain ⟨A7, c7, e7_, _⟩ := (Rd.of_own ho7).shape;rw [e7_] at ho7 ⊢;refine EL.val (YV (k := 0) rfl rfl (by omega)) rfl ?_
       refine EL.store rfl rfl q4 QGM rfl rfl rfl rfl ?_;intro w7 hq7 hg7;replace q1 := q1.gr hg7 n1_4;replace q2 := q2.gr hg7 n2_4;replace ho7 := ZK ho7 q4 rfl hg7;replace hb2 := ZE hb2 hg7 bhb2_4;replace hbw := ZE hbw hg7 bhbw_4;replace q4 := hq7;clear hg7 hq7;refine EL.nil (EX.blk (EX.seq (EC.region (EL.mv rfl rfl ?_))));refine EL.val (ZP rfl rfl (c := ((i + 1 : Nat) : Int)) ((IntWalk.i64_in _ ⟨by first | omega | (simp only; omega), by first | omega | (simp only; omega)⟩).trans (by first | omega | (simp only; omega)))) rfl ?_
       refine EL.as rfl rfl (EL.nil ?_);have hnx : n ≤ (waitL (qL ts) d.s false).length := by omega
       have hwo := fun v => QGG (q := (qL ts)) (d := d) (u := false) (v := v) (n := n) hnx
       refine EX.roundD ⟨oneD (qL ts) d false n, i + 1, (.slice A7 (i + 1) c7), (Z0 (some ⟨bA, oA, none⟩) cd n), nd - n, cd - n, Au, nu, cu⟩ ⟨rfl, rfl, trivial⟩ (by repeat first | with_reducible exact .refl _ | refine sp_ rfl ?_ | exact .refl _ | refine sd_ rfl ?_ | refine sn_ ?_) ⟨PlOk.one hq hpk hn1 hnx hfit, (by rw [QJw, hi]), (by show nd - n = _; rw [hwo, if_pos rfl, List.length_drop]; omega), (by rw [hwo, if_pos rfl]; exact QHJ hd2 (by omega)), (by rw [hwo, if_neg (by decide)]; exact hnu), (by rw [hwo, if_neg (by decide)]; exact hu2), (by rw [pl_C]; exact ho7), q1, q2, q4, hb2, hbw⟩ (by have := QDe (q := (qL ts)) (d := d) (u := false) (n := n) hpk.dr hnx; show remD (qL ts) (oneD (qL ts) d false n).s < remD (qL ts) d.s; omega)
     ·
      have hsn2 : nu = nw := hsn;obtain ⟨bA, oA, rfl, _⟩ := hu2.at_ (by omega)
      have hlc := QDB hu2;have hW := ZG hO (w1 := wn) ⟨rfl, rfl, rfl, Nat.le_refl _, fun _ _ _ => rfl⟩ hb2.size
      clear hW;have lt_1 := q1.lt;have lt_2 := q2.lt;have lt_4 := q4.lt;refine EC.regionS [[], [], [], [2], [], [2, 3, 4], [2, 3, 4, 5], [1, 2, 3, 4, 5, 6], [], [8], [8, 9], [], [8, 9, 10, 11], [1, 2, 3, 4, 5, 6, 7], [0, 1, 2, 3, 4, 5, 6, 7, 8, 9, 10, 11, 12, 13], [0, 1, 2, 3, 4, 5, 6, 7, 8, 9, 10, 11, 12, 13, 14]] 14 [] [7] (fun fl w_ => wn.grownBy w_ (v8 : Value).ownBlock ∧ (fl 7 = false → w_.ownsRow wq1.heap.size 87 2 v8 i (spsC d.plan))) (phiS (fun i_ r => match i_ with | 0 => r 0 = .int .i64 ((uI true : Nat) : Int) | 1 => r 1 = v8 | 2 => r 2 = .int .i64 ((uI true : Nat) : Int) | 3 => r 3 = .bool true | 4 => r 4 = .int .i64 (n : Nat) | 5 => r 5 = .agg #[.bool true, .int .i64 (n : Nat)] | 8 => r 8 = .int .i64 ((uI true : Nat) : Int) | 9 => r 9 = .pointer (some ⟨g4, 0 + 1, none⟩) | 10 => r 10 = .slice (some ⟨bA, oA, none⟩) nu cu | 11 => r 11 = .int .i64 (n : Nat) | 12 => r 12 = .slice (Z0 (some ⟨bA, oA, none⟩) cu n) (nu - n) (cu - n) | _ => True) [(6, fun fl r w_ => fl 7 = false → (∃ g_, r 6 = .slice (some ⟨g_, 0, none⟩) 1 1 ∧ Blk w_ g_ 87 #[.bool true, .int .i64 (n : Nat)] ∧ wn.heap.size ≤ g_)), (7, fun _ r w_ => w_.ownsRow wq1.heap.size 87 2 (r 7) (i + 1) ((spsC d.plan) ++ [.bool true, .int .i64 (n : Nat)]) ∧ ∀ b, (r 7).ownBlock = some b → (v8 : Value).ownBlock = some b ∨ wn.heap.size ≤ b), (13, fun _ r w_ => r 13 = r 7)]) (by kernel_rfl) rfl rfl (by intro i hi; simp at hi; subst hi; exact ⟨by simp, by omega⟩) (QAh hO) (ZL (Yk Yy) (ZL (Y9 (e := 7) (C := fun u_ => ∀ b, u_.ownBlock = some b → (v8 : Value).ownBlock = some b ∨ wn.heap.size ≤ b)) (ZL (fun _ _ _ _ _ h => h) (Zd)))) (fun i_ hi_ hs_ => ?_) (fun i_ hi_ => ?_) ?_
      ·match i_, hi_ with
       | 0, _ =>
        intro val fl w1 a hb ha hd hfl;obtain ⟨hgb, hg0⟩ := hb;have hb := ZG hO hgb hb2.size;have ha := ha.s0 (d := 10) rfl
        exact ZC ha rfl rfl (x_move rfl) rfl rfl
       | 1, _ =>
        intro val fl w1 a hb ha hd hfl;obtain ⟨hgb, hg0⟩ := hb;have hb := ZG hO hgb hb2.size;have ha := ha.s0 (d := 8) rfl
        exact ZC ha rfl rfl (x_move rfl) rfl rfl
       | 2, _ =>
        intro val fl w1 a hb ha hd hfl;obtain ⟨hgb, hg0⟩ := hb;have hb := ZG hO hgb hb2.size;have ha := ha.s0 (d := 10) rfl
        exact ZC ha rfl rfl (x_move rfl) rfl rfl
       | 3, _ =>
        intro val fl w1 a hb ha hd hfl;obtain ⟨hgb, hg0⟩ := hb;have hb := ZG hO hgb hb2.size;have e2 : val 2 = _ := hd 2 (ZA.1 rfl);have ha := ha.s1 (d := 89) rfl e2
        exact ZC ha rfl rfl (YF (r := true) rfl rfl rfl) rfl rfl
       | 4, _ =>
        intro val fl w1 a hb ha hd hfl;obtain ⟨hgb, hg0⟩ := hb;have hb := ZG hO hgb hb2.size;have ha := ha.s0 (d := 11) rfl
        exact ZC ha rfl rfl (x_move rfl) rfl rfl
       | 5, _ =>
        intro val fl w1 a hb ha hd hfl;obtain ⟨hgb, hg0⟩ := hb;have hb := ZG hO hgb hb2.size;have e3 : val 3 = _ := hd 3 (ZA.1 rfl);have e4 : val 4 = _ := hd 4 (ZA.1 rfl);have ha := ha.s2 (d := 91) (e := 90) rfl e4 rfl e3
        exact ZC ha rfl rfl (QAB rfl rfl) rfl rfl
       | 6, _ =>
        intro val fl w1 a hb ha hd hfl;obtain ⟨hgb, hg0⟩ := hb;have hb := ZG hO hgb hb2.size;have e5 : val 5 = _ := hd 5 (ZA.1 rfl);have ha := ha.s1 (d := 92) rfl e5
        exact QBI ha rfl rfl (QDr rfl) rfl (fun g w' hq _ hge => fun _ => ⟨g, rfl, hq, Nat.le_trans hgb.size hge⟩)
       | 7, _ =>
        exact absurd (by simp) hs_
       | 8, _ =>
        intro val fl w1 a hb ha hd hfl;obtain ⟨hgb, hg0⟩ := hb;have hb := ZG hO hgb hb2.size;have ha := ha.s0 (d := 10) rfl
        exact ZC ha rfl rfl (x_move rfl) rfl rfl
       | 9, _ =>
        intro val fl w1 a hb ha hd hfl;obtain ⟨hgb, hg0⟩ := hb;have hb := ZG hO hgb hb2.size;have e8 : val 8 = _ := hd 8 (ZA.1 rfl);have ha := ha.sub (Sub.ins (d := 95) (Sub.ins (d := 7) (Sub.nil _) rfl) (ZO rfl e8))
        exact ZC ha rfl rfl (YV (k := 1) rfl rfl (by omega)) rfl rfl
       | 10, _ =>
        intro val fl w1 a hb ha hd hfl;obtain ⟨hgb, hg0⟩ := hb;have hb := ZG hO hgb hb2.size;have e9 : val 9 = _ := hd 9 (ZA.1 rfl);have ha := ha.s1 (d := 96) rfl e9
        exact ZC ha rfl rfl (YA rfl ((ZM q4 hO rfl hgb).at (j := 1) rfl)) rfl rfl
       | 11, _ =>
        intro val fl w1 a hb ha hd hfl;obtain ⟨hgb, hg0⟩ := hb;have hb := ZG hO hgb hb2.size;have ha := ha.s0 (d := 11) rfl
        exact ZC ha rfl rfl (x_move rfl) rfl rfl
       | 12, _ =>
        intro val fl w1 a hb ha hd hfl;obtain ⟨hgb, hg0⟩ := hb;have hb := ZG hO hgb hb2.size;have e10 : val 10 = _ := hd 10 (ZA.1 rfl);have e11 : val 11 = _ := hd 11 (ZA.1 rfl);have ha := ha.s2 (d := 98) (e := 97) rfl e11 rfl e10
        exact ZC ha rfl rfl (QFb (lo := n) rfl rfl (by omega) rfl) rfl rfl
       | 13, _ =>
        intro val fl w1 a hb ha hd hfl;obtain ⟨hgb, hg0⟩ := hb;have hb := ZG hO hgb hb2.size;obtain ⟨ho7_, hn7_⟩ := hd 7 (ZA.1 rfl);change w1.ownsRow _ _ _ (val 7) _ _ at ho7_;obtain ⟨A7_, c7_, e7, _⟩ := (Rd.of_own ho7_).shape;rw [e7] at ho7_;have ha := ha.s1 (d := 94) rfl e7
        exact ZC ha rfl rfl (ZT rfl) e7.symm rfl
       | k + 14, h => exact absurd h (by omega)
      ·simp only [List.mem_singleton] at hi_; subst hi_
       intro val fl w1 a hb hfi ha hd hfl;obtain ⟨hgb, hg0⟩ := hb;have hb := ZG hO hgb hb2.size;have e1 : val 1 = _ := hd 1 (ZA.1 rfl);obtain ⟨g6_, e6, q6_, h6_⟩ := hd 6 (ZA.1 rfl) hfi;change val 6 = _ at e6;have ha := ha.s2 (d := 93) (e := 88) rfl e6 rfl e1;refine QBG QCe ha rfl rfl rfl (hg0 hfi) (QAM (l := [.bool true, .int .i64 (n : Nat)]) q6_ rfl) (by intro u hu; simp only [List.mem_cons, List.not_mem_nil, or_false] at hu; rcases hu with rfl | rfl <;> rfl) (by omega) rfl (Nat.le_trans hb2.size hgb.size) ?_
       intro v' w' ho' hgr hat;refine ⟨v', rfl, hgr.size, ⟨Zh hgb hgr, fun h => by rw [ZS] at h; cases h⟩, ⟨ho', fun b hb' => ?_⟩, fun j _ hj hn hA => ?_⟩
       ·rcases hat with h | h
        ·exact .inl (h ▸ hb')
        ·refine .inr ?_
         change v'.ownBlock = some b at hb';rw [h] at hb'
         injection hb' with hb'
         have := hgb.size
         omega
       ·exact ZF (C := fun j => j ≠ 7 ∧ 7 ∉ clsAt [[], [], [], [2], [], [2, 3, 4], [2, 3, 4, 5], [1, 2, 3, 4, 5, 6], [], [8], [8, 9], [], [8, 9, 10, 11], [1, 2, 3, 4, 5, 6, 7], [0, 1, 2, 3, 4, 5, 6, 7, 8, 9, 10, 11, 12, 13], [0, 1, 2, 3, 4, 5, 6, 7, 8, 9, 10, 11, 12, 13, 14]] j) (fun _ _ h => by rw [ZS] at h; cases h) (ZF (fun hc => absurd rfl hc.1) (ZF (fun hc => absurd (ZA.1 rfl) hc.2) (fun _ _ h => h))) j ⟨hj, hn⟩
      ·intro val fl w' hfl hb halc hd
       obtain ⟨hgb, _⟩ := hb;have hb := ZG hO hgb hb2.size;have e0 : val 0 = _ := hd 0 (by omega)
       have e1 : val 1 = _ := hd 1 (by omega)
       have e2 : val 2 = _ := hd 2 (by omega)
       have e3 : val 3 = _ := hd 3 (by omega)
       have e4 : val 4 = _ := hd 4 (by omega)
       have e5 : val 5 = _ := hd 5 (by omega)
       obtain ⟨ho7, hn7⟩ := hd 7 (by omega)
       change w'.ownsRow _ _ _ (val 7) _ _ at ho7;have e8 : val 8 = _ := hd 8 (by omega)
       have e9 : val 9 = _ := hd 9 (by omega)
       have e10 : val 10 = _ := hd 10 (by omega)
       have e11 : val 11 = _ := hd 11 (by omega)
       have e12 : val 12 = _ := hd 12 (by omega)
       have e13 : val 13 = val 7 := hd 13 (by omega)
       refine EL.ends (cs := [_, _, _, _, _, _, val 6, val 7, _, _, _, _, _, _]) ⟨e0, e1, e2, e3, e4, e5, rfl, rfl, e8, e9, e10, e11, e12, e13, trivial⟩ rfl ?_;replace q1 := ZM q1 hO rfl hgb;replace q2 := ZM q2 hO rfl hgb;replace q4 := ZM q4 hO rfl hgb;replace hb2 := hb2.trans (hb.mono (Nat.le_refl _));replace hbw := hbw.trans (hb.mono hwq);obtain ⟨A7, c7, e7_, _⟩ := (Rd.of_own ho7).shape;rw [e7_] at ho7 ⊢;refine EL.val (YV (k := 1) rfl rfl (by omega)) rfl ?_
       refine EL.store rfl rfl q4 QGM rfl rfl rfl rfl ?_;intro w8 hq8 hg8;replace q1 := q1.gr hg8 n1_4;replace q2 := q2.gr hg8 n2_4;replace ho7 := ZK ho7 q4 rfl hg8;replace hb2 := ZE hb2 hg8 bhb2_4;replace hbw := ZE hbw hg8 bhbw_4;replace q4 := hq8;clear hg8 hq8;refine EL.nil (EX.blk (EX.seq (EC.region (EL.mv rfl rfl ?_))));refine EL.val (ZP rfl rfl (c := ((i + 1 : Nat) : Int)) ((IntWalk.i64_in _ ⟨by first | omega | (simp only; omega), by first | omega | (simp only; omega)⟩).trans (by first | omega | (simp only; omega)))) rfl ?_
       refine EL.as rfl rfl (EL.nil ?_);have hnx : n ≤ (waitL (qL ts) d.s true).length := by omega
       have hwo := fun v => QGG (q := (qL ts)) (d := d) (u := true) (v := v) (n := n) hnx
       refine EX.roundD ⟨oneD (qL ts) d true n, i + 1, (.slice A7 (i + 1) c7), Ad, nd, cd, (Z0 (some ⟨bA, oA, none⟩) cu n), nu - n, cu - n⟩ ⟨rfl, rfl, trivial⟩ (by repeat first | with_reducible exact .refl _ | refine sp_ rfl ?_ | exact .refl _ | refine sd_ rfl ?_ | refine sn_ ?_) ⟨PlOk.one hq hpk hn1 hnx hfit, (by rw [QJw, hi]), (by rw [hwo, if_neg (by decide)]; exact hnd), (by rw [hwo, if_neg (by decide)]; exact hd2), (by show nu - n = _; rw [hwo, if_pos rfl, List.length_drop]; omega), (by rw [hwo, if_pos rfl]; exact QHJ hu2 (by omega)), (by rw [pl_C]; exact ho7), q1, q2, q4, hb2, hbw⟩ (by have := QDe (q := (qL ts)) (d := d) (u := true) (n := n) hpk.dr hnx; show remD (qL ts) (oneD (qL ts) d true n).s < remD (qL ts) d.s; omega)
/-! ### How often the chamber was filled and emptied in m movements -/
def fiN (h : Bool) (m : Nat) : Nat := if h = true then m / 2 else (m + 1) / 2
def emN (h : Bool) (m : Nat) : Nat := if h = true then (m + 1) / 2 else m / 2
def hiN (h : Bool) (m : Nat) : Bool := if m % 2 = 1 then !h else h
def baN (l : LK) (m : Nat) : Int := if hiN l.high m = true then 0 else if emN l.high m = 0 then 0 else Y1 l
def chN (l : LK) (m : Nat) : Int := if hiN l.high m = true then (if l.high = true then 0 else l.fill) else (if l.high = true then -l.fill else 0)
theorem QIN (h : Bool) (m : Nat) : hiN h (m + 1) = !hiN h m := by
 unfold hiN
 by_cases e : m % 2 = 1
 ·rw [if_pos e, if_neg (by omega)]; cases h <;> rfl
 ·rw [if_neg e, if_pos (by omega)]
theorem QMk {h : Bool} {m : Nat} (hv : hiN h m = true) : fiN h (m + 1) = fiN h m ∧ emN h (m + 1) = emN h m + 1 := by
 unfold hiN at hv
 unfold fiN emN
 cases h <;> simp at hv ⊢ <;> omega
theorem QMl {h : Bool} {m : Nat} (hv : hiN h m = false) : fiN h (m + 1) = fiN h m + 1 ∧ emN h (m + 1) = emN h m := by
 unfold hiN at hv
 unfold fiN emN
 cases h <;> simp at hv ⊢ <;> omega
structure WS (l : LK) (s : ST) (P : Int) (m : Nat) : Prop where
 mv : s.mv = (m : Int)
 lk : s.lk = lkW l (hiN l.high m)
 up : s.up + P = (emN l.high m : Int) * Y1 l - (fiN l.high m : Int) * l.fill - baN l m
 ch : s.ch = chN l m
 ba : s.ba = baN l m
 sum : s.up + s.lo + s.ch + s.ba = 0
theorem WS.start (l : LK) : WS l (stL l) 0 0 := by
 have hb : baN l 0 = 0 := by unfold baN emN; cases l.high <;> simp
 have hc : chN l 0 = 0 := by unfold chN hiN; cases l.high <;> simp
 refine ⟨rfl, (QKI l).symm, ?_, hc.symm, hb.symm, rfl⟩;rw [hb];have e1 : emN l.high 0 = 0 := by unfold emN; cases l.high <;> rfl
 have e2 : fiN l.high 0 = 0 := by unfold fiN; cases l.high <;> rfl
 rw [e1, e2]
 simp [stL]
section
variable {l : LK} {s : ST} {P : Int} {m : Nat}
theorem WS.mvS (h : WS l s P m) : WS l (mvS s) P (m + 1) := by
 obtain ⟨h1, h2, h3, h4, h5, h6⟩ := h;have hs := QIN l.high m;have hf : s.lk.fill = l.fill := by rw [h2]; rfl
 have hk : Y1 s.lk = Y1 l := by rw [h2]; rfl
 cases hv : hiN l.high m with
 | true =>
  obtain ⟨e1, e2⟩ := QMk hv;have hh : s.lk.high = true := by rw [h2]; exact hv
  have e3 : Go.Proofs.Ytlbfnimilcnihaa.mvS s = ⟨lkW s.lk false, s.up, s.lo + s.lk.fill - Y1 s.lk, s.ch - s.lk.fill, s.ba + Y1 s.lk, s.mv + 1, s.fr, s.t0, s.t1, s.cost⟩ := by unfold Go.Proofs.Ytlbfnimilcnihaa.mvS; rw [if_pos hh]
  rw [hv] at hs;have hs : hiN l.high (m + 1) = false := hs;have b0 : baN l m = 0 := by unfold baN; rw [if_pos hv]
  have b1 : baN l (m + 1) = Y1 l := by unfold baN; rw [if_neg (by rw [hs]; decide), if_neg (by rw [e2]; omega)]
  have c0 : chN l m = if l.high = true then 0 else l.fill := by unfold chN; rw [if_pos hv]
  have c1 : chN l (m + 1) = if l.high = true then -l.fill else 0 := by unfold chN; rw [if_neg (by rw [hs]; decide)]
  rw [e3];refine ⟨by show s.mv + 1 = _; omega, ?_, ?_, ?_, ?_, ?_⟩
  ·show lkW s.lk false = _
   rw [h2, hs]
   rfl
  ·show s.up + P = _
   rw [h3, e1, e2, b0, b1, Int.natCast_add, Int.add_mul]
   omega
  ·show s.ch - s.lk.fill = _
   rw [h4, c0, c1, hf]
   split <;> omega
  ·show s.ba + Y1 s.lk = _
   rw [h5, b0, b1, hk]
   omega
  ·show s.up + (s.lo + s.lk.fill - Y1 s.lk) + (s.ch - s.lk.fill) + (s.ba + Y1 s.lk) = 0
   omega
 | false =>
  obtain ⟨e1, e2⟩ := QMl hv;have hh : s.lk.high = false := by rw [h2]; exact hv
  have e3 : Go.Proofs.Ytlbfnimilcnihaa.mvS s = ⟨lkW s.lk true, s.up - s.lk.fill + s.ba, s.lo, s.ch + s.lk.fill, 0, s.mv + 1, s.fr, s.t0, s.t1, s.cost⟩ := by unfold Go.Proofs.Ytlbfnimilcnihaa.mvS; rw [if_neg (by rw [hh]; decide)]
  rw [hv] at hs;have hs : hiN l.high (m + 1) = true := hs;have b1 : baN l (m + 1) = 0 := by unfold baN; rw [if_pos hs]
  have c0 : chN l m = if l.high = true then -l.fill else 0 := by unfold chN; rw [if_neg (by rw [hv]; decide)]
  have c1 : chN l (m + 1) = if l.high = true then 0 else l.fill := by unfold chN; rw [if_pos hs]
  rw [e3];refine ⟨by show s.mv + 1 = _; omega, ?_, ?_, ?_, ?_, ?_⟩
  ·show lkW s.lk true = _
   rw [h2, hs]
   rfl
  ·show s.up - s.lk.fill + s.ba + P = _
   rw [e1, e2, b1, Int.natCast_add, Int.add_mul, hf, h5]
   omega
  ·show s.ch + s.lk.fill = _
   rw [h4, c0, c1, hf]
   split <;> omega
  ·exact b1.symm
  ·show s.up - s.lk.fill + s.ba + s.lo + (s.ch + s.lk.fill) + 0 = 0
   omega
theorem WS.mvN (h : WS l s P m) : ∀ n, WS l (mvN n s) P (m + n)
 | 0 => h
 | n + 1 => (h.mvN n).mvS
theorem WS.turn (h : WS l s P m) (u : Bool) : ∃ m1, m ≤ m1 ∧ WS l (ZW s u) P m1 := by
 unfold ZW
 split
 ·have k := h.mvS
  exact ⟨m + 1, by omega, ⟨k.mv, k.lk, k.up, k.ch, k.ba, k.sum⟩⟩
 ·exact ⟨m, by omega, h⟩
theorem QGf : ∀ (n : Nat) (s : ST), (mvN n s).lk.high = hiN s.lk.high n
 | 0, s => rfl
 | n + 1, s => by
  show (Go.Proofs.Ytlbfnimilcnihaa.mvS (Go.Proofs.Ytlbfnimilcnihaa.mvN n s)).lk.high = _
  rw [QCO]
  show (!(Go.Proofs.Ytlbfnimilcnihaa.mvN n s).lk.high) = _
  rw [QGf n s, QIN]
theorem QHj (s : ST) (ts : List TW) (u : Bool) (hp : 0 < partsN (ZX ts) s.lk.length) : (tkS s ts u).lk.high = u := by
 show (Go.Proofs.Ytlbfnimilcnihaa.mvN _ (ZW s u)).lk.high = u
 rw [QGf, QBe]
 unfold hiN
 rw [if_pos (by omega)]
 show (!!u) = u
 cases u <;> rfl
theorem WS.tk {ts : List TW} {u : Bool} (h : WS l s P m) (hp : 0 < partsN (ZX ts) s.lk.length) : ∃ m1, m < m1 ∧ WS l (tkS s ts u) (P + sgB u * Yw ts) m1 := by
 obtain ⟨m1, hm, k⟩ := h.turn u;have k2 := k.mvN (2 * partsN (ZX ts) s.lk.length - 1);refine ⟨_, by omega, ⟨k2.mv, k2.lk, ?_, k2.ch, k2.ba, ?_⟩⟩
 ·have := k2.up
  show (midS s ts u).up - sgB u * Yw ts + (P + sgB u * Yw ts) = _
  rw [← this]
  show (midS s ts u).up - _ + _ = (midS s ts u).up + P
  omega
 ·have := k2.sum
  show (midS s ts u).up - sgB u * Yw ts + ((midS s ts u).lo + sgB u * Yw ts) + (midS s ts u).ch + (midS s ts u).ba = 0
  have e : (midS s ts u).up + (midS s ts u).lo + (midS s ts u).ch + (midS s ts u).ba = 0 := this
  omega
end
/-! ### Along a plan -/
theorem QFZ {l : LK} {q : QS} {d : Dr} {k : Nat} (hQ : QOk l q) (h : PlOk l q d) (hk : k < d.plan.length) :
  DrOk l q ⟨sAt l q d.plan k, d.plan.take k⟩ ∧ (∀ t ∈ twAt l q d.plan k, twB l t = true) ∧ (sAt l q d.plan k).t0 + (sAt l q d.plan k).t1 + (twAt l q d.plan k).length ≤ 8 ∧ 1 ≤ (twAt l q d.plan k).length ∧ (twAt l q d.plan k).length ≤ (waitL q (sAt l q d.plan k) (d.plan.getD k sp0).up).length ∧ (waitL q (sAt l q d.plan k) (d.plan.getD k sp0).up).take (twAt l q d.plan k).length = twAt l q d.plan k ∧ (d.plan.getD k sp0).tows = (((twAt l q d.plan k).length : Nat) : Int) ∧ fitB l.length (twAt l q d.plan k) = true := by
 obtain ⟨hd, ht⟩ := QEc hQ (Nat.le_of_lt hk) (fun i hi => (h.at_ i (by omega)).1) (fun i hi => (h.at_ i (by omega)).2)
 obtain ⟨a, b⟩ := QCT (h.at_ k hk).1;have hu := ht (d.plan.getD k sp0).up;have hw : (d.plan.getD k sp0).tows.toNat ≤ (waitL q (sAt l q d.plan k) (d.plan.getD k sp0).up).length := by
  rw [Zz]
  unfold Zg at b
  omega
 have hl : (twAt l q d.plan k).length = (d.plan.getD k sp0).tows.toNat := Zi (d := ⟨sAt l q d.plan k, d.plan.take k⟩) hw;have hf := (h.at_ k hk).2
 unfold QA9 at hf
 have hlk : (sAt l q d.plan k).lk.length = l.length := hd.lkl;rw [hlk] at hf;refine ⟨hd, Yh (d := ⟨sAt l q d.plan k, d.plan.take k⟩) hQ, ?_, by omega, by omega, by rw [hl]; rfl, by omega, hf⟩
 rw [hl]
 exact QA1 hQ hd hw
/-- what the tows that were taken displace upwards -/
def QFV (q : QS) (s : ST) : Int := sumF (·.push) ((q true).take s.t1) - sumF (·.push) ((q false).take s.t0)
theorem QGN (f : TW → Int) (a b : List TW) : sumF f (a ++ b) = sumF f a + sumF f b := by simp [sumF]
theorem QJZ {q : QS} {s : ST} {u : Bool} {n : Nat} (h : n ≤ (waitL q s u).length) : QFV q (tkS s ((waitL q s u).take n) u) = QFV q s + sgB u * Yw ((waitL q s u).take n) := by
 have hl : ((waitL q s u).take n).length = n := by rw [List.length_take]; omega
 obtain ⟨a, b⟩ := QHk s ((waitL q s u).take n) u;rw [hl] at a b
 unfold QFV
 rw [a, b]
 cases u
 ·rw [if_neg (by decide), if_neg (by decide)]
  have e : (q false).take (s.t0 + n) = (q false).take s.t0 ++ (waitL q s false).take n := List.take_add;rw [e, QGN]
  show _ = _ + (-1 : Int) * Yw _
  unfold Yw
  omega
 ·rw [if_pos rfl, if_pos rfl]
  have e : (q true).take (s.t1 + n) = (q true).take s.t1 ++ (waitL q s true).take n := List.take_add;rw [e, QGN]
  show _ = _ + (1 : Int) * Yw _
  unfold Yw
  omega
theorem QMB {l : LK} {q : QS} {d : Dr} (hQ : QOk l q) (h : PlOk l q d) : ∀ {k : Nat}, k ≤ d.plan.length → ∃ m, k ≤ m ∧ WS l (sAt l q d.plan k) (QFV q (sAt l q d.plan k)) m ∧ (0 < k → (sAt l q d.plan k).lk.high = (d.plan.getD (k - 1) sp0).up)
 | 0, _ => ⟨0, Nat.le_refl _, WS.start l, fun h => absurd h (by omega)⟩
 | k + 1, hk => by
  obtain ⟨m, hm, hw, _⟩ := QMB hQ h (k := k) (by omega)
  obtain ⟨hd, htw, h8, h1, hn, hp, _⟩ := QFZ hQ h (show k < d.plan.length by omega)
  have e := QA4 (l := l) (q := q) (show k < d.plan.length by omega)
  have hlk : (sAt l q d.plan k).lk.length = l.length := hd.lkl;have hpt : 0 < partsN (ZX (twAt l q d.plan k)) (sAt l q d.plan k).lk.length := by rw [hlk]; exact QDD htw hQ.lk (by omega) (by omega)
  obtain ⟨m1, hm1, k1⟩ := hw.tk (u := (d.plan.getD k sp0).up) hpt;have et := QJZ (q := q) (s := sAt l q d.plan k) (u := (d.plan.getD k sp0).up) hn;rw [hp, ← e] at et;rw [← e, ← et] at k1;refine ⟨m1, by omega, k1, fun _ => ?_⟩
  rw [e]
  exact QHj _ _ _ hpt
section
variable {n : Nat} {σ : Sg} {w : World} {dst : Option Tmp} {ty : TypeId} {pos : String} {af : Array Edge} {g : Option (Nat × Bool)} {x y z : Operand} {at' : Array TypeId}
theorem cF32 : cF 32 := fun _ _ => by simp [go_sem]
theorem cF33 : cF 33 := fun _ _ => by simp [go_sem]
end
theorem QJl {x : Sml} {l : LK} (hl : l = Zn x) (hx : SmlOk x) {At As : Option Addr} {ct cs : Nat} {w : World} : Calls Try.prog 31 #[.agg #[.int .u8 x.a0, .int .u8 x.a1, .int .u8 x.a2, .int .u8 x.a3, .int .u8 x.a4, .bool x.hi, .slice At x.tows.length ct, .slice As x.steps.length cs]] w fun e w' => e = .returned (.agg #[.int .i64 l.length, .int .i64 l.cycle, .int .i64 l.turn, .int .i64 l.fill, .int .i64 l.save, .bool l.high]) ∧ Below w.heap.size w w' := hl ▸ QE5 hx w
theorem QJh {x : Sml} {ts : List TW} {m : Nat} (hts : ts = QAz x m) (hx : SmlOk x) {At As : Option Addr} {ct cs : Nat} {w : World} {B : Nat} (hr : Rd w B 5 (.slice At x.tows.length ct) x.tows.length (e5s x.tows)) (hB : B ≤ w.heap.size) (hm : m ≤ 1000) :
  Calls Try.prog 32 #[.agg #[.int .u8 x.a0, .int .u8 x.a1, .int .u8 x.a2, .int .u8 x.a3, .int .u8 x.a4, .bool x.hi, .slice At x.tows.length ct, .slice As x.steps.length cs], .int .i64 (m : Nat)] w fun e w' => (∃ v', e = .returned v' ∧ w'.ownsRow w.heap.size 39 5 v' ts.length (twsC ts)) ∧ Below w.heap.size w w' := hts ▸ QIs hx hr hB hm
theorem QJx {l : LK} {ts : List TW} {d : Dr} (he : towE l ts = 0) (h : PlOk l (qL ts) d) (hc : YX (qL ts) d.s = true) : Zq l ts d.plan = 0 ∧ endP l ts d.plan = d.s ∧ QD9 l ts d.plan = Z_ l (qL ts) d.plan d.plan.length := by
 obtain ⟨a, b⟩ := h.ok hc;have e : Zq l ts d.plan = 0 := by unfold Zq; rw [if_pos he, if_pos a, if_pos b]
 exact ⟨e, by rw [QKe e]; exact h.end_, QHu e⟩
theorem QDC (l : LK) (q : QS) (p : List SP) (k : Nat) : (Z_ l q p k).length = k := by simp [Z_]
theorem QNM {l : LK} {ts : List TW} {p : List SP} {s : ST} {v vp : Value} {w : World} {B : Nat} (hce : Zq l ts p = 0) (hen : endP l ts p = s) (hru : QD9 l ts p = Z_ l (qL ts) p p.length) (hr : Rd w B 5 v ts.length (twsC ts)) (hp : Rd w B 2 vp p.length (spsC p)) (hB : B ≤ w.heap.size) (hpn : p.length ≤ 1000000) :
  Calls Try.prog 16 #[.agg #[.int .i64 l.length, .int .i64 l.cycle, .int .i64 l.turn, .int .i64 l.fill, .int .i64 l.save, .bool l.high], v, vp] w fun e w' => (∃ A c, e = .returned (.tuple #[.slice A p.length c, .int .i64 s.cost, .int .i64 s.mv, .int .i64 0]) ∧ w'.ownsRow w.heap.size 49 2 (.slice A p.length c) p.length (rnsC (Z_ l (qL ts) p p.length))) ∧ Below w.heap.size w w' := by
 have h := QIn (l := l) hr hp hB hpn;rw [hce, hen, hru, QDC] at h;refine h.mono fun e w' ⟨sl, he, ho, hb⟩ => ⟨?_, hb⟩
 obtain ⟨A, c, rfl, _⟩ := (Rd.of_own ho).shape
 exact ⟨A, c, he, ho⟩
theorem QL_ {σ : Sg} {s : Nat} {b b' : Bool} (h : b = b') (hs : σ s = some (.bool b)) : σ s = some (.bool b') := h ▸ hs
theorem QHi (s : ST) (u : Bool) : (ZW s u).mv = if s.lk.high = u then s.mv + 1 else s.mv := by
 unfold ZW
 split
 ·exact QHN s
 ·rfl
/-- what a step of a plan does -/
structure Ord (l : LK) (S : ST) (tw : List TW) (u : Bool) (p : Nat) : Prop where
 pp : p = partsN (ZX tw) l.length
 p1 : 1 ≤ p ∧ p ≤ 3
 fr : 0 ≤ S.fr ∧ S.fr ≤ 140000
 F : (ZW S u).fr = if S.lk.high = u then S.fr + l.turn else S.fr
 Fb : S.fr ≤ (ZW S u).fr ∧ (ZW S u).fr ≤ 141000
 st : (runT S tw u).start = max (ZW S u).fr (arrT tw)
 sp : (runT S tw u).stop - (runT S tw u).start = (p : Int) * l.cycle + ((p : Int) - 1) * l.turn
 pc : (0 ≤ (p : Int) * l.cycle ∧ (p : Int) * l.cycle ≤ 1500) ∧ 0 ≤ ((p : Int) - 1) * l.turn ∧ ((p : Int) - 1) * l.turn ≤ 1500
 arr : 0 ≤ arrT tw ∧ arrT tw ≤ 100000
 ge : arrT tw + l.cycle ≤ (runT S tw u).stop
 bd : -500 ≤ (runT S tw u).stop ∧ (runT S tw u).stop ≤ 200000
 mv : (tkS S tw u).mv = (ZW S u).mv + 2 * p - 1
 hi : (tkS S tw u).lk.high = u
 cost : (tkS S tw u).cost = S.cost + Y4 (runT S tw u).stop tw
 cb : 0 ≤ S.cost ∧ S.cost ≤ 200000000
theorem QMx {l : LK} {q : QS} {d : Dr} {k : Nat} (hQ : QOk l q) (h : PlOk l q d) (hk : k < d.plan.length) : ∃ p, Ord l (sAt l q d.plan k) (twAt l q d.plan k) (d.plan.getD k sp0).up p := by
 obtain ⟨hd, htw, h8, h1, hn, hp, _, hf⟩ := QFZ hQ h hk
 generalize sAt l q d.plan k = S at *
 generalize twAt l q d.plan k = tw at *
 generalize (d.plan.getD k sp0).up = u at *
 have hst : StOk l S := hd.st;have hlk : S.lk.length = l.length ∧ S.lk.turn = l.turn ∧ S.lk.cycle = l.cycle := by rw [hst.lk]; exact ⟨rfl, rfl, rfl⟩
 have hpt : 0 < partsN (ZX tw) l.length := QDD htw hQ.lk (by omega) (by omega)
 have hp3 := QBo htw hQ.lk hf;obtain ⟨r1, r2, r3, r4, r5, r6⟩ := QEA (u := u) hst htw hf h8;obtain ⟨_, lb2, lb3, _, _⟩ := Yz hQ.lk;have hfr := hst.fr;have hco := hst.cost;have hF := QGJ S u;rw [hlk.2.1] at hF;obtain ⟨p, hpp⟩ : ∃ p, p = partsN (ZX tw) l.length := ⟨_, rfl⟩;have e1 : 0 ≤ (p : Int) * l.cycle ∧ (p : Int) * l.cycle ≤ 3 * 500 := ⟨Int.mul_nonneg (by omega) (by omega), Int.mul_le_mul (by omega) (by omega) (by omega) (by omega)⟩
 have e2 : 0 ≤ ((p : Int) - 1) * l.turn ∧ ((p : Int) - 1) * l.turn ≤ 3 * 500 := ⟨Int.mul_nonneg (by omega) (by omega), Int.mul_le_mul (by omega) (by omega) (by omega) (by omega)⟩
 refine ⟨p, hpp, ⟨by omega, by omega⟩, ⟨by omega, by omega⟩, hF, ?_, rfl, ?_, ⟨⟨by omega, by omega⟩, by omega, by omega⟩, r2, (r6 (by omega)).1, ⟨r4, by omega⟩, ?_, QHj _ _ _ (by rw [hlk.1]; exact hpt), QD0 _ _ _, ⟨by omega, by omega⟩⟩
 ·split at hF <;> omega
 ·show (max (ZW S u).fr (arrT tw) - S.lk.turn + partsN (ZX tw) S.lk.length * (S.lk.turn + S.lk.cycle)) - max (ZW S u).fr (arrT tw) = _
  rw [hlk.1, hlk.2.1, hlk.2.2, ← hpp, Int.sub_mul, Int.one_mul, Int.mul_add]
  omega
 ·show (mvN (2 * partsN (ZX tw) S.lk.length - 1) (ZW S u)).mv = _
  rw [QJ8, hlk.1, ← hpp]
  omega
theorem QHW {e : Int} {ts : List TW} {k : Nat} (h : k < ts.length) : Y4 e (ts.take (k + 1)) = Y4 e (ts.take k) + (ts.getD k tw0).weight * (e - (ts.getD k tw0).arrive) := by
 unfold Y4
 rw [QB1 h]
theorem QKh {l : LK} {e : Int} {ts : List TW} (h : ∀ t ∈ ts, twB l t = true) (he : -500 ≤ e ∧ e ≤ 200000) (k : Nat) : -30000000 * (ts.take k).length ≤ Y4 e (ts.take k) ∧ Y4 e (ts.take k) ≤ 30000000 * (ts.take k).length :=
 QBH (f := fun t => t.weight * (e - t.arrive)) fun t ht => QC0 (h t (List.mem_of_mem_take ht)) he
theorem QHL {long L : Int} (hL : 0 < L) (h : 0 ≤ long) : (long + L - 1).tdiv L = ((partsN long L : Nat) : Int) := by
 unfold partsN
 rw [Int.tdiv_eq_ediv_of_nonneg (by omega), Int.toNat_of_nonneg (Int.ediv_nonneg (by omega) (by omega))]
structure OrdV where
 k : Nat
 Ad : Option Addr
 nd : Nat
 cd : Nat
 Au : Option Addr
 nu : Nat
 cu : Nat
theorem QMe (u : Bool) : Nat.ble (0 + uI u + 1) 2 = true := by cases u <;> rfl
theorem QJm {l : LK} {q : QS} {p : List SP} {k : Nat} (h : k < p.length) : (Z_ l q p p.length).getD k rn0 = QDK l q p k := by simp [Z_, h]
/-- a slice that is read, in another block than g -/
def RdN (w : World) (g size : Nat) (v : Value) (n : Nat) (xs : List Value) : Prop :=
 xs.length = n * size ∧ ∃ A c, v = .slice A n c ∧ n ≤ c ∧ (0 < n → ∃ b off, A = some ⟨b, off, none⟩ ∧ b < w.heap.size ∧ b ≠ g ∧ ∀ j u, xs[j]? = some u → w.cell? ⟨b, off + j, none⟩ = some u)
section
variable {w w' : World} {g size n : Nat} {v : Value} {xs : List Value}
theorem RdN.rd (h : RdN w g size v n xs) : Rd w w.heap.size size v n xs := by
 obtain ⟨hl, A, c, e, hc, h⟩ := h;refine ⟨hl, A, c, e, hc, fun h0 => ?_⟩
 obtain ⟨b, o, e, hb, _, h⟩ := h h0
 exact ⟨b, o, e, hb, h⟩
theorem RdN.grown (h : RdN w g size v n xs) (hg : w.grownBy w' (some g)) : RdN w' g size v n xs := by
 obtain ⟨hl, A, c, e, hc, h⟩ := h;refine ⟨hl, A, c, e, hc, fun h0 => ?_⟩
 obtain ⟨b, o, e, hb, hn, h⟩ := h h0
 exact ⟨b, o, e, Nat.lt_of_lt_of_le hb hg.size, hn, fun j u hu => (World.cell?_of_block (hg.block b hb fun e => by injection e with e; omega)).trans (h j u hu)⟩
theorem RdN.of_own {base T e : Nat} {cs : Array Value} (h : w.ownsRow base e size v n xs) (hq : Blk w g T cs) (hT : Nat.beq T e = false) : RdN w g size v n xs := by
 have hr := Rd.of_own h;have h0 := h;obtain ⟨hl, ⟨rfl, rfl⟩ | ⟨b, cap, cur, rfl, hbg, _⟩⟩ := h
 ·exact ⟨hl, none, 0, rfl, Nat.le_refl _, fun h => absurd h (by omega)⟩
 ·obtain ⟨hl2, A, c, e1, hc, h2⟩ := hr
  injection e1 with e1 e2 e3
  subst e1 e3;refine ⟨hl, _, _, rfl, hc, fun hz => ?_⟩
  obtain ⟨b2, o, e4, hb, h⟩ := h2 hz
  injection e4 with e4
  injection e4 with e5 e6
  subst e5 e6
  exact ⟨_, _, rfl, hb, fun e => QCg h0 hq hT e.symm, h⟩
theorem RdN.first {A : Option Addr} {m c k : Nat} {ts : List TW} (h : RdN w g 5 (.slice A m c) m (twsC ts)) (hk : k ≤ m) : RdN w g 5 (.slice A k c) k (twsC (ts.take k)) := by
 have h1 := Yu h.rd hk;rw [← YZ] at h1;obtain ⟨hl, A2, c2, e, hc2, hrr⟩ := h
 injection e with e1 _ e3
 subst e1 e3;refine ⟨h1.len, _, _, rfl, by omega, fun h0 => ?_⟩
 obtain ⟨b, off, e2, hb2, hn, hcell⟩ := hrr (by omega)
 subst e2;obtain ⟨b3, o3, e3, _, hc3⟩ := h1.at_ h0
 injection e3 with e3
 injection e3 with e4 e5
 subst e4 e5
 exact ⟨_, _, rfl, hb2, hn, hc3⟩
theorem RdN.rest {A : Option Addr} {m c lo : Nat} {ts : List TW} (hr : RdN w g 5 (.slice A m c) m (twsC ts)) (hlo : lo ≤ m) : RdN w g 5 (.slice (Z0 A c lo) (m - lo) (c - lo)) (m - lo) (twsC (ts.drop lo)) := by
 have h1 := QHJ hr.rd hlo;obtain ⟨hl, A2, c2, e, hc2, hrr⟩ := hr
 injection e with e1 _ e3
 subst e1 e3;refine ⟨h1.len, _, _, rfl, by omega, fun h0 => ?_⟩
 obtain ⟨b, off, e2, hb2, hn, hcell⟩ := hrr (by omega)
 subst e2;obtain ⟨b3, o3, e3, _, hc3⟩ := h1.at_ h0
 injection e3 with e3
 injection e3 with e4 e5
 subst e4 e5
 exact ⟨_, _, rfl, hb2, hn, hc3⟩
theorem QLh (w : World) (g : Nat) : w.grownBy w (some g) := ⟨rfl, rfl, rfl, Nat.le_refl _, fun _ _ _ => rfl⟩
theorem QAd {W W' : World} (h : w.grownBy W (some g)) (hb : Below W.heap.size W W') : w.grownBy W' (some g) := YW h hb
theorem QKb {W W' : World} {k : Nat} (h : w.grownBy W (some g)) (hg : W.grownBy W' (some k)) (hk : w.heap.size ≤ k) : w.grownBy W' (some g) := World.grownBy.andThen h hg fun j e => by
 injection e with e
 exact .inl (e ▸ hk)
end
section
variable {q : QS} {S : ST} {tw : List TW} {u : Bool} {w : World} {B nd cd nu cu : Nat} {Ad Au : Option Addr}
theorem QMw (h : ∀ v, waitL q (tkS S tw u) v = if v = u then (waitL q S u).drop tw.length else waitL q S v) (hn : nd = (waitL q S false).length) (ht : tw.length ≤ (waitL q S u).length) : sel u (nd - tw.length) nd = (waitL q (tkS S tw u) false).length := by
 rw [h]
 cases u
 ·rw [if_pos rfl, List.length_drop]; show nd - tw.length = _; omega
 ·rw [if_neg (by decide)]; exact hn
theorem QMv (h : ∀ v, waitL q (tkS S tw u) v = if v = u then (waitL q S u).drop tw.length else waitL q S v) (hn : nu = (waitL q S true).length) (ht : tw.length ≤ (waitL q S u).length) : sel u nu (nu - tw.length) = (waitL q (tkS S tw u) true).length := by
 rw [h]
 cases u
 ·rw [if_neg (by decide)]; exact hn
 ·rw [if_pos rfl, List.length_drop]; show nu - tw.length = _; omega
theorem QMu (h : ∀ v, waitL q (tkS S tw u) v = if v = u then (waitL q S u).drop tw.length else waitL q S v) (hn : nd = (waitL q S false).length) (hr : RdN w B 5 (.slice Ad nd cd) nd (twsC (waitL q S false))) (ht : tw.length ≤ (waitL q S u).length) : RdN w B 5 (.slice (sel u (Z0 Ad cd tw.length) Ad) (sel u (nd - tw.length) nd) (sel u (cd - tw.length) cd)) (sel u (nd - tw.length) nd) (twsC (waitL q (tkS S tw u) false)) := by
 rw [h]
 cases u
 ·rw [if_pos rfl]; exact hr.rest (by omega)
 ·rw [if_neg (by decide)]; exact hr
theorem QMt (h : ∀ v, waitL q (tkS S tw u) v = if v = u then (waitL q S u).drop tw.length else waitL q S v) (hn : nu = (waitL q S true).length) (hr : RdN w B 5 (.slice Au nu cu) nu (twsC (waitL q S true))) (ht : tw.length ≤ (waitL q S u).length) : RdN w B 5 (.slice (sel u Au (Z0 Au cu tw.length)) (sel u nu (nu - tw.length)) (sel u cu (cu - tw.length))) (sel u nu (nu - tw.length)) (twsC (waitL q (tkS S tw u) true)) := by
 rw [h]
 cases u
 ·rw [if_neg (by decide)]; exact hr
 ·rw [if_pos rfl]; exact hr.rest (by omega)
end
theorem QK_ {u : Bool} {nd cd nu cu m : Nat} {Ad Au : Option Addr} : spl [.slice Ad nd cd, .slice Au nu cu] (0 + uI u) [.slice (Z0 (sel u Ad Au) (sel u cd cu) m) (sel u nd nu - m) (sel u cd cu - m)] = [.slice (sel u (Z0 Ad cd m) Ad) (sel u (nd - m) nd) (sel u (cd - m) cd), .slice (sel u Au (Z0 Au cu m)) (sel u nu (nu - m)) (sel u cu (cu - m))] := by cases u <;> rfl
set_option maxHeartbeats 1000000 in
set_option maxRecDepth 100000 in
theorem inorder_law {x : Sml} (hx : SmlOk x) {At As : Option Addr} {ct cs : Nat} {w : World} {B : Nat} (hrt : Rd w B 5 (.slice At x.tows.length ct) x.tows.length (e5s x.tows)) (hrs : Rd w B 2 (.slice As x.steps.length cs) x.steps.length (e2s x.steps)) (hB : B ≤ w.heap.size) :
  Calls Try.prog 8 #[.agg #[.int .u8 x.a0, .int .u8 x.a1, .int .u8 x.a2, .int .u8 x.a3, .int .u8 x.a4, .bool x.hi, .slice At x.tows.length ct, .slice As x.steps.length cs]] w fun e w' => e = .returned (.bool true) ∧ Below w.heap.size w w' := by
 obtain ⟨l, hl⟩ : ∃ z, z = Zn x := ⟨_, rfl⟩;obtain ⟨ts, hts⟩ : ∃ z, z = QAz x 8 := ⟨_, rfl⟩;have he0 : towE l ts = 0 := by rw [hl, hts]; exact QK4 hx (by omega)
 have hq := QFd he0;have hlk := hq.lk;obtain ⟨_, hts8, htwB⟩ := QA0 he0;have harr : ∀ t ∈ ts, 0 ≤ t.arrive ∧ t.arrive < (256 : Nat) := fun t ht => by have := (QEy hx (hts ▸ ht)).2; omega
 have hbw := Below.refl w.heap.size w;refine EC.enter 220 Try.func8 rfl rfl rfl (EC.seq (EC.region (EL.newP (QIZ rfl) rfl ?_)));intro g1 w1 q1 hb1 hg1 hl1;have bhbw_1 := Nat.le_trans hbw.size hg1;replace hbw := bo_ hbw hb1;clear hb1 hg1 hl1;refine EL.as rfl rfl (EL.nil (EX.seq (EC.seq (EC.region (EL.val (QIE rfl (q1.at (j := 0) rfl) (q1.at (j := 1) rfl) (q1.at (j := 2) rfl) (q1.at (j := 3) rfl) (q1.at (j := 4) rfl) (q1.at (j := 5) rfl) (q1.at (j := 6) rfl) (q1.at (j := 7) rfl)) rfl (EL.call (cA1 cF31 rfl) rfl (QJl hl hx) ?_))))))
 rintro e w2 ⟨rfl, hc2⟩
 refine ⟨_, rfl, ?_⟩;replace q1 := q1.bl hc2;replace hbw := bo_ hbw hc2;clear hc2;refine EL.newP QIl rfl ?_;intro g3 w3 q3 hb3 hg3 hl3;have n1_3 := q1.na hg3;have bhbw_3 := Nat.le_trans hbw.size hg3;replace q1 := q1.bl hb3;replace hbw := bo_ hbw hb3;clear hb3 hg3 hl3;refine EL.store rfl rfl q3 QE2 rfl rfl rfl rfl ?_;intro w4 hq4 hg4;replace q1 := q1.gr hg4 n1_3;replace hbw := ZE hbw hg4 bhbw_3;replace q3 := hq4;clear hg4 hq4;refine EL.nil (EX.seq (EC.seq (EC.region (EL.val (QIE rfl (q1.at (j := 0) rfl) (q1.at (j := 1) rfl) (q1.at (j := 2) rfl) (q1.at (j := 3) rfl) (q1.at (j := 4) rfl) (q1.at (j := 5) rfl) (q1.at (j := 6) rfl) (q1.at (j := 7) rfl)) rfl ?_))));refine EL.call (cA2 cF32 rfl rfl) rfl (QJh hts hx (hrt.below (hbw.mono hB)) (Nat.le_trans hB hbw.size) (by omega)) ?_
 rintro e wt ⟨⟨vt, rfl, htw⟩, hct⟩
 refine ⟨_, rfl, ?_⟩;replace htw := YU htw hbw.size;replace q1 := q1.bl hct;replace q3 := q3.bl hct;replace hbw := bo_ hbw hct;clear hct;obtain ⟨Aw, cw, rfl, _⟩ := (Rd.of_own htw).shape;refine EL.as rfl rfl (EL.nil (EX.seq (EC.seq (EC.region (EL.val (QIE rfl (q1.at (j := 0) rfl) (q1.at (j := 1) rfl) (q1.at (j := 2) rfl) (q1.at (j := 3) rfl) (q1.at (j := 4) rfl) (q1.at (j := 5) rfl) (q1.at (j := 6) rfl) (q1.at (j := 7) rfl)) rfl (EL.val (QBX rfl (q3.at (j := 0) rfl) (q3.at (j := 1) rfl) (q3.at (j := 2) rfl) (q3.at (j := 3) rfl) (q3.at (j := 4) rfl) (q3.at (j := 5) rfl)) rfl (EL.mv rfl rfl ?_)))))));refine EL.call (cA3 cF33 rfl rfl rfl) rfl (QIu hx ((hrs.below (hbw.mono hB)).more (Nat.le_trans hB hbw.size)) (Rd.of_own htw) (Nat.le_refl _) hq harr (by omega)) ?_
 rintro e wp ⟨⟨d, vp, hpk, hcp, rfl, hpl⟩, hcp_⟩
 refine ⟨_, rfl, ?_⟩;replace hpl := YU hpl hbw.size;replace q1 := q1.bl hcp_;replace q3 := q3.bl hcp_;replace htw := ZD htw hcp_ (Nat.le_refl _);replace hbw := bo_ hbw hcp_;clear hcp_;obtain ⟨Ap, cp, rfl, _⟩ := (Rd.of_own hpl).shape;obtain ⟨hce, hen, hru⟩ := QJx he0 hpk hcp;have hd8 := (QMG hq hpk rfl rfl).2;obtain ⟨m, hm, hws, hhi⟩ := QMB hq hpk (Nat.le_refl _);rw [hpk.end_] at hws hhi;refine EL.as rfl rfl (EL.nil (EX.seq (EC.seq ?_)));have hsz := hbw.size;have lt_1 := q1.lt;have lt_3 := q3.lt;refine EC.regionP [[], [], [1], [], [1, 2, 3], [0, 1, 2, 3, 4], [0, 1, 2, 3, 4, 5], [0, 1, 2, 3, 4, 5, 6], [0, 1, 2, 3, 4, 5, 6], [0, 1, 2, 3, 4, 5, 6], [0, 1, 2, 3, 4, 5, 6], [0, 1, 2, 3, 4, 5, 6, 7], [0, 1, 2, 3, 4, 5, 6, 7, 8, 11], [0, 1, 2, 3, 4, 5, 6, 7, 8, 9, 11, 12], [0, 1, 2, 3, 4, 5, 6, 7, 8, 9, 10, 11, 12, 13]] 15 [] (phi (fun i_ r => match i_ with | 0 => r 0 = .agg #[.int .i64 l.length, .int .i64 l.cycle, .int .i64 l.turn, .int .i64 l.fill, .int .i64 l.save, .bool l.high] | 1 => r 1 = .slice Aw ts.length cw | 3 => r 3 = .slice Ap d.plan.length cp | 8 => r 8 = .int .i64 d.s.cost | 9 => r 9 = .int .i64 d.s.mv | 10 => r 10 = .int .i64 0 | 12 => r 12 = .int .i64 d.s.cost | 13 => r 13 = .int .i64 d.s.mv | 14 => r 14 = .int .i64 0 | _ => True) [(2, fun r w_ => ∃ A_ c_, r 2 = .slice A_ ts.length c_ ∧ w_.ownsRow wp.heap.size 39 5 (.slice A_ ts.length c_) ts.length (twsC ts)), (4, fun r w_ => ∃ A_ c_, r 4 = .slice A_ d.plan.length c_ ∧ w_.ownsRow wp.heap.size 87 2 (.slice A_ d.plan.length c_) d.plan.length (spsC d.plan)), (5, fun r w_ => ∃ A_ c_, r 5 = .tuple #[.slice A_ d.plan.length c_, .int .i64 d.s.cost, .int .i64 d.s.mv, .int .i64 0] ∧ w_.ownsRow wp.heap.size 49 2 (.slice A_ d.plan.length c_) d.plan.length (rnsC (Z_ l (qL ts) d.plan d.plan.length))), (6, fun r w_ => ∃ A_ c_, r 6 = .tuple #[.slice A_ d.plan.length c_, .int .i64 d.s.cost, .int .i64 d.s.mv, .int .i64 0] ∧ w_.ownsRow wp.heap.size 49 2 (.slice A_ d.plan.length c_) d.plan.length (rnsC (Z_ l (qL ts) d.plan d.plan.length))), (7, fun r w_ => ∃ A_ c_, r 7 = .slice A_ d.plan.length c_ ∧ w_.ownsRow wp.heap.size 49 2 (.slice A_ d.plan.length c_) d.plan.length (rnsC (Z_ l (qL ts) d.plan d.plan.length))), (11, fun r w_ => ∃ A_ c_, r 11 = .slice A_ d.plan.length c_ ∧ w_.ownsRow wp.heap.size 49 2 (.slice A_ d.plan.length c_) d.plan.length (rnsC (Z_ l (qL ts) d.plan d.plan.length)))]) (by kernel_rfl) rfl rfl (Z1 QAD (Z1 QAD (Z1 QAD (Z1 QAD (Z1 QAD (Z1 QAD (Yb))))))) (fun i_ hi_ => ?_) ?_
 ·match i_, hi_ with
  | 0, _ =>
   intro val w1 a hb ha hd;have ha := ha.s0 (d := 3) rfl
   exact ZH ha rfl rfl (QBX rfl ((q3.below hb q3.lt).at (j := 0) rfl) ((q3.below hb q3.lt).at (j := 1) rfl) ((q3.below hb q3.lt).at (j := 2) rfl) ((q3.below hb q3.lt).at (j := 3) rfl) ((q3.below hb q3.lt).at (j := 4) rfl) ((q3.below hb q3.lt).at (j := 5) rfl)) rfl rfl
  | 1, _ =>
   intro val w1 a hb ha hd;have ha := ha.s0 (d := 4) rfl
   exact ZH ha rfl rfl (x_move rfl) rfl rfl
  | 2, _ =>
   intro val w1 a hb ha hd;have e1 : val 1 = _ := hd 1 (ZA.1 rfl);have ha := ha.s1 (d := 34) rfl e1;refine Y2 ha rfl rfl (cA1 cF13 rfl) (QI5 ((Rd.of_own htw).below hb) hb.size (by omega)) rfl ?_
   rintro e w' ⟨⟨v, rfl, p1⟩, hb'⟩
   obtain ⟨A1, c1, rfl, _⟩ := (Rd.of_own p1).shape
   exact ⟨_, rfl, hb', A1, c1, rfl, YU p1 hb.size⟩
  | 3, _ =>
   intro val w1 a hb ha hd;have ha := ha.s0 (d := 5) rfl
   exact ZH ha rfl rfl (x_move rfl) rfl rfl
  | 4, _ =>
   intro val w1 a hb ha hd;have e3 : val 3 = _ := hd 3 (ZA.1 rfl);have ha := ha.s1 (d := 36) rfl e3;refine Y2 ha rfl rfl (cA1 cF14 rfl) (QHQ ((Rd.of_own hpl).below hb) hb.size (by omega)) rfl ?_
   rintro e w' ⟨⟨v, rfl, p1⟩, hb'⟩
   obtain ⟨A1, c1, rfl, _⟩ := (Rd.of_own p1).shape
   exact ⟨_, rfl, hb', A1, c1, rfl, YU p1 hb.size⟩
  | 5, _ =>
   intro val w1 a hb ha hd;have e0 : val 0 = _ := hd 0 (ZA.1 rfl);obtain ⟨A2_, c2_, e2, o2_⟩ := hd 2 (ZA.1 rfl);obtain ⟨A4_, c4_, e4, o4_⟩ := hd 4 (ZA.1 rfl);have ha := ha.sub (Sub.ins (d := 37) (Sub.ins (d := 35) (Sub.ins (d := 33) (Sub.nil _) (ZO rfl e0)) (ZO rfl e2)) (ZO rfl e4));refine Y2 ha rfl rfl (cA3 cF16 rfl rfl rfl) (QNM hce hen hru (Rd.of_own o2_) ((Rd.of_own o4_)) (Nat.le_refl _) (by omega)) rfl ?_
   rintro e w' ⟨⟨A1, c1, rfl, p1⟩, hb'⟩
   exact ⟨_, rfl, hb', A1, c1, rfl, YU p1 hb.size⟩
  | 6, _ =>
   intro val w1 a hb ha hd;obtain ⟨A5_, c5_, e5, o5_⟩ := hd 5 (ZA.1 rfl);have ha := ha.s1 (d := 38) rfl e5
   exact ZH ha rfl rfl (x_move rfl) ⟨A5_, c5_, rfl, o5_⟩ rfl
  | 7, _ =>
   intro val w1 a hb ha hd;obtain ⟨A6_, c6_, e6, o6_⟩ := hd 6 (ZA.1 rfl);have ha := ha.s1 (d := 32) rfl e6
   exact ZH ha rfl rfl (ZR (v := .slice A6_ d.plan.length c6_) rfl rfl) ⟨A6_, c6_, rfl, o6_⟩ rfl
  | 8, _ =>
   intro val w1 a hb ha hd;obtain ⟨A6_, c6_, e6, o6_⟩ := hd 6 (ZA.1 rfl);have ha := ha.s1 (d := 32) rfl e6
   exact ZH ha rfl rfl (ZR (v := .int .i64 d.s.cost) rfl rfl) rfl rfl
  | 9, _ =>
   intro val w1 a hb ha hd;obtain ⟨A6_, c6_, e6, o6_⟩ := hd 6 (ZA.1 rfl);have ha := ha.s1 (d := 32) rfl e6
   exact ZH ha rfl rfl (ZR (v := .int .i64 d.s.mv) rfl rfl) rfl rfl
  | 10, _ =>
   intro val w1 a hb ha hd;obtain ⟨A6_, c6_, e6, o6_⟩ := hd 6 (ZA.1 rfl);have ha := ha.s1 (d := 32) rfl e6
   exact ZH ha rfl rfl (ZR (v := .int .i64 0) rfl rfl) rfl rfl
  | 11, _ =>
   intro val w1 a hb ha hd;obtain ⟨A7_, c7_, e7, o7_⟩ := hd 7 (ZA.1 rfl);have ha := ha.s1 (d := 39) rfl e7
   exact ZH ha rfl rfl (ZT rfl) ⟨A7_, c7_, rfl, o7_⟩ rfl
  | 12, _ =>
   intro val w1 a hb ha hd;have e8 : val 8 = _ := hd 8 (ZA.1 rfl);have ha := ha.s1 (d := 40) rfl e8
   exact ZH ha rfl rfl (ZT rfl) rfl rfl
  | 13, _ =>
   intro val w1 a hb ha hd;have e9 : val 9 = _ := hd 9 (ZA.1 rfl);have ha := ha.s1 (d := 41) rfl e9
   exact ZH ha rfl rfl (ZT rfl) rfl rfl
  | 14, _ =>
   intro val w1 a hb ha hd;have e10 : val 10 = _ := hd 10 (ZA.1 rfl);have ha := ha.s1 (d := 42) rfl e10
   exact ZH ha rfl rfl (ZT rfl) rfl rfl
  | k + 15, h => exact absurd h (by omega)
 ·intro val wR4 hb halc hd
  have e0 : val 0 = _ := hd 0 (by omega)
  have e1 : val 1 = _ := hd 1 (by omega)
  obtain ⟨A2_, c2_, e2, o2_⟩ := hd 2 (by omega)
  have e3 : val 3 = _ := hd 3 (by omega)
  obtain ⟨A4_, c4_, e4, o4_⟩ := hd 4 (by omega)
  obtain ⟨A5_, c5_, e5, o5_⟩ := hd 5 (by omega)
  obtain ⟨A6_, c6_, e6, o6_⟩ := hd 6 (by omega)
  obtain ⟨A7_, c7_, e7, o7_⟩ := hd 7 (by omega)
  have e8 : val 8 = _ := hd 8 (by omega)
  have e9 : val 9 = _ := hd 9 (by omega)
  have e10 : val 10 = _ := hd 10 (by omega)
  obtain ⟨A11_, c11_, e11, o11_⟩ := hd 11 (by omega)
  have e12 : val 12 = _ := hd 12 (by omega)
  have e13 : val 13 = _ := hd 13 (by omega)
  have e14 : val 14 = _ := hd 14 (by omega)
  refine EL.ends (cs := [_, _, _, _, _, _, _, _, _, _, _, _, _, _, _]) ⟨e0, e1, e2, e3, e4, e5, e6, e7, e8, e9, e10, e11, e12, e13, e14, trivial⟩ rfl ?_;replace q1 := q1.bl hb;replace q3 := q3.bl hb;replace htw := ZD htw hb (Nat.le_refl _);replace hpl := ZD hpl hb (Nat.le_refl _);replace hbw := bo_ hbw hb;clear hb;have hrn := YU o11_ hsz;refine EL.nil (EX.seq (EC.seq (EC.seq (EC.region (EL.mv rfl rfl ?_)))));refine EL.val (Zr (r := false) rfl rfl (decide_eq_false (by decide))) rfl ?_
  refine EL.mv rfl rfl (EL.mg rfl rfl rfl rfl (EL.valg rfl rfl (QMM rfl) rfl (EL.mg rfl rfl rfl rfl (EL.valg rfl rfl (QA6 rfl) rfl ?_))));refine EL.valg rfl rfl (Zr (r := false) rfl rfl (decide_eq_false (by omega))) rfl ?_
  refine EL.pf rfl rfl rfl (EL.nil (EX.seq (EC.no rfl (EC.skip (EX.seq (EC.seq ?_))))));have hsz := hbw.size;have lt_1 := q1.lt;have lt_3 := q3.lt;refine EC.regionS [[], [0], [], [0, 1, 2], [0, 1, 2, 3], [], [5], [], [0, 1, 2, 3, 4, 7], [0, 1, 2, 3, 4, 7, 8], [0, 1, 2, 3, 4, 5, 6, 7, 8, 9], [0, 1, 2, 3, 4, 5, 6, 7, 8, 9, 10]] 12 [7] [8] (fun _ w_ => Below wR4.heap.size wR4 w_) (phiS (fun i_ r => match i_ with | 0 => r 0 = .slice Aw ts.length cw | 2 => r 2 = .slice Aw ts.length cw | 5 => r 5 = .pointer (some ⟨g3, 5, none⟩) | 6 => r 6 = .bool l.high | 9 => r 9 = .int .i64 0 | 10 => r 10 = .bool l.high | 11 => r 11 = .int .i64 0 | _ => True) [(1, fun _ r w_ => ∃ A_ c_, r 1 = .slice A_ (qL ts false).length c_ ∧ w_.ownsRow wR4.heap.size 39 5 (.slice A_ (qL ts false).length c_) (qL ts false).length (twsC (qL ts false))), (3, fun _ r w_ => ∃ A_ c_, r 3 = .slice A_ (qL ts true).length c_ ∧ w_.ownsRow wR4.heap.size 39 5 (.slice A_ (qL ts true).length c_) (qL ts true).length (twsC (qL ts true))), (4, fun _ r w_ => ∃ A_ c_ A2_ c2_, r 4 = .agg #[.slice A_ (qL ts false).length c_, .slice A2_ (qL ts true).length c2_] ∧ w_.ownsRow wR4.heap.size 39 5 (.slice A_ (qL ts false).length c_) (qL ts false).length (twsC (qL ts false)) ∧ w_.ownsRow wR4.heap.size 39 5 (.slice A2_ (qL ts true).length c2_) (qL ts true).length (twsC (qL ts true))), (7, fun fl r w_ => ∃ g_, r 7 = .pointer (some ⟨g_, 0, none⟩) ∧ wR4.heap.size ≤ g_ ∧ (fl 8 = false → Blk w_ g_ 90 #[.slice none 0 0, .slice none 0 0])), (8, fun _ r w_ => ∃ g_ A_ c_ A2_ c2_, r 7 = .pointer (some ⟨g_, 0, none⟩) ∧ Blk w_ g_ 90 #[.slice A_ (qL ts false).length c_, .slice A2_ (qL ts true).length c2_] ∧ w_.ownsRow wR4.heap.size 39 5 (.slice A_ (qL ts false).length c_) (qL ts false).length (twsC (qL ts false)) ∧ w_.ownsRow wR4.heap.size 39 5 (.slice A2_ (qL ts true).length c2_) (qL ts true).length (twsC (qL ts true)) ∧ wR4.heap.size ≤ g_)]) (by kernel_rfl) rfl rfl (by intro i hi; simp at hi; first | (subst hi; exact ⟨by simp, by omega⟩) | (rcases hi with rfl | rfl | rfl <;> exact ⟨by simp, by omega⟩) | (rcases hi with rfl | rfl <;> exact ⟨by simp, by omega⟩)) (YN wR4) (ZL (fun _ _ _ _ hb ⟨A, c, h1, h2⟩ => ⟨A, c, h1, ZD h2 hb (Nat.le_refl _)⟩) (ZL (fun _ _ _ _ hb ⟨A, c, h1, h2⟩ => ⟨A, c, h1, ZD h2 hb (Nat.le_refl _)⟩) (ZL (fun _ _ _ _ hb ⟨A, c, A2, c2, h1, h2, h3⟩ => ⟨A, c, A2, c2, h1, ZD h2 hb (Nat.le_refl _), ZD h3 hb (Nat.le_refl _)⟩) (ZL Zf (ZL (fun _ _ _ _ hb ⟨g, A, c9, A2, c2, h1, h2, h3, h4, h5⟩ => ⟨g, A, c9, A2, c2, h1, h2.below hb h2.lt, ZD h3 hb (Nat.le_refl _), ZD h4 hb (Nat.le_refl _), h5⟩) (Zd)))))) (fun i_ hi_ hs_ => ?_) (fun i_ hi_ => ?_) ?_
  ·match i_, hi_ with
   | 0, _ =>
    intro val fl w1 a hb ha hd hfl;have ha := ha.s0 (d := 4) rfl
    exact ZC ha rfl rfl (x_move rfl) rfl rfl
   | 1, _ =>
    intro val fl w1 a hb ha hd hfl;have e0 : val 0 = _ := hd 0 (ZA.1 rfl);have ha := ha.s1 (d := 52) rfl e0;refine YM ha rfl rfl (cA2 cF34 rfl rfl) (QBN (u := false) harr ((Rd.of_own htw).below hb) hb.size (by omega)) rfl ?_
    rintro e w' ⟨⟨v, rfl, p1⟩, hb'⟩
    obtain ⟨A1, c1, rfl, _⟩ := (Rd.of_own p1).shape
    exact ⟨_, rfl, hb', A1, c1, rfl, YU p1 hb.size⟩
   | 2, _ =>
    intro val fl w1 a hb ha hd hfl;have ha := ha.s0 (d := 4) rfl
    exact ZC ha rfl rfl (x_move rfl) rfl rfl
   | 3, _ =>
    intro val fl w1 a hb ha hd hfl;have e2 : val 2 = _ := hd 2 (ZA.1 rfl);have ha := ha.s1 (d := 54) rfl e2;refine YM ha rfl rfl (cA2 cF34 rfl rfl) (QBN (u := true) harr ((Rd.of_own htw).below hb) hb.size (by omega)) rfl ?_
    rintro e w' ⟨⟨v, rfl, p1⟩, hb'⟩
    obtain ⟨A1, c1, rfl, _⟩ := (Rd.of_own p1).shape
    exact ⟨_, rfl, hb', A1, c1, rfl, YU p1 hb.size⟩
   | 4, _ =>
    intro val fl w1 a hb ha hd hfl;obtain ⟨A1_, c1_, e1, o1_⟩ := hd 1 (ZA.1 rfl);obtain ⟨A3_, c3_, e3, o3_⟩ := hd 3 (ZA.1 rfl);have ha := ha.s2 (d := 55) (e := 53) rfl e3 rfl e1
    exact ZC ha rfl rfl (QFN rfl rfl) ⟨A1_, c1_, A3_, c3_, rfl, o1_, o3_⟩ rfl
   | 5, _ =>
    intro val fl w1 a hb ha hd hfl;have ha := ha.s0 (d := 3) rfl
    exact ZC ha rfl rfl (QAn rfl) rfl rfl
   | 6, _ =>
    intro val fl w1 a hb ha hd hfl;have e5 : val 5 = _ := hd 5 (ZA.1 rfl);have ha := ha.s1 (d := 57) rfl e5
    exact ZC ha rfl rfl (ld_4 rfl ((q3.below hb q3.lt).at (j := 5) rfl)) rfl rfl
   | 7, _ =>
    intro val fl w1 a hb ha hd hfl;have ha := ha.sub (Sub.nil _)
    exact YC ha rfl rfl QMV (fun g w' hq _ hge => ⟨g, rfl, Nat.le_trans hb.size hge, fun _ => hq⟩)
   | 8, _ =>
    exact absurd (by simp) hs_
   | 9, _ =>
    intro val fl w1 a hb ha hd hfl;have ha := ha.sub (Sub.nil _)
    exact ZC ha rfl rfl (ZT rfl) rfl rfl
   | 10, _ =>
    intro val fl w1 a hb ha hd hfl;have e6 : val 6 = _ := hd 6 (ZA.1 rfl);have ha := ha.s1 (d := 58) rfl e6
    exact ZC ha rfl rfl (ZT rfl) rfl rfl
   | 11, _ =>
    intro val fl w1 a hb ha hd hfl;have ha := ha.sub (Sub.nil _)
    exact ZC ha rfl rfl (ZT rfl) rfl rfl
   | k + 12, h => exact absurd h (by omega)
  ·simp only [List.mem_singleton] at hi_; subst hi_
   intro val fl w1 a hb hfi ha hd hfl;obtain ⟨g7_, e7, hg7_, q7_⟩ := hd 7 (ZA.1 rfl);change val 7 = _ at e7;obtain ⟨A4_, c4_, X4_, y4_, e4, o4_, p4_⟩ := hd 4 (ZA.1 rfl);have ha := ha.s2 (d := 56) (e := 10) rfl e4 rfl e7;refine Zc ha rfl rfl rfl (q7_ hfi) QMC rfl rfl rfl rfl ?_;intro w' hq hgr;refine ⟨undef, rfl, hgr.size, ZE hb hgr hg7_, ⟨g7_, A4_, c4_, X4_, y4_, e7, hq, ZK o4_ (q7_ hfi) rfl hgr, ZK p4_ (q7_ hfi) rfl hgr, hg7_⟩, fun j _ hj hn hA => ?_⟩
   exact ZF (C := fun j => j ≠ 8 ∧ 8 ∉ clsAt [[], [0], [], [0, 1, 2], [0, 1, 2, 3], [], [5], [], [0, 1, 2, 3, 4, 7], [0, 1, 2, 3, 4, 7, 8], [0, 1, 2, 3, 4, 5, 6, 7, 8, 9], [0, 1, 2, 3, 4, 5, 6, 7, 8, 9, 10]] j ∧ ∀ p ∈ [7], (p = j ∨ p ∈ clsAt [[], [0], [], [0, 1, 2], [0, 1, 2, 3], [], [5], [], [0, 1, 2, 3, 4, 7], [0, 1, 2, 3, 4, 7, 8], [0, 1, 2, 3, 4, 5, 6, 7, 8, 9], [0, 1, 2, 3, 4, 5, 6, 7, 8, 9, 10]] j) → ∀ q ∈ [7], (q = 8 ∨ q ∈ clsAt [[], [0], [], [0, 1, 2], [0, 1, 2, 3], [], [5], [], [0, 1, 2, 3, 4, 7], [0, 1, 2, 3, 4, 7, 8], [0, 1, 2, 3, 4, 5, 6, 7, 8, 9], [0, 1, 2, 3, 4, 5, 6, 7, 8, 9, 10]] 8) → p ≠ q → val p ≠ val q) (fun _ ⟨A, c, h1, h2⟩ => ⟨A, c, h1, ZK h2 (q7_ hfi) rfl hgr⟩) (ZF (fun _ ⟨A, c, h1, h2⟩ => ⟨A, c, h1, ZK h2 (q7_ hfi) rfl hgr⟩) (ZF (fun _ ⟨A, c, A2, c2, h1, h2, h3⟩ => ⟨A, c, A2, c2, h1, ZK h2 (q7_ hfi) rfl hgr, ZK h3 (q7_ hfi) rfl hgr⟩) (ZF (fun _ ⟨g, h1, h2, _⟩ => ⟨g, h1, h2, fun h => by rw [ZS] at h; cases h⟩) (ZF (fun hc => absurd rfl hc.1) (fun _ _ h => h))))) j ⟨hj, hn, hA⟩
  ·intro val fl wR7 hfl hb halc hd
   have e0 : val 0 = _ := hd 0 (by omega)
   obtain ⟨A1_, c1_, e1, o1_⟩ := hd 1 (by omega)
   change val 1 = _ at e1;have e2 : val 2 = _ := hd 2 (by omega)
   obtain ⟨A3_, c3_, e3, o3_⟩ := hd 3 (by omega)
   change val 3 = _ at e3;obtain ⟨A4_, c4_, X4_, y4_, e4, o4_, p4_⟩ := hd 4 (by omega)
   change val 4 = _ at e4;have e5 : val 5 = _ := hd 5 (by omega)
   have e6 : val 6 = _ := hd 6 (by omega)
   obtain ⟨ga7_7, Aq0, cq0, Aq1, cq1, e7, qa7_7, hqq0, hqq1, hga7_7⟩ := hd 8 (by omega)
   change val 7 = _ at e7;have e9 : val 9 = _ := hd 9 (by omega)
   have e10 : val 10 = _ := hd 10 (by omega)
   have e11 : val 11 = _ := hd 11 (by omega)
   refine EL.ends (cs := [_, _, _, _, _, _, _, _, val 8, _, _, _]) ⟨e0, e1, e2, e3, e4, e5, e6, e7, rfl, e9, e10, e11, trivial⟩ rfl ?_;replace q1 := q1.bl hb;replace q3 := q3.bl hb;replace htw := ZD htw hb (Nat.le_refl _);replace hpl := ZD hpl hb (Nat.le_refl _);replace hrn := ZD hrn hb (Nat.le_refl _);have bge5 := YY halc (i := 7) rfl rfl e7;have n1_5 : g1 ≠ ga7_7 := Nat.ne_of_lt (Nat.lt_of_lt_of_le lt_1 bge5);have n3_5 : g3 ≠ ga7_7 := Nat.ne_of_lt (Nat.lt_of_lt_of_le lt_3 bge5);have bhbw_5 := Nat.le_trans hbw.size bge5;replace hbw := bo_ hbw hb;have hd2 := RdN.of_own hqq0 qa7_7 rfl;have hu2 := RdN.of_own hqq1 qa7_7 rfl;have hgq := QLh wR7 ga7_7;clear hqq0 hqq1;refine EL.nil (EX.seq (EC.seq (EC.seq (EC.region (EL.as rfl rfl (EL.nil (EX.seq (EC.block ?_))))))));have hmz : d.s.mv - (sAt l (qL ts) d.plan 0).mv = d.s.mv := Int.sub_zero _;refine EC.loopD [2, 8, 11, 12, 13, 14, 15, 16, 17, 18, 19, 20, 21, 22, 23, 59, 60, 61, 62, 63, 64, 65, 66, 67, 68, 69, 70, 71, 72, 73, 74, 75, 76, 77, 78, 79, 80, 81, 82, 83, 84, 85, 86, 87, 88, 89, 90, 91, 92, 93, 94, 95, 96, 97, 98, 99, 100, 101, 102, 103, 104, 105, 106, 107, 108, 109, 110, 111, 112, 113, 114, 115, 116, 117, 118, 119, 120, 121, 122, 123, 124, 125, 126, 127, 128, 129, 130, 131, 132, 133, 134, 135, 136, 137, 138, 139, 140, 141, 142, 143, 144, 145, 146, 147, 148, 149, 150, 151, 152, 153, 154, 155, 156, 157, 158, 159, 160, 161, 162, 163, 164, 165, 166, 167, 168, 169, 170, 171, 172, 173, 174, 175, 176, 177, 178, 179, 180, 181, 182, 183, 184, 185, 186, 187, 188, 189, 190, 191, 192, 193, 194, 195, 196, 197, 198, 199, 200, 201, 202, 203, 204, 205, 206, 207, 208, 209] (fun y : OrdV => [(14, .int .i64 (y.k : Nat)), (8, .int .i64 (d.s.mv - (sAt l (qL ts) d.plan y.k).mv)), (11, .int .i64 (sAt l (qL ts) d.plan y.k).fr), (12, .bool (sAt l (qL ts) d.plan y.k).lk.high), (13, .int .i64 (sAt l (qL ts) d.plan y.k).cost)]) (fun y W => y.k ≤ d.plan.length ∧ y.nd = (waitL (qL ts) (sAt l (qL ts) d.plan y.k) false).length ∧ RdN wR7 ga7_7 5 (.slice y.Ad y.nd y.cd) y.nd (twsC (waitL (qL ts) (sAt l (qL ts) d.plan y.k) false)) ∧ y.nu = (waitL (qL ts) (sAt l (qL ts) d.plan y.k) true).length ∧ RdN wR7 ga7_7 5 (.slice y.Au y.nu y.cu) y.nu (twsC (waitL (qL ts) (sAt l (qL ts) d.plan y.k) true)) ∧ W.ownsRow w.heap.size 87 2 (.slice Ap d.plan.length cp) d.plan.length (spsC d.plan) ∧ W.ownsRow w.heap.size 49 2 (.slice A11_ d.plan.length c11_) d.plan.length (rnsC (Z_ l (qL ts) d.plan d.plan.length)) ∧ Blk W g3 23 #[.int .i64 l.length, .int .i64 l.cycle, .int .i64 l.turn, .int .i64 l.fill, .int .i64 l.save, .bool l.high] ∧ Blk W ga7_7 90 #[.slice y.Ad y.nd y.cd, .slice y.Au y.nu y.cu] ∧ wR7.grownBy W (some ga7_7) ∧ Below w.heap.size w W) (fun y => d.plan.length - y.k) ⟨0, Aq0, (qL ts false).length, cq0, Aq1, (qL ts true).length, cq1⟩ ⟨Nat.zero_le _, rfl, hd2, rfl, hu2, hpl, hrn, q3, qa7_7, hgq, hbw⟩ ⟨rfl, YH hmz.symm rfl, rfl, rfl, rfl, trivial⟩ ?_
   clear hd2 hu2 hpl hrn q3 qa7_7 hgq hbw
   rintro ⟨k, Ad, nd, cd, Au, nu, cu⟩ wx ⟨hk, hnd, hd2, hnu, hu2, hpl, hrn, q3, qa7_7, hgq, hbw⟩
   dsimp only at hk hnd hd2 hnu hu2 qa7_7
   by_cases hlt : k < d.plan.length
   ·
    obtain ⟨p, ho⟩ := QMx hq hpk hlt;obtain ⟨hdk, htwB2, ht8, ht1, htn, htp, htt, hfit⟩ := QFZ hq hpk hlt;have hsuc := QA4 (l := l) (q := qL ts) hlt;obtain ⟨bp, op, ep_, _, cc⟩ := Ya d.plan k hlt _ _ _ _ _ (Rd.of_own hpl);have c0 := cc.c0;have c1 := cc.c1;rw [htt] at c1;clear cc;have hra : QDK l (qL ts) d.plan k = runT (sAt l (qL ts) d.plan k) (twAt l (qL ts) d.plan k) (d.plan.getD k sp0).up := rfl;have hrg := QJm (l := l) (q := qL ts) hlt;rw [hra] at hrg;obtain ⟨br, orr, er_, _, rc⟩ := QE6 _ k (by rw [QDC]; exact hlt) _ _ _ _ _ (Rd.of_own hrn)
    rw [hrg] at rc;have r0 := rc.c0;have r1 := rc.c1;clear rc hra;obtain ⟨_, pb2, pb3, _, _⟩ := Yz hlk;have hmvb := hdk.st.wt.mv;have hdmv := hpk.dr.st.wt.mv;have hd8s := QA1 (u := true) (n := 0) hq hpk.dr (Nat.zero_le _);have hwp := fun v => QGF (qL ts) (sAt l (qL ts) d.plan k) (twAt l (qL ts) d.plan k) (d.plan.getD k sp0).up v
    generalize (twAt l (qL ts) d.plan k) = tw at *
    generalize hup : (d.plan.getD k sp0).up = u at *
    dsimp only at hdk hmvb
    obtain ⟨S, eS⟩ : ∃ z, z = (sAt l (qL ts) d.plan k) := ⟨_, rfl⟩;rw [← eS];rw [← eS] at ho hdk ht8 htn htp hsuc hwp hnd hd2 hnu hu2 hmvb r0 r1 hrg;refine EC.seq (EC.seq (EC.region (EL.mv rfl rfl (EL.mv rfl rfl (EL.val (QA6 rfl) rfl ?_)))));refine EL.val (ZQ rfl rfl (decide_eq_true (show (((k : Nat) : Int) < ((d.plan.length : Nat) : Int)) by omega))) rfl ?_
    refine EL.nil (EX.seq (EC.yes rfl (EC.skip (EX.seq (EC.seq (EC.block (EC.seq (EC.region (EL.as rfl rfl ?_)))))))));refine EL.nil (EX.seq ?_);refine EC.cutD [15, 65, 66, 67, 68, 69] (fun _ : Unit => [(15, .int .i64 ((uI u : Nat) : Int))]) (fun _ W => W.ownsRow w.heap.size 87 2 (.slice Ap d.plan.length cp) d.plan.length (spsC d.plan) ∧ W.ownsRow w.heap.size 49 2 (.slice A11_ d.plan.length c11_) d.plan.length (rnsC (Z_ l (qL ts) d.plan d.plan.length)) ∧ Blk W g3 23 #[.int .i64 l.length, .int .i64 l.cycle, .int .i64 l.turn, .int .i64 l.fill, .int .i64 l.save, .bool l.high] ∧ Blk W ga7_7 90 #[.slice Ad nd cd, .slice Au nu cu] ∧ wR7.grownBy W (some ga7_7) ∧ Below w.heap.size w W) ?_ ?_
    ·
     cases u
     ·
      have hbx := Below.refl wx.heap.size wx;refine EC.seq (EC.region (EL.mv rfl rfl (EL.mv rfl rfl ?_)));refine EL.val (QA8 (by show some (Value.slice Ap _ _) = _; rw [ep_]) rfl hlt) rfl ?_
      refine EL.val (QAW rfl) rfl (EL.val (ld_4 rfl (ZB hbx c0)) rfl (EL.nil (EX.seq (EC.no rfl (EC.skip ?_)))))
      exact EX.cutE () ⟨rfl, trivial⟩ (by repeat first | with_reducible exact (Sub.refl _).del _ | refine sp_ rfl ?_ | exact (Sub.refl _).del _ | refine sd_ rfl ?_ | refine sn_ ?_) ⟨hpl, hrn, q3, qa7_7, hgq, hbw⟩
     ·
      have hbx := Below.refl wx.heap.size wx;refine EC.seq (EC.region (EL.mv rfl rfl (EL.mv rfl rfl ?_)));refine EL.val (QA8 (by show some (Value.slice Ap _ _) = _; rw [ep_]) rfl hlt) rfl ?_
      refine EL.val (QAW rfl) rfl (EL.val (ld_4 rfl (ZB hbx c0)) rfl (EL.nil (EX.seq (EC.yes rfl (EC.region (EL.as rfl rfl (EL.nil ?_)))))))
      exact EX.cutE () ⟨rfl, trivial⟩ (by repeat first | with_reducible exact (Sub.refl _).del _ | refine sp_ rfl ?_ | exact (Sub.refl _).del _ | refine sd_ rfl ?_ | refine sn_ ?_) ⟨hpl, hrn, q3, qa7_7, hgq, hbw⟩
    ·
     clear hpl hrn q3 qa7_7 hgq hbw
     rintro ⟨⟩ w2 ⟨hpl, hrn, q3, qa7_7, hgq, hbw⟩
     have htl2 : tw.length ≤ sel u nd nu := by cases u; exact hnd ▸ htn; exact hnu ▸ htn
     have hse : RdN wR7 ga7_7 5 (.slice (sel u Ad Au) (sel u nd nu) (sel u cd cu)) (sel u nd nu) (twsC (waitL (qL ts) S u)) := by cases u; exact hd2; exact hu2
     obtain ⟨bA, oA, eA, _⟩ := hse.rd.at_ (by omega)
     have hlc := QDB hse.rd;have htw2 : RdN wR7 ga7_7 5 (.slice (sel u Ad Au) tw.length (sel u cd cu)) tw.length (twsC tw) := by have h1 := hse.first htl2; rw [htp] at h1; exact h1
     rw [eA] at htw2;refine EC.seq ?_;obtain ⟨bp_, op_, ep_, _, cc⟩ := Ya d.plan k hlt _ _ _ _ _ (Rd.of_own hpl);have d1 := cc.c1;clear cc;rw [htt] at d1;refine EC.regionQ (by kernel_rfl) (by kernel_rfl) ?_
     refine EQ.mv rfl rfl ?_;refine EQ.val (fun _ hw => (YV (k := uI u) rfl rfl (QGI u))) rfl ?_
     refine EQ.val (fun _ hw => (YA rfl (ZB hw (by have h1 := QDt (u := u) rfl qa7_7; rw [eA] at h1; exact h1)))) rfl ?_
     refine EQ.mv rfl rfl (EQ.mv rfl rfl ?_);refine EQ.val (fun _ hw => (QA8 (by show some (Value.slice Ap _ _) = _; rw [ep_]) rfl hlt)) rfl ?_
     refine EQ.val (fun _ hw => (Yi rfl)) rfl ?_
     refine EQ.val (fun _ hw => (ld_3 rfl (ZB hw d1))) rfl ?_
     refine EQ.val (fun _ hw => (QD6 (hi := tw.length) rfl rfl (by omega))) rfl ?_
     refine EQ.val (fun _ hw => (ZT rfl)) rfl ?_
     refine EQ.fin (fun w6 hw_ => ?_)
     replace q3 := q3.bl hw_;replace qa7_7 := qa7_7.bl hw_;replace hpl := ZD hpl hw_ (Nat.le_refl _);replace hrn := ZD hrn hw_ (Nat.le_refl _);replace hgq := QAd hgq hw_;replace hbw := bo_ hbw hw_;clear hw_;refine EX.seq (EC.seq ?_);obtain ⟨bp2, op2, ep2_, _, cc⟩ := Ya d.plan k hlt _ _ _ _ _ (Rd.of_own hpl);have d1 := cc.c1;clear cc;rw [htt] at d1;have lt_3 := q3.lt;have lt_5 := qa7_7.lt;refine EC.regionP [[], [], [1], [1, 2], [], [], [4, 5], [4, 5, 6], [4, 5, 6, 7], [1, 2, 3, 4, 5, 6, 7, 8], [0, 1, 2, 3, 4, 5, 6, 7, 8, 9], [0, 1, 2, 3, 4, 5, 6, 7, 8, 9, 10]] 10 [] (phi (fun i_ r => match i_ with | 0 => r 0 = .int .i64 ((uI u : Nat) : Int) | 1 => r 1 = .int .i64 ((uI u : Nat) : Int) | 2 => r 2 = .pointer (some ⟨ga7_7, 0 + uI u, none⟩) | 3 => r 3 = .slice (some ⟨bA, oA, none⟩) (sel u nd nu) (sel u cd cu) | 4 => r 4 = .slice Ap d.plan.length cp | 5 => r 5 = .int .i64 (k : Nat) | 6 => r 6 = .pointer (some ⟨bp2, op2 + k * 2, none⟩) | 7 => r 7 = .pointer (some ⟨bp2, op2 + k * 2 + 1, none⟩) | 8 => r 8 = .int .i64 (tw.length : Nat) | 9 => r 9 = .slice (Z0 (some ⟨bA, oA, none⟩) (sel u cd cu) tw.length) (sel u nd nu - tw.length) (sel u cd cu - tw.length) | _ => True) []) (by kernel_rfl) rfl rfl (Yb) (fun i_ hi_ => ?_) ?_
     ·match i_, hi_ with
      | 0, _ =>
       intro val w1 a hb ha hd;have ha := ha.s0 (d := 15) rfl
       exact ZH ha rfl rfl (x_move rfl) rfl rfl
      | 1, _ =>
       intro val w1 a hb ha hd;have ha := ha.s0 (d := 15) rfl
       exact ZH ha rfl rfl (x_move rfl) rfl rfl
      | 2, _ =>
       intro val w1 a hb ha hd;have e1 : val 1 = _ := hd 1 (ZA.1 rfl);have ha := ha.sub (Sub.ins (d := 80) (Sub.ins (d := 10) (Sub.nil _) rfl) (ZO rfl e1))
       exact ZH ha rfl rfl (YV (k := uI u) rfl rfl (QGI u)) rfl rfl
      | 3, _ =>
       intro val w1 a hb ha hd;have e2 : val 2 = _ := hd 2 (ZA.1 rfl);have ha := ha.s1 (d := 81) rfl e2
       exact ZH ha rfl rfl (YA rfl (by have h1 := QDt (u := u) rfl (qa7_7.below hb qa7_7.lt); rw [eA] at h1; exact h1)) rfl rfl
      | 4, _ =>
       intro val w1 a hb ha hd;have ha := ha.s0 (d := 5) rfl
       exact ZH ha rfl rfl (x_move rfl) rfl rfl
      | 5, _ =>
       intro val w1 a hb ha hd;have ha := ha.s0 (d := 14) rfl
       exact ZH ha rfl rfl (x_move rfl) rfl rfl
      | 6, _ =>
       intro val w1 a hb ha hd;have e4 : val 4 = _ := hd 4 (ZA.1 rfl);have e5 : val 5 = _ := hd 5 (ZA.1 rfl);have ha := ha.s2 (d := 84) (e := 83) rfl e5 rfl e4
       exact ZH ha rfl rfl (QA8 (by show some (Value.slice Ap _ _) = _; rw [ep2_]) rfl hlt) rfl rfl
      | 7, _ =>
       intro val w1 a hb ha hd;have e6 : val 6 = _ := hd 6 (ZA.1 rfl);have ha := ha.s1 (d := 85) rfl e6
       exact ZH ha rfl rfl (Yi rfl) rfl rfl
      | 8, _ =>
       intro val w1 a hb ha hd;have e7 : val 7 = _ := hd 7 (ZA.1 rfl);have ha := ha.s1 (d := 86) rfl e7
       exact ZH ha rfl rfl (ld_3 rfl (ZB hb d1)) rfl rfl
      | 9, _ =>
       intro val w1 a hb ha hd;have e3 : val 3 = _ := hd 3 (ZA.1 rfl);have e8 : val 8 = _ := hd 8 (ZA.1 rfl);have ha := ha.s2 (d := 87) (e := 82) rfl e8 rfl e3
       exact ZH ha rfl rfl (QFb (lo := tw.length) rfl rfl (by omega) rfl) rfl rfl
      | k + 10, h => exact absurd h (by omega)
     ·intro val wR15 hb halc hd
      have e0 : val 0 = _ := hd 0 (by omega)
      have e1 : val 1 = _ := hd 1 (by omega)
      have e2 : val 2 = _ := hd 2 (by omega)
      have e3 : val 3 = _ := hd 3 (by omega)
      have e4 : val 4 = _ := hd 4 (by omega)
      have e5 : val 5 = _ := hd 5 (by omega)
      have e6 : val 6 = _ := hd 6 (by omega)
      have e7 : val 7 = _ := hd 7 (by omega)
      have e8 : val 8 = _ := hd 8 (by omega)
      have e9 : val 9 = _ := hd 9 (by omega)
      refine EL.ends (cs := [_, _, _, _, _, _, _, _, _, _]) ⟨e0, e1, e2, e3, e4, e5, e6, e7, e8, e9, trivial⟩ rfl ?_;replace q3 := q3.bl hb;replace qa7_7 := qa7_7.bl hb;replace hpl := ZD hpl hb (Nat.le_refl _);replace hrn := ZD hrn hb (Nat.le_refl _);replace hgq := QAd hgq hb;replace hbw := bo_ hbw hb;clear hb;refine EL.val (YV (k := uI u) rfl rfl (QGI u)) rfl (EL.store (l' := [.slice (Z0 (some ⟨bA, oA, none⟩) (sel u cd cu) tw.length) (sel u nd nu - tw.length) (sel u cd cu - tw.length)]) rfl rfl qa7_7 QGM rfl rfl (QMe u) rfl ?_);intro w7 hq7 hg7;rw [← eA, QK_] at hq7;replace q3 := q3.gr hg7 n3_5;replace hpl := ZK hpl qa7_7 rfl hg7;replace hrn := ZK hrn qa7_7 rfl hg7;replace hgq := YJ hgq hg7;replace hbw := ZE hbw hg7 bhbw_5;replace qa7_7 := hq7;clear hg7 hq7;refine EL.nil (EX.seq (EC.seq (EC.region (EL.mv rfl rfl (EL.as rfl rfl (EL.as rfl rfl (EL.nil (EX.seq ?_))))))));have htmv := QHi S u;have hoF := ho.F;have hoR := ho.fr;have hoB := ho.Fb;have hoM := ho.mv;obtain ⟨hop1, hop2⟩ := ho.p1;refine EC.cutD [8, 17, 91, 92, 93, 94, 95, 96, 97, 98, 99, 100, 101, 102, 103] (fun _ : Unit => [(17, .int .i64 (ZW S u).fr), (8, .int .i64 (d.s.mv - (ZW S u).mv))]) (fun _ W => W.ownsRow w.heap.size 87 2 (.slice Ap d.plan.length cp) d.plan.length (spsC d.plan) ∧ W.ownsRow w.heap.size 49 2 (.slice A11_ d.plan.length c11_) d.plan.length (rnsC (Z_ l (qL ts) d.plan d.plan.length)) ∧ Blk W g3 23 #[.int .i64 l.length, .int .i64 l.cycle, .int .i64 l.turn, .int .i64 l.fill, .int .i64 l.save, .bool l.high] ∧ Blk W ga7_7 90 #[.slice (sel u (Z0 Ad cd tw.length) Ad) (sel u (nd - tw.length) nd) (sel u (cd - tw.length) cd), .slice (sel u Au (Z0 Au cu tw.length)) (sel u nu (nu - tw.length)) (sel u cu (cu - tw.length))] ∧ wR7.grownBy W (some ga7_7) ∧ Below w.heap.size w W) ?_ ?_
      ·
       obtain ⟨bp3, op3, ep3_, _, cc⟩ := Ya d.plan k hlt _ _ _ _ _ (Rd.of_own hpl);have d0 := cc.c0;clear cc;rw [hup] at d0
       by_cases hh : S.lk.high = u
       ·
        rw [if_pos hh] at hoF htmv;refine EC.seq (EC.region (EL.mv rfl rfl (EL.mv rfl rfl (EL.mv rfl rfl ?_))));refine EL.val (QA8 (by show some (Value.slice Ap _ _) = _; rw [ep3_]) rfl hlt) rfl ?_
        refine EL.val (QAW rfl) rfl (EL.val (ld_4 rfl d0) rfl (EL.val (QBb (r := true) rfl rfl (decide_eq_true hh)) rfl (EL.nil (EX.seq (EC.yes rfl (EC.seq (EC.region (EL.mv rfl rfl (EL.val (Y3 rfl) rfl ?_)))))))));refine EL.val (ld_3 rfl (q3.at (j := 2) rfl)) rfl ?_;refine EL.val (ZP rfl rfl (c := S.fr + l.turn) (IntWalk.i64_in (S.fr + l.turn) ⟨by omega, by omega⟩)) rfl ?_
        refine EL.as rfl rfl (EL.nil (EX.seq (EC.region (EL.mv rfl rfl ?_))));refine EL.val (Zv rfl rfl (c := d.s.mv - S.mv - 1) (IntWalk.i64_in (d.s.mv - S.mv - 1) ⟨by omega, by omega⟩)) rfl ?_
        refine EL.as rfl rfl (EL.nil ?_)
        exact EX.cutE () ⟨YH (by omega) rfl, YH (by omega) rfl, trivial⟩ (by repeat first | with_reducible exact (Sub.refl _).del _ | refine sp_ rfl ?_ | exact (Sub.refl _).del _ | refine sd_ rfl ?_ | refine sn_ ?_) ⟨hpl, hrn, q3, qa7_7, hgq, hbw⟩
       ·
        rw [if_neg hh] at hoF htmv;refine EC.seq (EC.region (EL.mv rfl rfl (EL.mv rfl rfl (EL.mv rfl rfl ?_))));refine EL.val (QA8 (by show some (Value.slice Ap _ _) = _; rw [ep3_]) rfl hlt) rfl ?_
        refine EL.val (QAW rfl) rfl (EL.val (ld_4 rfl d0) rfl (EL.val (QBb (r := false) rfl rfl (decide_eq_false hh)) rfl (EL.nil (EX.seq (EC.no rfl (EC.skip ?_))))))
        exact EX.cutE () ⟨YH (by omega) rfl, YH (by omega) rfl, trivial⟩ (by repeat first | with_reducible exact (Sub.refl _).del _ | refine sp_ rfl ?_ | exact (Sub.refl _).del _ | refine sd_ rfl ?_ | refine sn_ ?_) ⟨hpl, hrn, q3, qa7_7, hgq, hbw⟩
      ·
       clear hpl hrn q3 qa7_7 hgq hbw
       rintro ⟨⟩ w3 ⟨hpl, hrn, q3, qa7_7, hgq, hbw⟩
       refine EC.seq (EC.region (EL.mv rfl rfl (EL.as rfl rfl (EL.nil (EX.seq ?_)))));refine EC.cutD [18, 19, 20, 105, 106, 107, 108, 109, 110, 111, 112, 113, 114, 115, 116, 117, 118, 119, 120, 121, 122, 123, 124] (fun _ : Unit => [(18, .int .i64 (ZX tw)), (19, .int .i64 (max (ZW S u).fr (arrT tw)))]) (fun _ W => W.ownsRow w.heap.size 87 2 (.slice Ap d.plan.length cp) d.plan.length (spsC d.plan) ∧ W.ownsRow w.heap.size 49 2 (.slice A11_ d.plan.length c11_) d.plan.length (rnsC (Z_ l (qL ts) d.plan d.plan.length)) ∧ Blk W g3 23 #[.int .i64 l.length, .int .i64 l.cycle, .int .i64 l.turn, .int .i64 l.fill, .int .i64 l.save, .bool l.high] ∧ Blk W ga7_7 90 #[.slice (sel u (Z0 Ad cd tw.length) Ad) (sel u (nd - tw.length) nd) (sel u (cd - tw.length) cd), .slice (sel u Au (Z0 Au cu tw.length)) (sel u nu (nu - tw.length)) (sel u cu (cu - tw.length))] ∧ wR7.grownBy W (some ga7_7) ∧ Below w.heap.size w W) ?_ ?_
       ·
        refine EC.seq (EC.region (EL.as rfl rfl (EL.nil (EX.seq (EC.block ?_)))));have hm0 : max (ZW S u).fr (arrT (tw.take 0)) = (ZW S u).fr := by show max (ZW S u).fr 0 = _; omega
        refine EC.loopD [18, 19, 20, 105, 106, 107, 108, 109, 110, 111, 112, 113, 114, 115, 116, 117, 118, 119, 120, 121, 122, 123, 124] (fun j : Nat => [(20, .int .i64 (j : Nat)), (18, .int .i64 (ZX (tw.take j))), (19, .int .i64 (max (ZW S u).fr (arrT (tw.take j))))]) (fun j W => j ≤ tw.length ∧ W.ownsRow w.heap.size 87 2 (.slice Ap d.plan.length cp) d.plan.length (spsC d.plan) ∧ W.ownsRow w.heap.size 49 2 (.slice A11_ d.plan.length c11_) d.plan.length (rnsC (Z_ l (qL ts) d.plan d.plan.length)) ∧ Blk W g3 23 #[.int .i64 l.length, .int .i64 l.cycle, .int .i64 l.turn, .int .i64 l.fill, .int .i64 l.save, .bool l.high] ∧ Blk W ga7_7 90 #[.slice (sel u (Z0 Ad cd tw.length) Ad) (sel u (nd - tw.length) nd) (sel u (cd - tw.length) cd), .slice (sel u Au (Z0 Au cu tw.length)) (sel u nu (nu - tw.length)) (sel u cu (cu - tw.length))] ∧ wR7.grownBy W (some ga7_7) ∧ Below w.heap.size w W) (fun j => tw.length - j) 0 ⟨Nat.zero_le _, hpl, hrn, q3, qa7_7, hgq, hbw⟩ ⟨rfl, rfl, YH hm0.symm rfl, trivial⟩ ?_
        clear hpl hrn q3 qa7_7 hgq hbw
        rintro j wj ⟨hj, hpl, hrn, q3, qa7_7, hgq, hbw⟩
        have hpb := QFf htwB2 (by omega) hlk j
        by_cases hltj : j < tw.length
        ·
         obtain ⟨b, o, eb_, _, cc⟩ := Z6 tw j hltj _ _ _ _ _ (htw2.grown hgq).rd
         injection eb_ with eb_
         injection eb_ with eb1_ eb2_
         subst eb1_ eb2_;have hy := htwB2 _ (Zs hltj tw0);have hs1 : ZX (tw.take (j + 1)) = ZX (tw.take j) + (tw.getD j tw0).length := QB1 (f := (·.length)) hltj;have hs2 := QFO hltj
         generalize tw.getD j tw0 = y at cc hy hs1 hs2
         obtain ⟨y1, y2, _, _⟩ := QAZ hy;refine EC.seq (EC.seq (EC.region (EL.mv rfl rfl (EL.mv rfl rfl (EL.val (Zw rfl) rfl ?_)))));refine EL.val (ZQ rfl rfl (decide_eq_true (show (((j : Nat) : Int) < ((tw.length : Nat) : Int)) by omega))) rfl ?_
         refine EL.nil (EX.seq (EC.yes rfl (EC.skip (EX.seq (EC.seq (EC.block (EC.seq (EC.region (EL.mv rfl rfl ?_)))))))));refine EL.mv rfl rfl (EL.mv rfl rfl (EL.val (Yd rfl rfl hltj) rfl (EL.val (QDn rfl) rfl (EL.val (ld_3 rfl cc.c2) rfl ?_))));refine EL.val (ZP rfl rfl (c := (ZX (tw.take (j + 1)))) ((IntWalk.i64_in _ ⟨by omega, by omega⟩).trans hs1.symm)) rfl ?_
         refine EL.as rfl rfl (EL.nil (EX.seq (EC.region (EL.mv rfl rfl (EL.mv rfl rfl (EL.mv rfl rfl (EL.val (Yd rfl rfl hltj) rfl (EL.val (QAE rfl) rfl (EL.val (ld_3 rfl cc.c1) rfl ?_)))))))));refine EL.val (QFn rfl rfl (show max (max (ZW S u).fr (arrT (tw.take j))) y.arrive = (max (ZW S u).fr (arrT (tw.take (j + 1)))) by rw [hs2]; omega)) rfl ?_
         refine EL.as rfl rfl (EL.nil (EX.blk (EX.seq (EC.region (EL.mv rfl rfl ?_)))));refine EL.val (ZP rfl rfl (c := ((j + 1 : Nat) : Int)) ((IntWalk.i64_in _ ⟨by first | omega | (simp only; omega), by first | omega | (simp only; omega)⟩).trans (by first | omega | (simp only; omega)))) rfl ?_
         refine EL.as rfl rfl (EL.nil ?_);refine EX.roundD (j + 1) ⟨rfl, rfl, rfl, trivial⟩ (by repeat first | with_reducible exact .refl _ | refine sp_ rfl ?_ | exact .refl _ | refine sd_ rfl ?_ | refine sn_ ?_) ⟨hltj, hpl, hrn, q3, qa7_7, hgq, hbw⟩ (by omega)
        ·
         obtain rfl : j = tw.length := by omega
         rw [List.take_length];refine EC.seq (EC.seq (EC.region (EL.mv rfl rfl (EL.mv rfl rfl (EL.val (Zw rfl) rfl ?_)))));refine EL.val (ZQ rfl rfl (decide_eq_false (show ¬(((tw.length : Nat) : Int) < ((tw.length : Nat) : Int)) by omega))) rfl ?_
         refine EL.nil (EX.seq (EC.no rfl (EC.exit (EX.seq_exit (EX.seq_exit (EX.blk_here ?_))))))
         exact EX.cutE () ⟨rfl, rfl, trivial⟩ (by repeat first | with_reducible exact (Sub.refl _).del _ | refine sp_ rfl ?_ | exact (Sub.refl _).del _ | refine sd_ rfl ?_ | refine sn_ ?_) ⟨hpl, hrn, q3, qa7_7, hgq, hbw⟩
       ·
        clear hpl hrn q3 qa7_7 hgq hbw
        rintro ⟨⟩ w4 ⟨hpl, hrn, q3, qa7_7, hgq, hbw⟩
        have hlb2 := QDi htwB2 (by omega) hlk
        have hpd := QHL (long := ZX tw) (L := l.length) (by omega) (by omega)
        rw [← ho.pp] at hpd;obtain ⟨⟨hpc1, hpc2⟩, hpc3, hpc4⟩ := ho.pc;have hoA := ho.arr;have hoS := ho.st;have hoP := ho.sp;have hoG := ho.ge;have hoD := ho.bd;refine EC.seq (EC.region (EL.mv rfl rfl (EL.val (Yj rfl) rfl (EL.val (ld_3 rfl (q3.at (j := 0) rfl)) rfl ?_))));refine EL.val (ZP rfl rfl (c := ZX tw + l.length) (IntWalk.i64_in (ZX tw + l.length) ⟨by omega, by omega⟩)) rfl ?_
        refine EL.val (Zv rfl rfl (c := ZX tw + l.length - 1) (IntWalk.i64_in (ZX tw + l.length - 1) ⟨by omega, by omega⟩)) rfl ?_
        refine EL.val (Yj rfl) rfl (EL.val (ld_3 rfl (q3.at (j := 0) rfl)) rfl ?_);refine EL.val (QJO rfl rfl (by omega) (c := ((p : Nat) : Int)) (by rw [hpd]; exact IntWalk.i64_in _ ⟨by omega, by omega⟩)) rfl ?_
        refine EL.as rfl rfl (EL.nil (EX.seq (EC.seq (EC.region ?_))));obtain ⟨br2, or2, er2_, _, rc⟩ := QE6 _ k (by rw [QDC]; exact hlt) _ _ _ _ _ (Rd.of_own hrn)
        rw [hrg] at rc;have r0 := rc.c0;have r1 := rc.c1;clear rc;refine EL.mv rfl rfl (EL.mv rfl rfl ?_);refine EL.val (QMQ (by show some (Value.slice A11_ _ _) = _; rw [er2_]) rfl hlt) rfl ?_
        refine EL.val (QCu rfl r0 r1) rfl (EL.newP QCI rfl ?_);intro g8 w8 q8 hb8 hg8 hl8;have n3_8 := q3.na hg8;have n5_8 := qa7_7.na hg8;have bhbw_8 := Nat.le_trans hbw.size hg8;have bq8 : wR7.heap.size ≤ g8 := Nat.le_trans hgq.size hg8;have hnr8 : ∀ b, (Value.slice A11_ d.plan.length c11_).ownBlock = some b → b ≠ g8 := fun b hb => Nat.ne_of_lt (Nat.lt_of_lt_of_le (hrn.lt b hb).2 hg8)
        replace q3 := q3.bl hb8;replace qa7_7 := qa7_7.bl hb8;replace hpl := ZD hpl hb8 (Nat.le_refl _);replace hrn := ZD hrn hb8 (Nat.le_refl _);replace hgq := QAd hgq hb8;replace hbw := bo_ hbw hb8;clear hb8 hg8 hl8;refine EL.store rfl rfl q8 QAi rfl rfl rfl rfl ?_;intro w9 hq9 hg9;replace q3 := q3.gr hg9 n3_8;replace qa7_7 := qa7_7.gr hg9 n5_8;replace hpl := ZK hpl q8 rfl hg9;replace hrn := Yt hrn hg9 (fun b hb e => hnr8 b hb (Option.some.inj e).symm)
        replace hgq := QKb hgq hg9 bq8;replace hbw := ZE hbw hg9 bhbw_8;replace q8 := hq9;clear hg9 hq9;refine EL.nil (EX.seq (EC.seq (EC.seq (EC.region (EL.val (QBS rfl) rfl (EL.val (ld_3 rfl (q8.at (j := 0) rfl)) rfl (EL.mv rfl rfl ?_)))))));refine EL.val (Zr (r := false) rfl rfl (decide_eq_false (fun h => h hoS))) rfl ?_
        refine EL.mv rfl rfl (EL.valg rfl rfl (QBS rfl) rfl (EL.valg rfl rfl (ld_3 rfl (q8.at (j := 0) rfl)) rfl (EL.mg rfl rfl rfl rfl ?_)));refine EL.valg rfl rfl (ZQ (r := false) rfl rfl (decide_eq_false (by omega))) rfl ?_
        refine EL.pf rfl rfl rfl (EL.mv rfl rfl (EL.valg rfl rfl (Z9 rfl) rfl (EL.valg rfl rfl (ld_3 rfl (q8.at (j := 1) rfl)) rfl (EL.valg rfl rfl (QBS rfl) rfl (EL.valg rfl rfl (ld_3 rfl (q8.at (j := 0) rfl)) rfl ?_)))));refine EL.valg rfl rfl (Zv rfl rfl (c := (runT S tw u).stop - (runT S tw u).start) (IntWalk.i64_in ((runT S tw u).stop - (runT S tw u).start) ⟨by omega, by omega⟩)) rfl ?_
        refine EL.mg rfl rfl rfl rfl (EL.valg rfl rfl (QBT rfl) rfl (EL.valg rfl rfl (ld_3 rfl (q3.at (j := 1) rfl)) rfl ?_));refine EL.valg rfl rfl (QAI rfl rfl (c := (p : Int) * l.cycle) (IntWalk.i64_in ((p : Int) * l.cycle) ⟨by omega, by omega⟩)) rfl ?_
        refine EL.mg rfl rfl rfl rfl ?_;refine EL.valg rfl rfl (Zv rfl rfl (c := (p : Int) - 1) (IntWalk.i64_in ((p : Int) - 1) ⟨by omega, by omega⟩)) rfl ?_
        refine EL.valg rfl rfl (Y3 rfl) rfl (EL.valg rfl rfl (ld_3 rfl (q3.at (j := 2) rfl)) rfl ?_);refine EL.valg rfl rfl (QAI rfl rfl (c := ((p : Int) - 1) * l.turn) (IntWalk.i64_in (((p : Int) - 1) * l.turn) ⟨by omega, by omega⟩)) rfl ?_
        refine EL.valg rfl rfl (ZP rfl rfl (c := (p : Int) * l.cycle + ((p : Int) - 1) * l.turn) (IntWalk.i64_in ((p : Int) * l.cycle + ((p : Int) - 1) * l.turn) ⟨by omega, by omega⟩)) rfl ?_
        refine EL.valg rfl rfl (Zr (r := false) rfl rfl (decide_eq_false (fun h => h hoP))) rfl ?_
        refine EL.pf rfl rfl rfl (EL.nil (EX.seq (EC.no rfl (EC.skip (EX.seq ?_)))));refine EC.cutD [2, 13, 23, 165, 166, 167, 168, 169, 170, 171, 172, 173, 174, 175, 176, 177, 178, 179, 180, 181, 182, 183, 184, 185, 186, 187, 188, 189, 190, 191, 192, 193, 194, 195, 196, 197] (fun _ : Unit => [(13, .int .i64 (S.cost + Y4 (runT S tw u).stop tw))]) (fun _ W => W.ownsRow w.heap.size 87 2 (.slice Ap d.plan.length cp) d.plan.length (spsC d.plan) ∧ W.ownsRow w.heap.size 49 2 (.slice A11_ d.plan.length c11_) d.plan.length (rnsC (Z_ l (qL ts) d.plan d.plan.length)) ∧ Blk W g3 23 #[.int .i64 l.length, .int .i64 l.cycle, .int .i64 l.turn, .int .i64 l.fill, .int .i64 l.save, .bool l.high] ∧ Blk W ga7_7 90 #[.slice (sel u (Z0 Ad cd tw.length) Ad) (sel u (nd - tw.length) nd) (sel u (cd - tw.length) cd), .slice (sel u Au (Z0 Au cu tw.length)) (sel u nu (nu - tw.length)) (sel u cu (cu - tw.length))] ∧ Blk W g8 49 #[.int .i64 (runT S tw u).start, .int .i64 (runT S tw u).stop] ∧ wR7.grownBy W (some ga7_7) ∧ Below w.heap.size w W) ?_ ?_
        ·
         refine EC.seq (EC.region (EL.as rfl rfl (EL.nil (EX.seq (EC.block ?_)))));have hc0 : S.cost + Y4 (runT S tw u).stop (tw.take 0) = S.cost := by show S.cost + 0 = _; omega
         have hocb := ho.cb;refine EC.loopD [2, 13, 23, 165, 166, 167, 168, 169, 170, 171, 172, 173, 174, 175, 176, 177, 178, 179, 180, 181, 182, 183, 184, 185, 186, 187, 188, 189, 190, 191, 192, 193, 194, 195, 196, 197] (fun j : Nat => [(23, .int .i64 (j : Nat)), (13, .int .i64 (S.cost + Y4 (runT S tw u).stop (tw.take j)))]) (fun j W => j ≤ tw.length ∧ W.ownsRow w.heap.size 87 2 (.slice Ap d.plan.length cp) d.plan.length (spsC d.plan) ∧ W.ownsRow w.heap.size 49 2 (.slice A11_ d.plan.length c11_) d.plan.length (rnsC (Z_ l (qL ts) d.plan d.plan.length)) ∧ Blk W g3 23 #[.int .i64 l.length, .int .i64 l.cycle, .int .i64 l.turn, .int .i64 l.fill, .int .i64 l.save, .bool l.high] ∧ Blk W ga7_7 90 #[.slice (sel u (Z0 Ad cd tw.length) Ad) (sel u (nd - tw.length) nd) (sel u (cd - tw.length) cd), .slice (sel u Au (Z0 Au cu tw.length)) (sel u nu (nu - tw.length)) (sel u cu (cu - tw.length))] ∧ Blk W g8 49 #[.int .i64 (runT S tw u).start, .int .i64 (runT S tw u).stop] ∧ wR7.grownBy W (some ga7_7) ∧ Below w.heap.size w W) (fun j => tw.length - j) 0 ⟨Nat.zero_le _, hpl, hrn, q3, qa7_7, q8, hgq, hbw⟩ ⟨rfl, YH hc0.symm rfl, trivial⟩ ?_
         clear hpl hrn q3 qa7_7 q8 hgq hbw
         rintro j wj ⟨hj, hpl, hrn, q3, qa7_7, q8, hgq, hbw⟩
         have hcbd := QKh htwB2 hoD j;have htlj : (tw.take j).length ≤ 8 := by rw [List.length_take]; omega
         by_cases hltj : j < tw.length
         ·
          obtain ⟨b, o, eb_, _, cc⟩ := Z6 tw j hltj _ _ _ _ _ (htw2.grown hgq).rd
          injection eb_ with eb_
          injection eb_ with eb1_ eb2_
          subst eb1_ eb2_;have hym := Zs hltj tw0;have hy := htwB2 _ hym;have hya := QIf hym;have hs1 := QHW (e := (runT S tw u).stop) hltj
          generalize tw.getD j tw0 = y at cc hy hs1 hya
          obtain ⟨y1, y2, y3, _⟩ := QAZ hy;have hcy := QC0 hy hoD;have k1 := cc.c1;have k3 := cc.c3;clear cc;refine EC.seq (EC.seq (EC.region (EL.mv rfl rfl (EL.mv rfl rfl (EL.val (Zw rfl) rfl ?_)))));refine EL.val (ZQ rfl rfl (decide_eq_true (show (((j : Nat) : Int) < ((tw.length : Nat) : Int)) by omega))) rfl ?_
          refine EL.nil (EX.seq (EC.yes rfl (EC.skip (EX.seq (EC.seq (EC.block (EC.seq (EC.seq ?_))))))));refine EC.regionQ (by kernel_rfl) (by kernel_rfl) ?_
          refine EQ.val (fun _ hw => (Z9 rfl)) rfl ?_
          refine EQ.val (fun _ hw => (ld_3 rfl (ZB hw (q8.at (j := 1) rfl)))) rfl ?_
          refine EQ.mv rfl rfl (EQ.mv rfl rfl ?_);refine EQ.val (fun _ hw => (Yd rfl rfl hltj)) rfl ?_
          refine EQ.val (fun _ hw => (QAE rfl)) rfl ?_
          refine EQ.val (fun _ hw => (ld_3 rfl (ZB hw k1))) rfl ?_
          refine EQ.val (fun _ hw => (QBT rfl)) rfl ?_
          refine EQ.val (fun _ hw => (ld_3 rfl (ZB hw (q3.at (j := 1) rfl)))) rfl ?_
          refine EQ.val (fun _ hw => (ZP rfl rfl (c := y.arrive + l.cycle) (IntWalk.i64_in (y.arrive + l.cycle) ⟨by omega, by omega⟩))) rfl ?_
          refine EQ.val (fun _ hw => (ZQ (r := false) rfl rfl (decide_eq_false (by omega)))) rfl ?_
          refine EQ.fin (fun w10 hw_ => ?_)
          replace q3 := q3.bl hw_;replace qa7_7 := qa7_7.bl hw_;replace q8 := q8.bl hw_;replace hpl := ZD hpl hw_ (Nat.le_refl _);replace hrn := ZD hrn hw_ (Nat.le_refl _);replace hgq := QAd hgq hw_;replace k1 := ZB hw_ k1;replace k3 := ZB hw_ k3;replace hbw := bo_ hbw hw_;clear hw_;refine EX.seq (EC.no rfl (EC.skip (EX.seq ?_)));refine EC.regionQ (by kernel_rfl) (by kernel_rfl) ?_
          refine EQ.mv rfl rfl (EQ.mv rfl rfl (EQ.mv rfl rfl ?_));refine EQ.val (fun _ hw => (Yd rfl rfl hltj)) rfl ?_
          refine EQ.val (fun _ hw => (QDm rfl)) rfl ?_
          refine EQ.val (fun _ hw => (ld_3 rfl (ZB hw k3))) rfl ?_
          refine EQ.val (fun _ hw => (Z9 rfl)) rfl ?_
          refine EQ.val (fun _ hw => (ld_3 rfl (ZB hw (q8.at (j := 1) rfl)))) rfl ?_
          refine EQ.mv rfl rfl (EQ.mv rfl rfl ?_);refine EQ.val (fun _ hw => (Yd rfl rfl hltj)) rfl ?_
          refine EQ.val (fun _ hw => (QAE rfl)) rfl ?_
          refine EQ.val (fun _ hw => (ld_3 rfl (ZB hw k1))) rfl ?_
          refine EQ.val (fun _ hw => (Zv rfl rfl (c := (runT S tw u).stop - y.arrive) (IntWalk.i64_in ((runT S tw u).stop - y.arrive) ⟨by omega, by omega⟩))) rfl ?_
          refine EQ.val (fun _ hw => (QAI rfl rfl (c := y.weight * ((runT S tw u).stop - y.arrive)) (IntWalk.i64_in (y.weight * ((runT S tw u).stop - y.arrive)) ⟨by omega, by omega⟩))) rfl ?_
          refine EQ.val (fun _ hw => (ZP rfl rfl (c := (S.cost + Y4 (runT S tw u).stop (tw.take (j + 1)))) ((IntWalk.i64_in _ ⟨by omega, by omega⟩).trans (by rw [hs1]; omega)))) rfl ?_
          refine EQ.val (fun _ hw => (ZT rfl)) rfl ?_
          refine EQ.fin (fun w11 hw_ => ?_)
          replace q3 := q3.bl hw_;replace qa7_7 := qa7_7.bl hw_;replace q8 := q8.bl hw_;replace hpl := ZD hpl hw_ (Nat.le_refl _);replace hrn := ZD hrn hw_ (Nat.le_refl _);replace hgq := QAd hgq hw_;replace k1 := ZB hw_ k1;replace k3 := ZB hw_ k3;replace hbw := bo_ hbw hw_;clear hw_;refine EX.blk (EX.seq (EC.region (EL.mv rfl rfl ?_)));refine EL.val (ZP rfl rfl (c := ((j + 1 : Nat) : Int)) ((IntWalk.i64_in _ ⟨by first | omega | (simp only; omega), by first | omega | (simp only; omega)⟩).trans (by first | omega | (simp only; omega)))) rfl ?_
          refine EL.as rfl rfl (EL.nil ?_);refine EX.roundD (j + 1) ⟨rfl, rfl, trivial⟩ (by repeat first | with_reducible exact .refl _ | refine sp_ rfl ?_ | exact .refl _ | refine sd_ rfl ?_ | refine sn_ ?_) ⟨hltj, hpl, hrn, q3, qa7_7, q8, hgq, hbw⟩ (by omega)
         ·
          obtain rfl : j = tw.length := by omega
          rw [List.take_length];refine EC.seq (EC.seq (EC.region (EL.mv rfl rfl (EL.mv rfl rfl (EL.val (Zw rfl) rfl ?_)))));refine EL.val (ZQ rfl rfl (decide_eq_false (show ¬(((tw.length : Nat) : Int) < ((tw.length : Nat) : Int)) by omega))) rfl ?_
          refine EL.nil (EX.seq (EC.no rfl (EC.exit (EX.seq_exit (EX.seq_exit (EX.blk_here ?_))))))
          exact EX.cutE () ⟨rfl, trivial⟩ (by repeat first | with_reducible exact (Sub.refl _).del _ | refine sp_ rfl ?_ | exact (Sub.refl _).del _ | refine sd_ rfl ?_ | refine sn_ ?_) ⟨hpl, hrn, q3, qa7_7, q8, hgq, hbw⟩
        ·
         clear hpl hrn q3 qa7_7 q8 hgq hbw
         rintro ⟨⟩ w6 ⟨hpl, hrn, q3, qa7_7, q8, hgq, hbw⟩
         obtain ⟨bp4, op4, ep4_, _, cc⟩ := Ya d.plan k hlt _ _ _ _ _ (Rd.of_own hpl);have d0 := cc.c0;clear cc;rw [hup] at d0;have htmb := QHi S u;have htm0 : 0 ≤ (ZW S u).mv ∧ (ZW S u).mv ≤ 90000000 := by split at htmb <;> omega
         refine EC.regionQ (by kernel_rfl) (by kernel_rfl) ?_
         refine EQ.val (fun _ hw => (Z9 rfl)) rfl ?_
         refine EQ.val (fun _ hw => (ld_3 rfl (ZB hw (q8.at (j := 1) rfl)))) rfl ?_
         refine EQ.mv rfl rfl (EQ.mv rfl rfl ?_);refine EQ.val (fun _ hw => (QA8 (by show some (Value.slice Ap _ _) = _; rw [ep4_]) rfl hlt)) rfl ?_
         refine EQ.val (fun _ hw => (QAW rfl)) rfl ?_
         refine EQ.val (fun _ hw => (ld_4 rfl (ZB hw d0))) rfl ?_
         refine EQ.mv rfl rfl (EQ.mv rfl rfl ?_);refine EQ.val (fun _ hw => (QAI rfl rfl (c := 2 * (p : Int)) (IntWalk.i64_in (2 * (p : Int)) ⟨by omega, by omega⟩))) rfl ?_
         refine EQ.val (fun _ hw => (Zv rfl rfl (c := d.s.mv - (ZW S u).mv - 2 * (p : Int)) (IntWalk.i64_in (d.s.mv - (ZW S u).mv - 2 * (p : Int)) ⟨by omega, by omega⟩))) rfl ?_
         refine EQ.val (fun _ hw => (ZP rfl rfl (c := d.s.mv - (ZW S u).mv - 2 * (p : Int) + 1) (IntWalk.i64_in (d.s.mv - (ZW S u).mv - 2 * (p : Int) + 1) ⟨by omega, by omega⟩))) rfl ?_
         refine EQ.val (fun _ hw => (ZT rfl)) rfl ?_
         refine EQ.val (fun _ hw => (ZT rfl)) rfl ?_
         refine EQ.val (fun _ hw => (ZT rfl)) rfl ?_
         refine EQ.fin (fun w12 hw_ => ?_)
         replace q3 := q3.bl hw_;replace qa7_7 := qa7_7.bl hw_;replace q8 := q8.bl hw_;replace hpl := ZD hpl hw_ (Nat.le_refl _);replace hrn := ZD hrn hw_ (Nat.le_refl _);replace hgq := QAd hgq hw_;replace hbw := bo_ hbw hw_;clear hw_;refine EX.blk (EX.seq (EC.region (EL.mv rfl rfl ?_)));refine EL.val (ZP rfl rfl (c := ((k + 1 : Nat) : Int)) ((IntWalk.i64_in _ ⟨by first | omega | (simp only; omega), by first | omega | (simp only; omega)⟩).trans (by first | omega | (simp only; omega)))) rfl ?_
         refine EL.as rfl rfl (EL.nil ?_);refine EX.roundD ⟨k + 1, (sel u (Z0 Ad cd tw.length) Ad), (sel u (nd - tw.length) nd), (sel u (cd - tw.length) cd), (sel u Au (Z0 Au cu tw.length)), (sel u nu (nu - tw.length)), (sel u cu (cu - tw.length))⟩ ⟨rfl, YH (by rw [hsuc, ho.mv]; omega) rfl, YH (by rw [hsuc]; rfl) rfl, QL_ (by rw [hsuc, ho.hi]) rfl, YH (by rw [hsuc, ho.cost]) rfl, trivial⟩ (by repeat first | with_reducible exact .refl _ | refine sp_ rfl ?_ | exact .refl _ | refine sd_ rfl ?_ | refine sn_ ?_) ⟨hlt, by rw [hsuc]; exact QMw hwp hnd htn, by rw [hsuc]; exact QMu hwp hnd hd2 htn, by rw [hsuc]; exact QMv hwp hnu htn, by rw [hsuc]; exact QMt hwp hnu hu2 htn, hpl, hrn, q3, qa7_7, hgq, hbw⟩ (by show d.plan.length - (k + 1) < d.plan.length - k; omega)
   ·
    obtain rfl : k = d.plan.length := by omega
    have hfc : (sAt l (qL ts) d.plan d.plan.length) = d.s := hpk.end_;rw [hfc];refine EC.seq (EC.seq (EC.region (EL.mv rfl rfl (EL.mv rfl rfl (EL.val (QA6 rfl) rfl ?_)))));refine EL.val (ZQ rfl rfl (decide_eq_false (show ¬(((d.plan.length : Nat) : Int) < ((d.plan.length : Nat) : Int)) by omega))) rfl ?_
    refine EL.nil (EX.seq (EC.no rfl (EC.exit (EX.seq_exit (EX.seq_exit (EX.blk_here (EX.seq (EC.seq (EC.region ?_)))))))));refine EL.mv rfl rfl (EL.mv rfl rfl (EL.val (YF (r := true) rfl rfl (decide_eq_true rfl)) rfl (EL.mv rfl rfl (EL.mg rfl rfl rfl rfl ?_))));refine EL.valg rfl rfl (YF (r := true) rfl rfl (decide_eq_true (by omega))) rfl ?_
    refine EL.pt rfl rfl rfl (EL.mv rfl rfl (EL.callg rfl rfl (cA0 cF12) rfl (QI8 _) ?_))
    rintro e w13 ⟨rfl, hc13⟩
    refine ⟨_, rfl, ?_⟩;replace q3 := q3.bl hc13;replace qa7_7 := qa7_7.bl hc13;replace hpl := ZD hpl hc13 (Nat.le_refl _);replace hrn := ZD hrn hc13 (Nat.le_refl _);replace hgq := QAd hgq hc13;replace hbw := bo_ hbw hc13;clear hc13;refine EL.pt rfl rfl rfl (EL.as rfl rfl (EL.nil (EX.seq (EC.ret ?_))))
    exact EX.done (res1 rfl rfl) ⟨rfl, hbw⟩
end Go.Proofs.Ytlbfnimilcnihaa
