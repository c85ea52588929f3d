/- ExX33, X33, ExX34, X34, LkWater, ExX35, X35, LkTry, LkFound, LkAll, ExX37, X37: what LockNoOtherProof needs of them (merged by trimpack.py). -/
import Derived.Test.YtlbfnimilcnihaaNoOtherT5
set_option linter.unusedVariables false
set_option linter.unusedSimpArgs false
namespace Go.Proofs.Ytlbfnimilcnihaa
open Go Go.RowKit
section
variable {n : Nat} {σ : Sg} {w : World} {dst : Option Tmp} {ty : TypeId} {pos : String} {af : Array Edge} {g : Option (Nat × Bool)} {x y z : Operand} {at' : Array TypeId}
theorem QAM {m : Int} (hx : evS σ x = some (.int .u8 m)) (hm : IntKind.i64.wrap m = m) : ZJ Try.prog n σ w ⟨dst, .convert 5 3 x, ty, pos, af, g⟩ (.int .i64 m) := fun a ha => by
 simp only [execOp, ha.eval hx]
 simp [go_sem, hm]
theorem QIf {v0 v1 v2 v3 v4 v5 v6 v7 : Value} (hx : evS σ x = some (.agg #[v0, v1, v2, v3, v4, v5, v6, v7])) (a : Act) (ha : Env n σ a) : (execOp a.eval ⟨dst, .box 82 x, ty, pos, af, g⟩).run Try.prog w = .ok (.value (.pointer (some ⟨w.heap.size, 0, none⟩))) (w.alloc (.cells #[v0, v1, v2, v3, v4, v5, v6, v7] 82)) := by
 simp only [execOp, ha.eval hx]
 simp [go_sem]
theorem QCs {b o : Nat} (hx : evS σ x = some (.pointer (some ⟨b, o, none⟩))) : ZJ Try.prog n σ w ⟨dst, .fieldAddr 82 x 0, ty, pos, af, g⟩ (.pointer (some ⟨b, o, none⟩)) := fun a ha => by
 simp only [execOp, ha.eval hx]
 simp [go_sem]
theorem Y7 {b o k : Nat} (hx : evS σ x = some (.pointer (some ⟨b, o, none⟩))) (hy : evS σ y = some (.int .i64 (k : Int))) (hk : k < 5) : ZJ Try.prog n σ w ⟨dst, .indexAddr 78 x y, ty, pos, af, g⟩ (.pointer (some ⟨b, o + k, none⟩)) := fun a ha => by
 have k0 : (0 : Int) ≤ (k : Int) := Int.natCast_nonneg _;have k1 : (k : Int) < 5 := by omega
 simp only [execOp, ha.eval hx, ha.eval hy]
 simp [go_sem, k0, k1]
theorem ld_5 {b o : Nat} {v0 : Value} (hx : evS σ x = some (.pointer (some ⟨b, o, none⟩))) (c0 : w.cell? ⟨b, o, none⟩ = some v0) : ZJ Try.prog n σ w ⟨dst, .load 5 x, ty, pos, af, g⟩ (v0) := fun a ha => by
 simp only [execOp, ha.eval hx]
 simp [go_sem, c0]
theorem QLt {b o : Nat} (hx : evS σ x = some (.pointer (some ⟨b, o, none⟩))) : ZJ Try.prog n σ w ⟨dst, .fieldAddr 82 x 1, ty, pos, af, g⟩ (.pointer (some ⟨b, o + 5, none⟩)) := fun a ha => by
 simp only [execOp, ha.eval hx]
 simp [go_sem]
theorem QC2 {x0 x1 x2 x3 x4 x5 : Operand} {z0 : Int} {z1 : Int} {z2 : Int} {z3 : Int} {z4 : Int} {b5 : Bool} (h0 : evS σ x0 = some (.int .i64 z0)) (h1 : evS σ x1 = some (.int .i64 z1)) (h2 : evS σ x2 = some (.int .i64 z2)) (h3 : evS σ x3 = some (.int .i64 z3)) (h4 : evS σ x4 = some (.int .i64 z4)) (h5 : evS σ x5 = some (.bool b5)) : ZJ Try.prog n σ w ⟨dst, .build 23 #[(0, x0), (1, x1), (2, x2), (3, x3), (4, x4), (5, x5)], ty, pos, af, g⟩ (.agg #[.int .i64 z0, .int .i64 z1, .int .i64 z2, .int .i64 z3, .int .i64 z4, .bool b5]) := fun a ha => by
 simp only [execOp, List.map_toArray, List.map_cons, List.map_nil, ha.eval h0, ha.eval h1, ha.eval h2, ha.eval h3, ha.eval h4, ha.eval h5]
 go_simp
theorem QIJ {b o : Nat} {v0 v1 v2 v3 v4 v5 v6 v7 : Value} (hx : evS σ x = some (.pointer (some ⟨b, o, none⟩))) (c0 : w.cell? ⟨b, o, none⟩ = some v0) (c1 : w.cell? ⟨b, o + 1, none⟩ = some v1) (c2 : w.cell? ⟨b, o + 2, none⟩ = some v2) (c3 : w.cell? ⟨b, o + 3, none⟩ = some v3) (c4 : w.cell? ⟨b, o + 4, none⟩ = some v4) (c5 : w.cell? ⟨b, o + 5, none⟩ = some v5) (c6 : w.cell? ⟨b, o + 6, none⟩ = some v6) (c7 : w.cell? ⟨b, o + 7, none⟩ = some v7) : ZJ Try.prog n σ w ⟨dst, .load 82 x, ty, pos, af, g⟩ (.agg #[v0, v1, v2, v3, v4, v5, v6, v7]) := fun a ha => by
 simp only [execOp, ha.eval hx]
 simp [go_sem, c0, c1, c2, c3, c4, c5, c6, c7]
theorem cF31 : cF 31 := fun _ _ => by simp [go_sem]
theorem QNc {b o m c k : Nat} (hx : evS σ x = some (.slice (some ⟨b, o, none⟩) m c)) (hy : evS σ y = some (.int .i64 (k : Int))) (hk : k < m) : ZJ Try.prog n σ w ⟨dst, .indexAddr 79 x y, ty, pos, af, g⟩ (.pointer (some ⟨b, o + k * 5, none⟩)) := fun a ha => by
 have k0 : (0 : Int) ≤ (k : Int) := Int.natCast_nonneg _;have k1 : (k : Int) < (m : Int) := by omega
 simp only [execOp, ha.eval hx, ha.eval hy]
 simp [go_sem, k0, k1]
theorem QKF {p q r : Int} (hx : evS σ x = some (.int .i64 p)) (hy : evS σ y = some (.int .i64 q)) (hr : min p q = r) : ZJ Try.prog n σ w ⟨dst, .call { callee := .builtin .min, args := #[x, y], argTypes := at' }, ty, pos, af, g⟩ (.int .i64 r) := fun a ha => by
 simp only [execOp, resolve, List.map_toArray, List.map_cons, List.map_nil, ha.eval hx, ha.eval hy]
 subst hr
 simp [go_sem, Int.min_def]
 split <;> split <;> omega
theorem QDk {b o : Nat} (hx : evS σ x = some (.pointer (some ⟨b, o, none⟩))) : ZJ Try.prog n σ w ⟨dst, .fieldAddr 82 x 2, ty, pos, af, g⟩ (.pointer (some ⟨b, o + 6, none⟩)) := fun a ha => by
 simp only [execOp, ha.eval hx]
 simp [go_sem]
theorem QIL {b o : Nat} {v0 : Value} (hx : evS σ x = some (.pointer (some ⟨b, o, none⟩))) (c0 : w.cell? ⟨b, o, none⟩ = some v0) : ZJ Try.prog n σ w ⟨dst, .load 79 x, ty, pos, af, g⟩ (v0) := fun a ha => by
 simp only [execOp, ha.eval hx]
 simp [go_sem, c0]
theorem QKK {A : Option Addr} {m c : Nat} (hx : evS σ x = some (.slice A m c)) : ZJ Try.prog n σ w ⟨dst, .call { callee := .builtin .len, args := #[x], argTypes := #[79] }, ty, pos, af, g⟩ (.int .i64 (m : Int)) := fun a ha => by
 simp only [execOp, resolve, List.map_toArray, List.map_cons, List.map_nil, ha.eval hx]
 simp [go_sem]
theorem QNZ {b o : Nat} {v0 v1 v2 v3 v4 : Value} (hx : evS σ x = some (.pointer (some ⟨b, o, none⟩))) (c0 : w.cell? ⟨b, o, none⟩ = some v0) (c1 : w.cell? ⟨b, o + 1, none⟩ = some v1) (c2 : w.cell? ⟨b, o + 2, none⟩ = some v2) (c3 : w.cell? ⟨b, o + 3, none⟩ = some v3) (c4 : w.cell? ⟨b, o + 4, none⟩ = some v4) : ZJ Try.prog n σ w ⟨dst, .load 78 x, ty, pos, af, g⟩ (.agg #[v0, v1, v2, v3, v4]) := fun a ha => by
 simp only [execOp, ha.eval hx]
 simp [go_sem, c0, c1, c2, c3, c4]
theorem QNn (a : Act) (_ : Env n σ a) : (execOp a.eval ⟨dst, .alloc 78, ty, pos, af, g⟩).run Try.prog w = .ok (.value (.pointer (some ⟨w.heap.size, 0, none⟩))) (w.alloc (.cells #[.int .u8 0, .int .u8 0, .int .u8 0, .int .u8 0, .int .u8 0] 78)) := by
 simp only [execOp]
 simp [go_sem]
theorem QNP : (Try.prog.info? 78).map (·.size) = some 5 := by kernel_rfl
theorem QDV {x0 x1 x2 x3 x4 : Operand} {b0 : Bool} {z1 : Int} {z2 : Int} {z3 : Int} {z4 : Int} (h0 : evS σ x0 = some (.bool b0)) (h1 : evS σ x1 = some (.int .i64 z1)) (h2 : evS σ x2 = some (.int .i64 z2)) (h3 : evS σ x3 = some (.int .i64 z3)) (h4 : evS σ x4 = some (.int .i64 z4)) : ZJ Try.prog n σ w ⟨dst, .build 39 #[(0, x0), (1, x1), (2, x2), (3, x3), (4, x4)], ty, pos, af, g⟩ (.agg #[.bool b0, .int .i64 z1, .int .i64 z2, .int .i64 z3, .int .i64 z4]) := fun a ha => by
 simp only [execOp, List.map_toArray, List.map_cons, List.map_nil, ha.eval h0, ha.eval h1, ha.eval h2, ha.eval h3, ha.eval h4]
 go_simp
end
theorem QE_ {x : Sml} (hx : SmlOk x) {At As : Option Addr} {ct cs : Nat} (w : World) : Calls Try.prog 31 #[.agg #[.int .u8 x.a0, .int .u8 x.a1, .int .u8 x.a2, .int .u8 x.a3, .int .u8 x.a4, .bool x.hi, .slice At x.tows.length ct, .slice As x.steps.length cs]] w fun e w' => e = .returned (.agg #[.int .i64 (Zp x).length, .int .i64 (Zp x).cycle, .int .i64 (Zp x).turn, .int .i64 (Zp x).fill, .int .i64 (Zp x).save, .bool (Zp x).high]) ∧ Below w.heap.size w w' := by
 have hbw := Below.refl w.heap.size w;have e0 := Yv hx.a0 (n := 100) (by decide)
 have e1 := Yv hx.a1 (n := 60) (by decide)
 have e3 := hx.a3
 unfold byte at e3
 refine EC.enter 33 Try.func31 rfl rfl rfl (EC.seq (EC.region (EL.newP (QIf rfl) rfl ?_)));intro g1 w1 q1 hb1 hg1 hl1;have bhbw_1 := Nat.le_trans hbw.size hg1;replace hbw := bo_ hbw hb1;clear hb1 hg1 hl1;refine EL.newP QIr rfl ?_;intro g2 w2 q2 hb2 hg2 hl2;have n1_2 := q1.na hg2;have bhbw_2 := Nat.le_trans hbw.size hg2;replace q1 := q1.bl hb2;replace hbw := bo_ hbw hb2;clear hb2 hg2 hl2;refine EL.nil (EX.seq (EC.seq (EC.region (EL.val (QCs rfl) rfl ?_))));refine EL.val (Y7 (k := 0) rfl rfl (by omega)) rfl ?_
 refine EL.val (ld_5 rfl (q1.at (j := 0) rfl)) rfl (EL.val (QAM rfl (YE hx.a0)) rfl ?_);refine EL.val (QBQ rfl rfl (by decide) rfl) rfl ?_
 refine EL.val (ZR rfl rfl (c := 40 + x.a0.tmod 100) (IntWalk.i64_in (40 + x.a0.tmod 100) ⟨by omega, by omega⟩)) rfl ?_
 refine EL.val (QCs rfl) rfl ?_;refine EL.val (Y7 (k := 1) rfl rfl (by omega)) rfl ?_
 refine EL.val (ld_5 rfl (q1.at (j := 1) rfl)) rfl (EL.val (QAM rfl (YE hx.a1)) rfl ?_);refine EL.val (QBQ rfl rfl (by decide) rfl) rfl ?_
 refine EL.val (ZR rfl rfl (c := 1 + x.a1.tmod 60) (IntWalk.i64_in (1 + x.a1.tmod 60) ⟨by omega, by omega⟩)) rfl ?_
 refine EL.val (QCs rfl) rfl ?_;refine EL.val (Y7 (k := 2) rfl rfl (by omega)) rfl ?_
 refine EL.val (ld_5 rfl (q1.at (j := 2) rfl)) rfl (EL.val (QAM rfl (YE hx.a2)) rfl ?_);refine EL.val (QBQ rfl rfl (by decide) rfl) rfl ?_
 refine EL.val (QCs rfl) rfl ?_;refine EL.val (Y7 (k := 3) rfl rfl (by omega)) rfl ?_
 refine EL.val (ld_5 rfl (q1.at (j := 3) rfl)) rfl (EL.val (QAM rfl (YE hx.a3)) rfl ?_);refine EL.val (QAu rfl rfl (c := 10 * x.a3) (IntWalk.i64_in (10 * x.a3) ⟨by omega, by omega⟩)) rfl ?_
 refine EL.val (QCs rfl) rfl ?_;refine EL.val (Y7 (k := 4) rfl rfl (by omega)) rfl ?_
 refine EL.val (ld_5 rfl (q1.at (j := 4) rfl)) rfl (EL.val (QAM rfl (YE hx.a4)) rfl ?_);refine EL.val (QBQ rfl rfl (by decide) rfl) rfl ?_
 refine EL.val (QLt rfl) rfl (EL.val (ld_4 rfl (q1.at (j := 5) rfl)) rfl (EL.val (QC2 rfl rfl rfl rfl rfl rfl) rfl (EL.store rfl rfl q2 QE6 rfl rfl rfl rfl ?_)));intro w3 hq3 hg3;replace q1 := q1.gr hg3 n1_2;replace hbw := ZE hbw hg3 bhbw_2;replace q2 := hq3;clear hg3 hq3;refine EL.nil (EX.seq (EC.ret ?_))
 exact EX.done (QFC rfl rfl (QMT (q2.at (j := 0) rfl) (q2.at (j := 1) rfl) (q2.at (j := 2) rfl) (q2.at (j := 3) rfl) (q2.at (j := 4) rfl) (q2.at (j := 5) rfl))) ⟨rfl, hbw⟩
set_option maxRecDepth 100000 in
theorem QIy {x : Sml} (hx : SmlOk x) {At As : Option Addr} {ct cs : Nat} {w : World} {B : Nat} (hr : Rd w B 5 (.slice At x.tows.length ct) x.tows.length (e5s x.tows)) (hB : B ≤ w.heap.size) {m : Nat} (hm : m ≤ 1000) :
  Calls Try.prog 32 #[.agg #[.int .u8 x.a0, .int .u8 x.a1, .int .u8 x.a2, .int .u8 x.a3, .int .u8 x.a4, .bool x.hi, .slice At x.tows.length ct, .slice As x.steps.length cs], .int .i64 (m : Nat)] w fun e w' => (∃ v', e = .returned v' ∧ w'.ownsRow w.heap.size 39 5 v' (QAx x m).length (twsC (QAx x m))) ∧ Below w.heap.size w w' := by
 have hbw := Below.refl w.heap.size w;refine EC.enter 69 Try.func32 rfl rfl rfl (EC.seq (EC.region (EL.newP (QIf rfl) rfl ?_)));intro g1 w1 q1 hb1 hg1 hl1;have bhbw_1 := Nat.le_trans hbw.size hg1;have hbg1 : w.heap.size ≤ g1 := Nat.le_trans hbw.size hg1;replace hbw := bo_ hbw hb1;clear hb1 hg1 hl1;refine EL.as rfl rfl (EL.nil (EX.seq (EC.seq (EC.region (EL.newS (QGG) rfl ?_)))));intro g2 w2 q2 hb2 hg2 hl2;have n1_2 := q1.na hg2;have bhbw_2 := Nat.le_trans hbw.size hg2;have hbg2 : w.heap.size ≤ g2 := Nat.le_trans hbw.size hg2;replace q1 := q1.bl hb2;replace hbw := bo_ hbw hb2;clear hb2 hg2 hl2;have hO : w2.ownsRow w.heap.size 39 5 (.slice (some ⟨g2, 0, none⟩) 0 0) 0 [] := QB0 5 q2 hbg2;refine EL.val (QIJ rfl (q1.at (j := 0) rfl) (q1.at (j := 1) rfl) (q1.at (j := 2) rfl) (q1.at (j := 3) rfl) (q1.at (j := 4) rfl) (q1.at (j := 5) rfl) (q1.at (j := 6) rfl) (q1.at (j := 7) rfl)) rfl (EL.call (cA1 cF31 rfl) rfl (QE_ hx _) ?_)
 rintro e w3 ⟨rfl, hc3⟩
 refine ⟨_, rfl, ?_⟩;replace q1 := q1.bl hc3;replace hO := ZB hO hc3 (Nat.le_refl _);replace hbw := bo_ hbw hc3;clear hc3;refine EL.newP QIr rfl ?_;intro g4 w4 q4 hb4 hg4 hl4;have n1_4 := q1.na hg4;have bhbw_4 := Nat.le_trans hbw.size hg4;have hbg4 : w.heap.size ≤ g4 := Nat.le_trans hbw.size hg4;replace q1 := q1.bl hb4;replace hO := ZB hO hb4 (Nat.le_refl _);replace hbw := bo_ hbw hb4;clear hb4 hg4 hl4;refine EL.as rfl rfl (EL.store rfl rfl q4 QE6 rfl rfl rfl rfl ?_);intro w5 hq5 hg5;replace q1 := q1.gr hg5 n1_4;replace hO := ZL hO q4 rfl hg5;replace hbw := ZE hbw hg5 bhbw_4;replace q4 := hq5;clear hg5 hq5;refine EL.nil (EX.seq (EC.seq (EC.seq (EC.region (EL.as rfl rfl (EL.nil (EX.seq (EC.block ?_))))))));refine EC.loopD [5, 7, 8, 9, 13, 14, 15, 16, 17, 18, 19, 20, 21, 22, 23, 24, 25, 26, 27, 28, 29, 30, 31, 32, 33, 34, 35, 36, 37, 38, 39, 40, 41, 42, 43, 44, 45, 46, 47, 48, 49, 50, 51, 52, 53, 54, 55, 56, 57, 58, 59, 60, 61, 62, 63, 64, 65, 66, 67] (fun y : Nat × Value => [(7, .int .i64 (y.1 : Nat)), (5, y.2)]) (fun y W => (y.1 ≤ x.tows.length ∧ y.1 ≤ m) ∧ W.ownsRow w.heap.size 39 5 y.2 y.1 (twsC ((x.tows.take y.1).map (towS (Zp x).length))) ∧ Below w.heap.size w W ∧ Blk W g1 82 #[.int .u8 x.a0, .int .u8 x.a1, .int .u8 x.a2, .int .u8 x.a3, .int .u8 x.a4, .bool x.hi, .slice At x.tows.length ct, .slice As x.steps.length cs] ∧ Blk W g4 23 #[.int .i64 (Zp x).length, .int .i64 (Zp x).cycle, .int .i64 (Zp x).turn, .int .i64 (Zp x).fill, .int .i64 (Zp x).save, .bool (Zp x).high]) (fun y => x.tows.length - y.1) (0, .slice (some ⟨g2, 0, none⟩) 0 0) ⟨⟨Nat.zero_le _, Nat.zero_le _⟩, hO, hbw, q1, q4⟩ ⟨rfl, rfl, trivial⟩ ?_
 clear hbw hO q1 q4
 rintro ⟨i, v3⟩ wx ⟨⟨hi, hi2⟩, hO, hbw, q1, q4⟩
 dsimp only at hi hi2 hO
 by_cases hlt : i < x.tows.length
 ·
  by_cases hlm : i < m
  ·
   obtain ⟨bx, ox, ebx, _, c0, c1, c2, c3, c4⟩ := QJL x.tows i hlt wx B _ _ _ (hr.below (hbw.mono hB));have hv := hx.t _ (Zv hlt z5);have hsu := QEr (towS (Zp x).length) x.tows z5 hlt
   generalize x.tows.getD i z5 = v at *
   obtain ⟨p0, p1, p2, p3, p4⟩ := hv;have hlb := QGr hx;have r2 := Yv p2 (n := (Zp x).length) (by omega)
   have hbl := QGp (L := (Zp x).length) (v := v) (by omega) p2
   have p2b : 0 ≤ v.2.2.1 ∧ v.2.2.1 ≤ 255 := p2;refine EC.seq (EC.seq (EC.region (EL.mv rfl rfl (EL.val (QDk rfl) rfl (EL.val (QIL rfl (q1.at (j := 6) rfl)) rfl (EL.val (QKK rfl) rfl ?_))))));refine EL.val (ZT rfl rfl (decide_eq_true (show (((i : Nat) : Int) < ((x.tows.length : Nat) : Int)) by omega))) rfl ?_
   refine EL.mv rfl rfl (EL.mg rfl rfl rfl rfl (EL.mg rfl rfl rfl rfl ?_));refine EL.valg rfl rfl (ZT rfl rfl (decide_eq_true (show (((i : Nat) : Int) < ((m : Nat) : Int)) by omega))) rfl ?_
   refine EL.pt rfl rfl rfl (EL.nil (EX.seq (EC.yes rfl (EC.skip (EX.seq (EC.seq (EC.block (EC.seq (EC.region ?_)))))))));refine EL.val (QDk rfl) rfl (EL.val (QIL rfl (q1.at (j := 6) rfl)) rfl (EL.mv rfl rfl ?_));refine EL.val (QNc (by show some (Value.slice At _ _) = _; rw [ebx]) rfl hlt) rfl ?_
   refine EL.val (QNZ rfl c0 c1 c2 c3 c4) rfl (EL.newP QNn rfl ?_);intro g6 w6 q6 hb6 hg6 hl6;have n1_6 := q1.na hg6;have n4_6 := q4.na hg6;have bhbw_6 := Nat.le_trans hbw.size hg6;have hbg6 : w.heap.size ≤ g6 := Nat.le_trans hbw.size hg6;replace q1 := q1.bl hb6;replace q4 := q4.bl hb6;replace hO := ZB hO hb6 (Nat.le_refl _);replace hbw := bo_ hbw hb6;clear hb6 hg6 hl6;refine EL.store rfl rfl q6 QNP rfl rfl rfl rfl ?_;intro w7 hq7 hg7;replace q1 := q1.gr hg7 n1_6;replace q4 := q4.gr hg7 n4_6;replace hO := ZL hO q6 rfl hg7;replace hbw := ZE hbw hg7 bhbw_6;replace q6 := hq7;clear hg7 hq7;refine EL.nil (EX.seq (EC.seq (EC.region ?_)));refine EL.val (Y7 (k := 2) rfl rfl (by omega)) rfl ?_
   refine EL.val (ld_5 rfl (q6.at (j := 2) rfl)) rfl (EL.val (QAM rfl (YE p2)) rfl (EL.val (Y_ rfl) rfl (EL.val (ld_3 rfl (q4.at (j := 0) rfl)) rfl ?_)));refine EL.val (QBQ rfl rfl (by omega) rfl) rfl ?_
   refine EL.val (ZR rfl rfl (c := 1 + v.2.2.1.tmod (Zp x).length) (IntWalk.i64_in (1 + v.2.2.1.tmod (Zp x).length) ⟨by omega, by omega⟩)) rfl ?_
   refine EL.as rfl rfl (EL.nil (EX.seq ?_));refine EC.cutD [9, 37, 38, 39, 40, 41, 42, 43, 44] (fun _ : Unit => [(9, .int .i64 (QEJ (Zp x).length v))]) (fun _ W => W.ownsRow w.heap.size 39 5 v3 i (twsC ((x.tows.take i).map (towS (Zp x).length))) ∧ Below w.heap.size w W ∧ Blk W g1 82 #[.int .u8 x.a0, .int .u8 x.a1, .int .u8 x.a2, .int .u8 x.a3, .int .u8 x.a4, .bool x.hi, .slice At x.tows.length ct, .slice As x.steps.length cs] ∧ Blk W g4 23 #[.int .i64 (Zp x).length, .int .i64 (Zp x).cycle, .int .i64 (Zp x).turn, .int .i64 (Zp x).fill, .int .i64 (Zp x).save, .bool (Zp x).high] ∧ Blk W g6 78 #[.int .u8 v.1, .int .u8 v.2.1, .int .u8 v.2.2.1, .int .u8 v.2.2.2.1, .int .u8 v.2.2.2.2]) ?_ ?_
   ·
    by_cases h7 : v.1.tmod 8 = 7
    ·
     refine EC.seq (EC.region ?_);refine EL.val (Y7 (k := 0) rfl rfl (by omega)) rfl ?_
     refine EL.val (ld_5 rfl (q6.at (j := 0) rfl)) rfl ?_;refine EL.val (QBQ rfl rfl (by decide) rfl) rfl ?_
     refine EL.val (Z4 (r := true) rfl rfl (decide_eq_true h7)) rfl (EL.nil (EX.seq (EC.yes rfl (EC.region ?_))));refine EL.val (Y7 (k := 2) rfl rfl (by omega)) rfl ?_
     refine EL.val (ld_5 rfl (q6.at (j := 2) rfl)) rfl (EL.val (QAM rfl (YE p2)) rfl ?_);refine EL.val (ZR rfl rfl (c := 1 + v.2.2.1) (IntWalk.i64_in (1 + v.2.2.1) ⟨by omega, by omega⟩)) rfl ?_
     refine EL.as rfl rfl (EL.nil ?_)
     exact EX.cutE () ⟨QCA (by unfold QEJ; rw [if_pos h7]) rfl, trivial⟩ (by repeat first | with_reducible exact (Sub.refl _).del _ | refine sp_ rfl ?_ | exact (Sub.refl _).del _ | refine sd_ rfl ?_ | refine sn_ ?_) ⟨hO, hbw, q1, q4, q6⟩
    ·
     refine EC.seq (EC.region ?_);refine EL.val (Y7 (k := 0) rfl rfl (by omega)) rfl ?_
     refine EL.val (ld_5 rfl (q6.at (j := 0) rfl)) rfl ?_;refine EL.val (QBQ rfl rfl (by decide) rfl) rfl ?_
     refine EL.val (Z4 (r := false) rfl rfl (decide_eq_false h7)) rfl (EL.nil (EX.seq (EC.no rfl (EC.skip ?_))))
     exact EX.cutE () ⟨QCA (by unfold QEJ; rw [if_neg h7]) rfl, trivial⟩ (by repeat first | with_reducible exact (Sub.refl _).del _ | refine sp_ rfl ?_ | exact (Sub.refl _).del _ | refine sd_ rfl ?_ | refine sn_ ?_) ⟨hO, hbw, q1, q4, q6⟩
   ·
    clear hO hbw q1 q4 q6
    rintro ⟨⟩ w7 ⟨hO, hbw, q1, q4, q6⟩
    refine EC.region (EL.mv rfl rfl ?_);refine EL.val (Y7 (k := 0) rfl rfl (by omega)) rfl ?_
    refine EL.val (ld_5 rfl (q6.at (j := 0) rfl)) rfl ?_;refine EL.val (QBQ rfl rfl (by decide) rfl) rfl ?_
    refine EL.val (Z4 (r := decide (v.1.tmod 2 = 1)) rfl rfl rfl) rfl ?_;refine EL.val (Y7 (k := 1) rfl rfl (by omega)) rfl ?_
    refine EL.val (ld_5 rfl (q6.at (j := 1) rfl)) rfl (EL.val (QAM rfl (YE p1)) rfl (EL.mv rfl rfl (EL.val (Y_ rfl) rfl (EL.val (ld_3 rfl (q4.at (j := 0) rfl)) rfl ?_))));refine EL.val (QAu rfl rfl (c := 3 * (Zp x).length) (IntWalk.i64_in (3 * (Zp x).length) ⟨by omega, by omega⟩)) rfl ?_
    refine EL.val (QKF rfl rfl rfl) rfl ?_;refine EL.val (Y7 (k := 3) rfl rfl (by omega)) rfl ?_
    refine EL.val (ld_5 rfl (q6.at (j := 3) rfl)) rfl (EL.val (QAM rfl (YE p3)) rfl ?_);refine EL.val (QBQ rfl rfl (by decide) rfl) rfl ?_
    refine EL.val (Y7 (k := 4) rfl rfl (by omega)) rfl ?_
    refine EL.val (ld_5 rfl (q6.at (j := 4) rfl)) rfl (EL.val (QAM rfl (YE p4)) rfl (EL.val (QDV rfl rfl rfl rfl rfl) rfl (EL.newS (QDq rfl) rfl ?_)));intro g8 w8 q8 hb8 hg8 hl8;have n1_8 := q1.na hg8;have n4_8 := q4.na hg8;have n6_8 := q6.na hg8;have bhbw_8 := Nat.le_trans hbw.size hg8;have hbg8 : w.heap.size ≤ g8 := Nat.le_trans hbw.size hg8;replace q1 := q1.bl hb8;replace q4 := q4.bl hb8;replace q6 := q6.bl hb8;replace hO := ZB hO hb8 (Nat.le_refl _);replace hbw := bo_ hbw hb8;clear hb8 hg8 hl8;refine EL.push QBY rfl rfl hO (QAK (l := twC (towS (Zp x).length v)) q8 rfl) (twsC_one [towS (Zp x).length v]) (by omega) rfl hbw.size rfl ?_
    intro v9 w9 ho9 hgr hb_ hat;replace hbw := hbw.trans hb_;replace q1 := ZO q1 hO rfl hgr;replace q4 := ZO q4 hO rfl hgr;clear hO hgr hb_ hat;refine EL.as rfl rfl (EL.nil (EX.blk (EX.seq (EC.region (EL.mv rfl rfl ?_)))));refine EL.val (ZR rfl rfl (c := ((i + 1 : Nat) : Int)) ((IntWalk.i64_in _ ⟨by first | omega | (simp only; omega), by first | omega | (simp only; omega)⟩).trans (by first | omega | (simp only; omega)))) rfl ?_
    refine EL.as rfl rfl (EL.nil ?_);refine EX.roundD (i + 1, v9) ⟨rfl, rfl, trivial⟩ (by repeat first | with_reducible exact .refl _ | refine sp_ rfl ?_ | exact .refl _ | refine sd_ rfl ?_ | refine sn_ ?_) ⟨⟨hlt, hlm⟩, by simp only; rw [hsu, QCW]; exact ho9, hbw, q1, q4⟩ (by simp only; omega)
  ·
   have hxe : i = min x.tows.length m := by omega
   refine EC.seq (EC.seq (EC.region (EL.mv rfl rfl (EL.val (QDk rfl) rfl (EL.val (QIL rfl (q1.at (j := 6) rfl)) rfl (EL.val (QKK rfl) rfl ?_))))));refine EL.val (ZT rfl rfl (decide_eq_true (show (((i : Nat) : Int) < ((x.tows.length : Nat) : Int)) by omega))) rfl ?_
   refine EL.mv rfl rfl (EL.mg rfl rfl rfl rfl (EL.mg rfl rfl rfl rfl ?_));refine EL.valg rfl rfl (ZT rfl rfl (decide_eq_false (show ¬(((i : Nat) : Int) < ((m : Nat) : Int)) by omega))) rfl ?_
   refine EL.pt rfl rfl rfl (EL.nil (EX.seq (EC.no rfl (EC.exit (EX.seq_exit (EX.seq_exit (EX.blk_here (EX.seq (EC.seq ?_)))))))));refine EC.region (EL.mv rfl rfl (EL.as rfl rfl (EL.nil (EX.seq (EC.ret ?_)))))
   exact EX.done (res1 rfl rfl) ⟨⟨_, rfl, QGP hxe hO⟩, hbw⟩
 ·
  have hxe : i = min x.tows.length m := by omega
  refine EC.seq (EC.seq (EC.region (EL.mv rfl rfl (EL.val (QDk rfl) rfl (EL.val (QIL rfl (q1.at (j := 6) rfl)) rfl (EL.val (QKK rfl) rfl ?_))))));refine EL.val (ZT rfl rfl (decide_eq_false (show ¬(((i : Nat) : Int) < ((x.tows.length : Nat) : Int)) by omega))) rfl ?_
  refine EL.mv rfl rfl (EL.skip rfl rfl rfl rfl (EL.skip rfl rfl rfl rfl (EL.skip rfl rfl rfl rfl (EL.pf rfl rfl rfl (EL.nil (EX.seq (EC.no rfl (EC.exit (EX.seq_exit ?_)))))))));refine EX.seq_exit (EX.blk_here (EX.seq (EC.seq (EC.region (EL.mv rfl rfl (EL.as rfl rfl (EL.nil (EX.seq (EC.ret ?_)))))))))
  exact EX.done (res1 rfl rfl) ⟨⟨_, rfl, QGP hxe hO⟩, hbw⟩
theorem QJ2 (ts : List TW) (u : Bool) (a : Int) : (qA ts u a).length ≤ ts.length := List.length_filter_le _ _
theorem QMv {ts : List TW} {u : Bool} {n : Nat} : (qN ts u n).length ≤ n * ts.length := by
 induction n with
 | zero => simp [QLQ]
 | succ n ih =>
  rw [QAS, List.length_append, Nat.succ_mul];have := QJ2 ts u n
  omega
theorem QLP {ts : List TW} {u : Bool} {a i : Nat} (hn : ts.length ≤ 12) (ha : a ≤ 256) (h : a < 256) (hi : i ≤ ts.length) : (qN ts u a ++ qA (ts.take i) u a).length ≤ 300 * 12 := by
 rw [List.length_append];have h1 := QMv (ts := ts) (u := u) (n := a);have h2 := QJ2 (ts.take i) u a;rw [List.length_take] at h2;have h3 : a * ts.length ≤ 256 * 12 := Nat.mul_le_mul (by omega) hn
 omega
set_option maxRecDepth 100000 in
theorem QEI {ts : List TW} {u : Bool} (harr : ∀ t ∈ ts, 0 ≤ t.arrive ∧ t.arrive < (256 : Nat)) {v : Value} {w : World} {B : Nat} (hr : Rd w B 5 v ts.length (twsC ts)) (hB : B ≤ w.heap.size) (hn : ts.length ≤ 12) :
  Calls Try.prog 34 #[v, .bool u] w fun e w' => (∃ v', e = .returned v' ∧ w'.ownsRow w.heap.size 39 5 v' (qL ts u).length (twsC (qL ts u))) ∧ Below w.heap.size w w' := by
 obtain ⟨At, ct, rfl, _⟩ := hr.shape;have hbw := Below.refl w.heap.size w;refine EC.enter 43 Try.func34 rfl rfl rfl (EC.seq (EC.region (EL.as rfl rfl (EL.nil (EX.seq (EC.seq (EC.region (EL.newS (QGG) rfl ?_))))))));intro g1 w1 q1 hb1 hg1 hl1;have bhbw_1 := Nat.le_trans hbw.size hg1;have hbg1 : w.heap.size ≤ g1 := Nat.le_trans hbw.size hg1;replace hbw := bo_ hbw hb1;clear hb1 hg1 hl1;have hO : w1.ownsRow w.heap.size 39 5 (.slice (some ⟨g1, 0, none⟩) 0 0) 0 [] := QB0 5 q1 hbg1;refine EL.as rfl rfl (EL.nil (EX.seq (EC.seq (EC.seq (EC.region (EL.as rfl rfl (EL.nil (EX.seq (EC.block ?_)))))))));refine EC.loopD [5, 6, 7, 9, 10, 11, 12, 13, 14, 15, 16, 17, 18, 19, 20, 21, 22, 23, 24, 25, 26, 27, 28, 29, 30, 31, 32, 33, 34, 35, 36, 37, 38, 39, 40, 41] (fun y : Nat × Value => [(6, .int .i64 (y.1 : Nat)), (5, y.2)]) (fun y W => y.1 ≤ 256 ∧ W.ownsRow w.heap.size 39 5 y.2 (qN ts u y.1).length (twsC (qN ts u y.1)) ∧ Below w.heap.size w W) (fun y => 256 - y.1) (0, .slice (some ⟨g1, 0, none⟩) 0 0) ⟨Nat.zero_le _, hO, hbw⟩ ⟨rfl, rfl, trivial⟩ ?_
 clear hbw hO
 rintro ⟨a, v3⟩ wx ⟨ha, hO, hbw⟩
 dsimp only at ha hO
 by_cases hlta : a < 256
 ·
  refine EC.seq (EC.seq (EC.region (EL.mv rfl rfl ?_)));refine EL.val (QCT (r := true) rfl rfl (decide_eq_true (by omega))) rfl ?_
  refine EL.nil (EX.seq (EC.yes rfl (EC.skip (EX.seq (EC.seq (EC.block (EC.seq (EC.region (EL.as rfl rfl ?_)))))))));refine EL.nil (EX.seq (EC.block ?_));have hz : qN ts u a ++ qA (ts.take 0) u a = qN ts u a := List.append_nil _;refine EC.loopD [5, 7, 13, 14, 15, 16, 17, 18, 19, 20, 21, 22, 23, 24, 25, 26, 27, 28, 29, 30, 31, 32, 33, 34, 35, 36, 37, 38, 39, 40, 41] (fun y : Nat × Value => [(7, .int .i64 (y.1 : Nat)), (5, y.2)]) (fun y W => y.1 ≤ ts.length ∧ W.ownsRow w.heap.size 39 5 y.2 (qN ts u a ++ qA (ts.take y.1) u a).length (twsC (qN ts u a ++ qA (ts.take y.1) u a)) ∧ Below w.heap.size w W) (fun y => ts.length - y.1) (0, v3) ⟨Nat.zero_le _, by rw [hz]; exact hO, hbw⟩ ⟨rfl, rfl, trivial⟩ ?_
  clear hbw hO
  rintro ⟨i, v4⟩ wy ⟨hi, hO, hbw⟩
  dsimp only at hi hO
  by_cases hlti : i < ts.length
  ·
   obtain ⟨b, o, eA_, _, cc⟩ := YL ts i hlti wy B _ _ _ (hr.below (hbw.mono hB))
   cases eA_
   have hsu := QDe (ts.take i) (ts.getD i tw0) u a;rw [← Z1 (d := tw0) hlti] at hsu;have hlq : (qN ts u a ++ qA (ts.take i) u a).length ≤ 300 * 12 := QLP hn ha hlta (by omega)
   generalize ts.getD i tw0 = y at cc hsu
   refine EC.seq (EC.seq (EC.region (EL.mv rfl rfl (EL.mv rfl rfl (EL.val (YA rfl) rfl ?_)))));refine EL.val (ZT rfl rfl (decide_eq_true (show (((i : Nat) : Int) < ((ts.length : Nat) : Int)) by omega))) rfl ?_
   refine EL.nil (EX.seq (EC.yes rfl (EC.skip (EX.seq (EC.seq (EC.block (EC.seq (EC.region (EL.mv rfl rfl ?_)))))))));refine EL.mv rfl rfl (EL.val (QAH rfl rfl hlti) rfl (EL.val (QIW rfl) rfl (EL.val (ld_4 rfl cc.c0) rfl (EL.mv rfl rfl ?_))))
   by_cases hu : y.up = u
   ·
    refine EL.val (QC7 (r := true) rfl rfl (decide_eq_true hu)) rfl (EL.mv rfl rfl (EL.mg rfl rfl rfl rfl (EL.mg rfl rfl rfl rfl (EL.valg rfl rfl (QAH rfl rfl hlti) rfl (EL.valg rfl rfl (QBM rfl) rfl (EL.valg rfl rfl (ld_3 rfl cc.c1) rfl (EL.mg rfl rfl rfl rfl ?_)))))))
    by_cases hay : y.arrive = (a : Int)
    ·
     rw [if_pos ⟨hu, hay⟩] at hsu;refine EL.valg rfl rfl (Z4 (r := true) rfl rfl (decide_eq_true hay)) rfl (EL.pt rfl rfl rfl (EL.nil (EX.seq (EC.yes rfl (EC.region (EL.mv rfl rfl (EL.mv rfl rfl (EL.mv rfl rfl (EL.val (QAH rfl rfl hlti) rfl ?_)))))))));refine EL.val (QAl rfl cc.c0 cc.c1 cc.c2 cc.c3 cc.c4) rfl (EL.newS (QDq rfl) rfl ?_);intro g2 w2 q2 hb2 hg2 hl2;have bhbw_2 := Nat.le_trans hbw.size hg2;have hbg2 : w.heap.size ≤ g2 := Nat.le_trans hbw.size hg2;replace hO := ZB hO hb2 (Nat.le_refl _);replace hbw := bo_ hbw hb2;clear hb2 hg2 hl2;refine EL.push QBY rfl rfl hO (QAK (l := twC y) q2 rfl) (twsC_one [y]) (by omega) rfl hbw.size rfl ?_
     intro v9 w9 ho9 hgr hb_ hat;replace hbw := hbw.trans hb_;clear hO hgr hb_ hat;refine EL.as rfl rfl (EL.nil (EX.blk (EX.seq (EC.region (EL.mv rfl rfl ?_)))));refine EL.val (ZR rfl rfl (c := ((i + 1 : Nat) : Int)) ((IntWalk.i64_in _ ⟨by first | omega | (simp only; omega), by first | omega | (simp only; omega)⟩).trans (by first | omega | (simp only; omega)))) rfl ?_
     refine EL.as rfl rfl (EL.nil ?_);refine EX.roundD (i + 1, v9) ⟨rfl, rfl, trivial⟩ (by repeat first | with_reducible exact .refl _ | refine sp_ rfl ?_ | exact .refl _ | refine sd_ rfl ?_ | refine sn_ ?_) ⟨hlti, by simp only; rw [hsu, ← List.append_assoc, QCW, List.length_append]; exact ho9, hbw⟩ (by simp only; omega)
    ·
     rw [if_neg (fun h => hay h.2)] at hsu
     refine EL.valg rfl rfl (Z4 (r := false) rfl rfl (decide_eq_false hay)) rfl (EL.pt rfl rfl rfl (EL.nil (EX.seq (EC.no rfl (EC.skip (EX.blk (EX.seq (EC.region (EL.mv rfl rfl ?_)))))))));refine EL.val (ZR rfl rfl (c := ((i + 1 : Nat) : Int)) ((IntWalk.i64_in _ ⟨by first | omega | (simp only; omega), by first | omega | (simp only; omega)⟩).trans (by first | omega | (simp only; omega)))) rfl ?_
     refine EL.as rfl rfl (EL.nil ?_);refine EX.roundD (i + 1, v4) ⟨rfl, rfl, trivial⟩ (by repeat first | with_reducible exact .refl _ | refine sp_ rfl ?_ | exact .refl _ | refine sd_ rfl ?_ | refine sn_ ?_) ⟨hlti, by simp only; rw [hsu, List.append_nil]; exact hO, hbw⟩ (by simp only; omega)
   ·
    rw [if_neg (fun h => hu h.1)] at hsu
    refine EL.val (QC7 (r := false) rfl rfl (decide_eq_false hu)) rfl (EL.mv rfl rfl (EL.skip rfl rfl rfl rfl (EL.skip rfl rfl rfl rfl (EL.skip rfl rfl rfl rfl (EL.skip rfl rfl rfl rfl (EL.skip rfl rfl rfl rfl (EL.skip rfl rfl rfl rfl (EL.skip rfl rfl rfl rfl (EL.pf rfl rfl rfl ?_)))))))));refine EL.nil (EX.seq (EC.no rfl (EC.skip (EX.blk (EX.seq (EC.region (EL.mv rfl rfl ?_)))))));refine EL.val (ZR rfl rfl (c := ((i + 1 : Nat) : Int)) ((IntWalk.i64_in _ ⟨by first | omega | (simp only; omega), by first | omega | (simp only; omega)⟩).trans (by first | omega | (simp only; omega)))) rfl ?_
    refine EL.as rfl rfl (EL.nil ?_);refine EX.roundD (i + 1, v4) ⟨rfl, rfl, trivial⟩ (by repeat first | with_reducible exact .refl _ | refine sp_ rfl ?_ | exact .refl _ | refine sd_ rfl ?_ | refine sn_ ?_) ⟨hlti, by simp only; rw [hsu, List.append_nil]; exact hO, hbw⟩ (by simp only; omega)
  ·
   obtain rfl : i = ts.length := by omega
   rw [List.take_length] at hO;refine EC.seq (EC.seq (EC.region (EL.mv rfl rfl (EL.mv rfl rfl (EL.val (YA rfl) rfl ?_)))));refine EL.val (ZT rfl rfl (decide_eq_false (show ¬(((ts.length : Nat) : Int) < ((ts.length : Nat) : Int)) by omega))) rfl ?_
   refine EL.nil (EX.seq (EC.no rfl (EC.exit (EX.seq_exit (EX.seq_exit (EX.blk_here (EX.blk (EX.seq (EC.region ?_)))))))));refine EL.mv rfl rfl ?_;refine EL.val (ZR rfl rfl (c := ((a + 1 : Nat) : Int)) ((IntWalk.i64_in _ ⟨by first | omega | (simp only; omega), by first | omega | (simp only; omega)⟩).trans (by first | omega | (simp only; omega)))) rfl ?_
   refine EL.as rfl rfl (EL.nil ?_);refine EX.roundD (a + 1, v4) ⟨rfl, rfl, trivial⟩ (by repeat first | with_reducible exact .refl _ | refine sp_ rfl ?_ | exact .refl _ | refine sd_ rfl ?_ | refine sn_ ?_) ⟨hlta, by rw [QAS]; exact hO, hbw⟩ (by simp only; omega)
 ·
  obtain rfl : a = 256 := by omega
  refine EC.seq (EC.seq (EC.region (EL.mv rfl rfl ?_)));refine EL.val (QCT (r := false) rfl rfl (decide_eq_false (by simp only; omega))) rfl ?_
  refine EL.nil (EX.seq (EC.no rfl (EC.exit (EX.seq_exit (EX.seq_exit (EX.blk_here (EX.seq (EC.seq (EC.region ?_)))))))));refine EL.mv rfl rfl (EL.as rfl rfl (EL.nil (EX.seq (EC.ret ?_))))
  exact EX.done (res1 rfl rfl) ⟨⟨_, rfl, by rw [QNS harr] at hO; exact hO⟩, hbw⟩
section
variable {n : Nat} {σ : Sg} {w : World} {dst : Option Tmp} {ty : TypeId} {pos : String} {af : Array Edge} {g : Option (Nat × Bool)} {x y z : Operand} {at' : Array TypeId}
theorem cF34 : cF 34 := fun _ _ => by simp [go_sem]
theorem QJP {x0 x1 : Operand} {A0 : Option Addr} {m0 : Nat} {c0 : Nat} {A1 : Option Addr} {m1 : Nat} {c1 : Nat} (h0 : evS σ x0 = some (.slice A0 m0 c0)) (h1 : evS σ x1 = some (.slice A1 m1 c1)) : ZJ Try.prog n σ w ⟨dst, .build 90 #[(0, x0), (1, x1)], ty, pos, af, g⟩ (.agg #[.slice A0 m0 c0, .slice A1 m1 c1]) := fun a ha => by
 simp only [execOp, List.map_toArray, List.map_cons, List.map_nil, ha.eval h0, ha.eval h1]
 go_simp
theorem QNm (a : Act) (_ : Env n σ a) : (execOp a.eval ⟨dst, .alloc 90, ty, pos, af, g⟩).run Try.prog w = .ok (.value (.pointer (some ⟨w.heap.size, 0, none⟩))) (w.alloc (.cells #[.slice none 0 0, .slice none 0 0] 90)) := by
 simp only [execOp]
 simp [go_sem]
theorem QNO : (Try.prog.info? 90).map (·.size) = some 2 := by kernel_rfl
theorem Y2 {b o k : Nat} (hx : evS σ x = some (.pointer (some ⟨b, o, none⟩))) (hy : evS σ y = some (.int .i64 (k : Int))) (hk : k < 2) : ZJ Try.prog n σ w ⟨dst, .indexAddr 90 x y, ty, pos, af, g⟩ (.pointer (some ⟨b, o + k, none⟩)) := fun a ha => by
 have k0 : (0 : Int) ≤ (k : Int) := Int.natCast_nonneg _;have k1 : (k : Int) < 2 := by omega
 simp only [execOp, ha.eval hx, ha.eval hy]
 simp [go_sem, k0, k1]
theorem QMX {b o m c k : Nat} (hx : evS σ x = some (.slice (some ⟨b, o, none⟩) m c)) (hy : evS σ y = some (.int .i64 (k : Int))) (hk : k < m) : ZJ Try.prog n σ w ⟨dst, .indexAddr 80 x y, ty, pos, af, g⟩ (.pointer (some ⟨b, o + k * 2, none⟩)) := fun a ha => by
 have k0 : (0 : Int) ≤ (k : Int) := Int.natCast_nonneg _;have k1 : (k : Int) < (m : Int) := by omega
 simp only [execOp, ha.eval hx, ha.eval hy]
 simp [go_sem, k0, k1]
theorem QIN {b o k : Nat} (hx : evS σ x = some (.pointer (some ⟨b, o, none⟩))) (hy : evS σ y = some (.int .i64 (k : Int))) (hk : k < 2) : ZJ Try.prog n σ w ⟨dst, .indexAddr 131 x y, ty, pos, af, g⟩ (.pointer (some ⟨b, o + k, none⟩)) := fun a ha => by
 have k0 : (0 : Int) ≤ (k : Int) := Int.natCast_nonneg _;have k1 : (k : Int) < 2 := by omega
 simp only [execOp, ha.eval hx, ha.eval hy]
 simp [go_sem, k0, k1]
theorem QDj {b o : Nat} (hx : evS σ x = some (.pointer (some ⟨b, o, none⟩))) : ZJ Try.prog n σ w ⟨dst, .fieldAddr 82 x 3, ty, pos, af, g⟩ (.pointer (some ⟨b, o + 7, none⟩)) := fun a ha => by
 simp only [execOp, ha.eval hx]
 simp [go_sem]
theorem QIK {b o : Nat} {v0 : Value} (hx : evS σ x = some (.pointer (some ⟨b, o, none⟩))) (c0 : w.cell? ⟨b, o, none⟩ = some v0) : ZJ Try.prog n σ w ⟨dst, .load 80 x, ty, pos, af, g⟩ (v0) := fun a ha => by
 simp only [execOp, ha.eval hx]
 simp [go_sem, c0]
theorem QMU {A : Option Addr} {m c : Nat} (hx : evS σ x = some (.slice A m c)) : ZJ Try.prog n σ w ⟨dst, .call { callee := .builtin .len, args := #[x], argTypes := #[80] }, ty, pos, af, g⟩ (.int .i64 (m : Int)) := fun a ha => by
 simp only [execOp, resolve, List.map_toArray, List.map_cons, List.map_nil, ha.eval hx]
 simp [go_sem]
end
structure PlV where
 d : Dr
 i : Nat
 v : Value
 Ad : Option Addr
 nd : Nat
 cd : Nat
 Au : Option Addr
 nu : Nat
 cu : Nat
theorem QH4 {l : LK} {q : QS} {d : Dr} {nd nu : Nat} (hq : QOk l q) (h : PlOk l q d) (hd : nd = (waitL q d.s false).length) (hu : nu = (waitL q d.s true).length) : nd + nu ≤ 8 ∧ d.plan.length ≤ 8 := by
 have h1 := h.dr.len;have h2 := QAh (u := true) (n := 0) hq h.dr (Nat.zero_le _);have h3 := hq.len;rw [Zz] at hd hu
 exact ⟨by omega, by omega⟩
theorem QLU {l : LK} {q : QS} {d : Dr} (h : PlOk l q d) (hz : (waitL q d.s false).length + (waitL q d.s true).length = 0) : YJ q d.s = true := by
 rw [QEX h.dr];rw [Zz, Zz] at hz
 exact hz
theorem QIj {W : World} {g nd cd nu cu nw : Nat} {u : Bool} {Ad Au : Option Addr} (hs : sel u nd nu = nw) (h : Blk W g 90 #[.slice Ad nd cd, .slice Au nu cu]) : W.cell? ⟨g, 0 + uI u, none⟩ = some (.slice (sel u Ad Au) nw (sel u cd cu)) := by
 subst hs
 cases u
 ·exact h.at (j := 0) rfl
 ·exact h.at (j := 1) rfl
theorem QFA {w : World} {B z n c : Nat} {A : Option Addr} {xs : List Value} (h : Rd w B z (.slice A n c) n xs) : n ≤ c := by
 obtain ⟨_, A2, c2, e, hc, _⟩ := h
 injection e with _ _ e
 omega
theorem QJ1 {w : World} {B m c lo : Nat} {A : Option Addr} {ts : List TW} (hr : Rd w B 5 (.slice A m c) m (twsC ts)) (hlo : lo ≤ m) : Rd w B 5 (.slice (QAj A c lo) (m - lo) (c - lo)) (m - lo) (twsC (ts.drop lo)) := by
 have hl := hr.len;obtain ⟨_, A2, c2, e, hc2, hrr⟩ := hr
 injection e with e1 _ e3
 subst e1 e3;have hd : twsC (ts.drop lo) = (twsC ts).drop (lo * 5) := QBJ QAg ts lo;refine ⟨by rw [hd, List.length_drop, hl]; omega, _, _, rfl, by omega, fun h0 => ?_⟩
 obtain ⟨b, off, e2, hb2, hcell⟩ := hrr (by omega)
 subst e2;refine ⟨b, _, rfl, hb2, fun j u hu => ?_⟩
 rw [if_neg (by omega)]
 rw [hd, List.getElem?_drop] at hu;have := hcell (lo * 5 + j) u hu;rw [← Nat.add_assoc] at this
 exact this
set_option maxHeartbeats 1000000 in
set_option maxRecDepth 100000 in
theorem QI0 {x : Sml} (hx : SmlOk x) {At As : Option Addr} {ct cs : Nat} {l : LK} {ts : List TW} {v : Value} {w : World} {B : Nat} (hs : Rd w B 2 (.slice As x.steps.length cs) x.steps.length (e2s x.steps)) (hr : Rd w B 5 v ts.length (twsC ts)) (hB : B ≤ w.heap.size) (hq : QOk l (qL ts)) (harr : ∀ t ∈ ts, 0 ≤ t.arrive ∧ t.arrive < (256 : Nat)) (hn : ts.length ≤ 12) :
  Calls Try.prog 33 #[.agg #[.int .u8 x.a0, .int .u8 x.a1, .int .u8 x.a2, .int .u8 x.a3, .int .u8 x.a4, .bool x.hi, .slice At x.tows.length ct, .slice As x.steps.length cs], .agg #[.int .i64 l.length, .int .i64 l.cycle, .int .i64 l.turn, .int .i64 l.fill, .int .i64 l.save, .bool l.high], v] w fun e w' => (∃ d v', PlOk l (qL ts) d ∧ YJ (qL ts) d.s = true ∧ e = .returned v' ∧ w'.ownsRow w.heap.size 87 2 v' d.plan.length (spsC d.plan)) ∧ Below w.heap.size w w' := by
 obtain ⟨Av, cv, rfl, _⟩ := hr.shape;have hbw := Below.refl w.heap.size w;refine EC.enter 102 Try.func33 rfl rfl rfl (EC.seq (EC.region (EL.newP (QIf rfl) rfl ?_)));intro g1 w1 q1 hb1 hg1 hl1;have bhbw_1 := Nat.le_trans hbw.size hg1;replace hbw := bo_ hbw hb1;clear hb1 hg1 hl1;refine EL.newP (QC0 rfl) rfl ?_;intro g2 w2 q2 hb2 hg2 hl2;have n1_2 := q1.na hg2;have bhbw_2 := Nat.le_trans hbw.size hg2;replace q1 := q1.bl hb2;replace hbw := bo_ hbw hb2;clear hb2 hg2 hl2;refine EL.as rfl rfl (EL.nil (EX.seq (EC.seq (EC.region (EL.mv rfl rfl (EL.call (cA2 cF34 rfl rfl) rfl (QEI (u := false) harr (hr.below (hbw.mono hB)) (Nat.le_trans hB hbw.size) hn) ?_))))))
 rintro e wq0 ⟨⟨vq0, rfl, hqq0⟩, hcq⟩
 refine ⟨_, rfl, ?_⟩;replace hqq0 := Zn hqq0 hbw.size;replace q1 := q1.bl hcq;replace q2 := q2.bl hcq;replace hbw := bo_ hbw hcq;clear hcq;obtain ⟨Aq0, cq0, rfl, _⟩ := (Rd.of_own hqq0).shape;refine EL.mv rfl rfl (EL.call (cA2 cF34 rfl rfl) rfl (QEI (u := true) harr (hr.below (hbw.mono hB)) (Nat.le_trans hB hbw.size) hn) ?_)
 rintro e wq1 ⟨⟨vq1, rfl, hqq1⟩, hcq⟩
 refine ⟨_, rfl, ?_⟩;replace hqq1 := Zn hqq1 hbw.size;replace q1 := q1.bl hcq;replace q2 := q2.bl hcq;replace hqq0 := ZB hqq0 hcq (Nat.le_refl _);replace hbw := bo_ hbw hcq;clear hcq;obtain ⟨Aq1, cq1, rfl, _⟩ := (Rd.of_own hqq1).shape;have hd2 := Rd.of_own hqq0;have hu2 := Rd.of_own hqq1;clear hqq0 hqq1;have hb2 := Below.refl wq1.heap.size wq1;have hwq := hbw.size;refine EL.val (QJP rfl rfl) rfl (EL.newS (QIi) rfl ?_);intro g3 w3 q3 hb3 hg3 hl3;have n1_3 := q1.na hg3;have n2_3 := q2.na hg3;have bhbw_3 := Nat.le_trans hbw.size hg3;have bhb2_3 := Nat.le_trans hb2.size hg3;have hbg3 : wq1.heap.size ≤ g3 := Nat.le_trans hb2.size hg3;replace q1 := q1.bl hb3;replace q2 := q2.bl hb3;replace hbw := bo_ hbw hb3;replace hb2 := bo_ hb2 hb3;clear hb3 hg3 hl3;have hO : w3.ownsRow wq1.heap.size 87 2 (.slice (some ⟨g3, 0, none⟩) 0 0) 0 [] := QB0 2 q3 hbg3;refine EL.newP QNm rfl ?_;intro g4 w4 q4 hb4 hg4 hl4;have n1_4 := q1.na hg4;have n2_4 := q2.na hg4;have bhbw_4 := Nat.le_trans hbw.size hg4;have bhb2_4 := Nat.le_trans hb2.size hg4;have hbg4 : wq1.heap.size ≤ g4 := Nat.le_trans hb2.size hg4;replace q1 := q1.bl hb4;replace q2 := q2.bl hb4;replace hO := ZB hO hb4 (Nat.le_refl _);replace hbw := bo_ hbw hb4;replace hb2 := bo_ hb2 hb4;clear hb4 hg4 hl4;refine EL.store rfl rfl q4 QNO rfl rfl rfl rfl ?_;intro w5 hq5 hg5;replace q1 := q1.gr hg5 n1_4;replace q2 := q2.gr hg5 n2_4;replace hO := ZL hO q4 rfl hg5;replace hbw := ZE hbw hg5 bhbw_4;replace hb2 := ZE hb2 hg5 bhb2_4;replace q4 := hq5;clear hg5 hq5;refine EL.as rfl rfl (EL.nil (EX.seq (EC.seq (EC.seq (EC.region (EL.as rfl rfl (EL.nil (EX.seq (EC.block ?_)))))))));refine EC.loopD [8, 9, 10, 11, 12, 13, 20, 21, 22, 23, 24, 25, 26, 27, 28, 29, 30, 31, 32, 33, 34, 35, 36, 37, 38, 39, 40, 41, 42, 43, 44, 45, 46, 47, 48, 49, 50, 51, 52, 53, 54, 55, 56, 57, 58, 59, 60, 61, 62, 63, 64, 65, 66, 67, 68, 69, 70, 71, 72, 73, 74, 75, 76, 77, 78, 79, 80, 81, 82, 83, 84, 85, 86, 87, 88, 89, 90, 91, 92, 93, 94, 95, 96, 97, 98, 99, 100] (fun y : PlV => [(9, .int .i64 (y.i : Nat)), (8, y.v)]) (fun y W => PlOk l (qL ts) y.d ∧ y.i = y.d.plan.length ∧ y.nd = (waitL (qL ts) y.d.s false).length ∧ Rd wq1 wq1.heap.size 5 (.slice y.Ad y.nd y.cd) y.nd (twsC (waitL (qL ts) y.d.s false)) ∧ y.nu = (waitL (qL ts) y.d.s true).length ∧ Rd wq1 wq1.heap.size 5 (.slice y.Au y.nu y.cu) y.nu (twsC (waitL (qL ts) y.d.s true)) ∧ W.ownsRow wq1.heap.size 87 2 y.v y.i (spsC y.d.plan) ∧ Blk W g1 82 #[.int .u8 x.a0, .int .u8 x.a1, .int .u8 x.a2, .int .u8 x.a3, .int .u8 x.a4, .bool x.hi, .slice At x.tows.length ct, .slice As x.steps.length cs] ∧ Blk W g2 23 #[.int .i64 l.length, .int .i64 l.cycle, .int .i64 l.turn, .int .i64 l.fill, .int .i64 l.save, .bool l.high] ∧ Blk W g4 90 #[.slice y.Ad y.nd y.cd, .slice y.Au y.nu y.cu] ∧ Below wq1.heap.size wq1 W ∧ Below w.heap.size w W) (fun y => remD (qL ts) y.d.s) ⟨⟨stL l, []⟩, 0, .slice (some ⟨g3, 0, none⟩) 0 0, Aq0, ((qL ts) false).length, cq0, Aq1, ((qL ts) true).length, cq1⟩ ⟨PlOk.start hq.lk, rfl, rfl, hd2, rfl, hu2, hO, q1, q2, q4, hb2, hbw⟩ ⟨rfl, rfl, trivial⟩ ?_
 clear hO hd2 hu2 q1 q2 q4 hb2 hbw
 rintro ⟨d, i, v8, Ad, nd, cd, Au, nu, cu⟩ wx ⟨hpk, hi, hnd, hd2, hnu, hu2, hO, q1, q2, q4, hb2, hbw⟩
 dsimp only at hpk hi hnd hd2 hnu hu2 hO q4
 have h8 := QH4 hq hpk hnd hnu
 by_cases hz : nd + nu = 0
 ·
  have hcp : YJ (qL ts) d.s = true := QLU hpk (by omega)
  refine EC.seq (EC.seq (EC.region ?_));refine EL.val (Y2 (k := 0) rfl rfl (by omega)) rfl ?_
  refine EL.val (YI rfl (q4.at (j := 0) rfl)) rfl (EL.val (YA rfl) rfl ?_);refine EL.val (Y2 (k := 1) rfl rfl (by omega)) rfl ?_
  refine EL.val (YI rfl (q4.at (j := 1) rfl)) rfl (EL.val (YA rfl) rfl ?_);refine EL.val (ZR rfl rfl (c := ((nd + nu : Nat) : Int)) ((IntWalk.i64_in _ ⟨by omega, by omega⟩).trans (by omega))) rfl ?_
  refine EL.val (Zy (r := false) rfl rfl (decide_eq_false (by omega))) rfl ?_
  refine EL.nil (EX.seq (EC.no rfl (EC.exit (EX.seq_exit (EX.seq_exit (EX.blk_here (EX.seq (EC.seq (EC.region ?_)))))))));refine EL.mv rfl rfl (EL.as rfl rfl (EL.nil (EX.seq (EC.ret ?_))))
  exact EX.done (res1 rfl rfl) ⟨⟨d, _, hpk, hcp, rfl, by rw [← hi]; exact Zn hO hwq⟩, hbw⟩
 ·
  refine EC.seq (EC.seq (EC.region ?_));refine EL.val (Y2 (k := 0) rfl rfl (by omega)) rfl ?_
  refine EL.val (YI rfl (q4.at (j := 0) rfl)) rfl (EL.val (YA rfl) rfl ?_);refine EL.val (Y2 (k := 1) rfl rfl (by omega)) rfl ?_
  refine EL.val (YI rfl (q4.at (j := 1) rfl)) rfl (EL.val (YA rfl) rfl ?_);refine EL.val (ZR rfl rfl (c := ((nd + nu : Nat) : Int)) ((IntWalk.i64_in _ ⟨by omega, by omega⟩).trans (by omega))) rfl ?_
  refine EL.val (Zy (r := true) rfl rfl (decide_eq_true (by omega))) rfl ?_
  refine EL.nil (EX.seq (EC.yes rfl (EC.skip (EX.seq (EC.seq (EC.block (EC.seq (EC.region (EL.as rfl rfl ?_)))))))));refine EL.as rfl rfl (EL.nil (EX.seq ?_));refine EC.cutD [10, 11, 30, 31, 32, 33, 34, 35, 36, 37, 38, 39, 40, 41, 42, 43, 44, 45, 46, 47, 48, 49, 50, 51] (fun y : Bool × Nat => [(10, .int .i64 ((uI y.1 : Nat) : Int)), (11, .int .i64 (y.2 : Nat))]) (fun y W => (1 ≤ y.2 ∧ y.2 ≤ 3) ∧ W.ownsRow wq1.heap.size 87 2 v8 i (spsC d.plan) ∧ Blk W g1 82 #[.int .u8 x.a0, .int .u8 x.a1, .int .u8 x.a2, .int .u8 x.a3, .int .u8 x.a4, .bool x.hi, .slice At x.tows.length ct, .slice As x.steps.length cs] ∧ Blk W g2 23 #[.int .i64 l.length, .int .i64 l.cycle, .int .i64 l.turn, .int .i64 l.fill, .int .i64 l.save, .bool l.high] ∧ Blk W g4 90 #[.slice Ad nd cd, .slice Au nu cu] ∧ Below wq1.heap.size wq1 W ∧ Below w.heap.size w W) ?_ ?_
  ·
   by_cases hst : i < x.steps.length
   ·
    obtain ⟨bx, ox, ebx, _, x0, x1⟩ := QJM x.steps i hst w B _ _ _ hs
    cases ebx
    obtain ⟨hy0, hy1⟩ := hx.s _ (Zv hst (0, 0));have t2 := Yv hy1 (n := 3) (by decide)
    have t1 := QMj hy0;refine EC.seq (EC.region (EL.mv rfl rfl (EL.val (QDj rfl) rfl (EL.val (QIK rfl (q1.at (j := 7) rfl)) rfl (EL.val (QMU rfl) rfl ?_)))));refine EL.val (ZT rfl rfl (decide_eq_true (show (((i : Nat) : Int) < ((x.steps.length : Nat) : Int)) by omega))) rfl ?_
    refine EL.nil (EX.seq (EC.yes rfl ?_));refine EC.regionQ (by kernel_rfl) (by kernel_rfl) ?_
    refine EQ.val (fun _ hw => (QDj rfl)) rfl ?_
    refine EQ.val (fun _ hw => (QIK rfl (ZD hw (q1.at (j := 7) rfl)))) rfl ?_
    refine EQ.mv rfl rfl ?_;refine EQ.val (fun _ hw => (QMX rfl rfl hst)) rfl ?_
    refine EQ.val (fun _ hw => (QIN (k := 0) rfl rfl (by omega))) rfl ?_
    refine EQ.val (fun _ hw => (ld_5 rfl (ZD hw (ZD hbw x0)))) rfl ?_
    refine EQ.val (fun _ hw => (QAM rfl (YE hy0))) rfl ?_
    refine EQ.val (fun _ hw => (QBQ rfl rfl (by decide) rfl)) rfl ?_
    refine EQ.val (fun _ hw => (QDj rfl)) rfl ?_
    refine EQ.val (fun _ hw => (QIK rfl (ZD hw (q1.at (j := 7) rfl)))) rfl ?_
    refine EQ.mv rfl rfl ?_;refine EQ.val (fun _ hw => (QMX rfl rfl hst)) rfl ?_
    refine EQ.val (fun _ hw => (QIN (k := 1) rfl rfl (by omega))) rfl ?_
    refine EQ.val (fun _ hw => (ld_5 rfl (ZD hw (ZD hbw x1)))) rfl ?_
    refine EQ.val (fun _ hw => (QAM rfl (YE hy1))) rfl ?_
    refine EQ.val (fun _ hw => (QBQ rfl rfl (by decide) rfl)) rfl ?_
    refine EQ.val (fun _ hw => (ZR rfl rfl (c := 1 + (x.steps.getD i (0, 0)).2.tmod 3) (IntWalk.i64_in (1 + (x.steps.getD i (0, 0)).2.tmod 3) ⟨by omega, by omega⟩))) rfl ?_
    refine EQ.val (fun _ hw => (ZQ rfl)) rfl ?_
    refine EQ.val (fun _ hw => (ZQ rfl)) rfl ?_
    refine EQ.fin (fun w6 hw_ => ?_)
    replace q1 := q1.bl hw_;replace q2 := q2.bl hw_;replace q4 := q4.bl hw_;replace hO := ZB hO hw_ (Nat.le_refl _);replace hb2 := bo_ hb2 hw_;replace hbw := bo_ hbw hw_;clear hw_
    exact EX.cutE (decide ((x.steps.getD i (0, 0)).1.tmod 2 = 1), (1 + (x.steps.getD i (0, 0)).2.tmod 3).toNat) ⟨QCA t1 rfl, QCA (by show _ = (((1 + (x.steps.getD i (0, 0)).2.tmod 3).toNat : Nat) : Int); omega) rfl, trivial⟩ (by repeat first | with_reducible exact (Sub.refl _).del _ | refine sp_ rfl ?_ | exact (Sub.refl _).del _ | refine sd_ rfl ?_ | refine sn_ ?_) ⟨by simp only; omega, hO, q1, q2, q4, hb2, hbw⟩
   ·
    refine EC.seq (EC.region (EL.mv rfl rfl (EL.val (QDj rfl) rfl (EL.val (QIK rfl (q1.at (j := 7) rfl)) rfl (EL.val (QMU rfl) rfl ?_)))));refine EL.val (ZT rfl rfl (decide_eq_false (show ¬(((i : Nat) : Int) < ((x.steps.length : Nat) : Int)) by omega))) rfl ?_
    refine EL.nil (EX.seq (EC.no rfl (EC.skip ?_)))
    exact EX.cutE (false, 1) ⟨rfl, rfl, trivial⟩ (by repeat first | with_reducible exact (Sub.refl _).del _ | refine sp_ rfl ?_ | exact (Sub.refl _).del _ | refine sd_ rfl ?_ | refine sn_ ?_) ⟨by simp, hO, q1, q2, q4, hb2, hbw⟩
  ·
   clear hO q1 q2 q4 hb2 hbw
   rintro ⟨u0, n0⟩ w6 ⟨hn0, hO, q1, q2, q4, hb2, hbw⟩
   dsimp only at hn0
   refine EC.cutD [10, 52, 53, 54, 55, 56, 57, 58] (fun y : Bool => [(10, .int .i64 ((uI y : Nat) : Int))]) (fun y W => 1 ≤ (waitL (qL ts) d.s y).length ∧ W.ownsRow wq1.heap.size 87 2 v8 i (spsC d.plan) ∧ Blk W g1 82 #[.int .u8 x.a0, .int .u8 x.a1, .int .u8 x.a2, .int .u8 x.a3, .int .u8 x.a4, .bool x.hi, .slice At x.tows.length ct, .slice As x.steps.length cs] ∧ Blk W g2 23 #[.int .i64 l.length, .int .i64 l.cycle, .int .i64 l.turn, .int .i64 l.fill, .int .i64 l.save, .bool l.high] ∧ Blk W g4 90 #[.slice Ad nd cd, .slice Au nu cu] ∧ Below wq1.heap.size wq1 W ∧ Below w.heap.size w W) ?_ ?_
   ·
    cases u0
    ·
     by_cases hz0 : nd = 0
     ·
      refine EC.seq (EC.region (EL.mv rfl rfl ?_));refine EL.val (Y2 (k := 0) rfl rfl (by omega)) rfl ?_
      refine EL.val (YI rfl (q4.at (j := 0) rfl)) rfl (EL.val (YA rfl) rfl ?_);refine EL.val (Z4 (r := true) rfl rfl (decide_eq_true (by omega))) rfl ?_
      refine EL.nil (EX.seq (EC.yes rfl (EC.region (EL.mv rfl rfl (EL.val (YB rfl rfl (c := 1) rfl) rfl (EL.as rfl rfl (EL.nil ?_)))))))
      exact EX.cutE true ⟨rfl, trivial⟩ (by repeat first | with_reducible exact (Sub.refl _).del _ | refine sp_ rfl ?_ | exact (Sub.refl _).del _ | refine sd_ rfl ?_ | refine sn_ ?_) ⟨by rw [← hnu]; omega, hO, q1, q2, q4, hb2, hbw⟩
     ·
      refine EC.seq (EC.region (EL.mv rfl rfl ?_));refine EL.val (Y2 (k := 0) rfl rfl (by omega)) rfl ?_
      refine EL.val (YI rfl (q4.at (j := 0) rfl)) rfl (EL.val (YA rfl) rfl ?_);refine EL.val (Z4 (r := false) rfl rfl (decide_eq_false (by omega))) rfl ?_
      refine EL.nil (EX.seq (EC.no rfl (EC.skip ?_)))
      exact EX.cutE false ⟨rfl, trivial⟩ (by repeat first | with_reducible exact (Sub.refl _).del _ | refine sp_ rfl ?_ | exact (Sub.refl _).del _ | refine sd_ rfl ?_ | refine sn_ ?_) ⟨by rw [← hnd]; omega, hO, q1, q2, q4, hb2, hbw⟩
    ·
     by_cases hz0 : nu = 0
     ·
      refine EC.seq (EC.region (EL.mv rfl rfl ?_));refine EL.val (Y2 (k := 1) rfl rfl (by omega)) rfl ?_
      refine EL.val (YI rfl (q4.at (j := 1) rfl)) rfl (EL.val (YA rfl) rfl ?_);refine EL.val (Z4 (r := true) rfl rfl (decide_eq_true (by omega))) rfl ?_
      refine EL.nil (EX.seq (EC.yes rfl (EC.region (EL.mv rfl rfl (EL.val (YB rfl rfl (c := 0) rfl) rfl (EL.as rfl rfl (EL.nil ?_)))))))
      exact EX.cutE false ⟨rfl, trivial⟩ (by repeat first | with_reducible exact (Sub.refl _).del _ | refine sp_ rfl ?_ | exact (Sub.refl _).del _ | refine sd_ rfl ?_ | refine sn_ ?_) ⟨by rw [← hnd]; omega, hO, q1, q2, q4, hb2, hbw⟩
     ·
      refine EC.seq (EC.region (EL.mv rfl rfl ?_));refine EL.val (Y2 (k := 1) rfl rfl (by omega)) rfl ?_
      refine EL.val (YI rfl (q4.at (j := 1) rfl)) rfl (EL.val (YA rfl) rfl ?_);refine EL.val (Z4 (r := false) rfl rfl (decide_eq_false (by omega))) rfl ?_
      refine EL.nil (EX.seq (EC.no rfl (EC.skip ?_)))
      exact EX.cutE true ⟨rfl, trivial⟩ (by repeat first | with_reducible exact (Sub.refl _).del _ | refine sp_ rfl ?_ | exact (Sub.refl _).del _ | refine sd_ rfl ?_ | refine sn_ ?_) ⟨by rw [← hnu]; omega, hO, q1, q2, q4, hb2, hbw⟩
   ·
    clear hO q1 q2 q4 hb2 hbw
    rintro u w8 ⟨hw1, hO, q1, q2, q4, hb2, hbw⟩
    have hwl := Zz (qL ts) d.s u;obtain ⟨nw, hnw⟩ : ∃ z, z = (waitL (qL ts) d.s u).length := ⟨_, rfl⟩;rw [← hnw] at hw1;have hsn : sel u nd nu = nw := by rw [hnw]; cases u; exact hnd; exact hnu
    have hw2 : Rd wq1 wq1.heap.size 5 (.slice (sel u Ad Au) nw (sel u cd cu)) nw (twsC (waitL (qL ts) d.s u)) := by rw [← hsn]; cases u; exact hd2; exact hu2
    have hw8 : nw ≤ 8 := by rw [← hsn]; cases u <;> simp [sel] <;> omega
    refine EC.seq (EC.region (EL.mv rfl rfl (EL.mv rfl rfl (EL.val (Y2 (k := uI u) rfl rfl (QMM u)) rfl (EL.val (YI rfl (QIj hsn q4)) rfl (EL.val (YA rfl) rfl ?_))))));refine EL.val (QKF rfl rfl (show min ((n0 : Nat) : Int) ((nw : Nat) : Int) = ((min n0 nw : Nat) : Int) by omega)) rfl ?_
    refine EL.as rfl rfl (EL.nil (EX.seq ?_));refine EC.cutD [11, 12, 13, 65, 66, 67, 68, 69, 70, 71, 72, 73, 74, 75, 76, 77, 78, 79, 80, 81, 82, 83, 84, 85, 86] (fun n : Nat => [(11, .int .i64 (n : Nat))]) (fun n W => (1 ≤ n ∧ n ≤ nw ∧ fitN (qL ts) d.s u n = true) ∧ W.ownsRow wq1.heap.size 87 2 v8 i (spsC d.plan) ∧ Blk W g1 82 #[.int .u8 x.a0, .int .u8 x.a1, .int .u8 x.a2, .int .u8 x.a3, .int .u8 x.a4, .bool x.hi, .slice At x.tows.length ct, .slice As x.steps.length cs] ∧ Blk W g2 23 #[.int .i64 l.length, .int .i64 l.cycle, .int .i64 l.turn, .int .i64 l.fill, .int .i64 l.save, .bool l.high] ∧ Blk W g4 90 #[.slice Ad nd cd, .slice Au nu cu] ∧ Below wq1.heap.size wq1 W ∧ Below w.heap.size w W) ?_ ?_
    ·
     refine EC.seq (EC.region (EL.as rfl rfl (EL.nil (EX.seq (EC.block ?_)))));refine EC.loopD [11, 12, 13, 65, 66, 67, 68, 69, 70, 71, 72, 73, 74, 75, 76, 77, 78, 79, 80, 81, 82, 83, 84, 85, 86] (fun n : Nat => [(11, .int .i64 (n : Nat))]) (fun n W => (1 ≤ n ∧ n ≤ nw ∧ n ≤ 3) ∧ W.ownsRow wq1.heap.size 87 2 v8 i (spsC d.plan) ∧ Blk W g1 82 #[.int .u8 x.a0, .int .u8 x.a1, .int .u8 x.a2, .int .u8 x.a3, .int .u8 x.a4, .bool x.hi, .slice At x.tows.length ct, .slice As x.steps.length cs] ∧ Blk W g2 23 #[.int .i64 l.length, .int .i64 l.cycle, .int .i64 l.turn, .int .i64 l.fill, .int .i64 l.save, .bool l.high] ∧ Blk W g4 90 #[.slice Ad nd cd, .slice Au nu cu] ∧ Below wq1.heap.size wq1 W ∧ Below w.heap.size w W) (fun n => n) (min n0 nw) ⟨⟨by omega, by omega, by omega⟩, hO, q1, q2, q4, hb2, hbw⟩ ⟨rfl, trivial⟩ ?_
     clear hO q1 q2 q4 hb2 hbw
     rintro n wm ⟨⟨hn1, hn2, hn3⟩, hO, q1, q2, q4, hb2, hbw⟩
     by_cases hgt : 1 < n
     ·
      refine EC.seq (EC.seq (EC.region (EL.mv rfl rfl ?_)));refine EL.val (Zy (r := true) rfl rfl (decide_eq_true (by omega))) rfl ?_
      refine EL.nil (EX.seq (EC.yes rfl (EC.skip (EX.seq (EC.seq (EC.block (EC.seq (EC.region (EL.as rfl rfl ?_)))))))));refine EL.nil (EX.seq (EC.seq (EC.seq (EC.region (EL.as rfl rfl (EL.nil (EX.seq (EC.block ?_))))))));refine EC.loopD [12, 13, 69, 70, 71, 72, 73, 74, 75, 76, 77, 78, 79, 80, 81, 82] (fun k : Nat => [(13, .int .i64 (k : Nat)), (12, .int .i64 (Zg ((waitL (qL ts) d.s u).take k)))]) (fun k W => k ≤ n ∧ W.ownsRow wq1.heap.size 87 2 v8 i (spsC d.plan) ∧ Blk W g1 82 #[.int .u8 x.a0, .int .u8 x.a1, .int .u8 x.a2, .int .u8 x.a3, .int .u8 x.a4, .bool x.hi, .slice At x.tows.length ct, .slice As x.steps.length cs] ∧ Blk W g2 23 #[.int .i64 l.length, .int .i64 l.cycle, .int .i64 l.turn, .int .i64 l.fill, .int .i64 l.save, .bool l.high] ∧ Blk W g4 90 #[.slice Ad nd cd, .slice Au nu cu] ∧ Below wq1.heap.size wq1 W ∧ Below w.heap.size w W) (fun k => n - k) 0 ⟨Nat.zero_le _, hO, q1, q2, q4, hb2, hbw⟩ ⟨rfl, rfl, trivial⟩ ?_
      clear hO q1 q2 q4 hb2 hbw
      rintro k wk ⟨hk, hO, q1, q2, q4, hb2, hbw⟩
      have htwU : ∀ y ∈ (waitL (qL ts) d.s u), twB l y = true := fun y hy => hq.tw u y (List.mem_of_mem_drop hy)
      have hpb := QHR htwU (hnw ▸ hw8) hq.lk k;have hlb := QAF hq.lk
      by_cases hkn : k < n
      ·
       have hkw : k < (waitL (qL ts) d.s u).length := by omega
       obtain ⟨b, o, eb_, _, cc⟩ := YL (waitL (qL ts) d.s u) k hkw wq1 wq1.heap.size _ _ _ hw2;have hy := htwU _ (Zv hkw tw0);have hs1 : (Zg ((waitL (qL ts) d.s u).take (k + 1))) = (Zg ((waitL (qL ts) d.s u).take k)) + ((waitL (qL ts) d.s u).getD k tw0).length := QE8 (f := (·.length)) hkw
       generalize (waitL (qL ts) d.s u).getD k tw0 = y at cc hy hs1
       obtain ⟨_, y2, _, _⟩ := QAf hy;refine EC.seq (EC.seq (EC.region (EL.mv rfl rfl (EL.mv rfl rfl ?_))));refine EL.val (ZT rfl rfl (decide_eq_true (show (((k : Nat) : Int) < ((n : Nat) : Int)) by omega))) rfl ?_
       refine EL.nil (EX.seq (EC.yes rfl (EC.skip (EX.seq (EC.seq (EC.block (EC.region (EL.mv rfl rfl (EL.mv rfl rfl ?_)))))))));refine EL.val (Y2 (k := uI u) rfl rfl (QMM u)) rfl (EL.val (YI rfl (QIj hsn q4)) rfl (EL.mv rfl rfl ?_));refine EL.val (QAH (by show some (Value.slice (sel u Ad Au) _ _) = _; rw [eb_]) rfl (show k < nw by omega)) rfl ?_
       refine EL.val (QF5 rfl) rfl (EL.val (ld_3 rfl (ZD hb2 cc.c2)) rfl ?_);refine EL.val (ZR rfl rfl (c := (Zg ((waitL (qL ts) d.s u).take (k + 1)))) ((IntWalk.i64_in _ ⟨by omega, by omega⟩).trans hs1.symm)) rfl ?_
       refine EL.as rfl rfl (EL.nil (EX.blk (EX.seq (EC.region (EL.mv rfl rfl ?_)))));refine EL.val (ZR rfl rfl (c := ((k + 1 : Nat) : Int)) ((IntWalk.i64_in _ ⟨by first | omega | (simp only; omega), by first | omega | (simp only; omega)⟩).trans (by first | omega | (simp only; omega)))) rfl ?_
       refine EL.as rfl rfl (EL.nil ?_);refine EX.roundD (k + 1) ⟨rfl, rfl, trivial⟩ (by repeat first | with_reducible exact .refl _ | refine sp_ rfl ?_ | exact .refl _ | refine sd_ rfl ?_ | refine sn_ ?_) ⟨hkn, hO, q1, q2, q4, hb2, hbw⟩ (by omega)
      ·
       obtain rfl : k = n := by omega
       refine EC.seq (EC.seq (EC.region (EL.mv rfl rfl (EL.mv rfl rfl ?_))));refine EL.val (ZT rfl rfl (decide_eq_false (show ¬(((k : Nat) : Int) < ((k : Nat) : Int)) by omega))) rfl ?_
       refine EL.nil (EX.seq (EC.no rfl (EC.exit (EX.seq_exit (EX.seq_exit (EX.blk_here (EX.seq (EC.seq (EC.region ?_)))))))));refine EL.mv rfl rfl (EL.val (Y_ rfl) rfl (EL.val (ld_3 rfl (q2.at (j := 0) rfl)) rfl ?_))
       by_cases hle : (Zg ((waitL (qL ts) d.s u).take k)) ≤ l.length
       ·
        refine EL.val (QCT (r := true) rfl rfl (decide_eq_true hle)) rfl (EL.nil (EX.seq (EC.yes rfl (EC.exit (EX.blk_other rfl (EX.seq_exit (EX.seq_exit (EX.blk_here ?_))))))))
        exact EX.cutE k ⟨rfl, trivial⟩ (by repeat first | with_reducible exact (Sub.refl _).del _ | refine sp_ rfl ?_ | exact (Sub.refl _).del _ | refine sd_ rfl ?_ | refine sn_ ?_) ⟨⟨hn1, hn2, QNC hpk.dr hle⟩, hO, q1, q2, q4, hb2, hbw⟩
       ·
        refine EL.val (QCT (r := false) rfl rfl (decide_eq_false hle)) rfl (EL.nil (EX.seq (EC.no rfl (EC.skip (EX.blk (EX.seq (EC.region (EL.mv rfl rfl ?_))))))));refine EL.val (YB rfl rfl (c := ((k - 1 : Nat) : Int)) ((IntWalk.i64_in _ ⟨by omega, by omega⟩).trans (by omega))) rfl ?_
        refine EL.as rfl rfl (EL.nil ?_);refine EX.roundD (k - 1) ⟨rfl, trivial⟩ (by repeat first | with_reducible exact .refl _ | refine sp_ rfl ?_ | exact .refl _ | refine sd_ rfl ?_ | refine sn_ ?_) ⟨⟨by omega, by omega, by omega⟩, hO, q1, q2, q4, hb2, hbw⟩ (by omega)
     ·
      obtain rfl : n = 1 := by omega
      refine EC.seq (EC.seq (EC.region (EL.mv rfl rfl ?_)));refine EL.val (Zy (r := false) rfl rfl (decide_eq_false (by decide))) rfl ?_
      refine EL.nil (EX.seq (EC.no rfl (EC.exit (EX.seq_exit (EX.seq_exit (EX.blk_here ?_))))))
      exact EX.cutE 1 ⟨rfl, trivial⟩ (by repeat first | with_reducible exact (Sub.refl _).del _ | refine sp_ rfl ?_ | exact (Sub.refl _).del _ | refine sd_ rfl ?_ | refine sn_ ?_) ⟨⟨hn1, hn2, QLX (hnw ▸ hn2)⟩, hO, q1, q2, q4, hb2, hbw⟩
    ·
     clear hO q1 q2 q4 hb2 hbw
     rintro n wn ⟨⟨hn1, hn2, hfit⟩, hO, q1, q2, q4, hb2, hbw⟩
     cases u
     ·
      have hsn2 : nd = nw := hsn;obtain ⟨bA, oA, rfl, _⟩ := hd2.at_ (by omega)
      have hlc := QFA hd2;have hW := ZH hO (w1 := wn) ⟨rfl, rfl, rfl, Nat.le_refl _, fun _ _ _ => rfl⟩ hb2.size
      clear hW;have lt_1 := q1.lt;have lt_2 := q2.lt;have lt_4 := q4.lt;refine EC.regionS [[], [], [], [2], [], [2, 3, 4], [2, 3, 4, 5], [1, 2, 3, 4, 5, 6], [], [8], [8, 9], [], [8, 9, 10, 11], [1, 2, 3, 4, 5, 6, 7], [0, 1, 2, 3, 4, 5, 6, 7, 8, 9, 10, 11, 12, 13], [0, 1, 2, 3, 4, 5, 6, 7, 8, 9, 10, 11, 12, 13, 14]] 14 [] [7] (fun fl w_ => wn.grownBy w_ (v8 : Value).ownBlock ∧ (fl 7 = false → w_.ownsRow wq1.heap.size 87 2 v8 i (spsC d.plan))) (phiS (fun i_ r => match i_ with | 0 => r 0 = .int .i64 ((uI false : Nat) : Int) | 1 => r 1 = v8 | 2 => r 2 = .int .i64 ((uI false : Nat) : Int) | 3 => r 3 = .bool false | 4 => r 4 = .int .i64 (n : Nat) | 5 => r 5 = .agg #[.bool false, .int .i64 (n : Nat)] | 8 => r 8 = .int .i64 ((uI false : Nat) : Int) | 9 => r 9 = .pointer (some ⟨g4, 0 + 0, none⟩) | 10 => r 10 = .slice (some ⟨bA, oA, none⟩) nd cd | 11 => r 11 = .int .i64 (n : Nat) | 12 => r 12 = .slice (QAj (some ⟨bA, oA, none⟩) cd n) (nd - n) (cd - n) | _ => True) [(6, fun fl r w_ => fl 7 = false → (∃ g_, r 6 = .slice (some ⟨g_, 0, none⟩) 1 1 ∧ Blk w_ g_ 87 #[.bool false, .int .i64 (n : Nat)] ∧ wn.heap.size ≤ g_)), (7, fun _ r w_ => w_.ownsRow wq1.heap.size 87 2 (r 7) (i + 1) ((spsC d.plan) ++ [.bool false, .int .i64 (n : Nat)]) ∧ ∀ b, (r 7).ownBlock = some b → (v8 : Value).ownBlock = some b ∨ wn.heap.size ≤ b), (13, fun _ r w_ => r 13 = r 7)]) (by kernel_rfl) rfl rfl (by intro i hi; simp at hi; subst hi; exact ⟨by simp, by omega⟩) (QAe hO) (ZK (Yk Yz) (ZK (Y6 (e := 7) (C := fun u_ => ∀ b, u_.ownBlock = some b → (v8 : Value).ownBlock = some b ∨ wn.heap.size ≤ b)) (ZK (fun _ _ _ _ _ h => h) (Zb)))) (fun i_ hi_ hs_ => ?_) (fun i_ hi_ => ?_) ?_
      ·match i_, hi_ with
       | 0, _ =>
        intro val fl w1 a hb ha hd hfl;obtain ⟨hgb, hg0⟩ := hb;have hb := ZH hO hgb hb2.size;have ha := ha.s0 (d := 10) rfl
        exact ZC ha rfl rfl (x_move rfl) rfl rfl
       | 1, _ =>
        intro val fl w1 a hb ha hd hfl;obtain ⟨hgb, hg0⟩ := hb;have hb := ZH hO hgb hb2.size;have ha := ha.s0 (d := 8) rfl
        exact ZC ha rfl rfl (x_move rfl) rfl rfl
       | 2, _ =>
        intro val fl w1 a hb ha hd hfl;obtain ⟨hgb, hg0⟩ := hb;have hb := ZH hO hgb hb2.size;have ha := ha.s0 (d := 10) rfl
        exact ZC ha rfl rfl (x_move rfl) rfl rfl
       | 3, _ =>
        intro val fl w1 a hb ha hd hfl;obtain ⟨hgb, hg0⟩ := hb;have hb := ZH hO hgb hb2.size;have e2 : val 2 = _ := hd 2 (ZA.1 rfl);have ha := ha.s1 (d := 89) rfl e2
        exact ZC ha rfl rfl (Z4 (r := false) rfl rfl rfl) rfl rfl
       | 4, _ =>
        intro val fl w1 a hb ha hd hfl;obtain ⟨hgb, hg0⟩ := hb;have hb := ZH hO hgb hb2.size;have ha := ha.s0 (d := 11) rfl
        exact ZC ha rfl rfl (x_move rfl) rfl rfl
       | 5, _ =>
        intro val fl w1 a hb ha hd hfl;obtain ⟨hgb, hg0⟩ := hb;have hb := ZH hO hgb hb2.size;have e3 : val 3 = _ := hd 3 (ZA.1 rfl);have e4 : val 4 = _ := hd 4 (ZA.1 rfl);have ha := ha.s2 (d := 91) (e := 90) rfl e4 rfl e3
        exact ZC ha rfl rfl (Y8 rfl rfl) rfl rfl
       | 6, _ =>
        intro val fl w1 a hb ha hd hfl;obtain ⟨hgb, hg0⟩ := hb;have hb := ZH hO hgb hb2.size;have e5 : val 5 = _ := hd 5 (ZA.1 rfl);have ha := ha.s1 (d := 92) rfl e5
        exact QBC ha rfl rfl (QDp rfl) rfl (fun g w' hq _ hge => fun _ => ⟨g, rfl, hq, Nat.le_trans hgb.size hge⟩)
       | 7, _ =>
        exact absurd (by simp) hs_
       | 8, _ =>
        intro val fl w1 a hb ha hd hfl;obtain ⟨hgb, hg0⟩ := hb;have hb := ZH hO hgb hb2.size;have ha := ha.s0 (d := 10) rfl
        exact ZC ha rfl rfl (x_move rfl) rfl rfl
       | 9, _ =>
        intro val fl w1 a hb ha hd hfl;obtain ⟨hgb, hg0⟩ := hb;have hb := ZH hO hgb hb2.size;have e8 : val 8 = _ := hd 8 (ZA.1 rfl);have ha := ha.sub (Sub.ins (d := 95) (Sub.ins (d := 7) (Sub.nil _) rfl) (ZN rfl e8))
        exact ZC ha rfl rfl (Y2 (k := 0) rfl rfl (by omega)) rfl rfl
       | 10, _ =>
        intro val fl w1 a hb ha hd hfl;obtain ⟨hgb, hg0⟩ := hb;have hb := ZH hO hgb hb2.size;have e9 : val 9 = _ := hd 9 (ZA.1 rfl);have ha := ha.s1 (d := 96) rfl e9
        exact ZC ha rfl rfl (YI rfl ((ZO q4 hO rfl hgb).at (j := 0) rfl)) rfl rfl
       | 11, _ =>
        intro val fl w1 a hb ha hd hfl;obtain ⟨hgb, hg0⟩ := hb;have hb := ZH hO hgb hb2.size;have ha := ha.s0 (d := 11) rfl
        exact ZC ha rfl rfl (x_move rfl) rfl rfl
       | 12, _ =>
        intro val fl w1 a hb ha hd hfl;obtain ⟨hgb, hg0⟩ := hb;have hb := ZH hO hgb hb2.size;have e10 : val 10 = _ := hd 10 (ZA.1 rfl);have e11 : val 11 = _ := hd 11 (ZA.1 rfl);have ha := ha.s2 (d := 98) (e := 97) rfl e11 rfl e10
        exact ZC ha rfl rfl (QHM (lo := n) rfl rfl (by omega) rfl) rfl rfl
       | 13, _ =>
        intro val fl w1 a hb ha hd hfl;obtain ⟨hgb, hg0⟩ := hb;have hb := ZH hO hgb hb2.size;obtain ⟨ho7_, hn7_⟩ := hd 7 (ZA.1 rfl);change w1.ownsRow _ _ _ (val 7) _ _ at ho7_;obtain ⟨A7_, c7_, e7, _⟩ := (Rd.of_own ho7_).shape;rw [e7] at ho7_;have ha := ha.s1 (d := 94) rfl e7
        exact ZC ha rfl rfl (ZQ rfl) e7.symm rfl
       | k + 14, h => exact absurd h (by omega)
      ·simp only [List.mem_singleton] at hi_; subst hi_
       intro val fl w1 a hb hfi ha hd hfl;obtain ⟨hgb, hg0⟩ := hb;have hb := ZH hO hgb hb2.size;have e1 : val 1 = _ := hd 1 (ZA.1 rfl);obtain ⟨g6_, e6, q6_, h6_⟩ := hd 6 (ZA.1 rfl) hfi;change val 6 = _ at e6;have ha := ha.s2 (d := 93) (e := 88) rfl e6 rfl e1;refine QBB QCZ ha rfl rfl rfl (hg0 hfi) (QAK (l := [.bool false, .int .i64 (n : Nat)]) q6_ rfl) (by intro u hu; simp only [List.mem_cons, List.not_mem_nil, or_false] at hu; rcases hu with rfl | rfl <;> rfl) (by omega) rfl (Nat.le_trans hb2.size hgb.size) ?_
       intro v' w' ho' hgr hat;refine ⟨v', rfl, hgr.size, ⟨Zk hgb hgr, fun h => by rw [ZS] at h; cases h⟩, ⟨ho', fun b hb' => ?_⟩, fun j _ hj hn hA => ?_⟩
       ·rcases hat with h | h
        ·exact .inl (h ▸ hb')
        ·refine .inr ?_
         change v'.ownBlock = some b at hb';rw [h] at hb'
         injection hb' with hb'
         have := hgb.size
         omega
       ·exact ZF (C := fun j => j ≠ 7 ∧ 7 ∉ clsAt [[], [], [], [2], [], [2, 3, 4], [2, 3, 4, 5], [1, 2, 3, 4, 5, 6], [], [8], [8, 9], [], [8, 9, 10, 11], [1, 2, 3, 4, 5, 6, 7], [0, 1, 2, 3, 4, 5, 6, 7, 8, 9, 10, 11, 12, 13], [0, 1, 2, 3, 4, 5, 6, 7, 8, 9, 10, 11, 12, 13, 14]] j) (fun _ _ h => by rw [ZS] at h; cases h) (ZF (fun hc => absurd rfl hc.1) (ZF (fun hc => absurd (ZA.1 rfl) hc.2) (fun _ _ h => h))) j ⟨hj, hn⟩
      ·intro val fl w' hfl hb halc hd
       obtain ⟨hgb, _⟩ := hb;have hb := ZH hO hgb hb2.size;have e0 : val 0 = _ := hd 0 (by omega)
       have e1 : val 1 = _ := hd 1 (by omega)
       have e2 : val 2 = _ := hd 2 (by omega)
       have e3 : val 3 = _ := hd 3 (by omega)
       have e4 : val 4 = _ := hd 4 (by omega)
       have e5 : val 5 = _ := hd 5 (by omega)
       obtain ⟨ho7, hn7⟩ := hd 7 (by omega)
       change w'.ownsRow _ _ _ (val 7) _ _ at ho7;have e8 : val 8 = _ := hd 8 (by omega)
       have e9 : val 9 = _ := hd 9 (by omega)
       have e10 : val 10 = _ := hd 10 (by omega)
       have e11 : val 11 = _ := hd 11 (by omega)
       have e12 : val 12 = _ := hd 12 (by omega)
       have e13 : val 13 = val 7 := hd 13 (by omega)
       refine EL.ends (cs := [_, _, _, _, _, _, val 6, val 7, _, _, _, _, _, _]) ⟨e0, e1, e2, e3, e4, e5, rfl, rfl, e8, e9, e10, e11, e12, e13, trivial⟩ rfl ?_;replace q1 := ZO q1 hO rfl hgb;replace q2 := ZO q2 hO rfl hgb;replace q4 := ZO q4 hO rfl hgb;replace hb2 := hb2.trans (hb.mono (Nat.le_refl _));replace hbw := hbw.trans (hb.mono hwq);obtain ⟨A7, c7, e7_, _⟩ := (Rd.of_own ho7).shape;rw [e7_] at ho7 ⊢;refine EL.val (Y2 (k := 0) rfl rfl (by omega)) rfl ?_
       refine EL.store rfl rfl q4 QHs rfl rfl rfl rfl ?_;intro w7 hq7 hg7;replace q1 := q1.gr hg7 n1_4;replace q2 := q2.gr hg7 n2_4;replace ho7 := ZL ho7 q4 rfl hg7;replace hb2 := ZE hb2 hg7 bhb2_4;replace hbw := ZE hbw hg7 bhbw_4;replace q4 := hq7;clear hg7 hq7;refine EL.nil (EX.blk (EX.seq (EC.region (EL.mv rfl rfl ?_))));refine EL.val (ZR rfl rfl (c := ((i + 1 : Nat) : Int)) ((IntWalk.i64_in _ ⟨by first | omega | (simp only; omega), by first | omega | (simp only; omega)⟩).trans (by first | omega | (simp only; omega)))) rfl ?_
       refine EL.as rfl rfl (EL.nil ?_);have hnx : n ≤ (waitL (qL ts) d.s false).length := by omega
       have hwo := fun v => QGN (q := (qL ts)) (d := d) (u := false) (v := v) (n := n) hnx
       refine EX.roundD ⟨oneD (qL ts) d false n, i + 1, (.slice A7 (i + 1) c7), (QAj (some ⟨bA, oA, none⟩) cd n), nd - n, cd - n, Au, nu, cu⟩ ⟨rfl, rfl, trivial⟩ (by repeat first | with_reducible exact .refl _ | refine sp_ rfl ?_ | exact .refl _ | refine sd_ rfl ?_ | refine sn_ ?_) ⟨PlOk.one hq hpk hn1 hnx hfit, (by rw [QJ5, hi]), (by show nd - n = _; rw [hwo, if_pos rfl, List.length_drop]; omega), (by rw [hwo, if_pos rfl]; exact QJ1 hd2 (by omega)), (by rw [hwo, if_neg (by decide)]; exact hnu), (by rw [hwo, if_neg (by decide)]; exact hu2), (by rw [pl_C]; exact ho7), q1, q2, q4, hb2, hbw⟩ (by have := QDd (q := (qL ts)) (d := d) (u := false) (n := n) hpk.dr hnx; show remD (qL ts) (oneD (qL ts) d false n).s < remD (qL ts) d.s; omega)
     ·
      have hsn2 : nu = nw := hsn;obtain ⟨bA, oA, rfl, _⟩ := hu2.at_ (by omega)
      have hlc := QFA hu2;have hW := ZH hO (w1 := wn) ⟨rfl, rfl, rfl, Nat.le_refl _, fun _ _ _ => rfl⟩ hb2.size
      clear hW;have lt_1 := q1.lt;have lt_2 := q2.lt;have lt_4 := q4.lt;refine EC.regionS [[], [], [], [2], [], [2, 3, 4], [2, 3, 4, 5], [1, 2, 3, 4, 5, 6], [], [8], [8, 9], [], [8, 9, 10, 11], [1, 2, 3, 4, 5, 6, 7], [0, 1, 2, 3, 4, 5, 6, 7, 8, 9, 10, 11, 12, 13], [0, 1, 2, 3, 4, 5, 6, 7, 8, 9, 10, 11, 12, 13, 14]] 14 [] [7] (fun fl w_ => wn.grownBy w_ (v8 : Value).ownBlock ∧ (fl 7 = false → w_.ownsRow wq1.heap.size 87 2 v8 i (spsC d.plan))) (phiS (fun i_ r => match i_ with | 0 => r 0 = .int .i64 ((uI true : Nat) : Int) | 1 => r 1 = v8 | 2 => r 2 = .int .i64 ((uI true : Nat) : Int) | 3 => r 3 = .bool true | 4 => r 4 = .int .i64 (n : Nat) | 5 => r 5 = .agg #[.bool true, .int .i64 (n : Nat)] | 8 => r 8 = .int .i64 ((uI true : Nat) : Int) | 9 => r 9 = .pointer (some ⟨g4, 0 + 1, none⟩) | 10 => r 10 = .slice (some ⟨bA, oA, none⟩) nu cu | 11 => r 11 = .int .i64 (n : Nat) | 12 => r 12 = .slice (QAj (some ⟨bA, oA, none⟩) cu n) (nu - n) (cu - n) | _ => True) [(6, fun fl r w_ => fl 7 = false → (∃ g_, r 6 = .slice (some ⟨g_, 0, none⟩) 1 1 ∧ Blk w_ g_ 87 #[.bool true, .int .i64 (n : Nat)] ∧ wn.heap.size ≤ g_)), (7, fun _ r w_ => w_.ownsRow wq1.heap.size 87 2 (r 7) (i + 1) ((spsC d.plan) ++ [.bool true, .int .i64 (n : Nat)]) ∧ ∀ b, (r 7).ownBlock = some b → (v8 : Value).ownBlock = some b ∨ wn.heap.size ≤ b), (13, fun _ r w_ => r 13 = r 7)]) (by kernel_rfl) rfl rfl (by intro i hi; simp at hi; subst hi; exact ⟨by simp, by omega⟩) (QAe hO) (ZK (Yk Yz) (ZK (Y6 (e := 7) (C := fun u_ => ∀ b, u_.ownBlock = some b → (v8 : Value).ownBlock = some b ∨ wn.heap.size ≤ b)) (ZK (fun _ _ _ _ _ h => h) (Zb)))) (fun i_ hi_ hs_ => ?_) (fun i_ hi_ => ?_) ?_
      ·match i_, hi_ with
       | 0, _ =>
        intro val fl w1 a hb ha hd hfl;obtain ⟨hgb, hg0⟩ := hb;have hb := ZH hO hgb hb2.size;have ha := ha.s0 (d := 10) rfl
        exact ZC ha rfl rfl (x_move rfl) rfl rfl
       | 1, _ =>
        intro val fl w1 a hb ha hd hfl;obtain ⟨hgb, hg0⟩ := hb;have hb := ZH hO hgb hb2.size;have ha := ha.s0 (d := 8) rfl
        exact ZC ha rfl rfl (x_move rfl) rfl rfl
       | 2, _ =>
        intro val fl w1 a hb ha hd hfl;obtain ⟨hgb, hg0⟩ := hb;have hb := ZH hO hgb hb2.size;have ha := ha.s0 (d := 10) rfl
        exact ZC ha rfl rfl (x_move rfl) rfl rfl
       | 3, _ =>
        intro val fl w1 a hb ha hd hfl;obtain ⟨hgb, hg0⟩ := hb;have hb := ZH hO hgb hb2.size;have e2 : val 2 = _ := hd 2 (ZA.1 rfl);have ha := ha.s1 (d := 89) rfl e2
        exact ZC ha rfl rfl (Z4 (r := true) rfl rfl rfl) rfl rfl
       | 4, _ =>
        intro val fl w1 a hb ha hd hfl;obtain ⟨hgb, hg0⟩ := hb;have hb := ZH hO hgb hb2.size;have ha := ha.s0 (d := 11) rfl
        exact ZC ha rfl rfl (x_move rfl) rfl rfl
       | 5, _ =>
        intro val fl w1 a hb ha hd hfl;obtain ⟨hgb, hg0⟩ := hb;have hb := ZH hO hgb hb2.size;have e3 : val 3 = _ := hd 3 (ZA.1 rfl);have e4 : val 4 = _ := hd 4 (ZA.1 rfl);have ha := ha.s2 (d := 91) (e := 90) rfl e4 rfl e3
        exact ZC ha rfl rfl (Y8 rfl rfl) rfl rfl
       | 6, _ =>
        intro val fl w1 a hb ha hd hfl;obtain ⟨hgb, hg0⟩ := hb;have hb := ZH hO hgb hb2.size;have e5 : val 5 = _ := hd 5 (ZA.1 rfl);have ha := ha.s1 (d := 92) rfl e5
        exact QBC ha rfl rfl (QDp rfl) rfl (fun g w' hq _ hge => fun _ => ⟨g, rfl, hq, Nat.le_trans hgb.size hge⟩)
       | 7, _ =>
        exact absurd (by simp) hs_
       | 8, _ =>
        intro val fl w1 a hb ha hd hfl;obtain ⟨hgb, hg0⟩ := hb;have hb := ZH hO hgb hb2.size;have ha := ha.s0 (d := 10) rfl
        exact ZC ha rfl rfl (x_move rfl) rfl rfl
       | 9, _ =>
        intro val fl w1 a hb ha hd hfl;obtain ⟨hgb, hg0⟩ := hb;have hb := ZH hO hgb hb2.size;have e8 : val 8 = _ := hd 8 (ZA.1 rfl);have ha := ha.sub (Sub.ins (d := 95) (Sub.ins (d := 7) (Sub.nil _) rfl) (ZN rfl e8))
        exact ZC ha rfl rfl (Y2 (k := 1) rfl rfl (by omega)) rfl rfl
       | 10, _ =>
        intro val fl w1 a hb ha hd hfl;obtain ⟨hgb, hg0⟩ := hb;have hb := ZH hO hgb hb2.size;have e9 : val 9 = _ := hd 9 (ZA.1 rfl);have ha := ha.s1 (d := 96) rfl e9
        exact ZC ha rfl rfl (YI rfl ((ZO q4 hO rfl hgb).at (j := 1) rfl)) rfl rfl
       | 11, _ =>
        intro val fl w1 a hb ha hd hfl;obtain ⟨hgb, hg0⟩ := hb;have hb := ZH hO hgb hb2.size;have ha := ha.s0 (d := 11) rfl
        exact ZC ha rfl rfl (x_move rfl) rfl rfl
       | 12, _ =>
        intro val fl w1 a hb ha hd hfl;obtain ⟨hgb, hg0⟩ := hb;have hb := ZH hO hgb hb2.size;have e10 : val 10 = _ := hd 10 (ZA.1 rfl);have e11 : val 11 = _ := hd 11 (ZA.1 rfl);have ha := ha.s2 (d := 98) (e := 97) rfl e11 rfl e10
        exact ZC ha rfl rfl (QHM (lo := n) rfl rfl (by omega) rfl) rfl rfl
       | 13, _ =>
        intro val fl w1 a hb ha hd hfl;obtain ⟨hgb, hg0⟩ := hb;have hb := ZH hO hgb hb2.size;obtain ⟨ho7_, hn7_⟩ := hd 7 (ZA.1 rfl);change w1.ownsRow _ _ _ (val 7) _ _ at ho7_;obtain ⟨A7_, c7_, e7, _⟩ := (Rd.of_own ho7_).shape;rw [e7] at ho7_;have ha := ha.s1 (d := 94) rfl e7
        exact ZC ha rfl rfl (ZQ rfl) e7.symm rfl
       | k + 14, h => exact absurd h (by omega)
      ·simp only [List.mem_singleton] at hi_; subst hi_
       intro val fl w1 a hb hfi ha hd hfl;obtain ⟨hgb, hg0⟩ := hb;have hb := ZH hO hgb hb2.size;have e1 : val 1 = _ := hd 1 (ZA.1 rfl);obtain ⟨g6_, e6, q6_, h6_⟩ := hd 6 (ZA.1 rfl) hfi;change val 6 = _ at e6;have ha := ha.s2 (d := 93) (e := 88) rfl e6 rfl e1;refine QBB QCZ ha rfl rfl rfl (hg0 hfi) (QAK (l := [.bool true, .int .i64 (n : Nat)]) q6_ rfl) (by intro u hu; simp only [List.mem_cons, List.not_mem_nil, or_false] at hu; rcases hu with rfl | rfl <;> rfl) (by omega) rfl (Nat.le_trans hb2.size hgb.size) ?_
       intro v' w' ho' hgr hat;refine ⟨v', rfl, hgr.size, ⟨Zk hgb hgr, fun h => by rw [ZS] at h; cases h⟩, ⟨ho', fun b hb' => ?_⟩, fun j _ hj hn hA => ?_⟩
       ·rcases hat with h | h
        ·exact .inl (h ▸ hb')
        ·refine .inr ?_
         change v'.ownBlock = some b at hb';rw [h] at hb'
         injection hb' with hb'
         have := hgb.size
         omega
       ·exact ZF (C := fun j => j ≠ 7 ∧ 7 ∉ clsAt [[], [], [], [2], [], [2, 3, 4], [2, 3, 4, 5], [1, 2, 3, 4, 5, 6], [], [8], [8, 9], [], [8, 9, 10, 11], [1, 2, 3, 4, 5, 6, 7], [0, 1, 2, 3, 4, 5, 6, 7, 8, 9, 10, 11, 12, 13], [0, 1, 2, 3, 4, 5, 6, 7, 8, 9, 10, 11, 12, 13, 14]] j) (fun _ _ h => by rw [ZS] at h; cases h) (ZF (fun hc => absurd rfl hc.1) (ZF (fun hc => absurd (ZA.1 rfl) hc.2) (fun _ _ h => h))) j ⟨hj, hn⟩
      ·intro val fl w' hfl hb halc hd
       obtain ⟨hgb, _⟩ := hb;have hb := ZH hO hgb hb2.size;have e0 : val 0 = _ := hd 0 (by omega)
       have e1 : val 1 = _ := hd 1 (by omega)
       have e2 : val 2 = _ := hd 2 (by omega)
       have e3 : val 3 = _ := hd 3 (by omega)
       have e4 : val 4 = _ := hd 4 (by omega)
       have e5 : val 5 = _ := hd 5 (by omega)
       obtain ⟨ho7, hn7⟩ := hd 7 (by omega)
       change w'.ownsRow _ _ _ (val 7) _ _ at ho7;have e8 : val 8 = _ := hd 8 (by omega)
       have e9 : val 9 = _ := hd 9 (by omega)
       have e10 : val 10 = _ := hd 10 (by omega)
       have e11 : val 11 = _ := hd 11 (by omega)
       have e12 : val 12 = _ := hd 12 (by omega)
       have e13 : val 13 = val 7 := hd 13 (by omega)
       refine EL.ends (cs := [_, _, _, _, _, _, val 6, val 7, _, _, _, _, _, _]) ⟨e0, e1, e2, e3, e4, e5, rfl, rfl, e8, e9, e10, e11, e12, e13, trivial⟩ rfl ?_;replace q1 := ZO q1 hO rfl hgb;replace q2 := ZO q2 hO rfl hgb;replace q4 := ZO q4 hO rfl hgb;replace hb2 := hb2.trans (hb.mono (Nat.le_refl _));replace hbw := hbw.trans (hb.mono hwq);obtain ⟨A7, c7, e7_, _⟩ := (Rd.of_own ho7).shape;rw [e7_] at ho7 ⊢;refine EL.val (Y2 (k := 1) rfl rfl (by omega)) rfl ?_
       refine EL.store rfl rfl q4 QHs rfl rfl rfl rfl ?_;intro w8 hq8 hg8;replace q1 := q1.gr hg8 n1_4;replace q2 := q2.gr hg8 n2_4;replace ho7 := ZL ho7 q4 rfl hg8;replace hb2 := ZE hb2 hg8 bhb2_4;replace hbw := ZE hbw hg8 bhbw_4;replace q4 := hq8;clear hg8 hq8;refine EL.nil (EX.blk (EX.seq (EC.region (EL.mv rfl rfl ?_))));refine EL.val (ZR rfl rfl (c := ((i + 1 : Nat) : Int)) ((IntWalk.i64_in _ ⟨by first | omega | (simp only; omega), by first | omega | (simp only; omega)⟩).trans (by first | omega | (simp only; omega)))) rfl ?_
       refine EL.as rfl rfl (EL.nil ?_);have hnx : n ≤ (waitL (qL ts) d.s true).length := by omega
       have hwo := fun v => QGN (q := (qL ts)) (d := d) (u := true) (v := v) (n := n) hnx
       refine EX.roundD ⟨oneD (qL ts) d true n, i + 1, (.slice A7 (i + 1) c7), Ad, nd, cd, (QAj (some ⟨bA, oA, none⟩) cu n), nu - n, cu - n⟩ ⟨rfl, rfl, trivial⟩ (by repeat first | with_reducible exact .refl _ | refine sp_ rfl ?_ | exact .refl _ | refine sd_ rfl ?_ | refine sn_ ?_) ⟨PlOk.one hq hpk hn1 hnx hfit, (by rw [QJ5, hi]), (by rw [hwo, if_neg (by decide)]; exact hnd), (by rw [hwo, if_neg (by decide)]; exact hd2), (by show nu - n = _; rw [hwo, if_pos rfl, List.length_drop]; omega), (by rw [hwo, if_pos rfl]; exact QJ1 hu2 (by omega)), (by rw [pl_C]; exact ho7), q1, q2, q4, hb2, hbw⟩ (by have := QDd (q := (qL ts)) (d := d) (u := true) (n := n) hpk.dr hnx; show remD (qL ts) (oneD (qL ts) d true n).s < remD (qL ts) d.s; omega)
/-! ### How often the chamber was filled and emptied in m movements -/
def fiN (h : Bool) (m : Nat) : Nat := if h = true then m / 2 else (m + 1) / 2
def emN (h : Bool) (m : Nat) : Nat := if h = true then (m + 1) / 2 else m / 2
def hiN (h : Bool) (m : Nat) : Bool := if m % 2 = 1 then !h else h
def baN (l : LK) (m : Nat) : Int := if hiN l.high m = true then 0 else if emN l.high m = 0 then 0 else Y1 l
def chN (l : LK) (m : Nat) : Int := if hiN l.high m = true then (if l.high = true then 0 else l.fill) else (if l.high = true then -l.fill else 0)
theorem QLp (h : Bool) (m : Nat) : hiN h (m + 1) = !hiN h m := by
 unfold hiN
 by_cases e : m % 2 = 1
 ·rw [if_pos e, if_neg (by omega)]; cases h <;> rfl
 ·rw [if_neg e, if_pos (by omega)]
theorem QMp {h : Bool} {m : Nat} (hv : hiN h m = true) : fiN h (m + 1) = fiN h m ∧ emN h (m + 1) = emN h m + 1 := by
 unfold hiN at hv
 unfold fiN emN
 cases h <;> simp at hv ⊢ <;> omega
theorem QMq {h : Bool} {m : Nat} (hv : hiN h m = false) : fiN h (m + 1) = fiN h m + 1 ∧ emN h (m + 1) = emN h m := by
 unfold hiN at hv
 unfold fiN emN
 cases h <;> simp at hv ⊢ <;> omega
structure WS (l : LK) (s : ST) (P : Int) (m : Nat) : Prop where
 mv : s.mv = (m : Int)
 lk : s.lk = lkW l (hiN l.high m)
 up : s.up + P = (emN l.high m : Int) * Y1 l - (fiN l.high m : Int) * l.fill - baN l m
 ch : s.ch = chN l m
 ba : s.ba = baN l m
 sum : s.up + s.lo + s.ch + s.ba = 0
theorem WS.start (l : LK) : WS l (stL l) 0 0 := by
 have hb : baN l 0 = 0 := by unfold baN emN; cases l.high <;> simp
 have hc : chN l 0 = 0 := by unfold chN hiN; cases l.high <;> simp
 refine ⟨rfl, (QKP l).symm, ?_, hc.symm, hb.symm, rfl⟩;rw [hb];have e1 : emN l.high 0 = 0 := by unfold emN; cases l.high <;> rfl
 have e2 : fiN l.high 0 = 0 := by unfold fiN; cases l.high <;> rfl
 rw [e1, e2]
 simp [stL]
section
variable {l : LK} {s : ST} {P : Int} {m : Nat}
theorem WS.mvS (h : WS l s P m) : WS l (mvS s) P (m + 1) := by
 obtain ⟨h1, h2, h3, h4, h5, h6⟩ := h;have hs := QLp l.high m;have hf : s.lk.fill = l.fill := by rw [h2]; rfl
 have hk : Y1 s.lk = Y1 l := by rw [h2]; rfl
 cases hv : hiN l.high m with
 | true =>
  obtain ⟨e1, e2⟩ := QMp hv;have hh : s.lk.high = true := by rw [h2]; exact hv
  have e3 : Go.Proofs.Ytlbfnimilcnihaa.mvS s = ⟨lkW s.lk false, s.up, s.lo + s.lk.fill - Y1 s.lk, s.ch - s.lk.fill, s.ba + Y1 s.lk, s.mv + 1, s.fr, s.t0, s.t1, s.cost⟩ := by unfold Go.Proofs.Ytlbfnimilcnihaa.mvS; rw [if_pos hh]
  rw [hv] at hs;have hs : hiN l.high (m + 1) = false := hs;have b0 : baN l m = 0 := by unfold baN; rw [if_pos hv]
  have b1 : baN l (m + 1) = Y1 l := by unfold baN; rw [if_neg (by rw [hs]; decide), if_neg (by rw [e2]; omega)]
  have c0 : chN l m = if l.high = true then 0 else l.fill := by unfold chN; rw [if_pos hv]
  have c1 : chN l (m + 1) = if l.high = true then -l.fill else 0 := by unfold chN; rw [if_neg (by rw [hs]; decide)]
  rw [e3];refine ⟨by show s.mv + 1 = _; omega, ?_, ?_, ?_, ?_, ?_⟩
  ·show lkW s.lk false = _
   rw [h2, hs]
   rfl
  ·show s.up + P = _
   rw [h3, e1, e2, b0, b1, Int.natCast_add, Int.add_mul]
   omega
  ·show s.ch - s.lk.fill = _
   rw [h4, c0, c1, hf]
   split <;> omega
  ·show s.ba + Y1 s.lk = _
   rw [h5, b0, b1, hk]
   omega
  ·show s.up + (s.lo + s.lk.fill - Y1 s.lk) + (s.ch - s.lk.fill) + (s.ba + Y1 s.lk) = 0
   omega
 | false =>
  obtain ⟨e1, e2⟩ := QMq hv;have hh : s.lk.high = false := by rw [h2]; exact hv
  have e3 : Go.Proofs.Ytlbfnimilcnihaa.mvS s = ⟨lkW s.lk true, s.up - s.lk.fill + s.ba, s.lo, s.ch + s.lk.fill, 0, s.mv + 1, s.fr, s.t0, s.t1, s.cost⟩ := by unfold Go.Proofs.Ytlbfnimilcnihaa.mvS; rw [if_neg (by rw [hh]; decide)]
  rw [hv] at hs;have hs : hiN l.high (m + 1) = true := hs;have b1 : baN l (m + 1) = 0 := by unfold baN; rw [if_pos hs]
  have c0 : chN l m = if l.high = true then -l.fill else 0 := by unfold chN; rw [if_neg (by rw [hv]; decide)]
  have c1 : chN l (m + 1) = if l.high = true then 0 else l.fill := by unfold chN; rw [if_pos hs]
  rw [e3];refine ⟨by show s.mv + 1 = _; omega, ?_, ?_, ?_, ?_, ?_⟩
  ·show lkW s.lk true = _
   rw [h2, hs]
   rfl
  ·show s.up - s.lk.fill + s.ba + P = _
   rw [e1, e2, b1, Int.natCast_add, Int.add_mul, hf, h5]
   omega
  ·show s.ch + s.lk.fill = _
   rw [h4, c0, c1, hf]
   split <;> omega
  ·exact b1.symm
  ·show s.up - s.lk.fill + s.ba + s.lo + (s.ch + s.lk.fill) + 0 = 0
   omega
theorem WS.mvN (h : WS l s P m) : ∀ n, WS l (mvN n s) P (m + n)
 | 0 => h
 | n + 1 => (h.mvN n).mvS
theorem WS.turn (h : WS l s P m) (u : Bool) : ∃ m1, m ≤ m1 ∧ WS l (Zu s u) P m1 := by
 unfold Zu
 split
 ·have k := h.mvS
  exact ⟨m + 1, by omega, ⟨k.mv, k.lk, k.up, k.ch, k.ba, k.sum⟩⟩
 ·exact ⟨m, by omega, h⟩
end
/-! ### Along a plan -/
theorem QLH {l : LK} {q : QS} {d : Dr} {k : Nat} (hQ : QOk l q) (h : PlOk l q d) (hk : k < d.plan.length) :
  DrOk l q ⟨sAt l q d.plan k, d.plan.take k⟩ ∧ (∀ t ∈ twAt l q d.plan k, twB l t = true) ∧ (sAt l q d.plan k).t0 + (sAt l q d.plan k).t1 + (twAt l q d.plan k).length ≤ 8 ∧ 1 ≤ (twAt l q d.plan k).length ∧ (twAt l q d.plan k).length ≤ (waitL q (sAt l q d.plan k) (d.plan.getD k sp0).up).length ∧ (waitL q (sAt l q d.plan k) (d.plan.getD k sp0).up).take (twAt l q d.plan k).length = twAt l q d.plan k ∧ (d.plan.getD k sp0).tows = (((twAt l q d.plan k).length : Nat) : Int) ∧ fitB l.length (twAt l q d.plan k) = true := by
 obtain ⟨hd, ht⟩ := QEc hQ (Nat.le_of_lt hk) (fun i hi => (h.at_ i (by omega)).1) (fun i hi => (h.at_ i (by omega)).2)
 obtain ⟨a, b⟩ := QCP (h.at_ k hk).1;have hu := ht (d.plan.getD k sp0).up;have hw : (d.plan.getD k sp0).tows.toNat ≤ (waitL q (sAt l q d.plan k) (d.plan.getD k sp0).up).length := by
  rw [Zz]
  unfold Zj at b
  omega
 have hl : (twAt l q d.plan k).length = (d.plan.getD k sp0).tows.toNat := Zh (d := ⟨sAt l q d.plan k, d.plan.take k⟩) hw;have hf := (h.at_ k hk).2
 unfold QA4 at hf
 have hlk : (sAt l q d.plan k).lk.length = l.length := hd.lkl;rw [hlk] at hf;refine ⟨hd, Yi (d := ⟨sAt l q d.plan k, d.plan.take k⟩) hQ, ?_, by omega, by omega, by rw [hl]; rfl, by omega, hf⟩
 rw [hl]
 exact QAh hQ hd hw
section
variable {n : Nat} {σ : Sg} {w : World} {dst : Option Tmp} {ty : TypeId} {pos : String} {af : Array Edge} {g : Option (Nat × Bool)} {x y z : Operand} {at' : Array TypeId}
theorem cF32 : cF 32 := fun _ _ => by simp [go_sem]
theorem cF33 : cF 33 := fun _ _ => by simp [go_sem]
end
theorem QJu {x : Sml} {l : LK} (hl : l = Zp x) (hx : SmlOk x) {At As : Option Addr} {ct cs : Nat} {w : World} : Calls Try.prog 31 #[.agg #[.int .u8 x.a0, .int .u8 x.a1, .int .u8 x.a2, .int .u8 x.a3, .int .u8 x.a4, .bool x.hi, .slice At x.tows.length ct, .slice As x.steps.length cs]] w fun e w' => e = .returned (.agg #[.int .i64 l.length, .int .i64 l.cycle, .int .i64 l.turn, .int .i64 l.fill, .int .i64 l.save, .bool l.high]) ∧ Below w.heap.size w w' := hl ▸ QE_ hx w
theorem QJq {x : Sml} {ts : List TW} {m : Nat} (hts : ts = QAx x m) (hx : SmlOk x) {At As : Option Addr} {ct cs : Nat} {w : World} {B : Nat} (hr : Rd w B 5 (.slice At x.tows.length ct) x.tows.length (e5s x.tows)) (hB : B ≤ w.heap.size) (hm : m ≤ 1000) :
  Calls Try.prog 32 #[.agg #[.int .u8 x.a0, .int .u8 x.a1, .int .u8 x.a2, .int .u8 x.a3, .int .u8 x.a4, .bool x.hi, .slice At x.tows.length ct, .slice As x.steps.length cs], .int .i64 (m : Nat)] w fun e w' => (∃ v', e = .returned v' ∧ w'.ownsRow w.heap.size 39 5 v' ts.length (twsC ts)) ∧ Below w.heap.size w w' := hts ▸ QIy hx hr hB hm
theorem QEC {l : LK} {ts : List TW} {d : Dr} (he : towE l ts = 0) (h : PlOk l (qL ts) d) (hc : YJ (qL ts) d.s = true) : Zt l ts d.plan = 0 ∧ endP l ts d.plan = d.s ∧ QD4 l ts d.plan = YQ l (qL ts) d.plan d.plan.length := by
 obtain ⟨a, b⟩ := h.ok hc;have e : Zt l ts d.plan = 0 := by unfold Zt; rw [if_pos he, if_pos a, if_pos b]
 exact ⟨e, by rw [QKm e]; exact h.end_, QHy e⟩
theorem QI2 (l : LK) (q : QS) (p : List SP) (k : Nat) : (YQ l q p k).length = k := by simp [YQ]
theorem QEo {l : LK} {ts : List TW} {p : List SP} {s : ST} {v vp : Value} {w : World} {B : Nat} (hce : Zt l ts p = 0) (hen : endP l ts p = s) (hr : Rd w B 5 v ts.length (twsC ts)) (hp : Rd w B 2 vp p.length (spsC p)) (hB : B ≤ w.heap.size) (hpn : p.length ≤ 1000000) :
  Calls Try.prog 17 #[.agg #[.int .i64 l.length, .int .i64 l.cycle, .int .i64 l.turn, .int .i64 l.fill, .int .i64 l.save, .bool l.high], v, vp] w fun e w' => e = .returned (.tuple #[.agg #[.int .i64 s.up, .int .i64 s.lo, .int .i64 s.ch, .int .i64 s.ba], .int .i64 0]) ∧ Below w.heap.size w w' := by
 have h := QFV (l := l) hr hp hB hpn;rw [hce, hen] at h
 exact h
theorem QK6 {l : LK} {ts : List TW} {p : List SP} {s : ST} {v vp : Value} {w : World} {B : Nat} (hce : Zt l ts p = 0) (hen : endP l ts p = s) (hru : QD4 l ts p = YQ l (qL ts) p p.length) (hr : Rd w B 5 v ts.length (twsC ts)) (hp : Rd w B 2 vp p.length (spsC p)) (hB : B ≤ w.heap.size) (hpn : p.length ≤ 1000000) :
  Calls Try.prog 16 #[.agg #[.int .i64 l.length, .int .i64 l.cycle, .int .i64 l.turn, .int .i64 l.fill, .int .i64 l.save, .bool l.high], v, vp] w fun e w' => (∃ A c, e = .returned (.tuple #[.slice A p.length c, .int .i64 s.cost, .int .i64 s.mv, .int .i64 0]) ∧ w'.ownsRow w.heap.size 49 2 (.slice A p.length c) p.length (rnsC (YQ l (qL ts) p p.length))) ∧ Below w.heap.size w w' := by
 have h := QIt (l := l) hr hp hB hpn;rw [hce, hen, hru, QI2] at h;refine h.mono fun e w' ⟨sl, he, ho, hb⟩ => ⟨?_, hb⟩
 obtain ⟨A, c, rfl, _⟩ := (Rd.of_own ho).shape
 exact ⟨A, c, he, ho⟩
def updG {α : Type} (bet : α → α → Bool) (f : Option α) (d : α) : Option α := match f with
 | none => some d
 | some e => if bet d e = true then some d else some e
/-! ### The first of the best -/
theorem QFy {α : Type} {bet : α → α → Bool} {le pre : α → α → Prop} (hr : ∀ a, le a a) (ht : ∀ a b c, le a b → le b c → le a c) (hy : ∀ a b, bet a b = true → le a b) (hn : ∀ a b, bet b a = false → pre a b → le a b) :
  ∀ (rest : List α) (r : α) (done : List α), (∀ x ∈ done, le r x) → r ∈ done → (∀ a ∈ done, ∀ b ∈ rest, pre a b) → rest.Pairwise pre → ∃ r', rest.foldl (updG bet) (some r) = some r' ∧ r' ∈ done ++ rest ∧ ∀ x ∈ done ++ rest, le r' x
 | [], r, done, h1, h2, _, _ => ⟨r, rfl, by simpa using h2, by simpa using h1⟩
 | d :: rest, r, done, h1, h2, h3, h4 => by
  obtain ⟨h5, h6⟩ := List.pairwise_cons.1 h4;have hp : ∀ a ∈ done ++ [d], ∀ b ∈ rest, pre a b := fun a ha b hb => by
   rcases List.mem_append.1 ha with ha | ha
   ·exact h3 a ha b (List.mem_cons_of_mem _ hb)
   ·rw [List.mem_singleton.1 ha]; exact h5 b hb
  rw [List.foldl_cons];have hz : ∀ x, x ∈ done ++ [d] ++ rest ↔ x ∈ done ++ d :: rest := fun x => by simp
  cases hb : bet d r with
  | true =>
   have e : updG bet (some r) d = some d := by simp [updG, hb]
   rw [e];obtain ⟨r', e1, e2, e3⟩ := QFy hr ht hy hn rest d (done ++ [d]) (fun x hx => by
    rcases List.mem_append.1 hx with hx | hx
    ·exact ht _ _ _ (hy _ _ hb) (h1 x hx)
    ·rw [List.mem_singleton.1 hx]; exact hr _) (by simp) hp h6
   exact ⟨r', e1, (hz _).1 e2, fun x hx => e3 x ((hz _).2 hx)⟩
  | false =>
   have e : updG bet (some r) d = some r := by simp [updG, hb]
   rw [e];obtain ⟨r', e1, e2, e3⟩ := QFy hr ht hy hn rest r (done ++ [d]) (fun x hx => by
    rcases List.mem_append.1 hx with hx | hx
    ·exact h1 x hx
    ·rw [List.mem_singleton.1 hx]; exact hn _ _ hb (h3 r h2 d (List.mem_cons_self ..))) (List.mem_append_left _ h2) hp h6
   exact ⟨r', e1, (hz _).1 e2, fun x hx => e3 x ((hz _).2 hx)⟩
theorem QHZ {α : Type} {bet : α → α → Bool} {le pre : α → α → Prop} (hr : ∀ a, le a a) (ht : ∀ a b c, le a b → le b c → le a c) (hy : ∀ a b, bet a b = true → le a b) (hn : ∀ a b, bet b a = false → pre a b → le a b) {l : List α} (h : l.Pairwise pre) (h0 : l ≠ []) :
  ∃ r, l.foldl (updG bet) none = some r ∧ r ∈ l ∧ ∀ x ∈ l, le r x := by
 cases l with
 | nil => exact absurd rfl h0
 | cons d l =>
  obtain ⟨h1, h2⟩ := List.pairwise_cons.1 h;obtain ⟨r, e1, e2, e3⟩ := QFy hr ht hy hn l d [d] (fun x hx => by rw [List.mem_singleton.1 hx]; exact hr _) (by simp) (fun a ha b hb => by rw [List.mem_singleton.1 ha]; exact h1 b hb) h2
  exact ⟨r, e1, e2, e3⟩
/-! ### The program's choice is the reference's -/
theorem QEY (a b : Int) : (a < b ∧ cmpI a b = -1) ∨ (a = b ∧ cmpI a b = 0) ∨ (b < a ∧ cmpI a b = 1) := by
 unfold cmpI
 by_cases h1 : a < b
 ·exact .inl ⟨h1, if_pos h1⟩
 ·by_cases h2 : b < a
  ·exact .inr (.inr ⟨h2, by rw [if_neg h1, if_pos h2]⟩)
  ·exact .inr (.inl ⟨by omega, by rw [if_neg h1, if_neg h2]⟩)
theorem QCp {a b : Dr} : leD a b ↔ a.s.cost < b.s.cost ∨ a.s.cost = b.s.cost ∧ (a.s.mv < b.s.mv ∨ a.s.mv = b.s.mv ∧ cmpL a.plan b.plan ≤ 0) := by
 unfold leD cmpD
 rw [QMR]
 unfold or3
 rcases QEY a.s.cost b.s.cost with ⟨h, e⟩ | ⟨h, e⟩ | ⟨h, e⟩ <;> rw [e]
 ·rw [if_neg (by decide)]; omega
 ·rw [if_pos rfl]
  rcases QEY a.s.mv b.s.mv with ⟨k, e⟩ | ⟨k, e⟩ | ⟨k, e⟩ <;> rw [e]
  ·rw [if_neg (by decide)]; omega
  ·rw [if_pos rfl]; omega
  ·rw [if_neg (by decide)]; omega
 ·rw [if_neg (by decide)]; omega
def leT (a b : Dr) : Prop := b.s.up < a.s.up ∨ a.s.up = b.s.up ∧ leD a b
theorem QKS (a : Dr) : leT a a := .inr ⟨rfl, QAG a⟩
theorem QJD (a b c : Dr) (h : leT a b) (k : leT b c) : leT a c := by
 rcases h with h | ⟨h, h2⟩ <;> rcases k with k | ⟨k, k2⟩
 ·exact .inl (by omega)
 ·exact .inl (by omega)
 ·exact .inl (by omega)
 ·exact .inr ⟨by omega, Yq h2 k2⟩
theorem QFS {l : LK} {q : QS} (hq : QOk l q) : ∀ {k : Nat} {d : Dr}, DrOk l q d → remD q d.s ≤ k → YU q k d ≠ []
 | k, d, h, hr => by
  by_cases hc : YJ q d.s = true
  ·cases k <;> rw [YU, if_pos hc] <;> simp
  ·have h0 : 0 < remD q d.s := Nat.pos_of_ne_zero fun e => hc ((QEX h).2 e)
   obtain ⟨k, rfl⟩ : ∃ j, k = j + 1 := ⟨k - 1, by omega⟩
   have hw : ∃ u, 0 < (waitL q d.s u).length := by
    rcases Nat.lt_or_ge 0 ((q false).length - d.s.t0) with h1 | h1
    ·exact ⟨false, by rw [Zz]; exact h1⟩
    ·refine ⟨true, ?_⟩
     rw [Zz]
     unfold remD at h0
     show 0 < (q true).length - d.s.t1
     omega
   obtain ⟨u, hu⟩ := hw;have hf : fitN q d.s u 1 = true := by
    have : ((waitL q d.s u).take 1).length = 1 := by rw [List.length_take]; omega
    unfold fitN fitB
    rw [this]
    simp
   have hc1 : 0 < (cntU q d.s u).length := (QA6 (Nat.zero_le _) hu).1 hf;have hn : 0 < (nextL q d).length := by
    rw [QB4]
    unfold cntN
    cases u <;> omega
   cases e : nextL q d with
   | nil => rw [e] at hn; cases hn
   | cons x xs =>
    have hx : x ∈ nextL q d := by rw [e]; exact List.mem_cons_self ..
    obtain ⟨a, _, c⟩ := QBG hq h hx;have := QFS hq (k := k) a (by omega)
    rw [YU, e, List.flatMap_cons];intro h2;have h3 := (List.append_eq_nil_iff.1 h2).2
    exact this (List.append_eq_nil_iff.1 h3).1
theorem QEi (l : LK) (q : QS) : (allD l q).Perm (YU q 8 ⟨stL l, []⟩) := Yj _
theorem QCH {most : Int} : ∀ {l : List Dr}, l.Pairwise leD → thrL most l = l.filter fun d => !(true && decide (most < d.s.cost))
 | [], _ => rfl
 | d :: l, h => by
  obtain ⟨h1, h2⟩ := List.pairwise_cons.1 h;have ih := QCH (most := most) h2
  unfold thrL at ih ⊢
  rw [List.takeWhile_cons, List.filter_cons]
  by_cases hc : d.s.cost ≤ most
  ·rw [if_pos (decide_eq_true hc), if_pos (by simpa using hc), ih]
  ·rw [if_neg (by simpa using hc), if_neg (by simpa using hc)]
   refine (List.filter_eq_nil_iff.2 fun x hx => ?_).symm
   have := QCp.1 (h1 x hx)
   simp
   omega
theorem QLD (l : List Dr) : thrB l = l.foldl (updG fun a b => decide (b.s.up < a.s.up)) none := by
 unfold thrB
 congr 1
 funext b d
 cases b with
 | none => rfl
 | some e => simp [updB, updG]
/-- a slice that is read, in a block behind g -/
def RdX (w : World) (g size : Nat) (v : Value) (n : Nat) (xs : List Value) : Prop :=
 xs.length = n * size ∧ ∃ A c, v = .slice A n c ∧ n ≤ c ∧ (0 < n → ∃ b off, A = some ⟨b, off, none⟩ ∧ b < w.heap.size ∧ g < b ∧ ∀ j u, xs[j]? = some u → w.cell? ⟨b, off + j, none⟩ = some u)
section
variable {w w' : World} {B g size n : Nat} {v : Value} {xs : List Value}
theorem RdX.rd (h : RdX w g size v n xs) : Rd w w.heap.size size v n xs := by
 obtain ⟨hl, A, c, e, hc, h⟩ := h;refine ⟨hl, A, c, e, hc, fun h0 => ?_⟩
 obtain ⟨b, o, e, hb, _, h⟩ := h h0
 exact ⟨b, o, e, hb, h⟩
theorem RdX.grown (h : RdX w g size v n xs) (hg : w.grownBy w' (some g)) : RdX w' g size v n xs := by
 obtain ⟨hl, A, c, e, hc, h⟩ := h;refine ⟨hl, A, c, e, hc, fun h0 => ?_⟩
 obtain ⟨b, o, e, hb, hn, h⟩ := h h0
 exact ⟨b, o, e, Nat.lt_of_lt_of_le hb hg.size, hn, fun j u hu => (World.cell?_of_block (hg.block b hb fun e => by injection e with e; omega)).trans (h j u hu)⟩
theorem RdX.nil_ (w : World) (g size c : Nat) (A : Option Addr) : RdX w g size (.slice A 0 c) 0 [] := ⟨by simp, A, c, rfl, Nat.zero_le _, fun h => absurd h (by omega)⟩
theorem RdX.of_own {base : Nat} {e : TypeId} (h : w.ownsRow base e size v n xs) (hg : g < base) : RdX w g size v n xs := by
 have hr := Rd.of_own h;obtain ⟨hl, ⟨rfl, rfl⟩ | ⟨b, cap, cur, rfl, hbg, _⟩⟩ := h
 ·exact ⟨hl, none, 0, rfl, Nat.le_refl _, fun h => absurd h (by omega)⟩
 ·obtain ⟨hl2, A, c, e1, hc, h2⟩ := hr
  injection e1 with e1 e2 e3
  subst e1 e3;refine ⟨hl, _, _, rfl, hc, fun h0 => ?_⟩
  obtain ⟨b2, o, e4, hb, h⟩ := h2 h0
  injection e4 with e4
  injection e4 with e5 e6
  subst e5 e6
  exact ⟨_, _, rfl, hb, by omega, h⟩
theorem RdX.rest {A : Option Addr} {m c lo : Nat} {ts : List TW} (hr : RdX w g 5 (.slice A m c) m (twsC ts)) (hlo : lo ≤ m) : RdX w g 5 (.slice (QAj A c lo) (m - lo) (c - lo)) (m - lo) (twsC (ts.drop lo)) := by
 obtain ⟨hl, A2, c2, e, hc2, hrr⟩ := hr
 injection e with e1 _ e3
 subst e1 e3;have hd : twsC (ts.drop lo) = (twsC ts).drop (lo * 5) := QBJ QAg ts lo;refine ⟨by rw [hd, List.length_drop, hl]; omega, _, _, rfl, by omega, fun h0 => ?_⟩
 obtain ⟨b, off, e2, hb2, hn, hcell⟩ := hrr (by omega)
 subst e2;refine ⟨b, _, rfl, hb2, hn, fun j u hu => ?_⟩
 rw [if_neg (by omega)]
 rw [hd, List.getElem?_drop] at hu;have := hcell (lo * 5 + j) u hu;rw [← Nat.add_assoc] at this
 exact this
end
/-! ### The loops of the search -/
section
variable {q : QS} {d : Dr} {u : Bool} {n k : Nat} {th : Bool} {most : Int} {b : Option Dr}
theorem QC_ (t : TW) (ts : List TW) : Zg (t :: ts) = t.length + Zg ts := by simp [Zg, sumF]
theorem QFL : ∀ {ts : List TW} {n : Nat}, (∀ t ∈ ts, 0 ≤ t.length) → Zg (ts.take n) ≤ Zg (ts.take (n + 1))
 | [], _, _ => by simp
 | t :: ts, 0, h => by
  rw [List.take_zero, List.take_succ_cons, List.take_zero, QC_];have := h t (List.mem_cons_self ..);have e : Zg [] = 0 := rfl
  omega
 | t :: ts, n + 1, h => by
  rw [List.take_succ_cons, List.take_succ_cons, QC_, QC_];have := QFL (ts := ts) (n := n) fun x hx => h x (List.mem_cons_of_mem _ hx)
  omega
theorem QKk {l : LK} (hq : QOk l q) (hn : n + 2 ≤ (waitL q d.s u).length) (h : fitN q d.s u (n + 2) = true) : fitN q d.s u (n + 1) = true := by
 unfold fitN fitB at *
 have hl : ∀ t ∈ waitL q d.s u, 0 ≤ t.length := fun t ht => by
  have := (QAf (hq.tw u t (List.mem_of_mem_drop ht))).2.1
  omega
 have h1 : Zg ((waitL q d.s u).take (n + 1)) ≤ Zg ((waitL q d.s u).take (n + 2)) := QFL (n := n + 1) hl;have e : ((waitL q d.s u).take (n + 2)).length = n + 2 := Zh (by omega)
 have e1 : ((waitL q d.s u).take (n + 1)).length = n + 1 := Zh (by omega)
 rw [e] at h;rw [e1];have a : decide (1 < n + 2) = true := decide_eq_true (by omega)
 rw [a, Bool.true_and] at h;have h2 : ¬d.s.lk.length < Zg ((waitL q d.s u).take (n + 2)) := by simpa using h
 have h3 : ¬d.s.lk.length < Zg ((waitL q d.s u).take (n + 1)) := by omega
 rw [decide_eq_false h3, Bool.and_false]
 rfl
theorem QLs {l : LK} (hq : QOk l q) (hn : n < (waitL q d.s u).length) : fitN q d.s u (n + 1) = true ↔ n < (cntU q d.s u).length := by
 refine ⟨fun h => ?_, QId⟩
 rcases Nat.lt_or_ge n (cntU q d.s u).length with h1 | h1
 ·exact h1
 ·exfalso
  have hx : fitN q d.s u ((cntU q d.s u).length + 1) = false := by
   have := QA6 (q := q) (s := d.s) (u := u) (Nat.le_refl (cntU q d.s u).length) (by omega)
   cases e : fitN q d.s u ((cntU q d.s u).length + 1)
   ·rfl
   ·exact absurd (this.1 e) (Nat.lt_irrefl _)
  have : ∀ j, (cntU q d.s u).length + j ≤ n → fitN q d.s u (n - j + 1) = true := by
   intro j
   induction j with
   | zero => intro _; exact h
   | succ j ih =>
    intro hj;have h2 := ih (by omega)
    have e : n - j + 1 = (n - (j + 1)) + 2 := by omega
    rw [e] at h2
    exact QKk hq (by omega) h2
  have h3 := this (n - (cntU q d.s u).length) (by omega)
  rw [show n - (n - (cntU q d.s u).length) = (cntU q d.s u).length by omega, hx] at h3
  cases h3
end
/-- what follows a plan that fits, fits -/
theorem QIb {l : LK} {q : QS} (hq : QOk l q) : ∀ {k : Nat} {d e : Dr}, PlOk l q d → e ∈ YU q k d → PlOk l q e ∧ YJ q e.s = true
 | 0, d, e, h, he => by
  rw [YU] at he
  split at he
  ·rename_i hc; rw [List.mem_singleton.1 he]; exact ⟨h, hc⟩
  ·cases he
 | k + 1, d, e, h, he => by
  rw [YU] at he
  rcases List.mem_append.1 he with he | he
  ·split at he
   ·rename_i hc; rw [List.mem_singleton.1 he]; exact ⟨h, hc⟩
   ·cases he
  ·obtain ⟨x, hx, he⟩ := List.mem_flatMap.1 he
   obtain ⟨u, n, a, b, c, rfl⟩ := QGh (l := l) hx
   exact QIb hq (h.one hq a b c) he
theorem QHi {l : LK} {q : QS} (hq : QOk l q) {e : Dr} (h : e ∈ allD l q) : PlOk l q e ∧ YJ q e.s = true := QIb hq (PlOk.start hq.lk) ((QEi l q).mem_iff.1 h)
theorem QLc {l : LK} {q : QS} {d : Dr} {u : Bool} {n : Nat} (hq : QOk l q) (h1 : 1 ≤ n) (h2 : n ≤ (waitL q d.s u).length) (hf : fitN q d.s u n = true) : oneD q d u n ∈ nextL q d := by
 obtain ⟨m, rfl⟩ : ∃ m, n = m + 1 := ⟨n - 1, by omega⟩
 have hl := (QLs (d := d) (u := u) hq h2).1 hf;have hm : m + 1 ∈ cntU q d.s u := by
  have := Zv hl 0
  rwa [QHc hl] at this
 have hx : oneD q d u (m + 1) ∈ QA3 q d u := List.mem_map.2 ⟨m + 1, hm, rfl⟩
 unfold nextL
 cases u
 ·exact List.mem_append_left _ hx
 ·exact List.mem_append_right _ hx
/-- every complete plan that fits is among all -/
theorem QNT {l : LK} {q : QS} {d : Dr} (hq : QOk l q) (h : PlOk l q d) (hc : YJ q d.s = true) : d ∈ allD l q := by
 rw [(QEi l q).mem_iff];have h8 : d.plan.length ≤ 8 := by
  have h1 := h.dr.len;have h2 := QAh (u := true) (n := 0) hq h.dr (Nat.zero_le _)
  omega
 have key : ∀ j, j ≤ d.plan.length → d ∈ YU q (8 - (d.plan.length - j)) ⟨sAt l q d.plan (d.plan.length - j), d.plan.take (d.plan.length - j)⟩ := by
  intro j
  induction j with
  | zero =>
   intro _;rw [Nat.sub_zero, h.end_, List.take_length]
   cases e : 8 - d.plan.length with
   | zero => rw [YU, if_pos hc]; exact List.mem_singleton.2 rfl
   | succ f => rw [YU, if_pos hc]; exact List.mem_append_left _ (List.mem_singleton.2 rfl)
  | succ j ih =>
   intro hj;have h2 := ih (by omega)
   obtain ⟨k, hk⟩ : ∃ k, k = d.plan.length - (j + 1) := ⟨_, rfl⟩;have hk1 : d.plan.length - j = k + 1 := by omega
   rw [hk1] at h2;rw [← hk];have hkl : k < d.plan.length := by omega
   obtain ⟨hd, htw, ht8, h1, hn, hp, htt, hfit⟩ := QLH hq h hkl;obtain ⟨n, hnn⟩ : ∃ n, n = (twAt l q d.plan k).length := ⟨_, rfl⟩;have hf : fitN q (sAt l q d.plan k) (d.plan.getD k sp0).up n = true := by
    unfold fitN
    rw [hnn, hp, show (sAt l q d.plan k).lk.length = l.length from hd.lkl]
    exact hfit
   have hnx := QLc (d := ⟨sAt l q d.plan k, d.plan.take k⟩) (u := (d.plan.getD k sp0).up) (n := n) hq (by omega) (by rw [hnn]; exact hn) hf
   have e : oneD q ⟨sAt l q d.plan k, d.plan.take k⟩ (d.plan.getD k sp0).up n = ⟨sAt l q d.plan (k + 1), d.plan.take (k + 1)⟩ := by
    have e1 : (⟨(d.plan.getD k sp0).up, (n : Int)⟩ : SP) = d.plan.getD k sp0 := by rw [hnn, ← htt]
    unfold oneD
    rw [e1, QBg hkl, Z1 (d := sp0) hkl]
    simp only
    rw [hnn, hp]
   rw [e] at hnx;obtain ⟨f, hf8⟩ : ∃ f, 8 - k = f + 1 := ⟨8 - k - 1, by omega⟩
   rw [hf8, YU];refine List.mem_append_right _ (List.mem_flatMap.2 ⟨_, hnx, ?_⟩);rw [show 8 - (k + 1) = f by omega] at h2
   exact h2
 have := key d.plan.length (Nat.le_refl _);rw [Nat.sub_self] at this
 exact this
/-- what Best answers -/
theorem QK0 {l : LK} {ts : List TW} (he : towE l ts = 0) : ∃ b, QBT l ts = (b.plan, b.s.cost, 0) ∧ PlOk l (qL ts) b ∧ YJ (qL ts) b.s = true ∧ b ∈ allD l (qL ts) ∧ ∀ d ∈ allD l (qL ts), leD b d := by
 have hq := QD8 he;have hne := QFS hq (k := 8) (QBq (q := qL ts) hq.lk) (rem8 hq _);have hl : 0 < (allD l (qL ts)).length := by
  rw [(QEi l (qL ts)).length_eq]
  exact List.length_pos_iff.2 hne
 have hm := Zv hl dr0;refine ⟨_, QDD he hl, (QHi hq hm).1, (QHi hq hm).2, hm, fun d hd => ?_⟩
 have hs := QBO l (qL ts)
 cases e : allD l (qL ts) with
 | nil => rw [e] at hl; cases hl
 | cons x m =>
  rw [e] at hs hd
  show leD x d
  rcases List.mem_cons.1 hd with rfl | hd
  ·exact QAG _
  ·exact (List.pairwise_cons.1 hs).1 _ hd
theorem QDY {most : Int} {l : LK} {q : QS} {d : Dr} : d ∈ thrL most (allD l q) ↔ d ∈ allD l q ∧ d.s.cost ≤ most := by
 rw [QCH (QBO l q), List.mem_filter]
 constructor
 ·rintro ⟨a, b⟩
  refine ⟨a, ?_⟩
  simp at b
  omega
 ·rintro ⟨a, b⟩
  refine ⟨a, ?_⟩
  simp
  omega
/-- what Thrift answers where a plan is allowed -/
theorem QDw {l : LK} {ts : List TW} {most : Int} (he : towE l ts = 0) {b : Dr} (hb : b ∈ allD l (qL ts)) (hm : b.s.cost ≤ most) : ∃ a, YW l ts most = (a.plan, a.s.cost, 0) ∧ a ∈ allD l (qL ts) ∧ a.s.cost ≤ most ∧ ∀ d ∈ allD l (qL ts), d.s.cost ≤ most → d.s.up ≤ a.s.up := by
 have hs : (thrL most (allD l (qL ts))).Pairwise leD := by rw [QCH (QBO l _)]; exact (QBO l _).filter _
 have hn : thrL most (allD l (qL ts)) ≠ [] := fun e => by
  have := QDY.2 ⟨hb, hm⟩;rw [e] at this
  cases this
 obtain ⟨a, a1, a2, a3⟩ := QHZ (le := leT) (pre := leD) (bet := fun a b : Dr => decide (b.s.up < a.s.up)) QKS QJD (fun a b h => .inl (of_decide_eq_true h)) (fun a b h hl => by
  have := of_decide_eq_false h
  by_cases e : a.s.up = b.s.up
  ·exact .inr ⟨e, hl⟩
  ·exact .inl (by omega)) hs hn
 obtain ⟨c1, c2⟩ := QDY.1 a2;refine ⟨a, QBa he (by rw [QLD]; exact a1), c1, c2, fun d hd hc => ?_⟩
 rcases a3 d (QDY.2 ⟨hd, hc⟩) with h | ⟨h, _⟩ <;> omega
theorem QHH {l : LK} {ts : List TW} {most : Int} (he : towE l ts = 0) {b : Dr} (hb : ∀ d ∈ allD l (qL ts), leD b d) (hm : most < b.s.cost) : YW l ts most = ([], 0, 7) := by
 refine QBb he ?_;have e : thrL most (allD l (qL ts)) = [] := by
  rw [List.eq_nil_iff_forall_not_mem];intro d hd;obtain ⟨h1, h2⟩ := QDY.1 hd;have := QCp.1 (hb d h1)
  omega
 rw [e]
 rfl
section
variable {n : Nat} {σ : Sg} {w : World} {dst : Option Tmp} {ty : TypeId} {pos : String} {af : Array Edge} {g : Option (Nat × Bool)} {x y z : Operand} {at' : Array TypeId}
theorem QL2 {m : Int} (hx : evS σ x = some (.int .u16 m)) (hm : IntKind.i64.wrap m = m) : ZJ Try.prog n σ w ⟨dst, .convert 91 3 x, ty, pos, af, g⟩ (.int .i64 m) := fun a ha => by
 simp only [execOp, ha.eval hx]
 simp [go_sem, hm]
end
theorem QMJ {l : LK} {ts : List TW} {P : List SP} {C X : Int} {v : Value} {w : World} {B : Nat} (h : QBT l ts = (P, C, X)) (hr : Rd w B 5 v ts.length (twsC ts)) (hB : B ≤ w.heap.size) :
  Calls Try.prog 23 #[.agg #[.int .i64 l.length, .int .i64 l.cycle, .int .i64 l.turn, .int .i64 l.fill, .int .i64 l.save, .bool l.high], v] w fun e w' => ∃ sl, e = .returned (.tuple #[sl, .int .i64 C, .int .i64 X]) ∧ w'.ownsRow w.heap.size 87 2 sl P.length (spsC P) ∧ Below w.heap.size w w' := by
 have k := QHE (l := l) hr hB;rw [h] at k
 exact k
theorem QDE {l : LK} {ts : List TW} {most : Int} {P : List SP} {C X : Int} {v : Value} {w : World} {B : Nat} (h : YW l ts most = (P, C, X)) (hr : Rd w B 5 v ts.length (twsC ts)) (hB : B ≤ w.heap.size) :
  Calls Try.prog 25 #[.agg #[.int .i64 l.length, .int .i64 l.cycle, .int .i64 l.turn, .int .i64 l.fill, .int .i64 l.save, .bool l.high], v, .int .i64 most] w fun e w' => ∃ sl, e = .returned (.tuple #[sl, .int .i64 C, .int .i64 X]) ∧ w'.ownsRow w.heap.size 87 2 sl P.length (spsC P) ∧ Below w.heap.size w w' := by
 have k := QEp (l := l) (most := most) hr hB;rw [h] at k
 exact k
set_option maxHeartbeats 1000000 in
set_option maxRecDepth 100000 in
theorem noother_law {x : Sml} {y : Int} (hx : SmlOk x) (hy : 0 ≤ y ∧ y ≤ 65535) {At As : Option Addr} {ct cs : Nat} {w : World} {B : Nat} (hrt : Rd w B 5 (.slice At x.tows.length ct) x.tows.length (e5s x.tows)) (hrs : Rd w B 2 (.slice As x.steps.length cs) x.steps.length (e2s x.steps)) (hB : B ≤ w.heap.size) :
  Calls Try.prog 9 #[.agg #[.int .u8 x.a0, .int .u8 x.a1, .int .u8 x.a2, .int .u8 x.a3, .int .u8 x.a4, .bool x.hi, .slice At x.tows.length ct, .slice As x.steps.length cs], .int .u16 y] w fun e w' => e = .returned (.bool true) ∧ Below w.heap.size w w' := by
 obtain ⟨l, hl⟩ : ∃ z, z = Zp x := ⟨_, rfl⟩;obtain ⟨ts, hts⟩ : ∃ z, z = QAx x 6 := ⟨_, rfl⟩;have he0 : towE l ts = 0 := by rw [hl, hts]; exact QLA hx (by omega)
 have hq := QD8 he0;have hlk := hq.lk;obtain ⟨_, hts8, htwB⟩ := QAy he0;have harr : ∀ t ∈ ts, 0 ≤ t.arrive ∧ t.arrive < (256 : Nat) := fun t ht => by have := (QE1 hx (hts ▸ ht)).2; omega
 obtain ⟨b, hbp, hbk, hbc, hbi, hmin⟩ := QK0 he0;obtain ⟨hceb, henb, hrub⟩ := QEC he0 hbk hbc;have hb8 := (QH4 hq hbk rfl rfl).2;have hbco := hbk.dr.st.cost;have hb8s := QAh (u := true) (n := 0) hq hbk.dr (Nat.zero_le _);obtain ⟨mo, hmo⟩ : ∃ z, z = b.s.cost + y.tmod 2000 := ⟨_, rfl⟩;have hym : 0 ≤ y.tmod 2000 ∧ y.tmod 2000 < 2000 := ⟨Int.tmod_nonneg _ hy.1, Int.tmod_lt_of_pos _ (by decide)⟩
 obtain ⟨aq, hta, hai, ham, hup⟩ := QDw (most := mo) he0 hbi (by omega)
 obtain ⟨hak, hac⟩ := QHi hq hai;obtain ⟨hcea, hena, _⟩ := QEC he0 hak hac;have ha8 := (QH4 hq hak rfl rfl).2;have hba := QCp.1 (hmin _ hai);have hub := hup _ hbi (by omega)
 obtain ⟨a2, hta2, ha2i, ha2m, _⟩ := QDw (most := b.s.cost) he0 hbi (Int.le_refl _);have hba2 := QCp.1 (hmin _ ha2i);obtain ⟨P2, htc⟩ : ∃ P2, YW l ts b.s.cost = (P2, b.s.cost, 0) := ⟨a2.plan, by rw [hta2, show a2.s.cost = b.s.cost by omega]⟩
 have htl := QHH (most := b.s.cost - 1) he0 hmin (by omega)
 have hbw := Below.refl w.heap.size w;refine EC.enter 219 Try.func9 rfl rfl rfl (EC.seq (EC.region (EL.newP (QIf rfl) rfl ?_)));intro g1 w1 q1 hb1 hg1 hl1;have bhbw_1 := Nat.le_trans hbw.size hg1;replace hbw := bo_ hbw hb1;clear hb1 hg1 hl1;refine EL.as rfl rfl (EL.nil (EX.seq (EC.seq (EC.region (EL.val (QIJ rfl (q1.at (j := 0) rfl) (q1.at (j := 1) rfl) (q1.at (j := 2) rfl) (q1.at (j := 3) rfl) (q1.at (j := 4) rfl) (q1.at (j := 5) rfl) (q1.at (j := 6) rfl) (q1.at (j := 7) rfl)) rfl (EL.call (cA1 cF31 rfl) rfl (QJu hl hx) ?_))))))
 rintro e w2 ⟨rfl, hc2⟩
 refine ⟨_, rfl, ?_⟩;replace q1 := q1.bl hc2;replace hbw := bo_ hbw hc2;clear hc2;refine EL.newP QIr rfl ?_;intro g3 w3 q3 hb3 hg3 hl3;have n1_3 := q1.na hg3;have bhbw_3 := Nat.le_trans hbw.size hg3;replace q1 := q1.bl hb3;replace hbw := bo_ hbw hb3;clear hb3 hg3 hl3;refine EL.store rfl rfl q3 QE6 rfl rfl rfl rfl ?_;intro w4 hq4 hg4;replace q1 := q1.gr hg4 n1_3;replace hbw := ZE hbw hg4 bhbw_3;replace q3 := hq4;clear hg4 hq4;refine EL.nil (EX.seq (EC.seq (EC.region (EL.val (QIJ rfl (q1.at (j := 0) rfl) (q1.at (j := 1) rfl) (q1.at (j := 2) rfl) (q1.at (j := 3) rfl) (q1.at (j := 4) rfl) (q1.at (j := 5) rfl) (q1.at (j := 6) rfl) (q1.at (j := 7) rfl)) rfl ?_))));refine EL.call (cA2 cF32 rfl rfl) rfl (QJq hts hx (hrt.below (hbw.mono hB)) (Nat.le_trans hB hbw.size) (by omega)) ?_
 rintro e wt ⟨⟨vt, rfl, htw⟩, hct⟩
 refine ⟨_, rfl, ?_⟩;replace htw := Zn htw hbw.size;replace q1 := q1.bl hct;replace q3 := q3.bl hct;replace hbw := bo_ hbw hct;clear hct;obtain ⟨Aw, cw, rfl, _⟩ := (Rd.of_own htw).shape;refine EL.as rfl rfl (EL.nil (EX.seq (EC.seq (EC.region (EL.val (QIJ rfl (q1.at (j := 0) rfl) (q1.at (j := 1) rfl) (q1.at (j := 2) rfl) (q1.at (j := 3) rfl) (q1.at (j := 4) rfl) (q1.at (j := 5) rfl) (q1.at (j := 6) rfl) (q1.at (j := 7) rfl)) rfl (EL.val (Yr rfl (q3.at (j := 0) rfl) (q3.at (j := 1) rfl) (q3.at (j := 2) rfl) (q3.at (j := 3) rfl) (q3.at (j := 4) rfl) (q3.at (j := 5) rfl)) rfl (EL.mv rfl rfl ?_)))))));refine EL.call (cA3 cF33 rfl rfl rfl) rfl (QI0 hx ((hrs.below (hbw.mono hB)).more (Nat.le_trans hB hbw.size)) (Rd.of_own htw) (Nat.le_refl _) hq harr (by omega)) ?_
 rintro e wp ⟨⟨d, vp, hpk, hcp, rfl, hpl⟩, hcp_⟩
 refine ⟨_, rfl, ?_⟩;replace hpl := Zn hpl hbw.size;replace q1 := q1.bl hcp_;replace q3 := q3.bl hcp_;replace htw := ZB htw hcp_ (Nat.le_refl _);replace hbw := bo_ hbw hcp_;clear hcp_;obtain ⟨Ap, cp, rfl, _⟩ := (Rd.of_own hpl).shape;obtain ⟨hce, hen, hru⟩ := QEC he0 hpk hcp;have hd8 := (QH4 hq hpk rfl rfl).2;have hin := QNT hq hpk hcp;have hbd := QCp.1 (hmin _ hin);refine EL.as rfl rfl (EL.nil (EX.seq (EC.seq ?_)));have hsz := hbw.size;have lt_1 := q1.lt;have lt_3 := q3.lt;refine EC.regionP [[], [], [1], [0, 1, 2], [0, 1, 2, 3], [0, 1, 2, 3, 4], [0, 1, 2, 3, 4], [0, 1, 2, 3, 4], [0, 1, 2, 3, 4, 5], [0, 1, 2, 3, 4, 5, 6, 8], [0, 1, 2, 3, 4, 5, 6, 7, 8, 9]] 11 [] (phi (fun i_ r => match i_ with | 0 => r 0 = .agg #[.int .i64 l.length, .int .i64 l.cycle, .int .i64 l.turn, .int .i64 l.fill, .int .i64 l.save, .bool l.high] | 1 => r 1 = .slice Aw ts.length cw | 6 => r 6 = .int .i64 b.s.cost | 7 => r 7 = .int .i64 0 | 9 => r 9 = .int .i64 b.s.cost | 10 => r 10 = .int .i64 0 | _ => True) [(2, fun r w_ => ∃ A_ c_, r 2 = .slice A_ ts.length c_ ∧ w_.ownsRow wp.heap.size 39 5 (.slice A_ ts.length c_) ts.length (twsC ts)), (3, fun r w_ => ∃ A_ c_, r 3 = .tuple #[.slice A_ b.plan.length c_, .int .i64 b.s.cost, .int .i64 0] ∧ w_.ownsRow wp.heap.size 87 2 (.slice A_ b.plan.length c_) b.plan.length (spsC b.plan)), (4, fun r w_ => ∃ A_ c_, r 4 = .tuple #[.slice A_ b.plan.length c_, .int .i64 b.s.cost, .int .i64 0] ∧ w_.ownsRow wp.heap.size 87 2 (.slice A_ b.plan.length c_) b.plan.length (spsC b.plan)), (5, fun r w_ => ∃ A_ c_, r 5 = .slice A_ b.plan.length c_ ∧ w_.ownsRow wp.heap.size 87 2 (.slice A_ b.plan.length c_) b.plan.length (spsC b.plan)), (8, fun r w_ => ∃ A_ c_, r 8 = .slice A_ b.plan.length c_ ∧ w_.ownsRow wp.heap.size 87 2 (.slice A_ b.plan.length c_) b.plan.length (spsC b.plan))]) (by kernel_rfl) rfl rfl (ZU Zc (ZU Zc (ZU Zc (ZU Zc (ZU Zc (YF)))))) (fun i_ hi_ => ?_) ?_
 ·match i_, hi_ with
  | 0, _ =>
   intro val w1 a hb ha hd;have ha := ha.s0 (d := 5) rfl
   exact ZG ha rfl rfl (Yr rfl ((q3.below hb q3.lt).at (j := 0) rfl) ((q3.below hb q3.lt).at (j := 1) rfl) ((q3.below hb q3.lt).at (j := 2) rfl) ((q3.below hb q3.lt).at (j := 3) rfl) ((q3.below hb q3.lt).at (j := 4) rfl) ((q3.below hb q3.lt).at (j := 5) rfl)) rfl rfl
  | 1, _ =>
   intro val w1 a hb ha hd;have ha := ha.s0 (d := 6) rfl
   exact ZG ha rfl rfl (x_move rfl) rfl rfl
  | 2, _ =>
   intro val w1 a hb ha hd;have e1 : val 1 = _ := hd 1 (ZA.1 rfl);have ha := ha.s1 (d := 38) rfl e1;refine Zx ha rfl rfl (cA1 cF13 rfl) (Yc ((Rd.of_own htw).below hb) hb.size (by omega)) rfl ?_
   rintro e w' ⟨⟨v, rfl, p1⟩, hb'⟩
   obtain ⟨A1, c1, rfl, _⟩ := (Rd.of_own p1).shape
   exact ⟨_, rfl, hb', A1, c1, rfl, Zn p1 hb.size⟩
  | 3, _ =>
   intro val w1 a hb ha hd;have e0 : val 0 = _ := hd 0 (ZA.1 rfl);obtain ⟨A2_, c2_, e2, o2_⟩ := hd 2 (ZA.1 rfl);have ha := ha.s2 (d := 39) (e := 37) rfl e2 rfl e0;refine Zx ha rfl rfl (cA2 cF23 rfl rfl) (QMJ hbp (Rd.of_own o2_) (Nat.le_refl _)) rfl ?_
   rintro e w' ⟨sl, rfl, p1, hb'⟩
   obtain ⟨A1, c1, rfl, _⟩ := (Rd.of_own p1).shape
   exact ⟨_, rfl, hb', A1, c1, rfl, Zn p1 hb.size⟩
  | 4, _ =>
   intro val w1 a hb ha hd;obtain ⟨A3_, c3_, e3, o3_⟩ := hd 3 (ZA.1 rfl);have ha := ha.s1 (d := 40) rfl e3
   exact ZG ha rfl rfl (x_move rfl) ⟨A3_, c3_, rfl, o3_⟩ rfl
  | 5, _ =>
   intro val w1 a hb ha hd;obtain ⟨A4_, c4_, e4, o4_⟩ := hd 4 (ZA.1 rfl);have ha := ha.s1 (d := 36) rfl e4
   exact ZG ha rfl rfl (ZM (v := .slice A4_ b.plan.length c4_) rfl rfl) ⟨A4_, c4_, rfl, o4_⟩ rfl
  | 6, _ =>
   intro val w1 a hb ha hd;obtain ⟨A4_, c4_, e4, o4_⟩ := hd 4 (ZA.1 rfl);have ha := ha.s1 (d := 36) rfl e4
   exact ZG ha rfl rfl (ZM (v := .int .i64 b.s.cost) rfl rfl) rfl rfl
  | 7, _ =>
   intro val w1 a hb ha hd;obtain ⟨A4_, c4_, e4, o4_⟩ := hd 4 (ZA.1 rfl);have ha := ha.s1 (d := 36) rfl e4
   exact ZG ha rfl rfl (ZM (v := .int .i64 0) rfl rfl) rfl rfl
  | 8, _ =>
   intro val w1 a hb ha hd;obtain ⟨A5_, c5_, e5, o5_⟩ := hd 5 (ZA.1 rfl);have ha := ha.s1 (d := 41) rfl e5
   exact ZG ha rfl rfl (ZQ rfl) ⟨A5_, c5_, rfl, o5_⟩ rfl
  | 9, _ =>
   intro val w1 a hb ha hd;have e6 : val 6 = _ := hd 6 (ZA.1 rfl);have ha := ha.s1 (d := 42) rfl e6
   exact ZG ha rfl rfl (ZQ rfl) rfl rfl
  | 10, _ =>
   intro val w1 a hb ha hd;have e7 : val 7 = _ := hd 7 (ZA.1 rfl);have ha := ha.s1 (d := 43) rfl e7
   exact ZG ha rfl rfl (ZQ rfl) rfl rfl
  | k + 11, h => exact absurd h (by omega)
 ·intro val wR4 hb halc hd
  have e0 : val 0 = _ := hd 0 (by omega)
  have e1 : val 1 = _ := hd 1 (by omega)
  obtain ⟨A2_, c2_, e2, o2_⟩ := hd 2 (by omega)
  obtain ⟨A3_, c3_, e3, o3_⟩ := hd 3 (by omega)
  obtain ⟨A4_, c4_, e4, o4_⟩ := hd 4 (by omega)
  obtain ⟨A5_, c5_, e5, o5_⟩ := hd 5 (by omega)
  have e6 : val 6 = _ := hd 6 (by omega)
  have e7 : val 7 = _ := hd 7 (by omega)
  obtain ⟨A8_, c8_, e8, o8_⟩ := hd 8 (by omega)
  have e9 : val 9 = _ := hd 9 (by omega)
  have e10 : val 10 = _ := hd 10 (by omega)
  refine EL.ends (cs := [_, _, _, _, _, _, _, _, _, _, _]) ⟨e0, e1, e2, e3, e4, e5, e6, e7, e8, e9, e10, trivial⟩ rfl ?_;replace q1 := q1.bl hb;replace q3 := q3.bl hb;replace htw := ZB htw hb (Nat.le_refl _);replace hpl := ZB hpl hb (Nat.le_refl _);replace hbw := bo_ hbw hb;clear hb;have hbr := Zn o8_ hsz;refine EL.nil (EX.seq (EC.seq ?_));have hsz := hbw.size;have lt_1 := q1.lt;have lt_3 := q3.lt;refine EC.regionP [[], [], [1], [], [1, 2, 3], [0, 1, 2, 3, 4], [0, 1, 2, 3, 4, 5], [0, 1, 2, 3, 4, 5, 6], [0, 1, 2, 3, 4, 5, 6], [0, 1, 2, 3, 4, 5, 6], [0, 1, 2, 3, 4, 5, 6], [0, 1, 2, 3, 4, 5, 6, 7], [0, 1, 2, 3, 4, 5, 6, 7, 8, 11], [0, 1, 2, 3, 4, 5, 6, 7, 8, 9, 11, 12], [0, 1, 2, 3, 4, 5, 6, 7, 8, 9, 10, 11, 12, 13]] 15 [] (phi (fun i_ r => match i_ with | 0 => r 0 = .agg #[.int .i64 l.length, .int .i64 l.cycle, .int .i64 l.turn, .int .i64 l.fill, .int .i64 l.save, .bool l.high] | 1 => r 1 = .slice Aw ts.length cw | 3 => r 3 = .slice Ap d.plan.length cp | 8 => r 8 = .int .i64 d.s.cost | 9 => r 9 = .int .i64 d.s.mv | 10 => r 10 = .int .i64 0 | 12 => r 12 = .int .i64 d.s.cost | 13 => r 13 = .int .i64 d.s.mv | 14 => r 14 = .int .i64 0 | _ => True) [(2, fun r w_ => ∃ A_ c_, r 2 = .slice A_ ts.length c_ ∧ w_.ownsRow wR4.heap.size 39 5 (.slice A_ ts.length c_) ts.length (twsC ts)), (4, fun r w_ => ∃ A_ c_, r 4 = .slice A_ d.plan.length c_ ∧ w_.ownsRow wR4.heap.size 87 2 (.slice A_ d.plan.length c_) d.plan.length (spsC d.plan)), (5, fun r w_ => ∃ A_ c_, r 5 = .tuple #[.slice A_ d.plan.length c_, .int .i64 d.s.cost, .int .i64 d.s.mv, .int .i64 0] ∧ w_.ownsRow wR4.heap.size 49 2 (.slice A_ d.plan.length c_) d.plan.length (rnsC (YQ l (qL ts) d.plan d.plan.length))), (6, fun r w_ => ∃ A_ c_, r 6 = .tuple #[.slice A_ d.plan.length c_, .int .i64 d.s.cost, .int .i64 d.s.mv, .int .i64 0] ∧ w_.ownsRow wR4.heap.size 49 2 (.slice A_ d.plan.length c_) d.plan.length (rnsC (YQ l (qL ts) d.plan d.plan.length))), (7, fun r w_ => ∃ A_ c_, r 7 = .slice A_ d.plan.length c_ ∧ w_.ownsRow wR4.heap.size 49 2 (.slice A_ d.plan.length c_) d.plan.length (rnsC (YQ l (qL ts) d.plan d.plan.length))), (11, fun r w_ => ∃ A_ c_, r 11 = .slice A_ d.plan.length c_ ∧ w_.ownsRow wR4.heap.size 49 2 (.slice A_ d.plan.length c_) d.plan.length (rnsC (YQ l (qL ts) d.plan d.plan.length)))]) (by kernel_rfl) rfl rfl (ZU Zc (ZU Zc (ZU Zc (ZU Zc (ZU Zc (ZU Zc (YF))))))) (fun i_ hi_ => ?_) ?_
  ·match i_, hi_ with
   | 0, _ =>
    intro val w1 a hb ha hd;have ha := ha.s0 (d := 5) rfl
    exact ZG ha rfl rfl (Yr rfl ((q3.below hb q3.lt).at (j := 0) rfl) ((q3.below hb q3.lt).at (j := 1) rfl) ((q3.below hb q3.lt).at (j := 2) rfl) ((q3.below hb q3.lt).at (j := 3) rfl) ((q3.below hb q3.lt).at (j := 4) rfl) ((q3.below hb q3.lt).at (j := 5) rfl)) rfl rfl
   | 1, _ =>
    intro val w1 a hb ha hd;have ha := ha.s0 (d := 6) rfl
    exact ZG ha rfl rfl (x_move rfl) rfl rfl
   | 2, _ =>
    intro val w1 a hb ha hd;have e1 : val 1 = _ := hd 1 (ZA.1 rfl);have ha := ha.s1 (d := 46) rfl e1;refine Zx ha rfl rfl (cA1 cF13 rfl) (Yc ((Rd.of_own htw).below hb) hb.size (by omega)) rfl ?_
    rintro e w' ⟨⟨v, rfl, p1⟩, hb'⟩
    obtain ⟨A1, c1, rfl, _⟩ := (Rd.of_own p1).shape
    exact ⟨_, rfl, hb', A1, c1, rfl, Zn p1 hb.size⟩
   | 3, _ =>
    intro val w1 a hb ha hd;have ha := ha.s0 (d := 7) rfl
    exact ZG ha rfl rfl (x_move rfl) rfl rfl
   | 4, _ =>
    intro val w1 a hb ha hd;have e3 : val 3 = _ := hd 3 (ZA.1 rfl);have ha := ha.s1 (d := 48) rfl e3;refine Zx ha rfl rfl (cA1 cF14 rfl) (QEH ((Rd.of_own hpl).below hb) hb.size (by omega)) rfl ?_
    rintro e w' ⟨⟨v, rfl, p1⟩, hb'⟩
    obtain ⟨A1, c1, rfl, _⟩ := (Rd.of_own p1).shape
    exact ⟨_, rfl, hb', A1, c1, rfl, Zn p1 hb.size⟩
   | 5, _ =>
    intro val w1 a hb ha hd;have e0 : val 0 = _ := hd 0 (ZA.1 rfl);obtain ⟨A2_, c2_, e2, o2_⟩ := hd 2 (ZA.1 rfl);obtain ⟨A4_, c4_, e4, o4_⟩ := hd 4 (ZA.1 rfl);have ha := ha.sub (Sub.ins (d := 49) (Sub.ins (d := 47) (Sub.ins (d := 45) (Sub.nil _) (ZN rfl e0)) (ZN rfl e2)) (ZN rfl e4));refine Zx ha rfl rfl (cA3 cF16 rfl rfl rfl) (QK6 hce hen hru (Rd.of_own o2_) (Rd.of_own o4_) (Nat.le_refl _) (by omega)) rfl ?_
    rintro e w' ⟨⟨A1, c1, rfl, p1⟩, hb'⟩
    exact ⟨_, rfl, hb', A1, c1, rfl, Zn p1 hb.size⟩
   | 6, _ =>
    intro val w1 a hb ha hd;obtain ⟨A5_, c5_, e5, o5_⟩ := hd 5 (ZA.1 rfl);have ha := ha.s1 (d := 50) rfl e5
    exact ZG ha rfl rfl (x_move rfl) ⟨A5_, c5_, rfl, o5_⟩ rfl
   | 7, _ =>
    intro val w1 a hb ha hd;obtain ⟨A6_, c6_, e6, o6_⟩ := hd 6 (ZA.1 rfl);have ha := ha.s1 (d := 44) rfl e6
    exact ZG ha rfl rfl (ZM (v := .slice A6_ d.plan.length c6_) rfl rfl) ⟨A6_, c6_, rfl, o6_⟩ rfl
   | 8, _ =>
    intro val w1 a hb ha hd;obtain ⟨A6_, c6_, e6, o6_⟩ := hd 6 (ZA.1 rfl);have ha := ha.s1 (d := 44) rfl e6
    exact ZG ha rfl rfl (ZM (v := .int .i64 d.s.cost) rfl rfl) rfl rfl
   | 9, _ =>
    intro val w1 a hb ha hd;obtain ⟨A6_, c6_, e6, o6_⟩ := hd 6 (ZA.1 rfl);have ha := ha.s1 (d := 44) rfl e6
    exact ZG ha rfl rfl (ZM (v := .int .i64 d.s.mv) rfl rfl) rfl rfl
   | 10, _ =>
    intro val w1 a hb ha hd;obtain ⟨A6_, c6_, e6, o6_⟩ := hd 6 (ZA.1 rfl);have ha := ha.s1 (d := 44) rfl e6
    exact ZG ha rfl rfl (ZM (v := .int .i64 0) rfl rfl) rfl rfl
   | 11, _ =>
    intro val w1 a hb ha hd;obtain ⟨A7_, c7_, e7, o7_⟩ := hd 7 (ZA.1 rfl);have ha := ha.s1 (d := 51) rfl e7
    exact ZG ha rfl rfl (ZQ rfl) ⟨A7_, c7_, rfl, o7_⟩ rfl
   | 12, _ =>
    intro val w1 a hb ha hd;have e8 : val 8 = _ := hd 8 (ZA.1 rfl);have ha := ha.s1 (d := 52) rfl e8
    exact ZG ha rfl rfl (ZQ rfl) rfl rfl
   | 13, _ =>
    intro val w1 a hb ha hd;have e9 : val 9 = _ := hd 9 (ZA.1 rfl);have ha := ha.s1 (d := 53) rfl e9
    exact ZG ha rfl rfl (ZQ rfl) rfl rfl
   | 14, _ =>
    intro val w1 a hb ha hd;have e10 : val 10 = _ := hd 10 (ZA.1 rfl);have ha := ha.s1 (d := 54) rfl e10
    exact ZG ha rfl rfl (ZQ rfl) rfl rfl
   | k + 15, h => exact absurd h (by omega)
  ·intro val wR5 hb halc hd
   have e0 : val 0 = _ := hd 0 (by omega)
   have e1 : val 1 = _ := hd 1 (by omega)
   obtain ⟨A2_, c2_, e2, o2_⟩ := hd 2 (by omega)
   have e3 : val 3 = _ := hd 3 (by omega)
   obtain ⟨A4_, c4_, e4, o4_⟩ := hd 4 (by omega)
   obtain ⟨A5_, c5_, e5, o5_⟩ := hd 5 (by omega)
   obtain ⟨A6_, c6_, e6, o6_⟩ := hd 6 (by omega)
   obtain ⟨A7_, c7_, e7, o7_⟩ := hd 7 (by omega)
   have e8 : val 8 = _ := hd 8 (by omega)
   have e9 : val 9 = _ := hd 9 (by omega)
   have e10 : val 10 = _ := hd 10 (by omega)
   obtain ⟨A11_, c11_, e11, o11_⟩ := hd 11 (by omega)
   have e12 : val 12 = _ := hd 12 (by omega)
   have e13 : val 13 = _ := hd 13 (by omega)
   have e14 : val 14 = _ := hd 14 (by omega)
   refine EL.ends (cs := [_, _, _, _, _, _, _, _, _, _, _, _, _, _, _]) ⟨e0, e1, e2, e3, e4, e5, e6, e7, e8, e9, e10, e11, e12, e13, e14, trivial⟩ rfl ?_;replace q1 := q1.bl hb;replace q3 := q3.bl hb;replace htw := ZB htw hb (Nat.le_refl _);replace hpl := ZB hpl hb (Nat.le_refl _);replace hbr := ZB hbr hb (Nat.le_refl _);replace hbw := bo_ hbw hb;clear hb;refine EL.nil (EX.seq (EC.seq ?_));have hsz := hbw.size;have lt_1 := q1.lt;have lt_3 := q3.lt;refine EC.regionP [[], [], [1], [], [1, 2, 3], [0, 1, 2, 3, 4], [0, 1, 2, 3, 4, 5], [0, 1, 2, 3, 4, 5, 6], [0, 1, 2, 3, 4, 5, 6], [0, 1, 2, 3, 4, 5, 6], [0, 1, 2, 3, 4, 5, 6], [0, 1, 2, 3, 4, 5, 6, 7], [0, 1, 2, 3, 4, 5, 6, 7, 8, 11], [0, 1, 2, 3, 4, 5, 6, 7, 8, 9, 11, 12], [0, 1, 2, 3, 4, 5, 6, 7, 8, 9, 10, 11, 12, 13]] 15 [] (phi (fun i_ r => match i_ with | 0 => r 0 = .agg #[.int .i64 l.length, .int .i64 l.cycle, .int .i64 l.turn, .int .i64 l.fill, .int .i64 l.save, .bool l.high] | 1 => r 1 = .slice Aw ts.length cw | 3 => r 3 = .slice A8_ b.plan.length c8_ | 8 => r 8 = .int .i64 b.s.cost | 9 => r 9 = .int .i64 b.s.mv | 10 => r 10 = .int .i64 0 | 12 => r 12 = .int .i64 b.s.cost | 13 => r 13 = .int .i64 b.s.mv | 14 => r 14 = .int .i64 0 | _ => True) [(2, fun r w_ => ∃ A_ c_, r 2 = .slice A_ ts.length c_ ∧ w_.ownsRow wR5.heap.size 39 5 (.slice A_ ts.length c_) ts.length (twsC ts)), (4, fun r w_ => ∃ A_ c_, r 4 = .slice A_ b.plan.length c_ ∧ w_.ownsRow wR5.heap.size 87 2 (.slice A_ b.plan.length c_) b.plan.length (spsC b.plan)), (5, fun r w_ => ∃ A_ c_, r 5 = .tuple #[.slice A_ b.plan.length c_, .int .i64 b.s.cost, .int .i64 b.s.mv, .int .i64 0] ∧ w_.ownsRow wR5.heap.size 49 2 (.slice A_ b.plan.length c_) b.plan.length (rnsC (YQ l (qL ts) b.plan b.plan.length))), (6, fun r w_ => ∃ A_ c_, r 6 = .tuple #[.slice A_ b.plan.length c_, .int .i64 b.s.cost, .int .i64 b.s.mv, .int .i64 0] ∧ w_.ownsRow wR5.heap.size 49 2 (.slice A_ b.plan.length c_) b.plan.length (rnsC (YQ l (qL ts) b.plan b.plan.length))), (7, fun r w_ => ∃ A_ c_, r 7 = .slice A_ b.plan.length c_ ∧ w_.ownsRow wR5.heap.size 49 2 (.slice A_ b.plan.length c_) b.plan.length (rnsC (YQ l (qL ts) b.plan b.plan.length))), (11, fun r w_ => ∃ A_ c_, r 11 = .slice A_ b.plan.length c_ ∧ w_.ownsRow wR5.heap.size 49 2 (.slice A_ b.plan.length c_) b.plan.length (rnsC (YQ l (qL ts) b.plan b.plan.length)))]) (by kernel_rfl) rfl rfl (ZU Zc (ZU Zc (ZU Zc (ZU Zc (ZU Zc (ZU Zc (YF))))))) (fun i_ hi_ => ?_) ?_
   ·match i_, hi_ with
    | 0, _ =>
     intro val w1 a hb ha hd;have ha := ha.s0 (d := 5) rfl
     exact ZG ha rfl rfl (Yr rfl ((q3.below hb q3.lt).at (j := 0) rfl) ((q3.below hb q3.lt).at (j := 1) rfl) ((q3.below hb q3.lt).at (j := 2) rfl) ((q3.below hb q3.lt).at (j := 3) rfl) ((q3.below hb q3.lt).at (j := 4) rfl) ((q3.below hb q3.lt).at (j := 5) rfl)) rfl rfl
    | 1, _ =>
     intro val w1 a hb ha hd;have ha := ha.s0 (d := 6) rfl
     exact ZG ha rfl rfl (x_move rfl) rfl rfl
    | 2, _ =>
     intro val w1 a hb ha hd;have e1 : val 1 = _ := hd 1 (ZA.1 rfl);have ha := ha.s1 (d := 57) rfl e1;refine Zx ha rfl rfl (cA1 cF13 rfl) (Yc ((Rd.of_own htw).below hb) hb.size (by omega)) rfl ?_
     rintro e w' ⟨⟨v, rfl, p1⟩, hb'⟩
     obtain ⟨A1, c1, rfl, _⟩ := (Rd.of_own p1).shape
     exact ⟨_, rfl, hb', A1, c1, rfl, Zn p1 hb.size⟩
    | 3, _ =>
     intro val w1 a hb ha hd;have ha := ha.s0 (d := 8) rfl
     exact ZG ha rfl rfl (x_move rfl) rfl rfl
    | 4, _ =>
     intro val w1 a hb ha hd;have e3 : val 3 = _ := hd 3 (ZA.1 rfl);have ha := ha.s1 (d := 59) rfl e3;refine Zx ha rfl rfl (cA1 cF14 rfl) (QEH ((Rd.of_own hbr).below hb) hb.size (by omega)) rfl ?_
     rintro e w' ⟨⟨v, rfl, p1⟩, hb'⟩
     obtain ⟨A1, c1, rfl, _⟩ := (Rd.of_own p1).shape
     exact ⟨_, rfl, hb', A1, c1, rfl, Zn p1 hb.size⟩
    | 5, _ =>
     intro val w1 a hb ha hd;have e0 : val 0 = _ := hd 0 (ZA.1 rfl);obtain ⟨A2_, c2_, e2, o2_⟩ := hd 2 (ZA.1 rfl);obtain ⟨A4_, c4_, e4, o4_⟩ := hd 4 (ZA.1 rfl);have ha := ha.sub (Sub.ins (d := 60) (Sub.ins (d := 58) (Sub.ins (d := 56) (Sub.nil _) (ZN rfl e0)) (ZN rfl e2)) (ZN rfl e4));refine Zx ha rfl rfl (cA3 cF16 rfl rfl rfl) (QK6 hceb henb hrub (Rd.of_own o2_) (Rd.of_own o4_) (Nat.le_refl _) (by omega)) rfl ?_
     rintro e w' ⟨⟨A1, c1, rfl, p1⟩, hb'⟩
     exact ⟨_, rfl, hb', A1, c1, rfl, Zn p1 hb.size⟩
    | 6, _ =>
     intro val w1 a hb ha hd;obtain ⟨A5_, c5_, e5, o5_⟩ := hd 5 (ZA.1 rfl);have ha := ha.s1 (d := 61) rfl e5
     exact ZG ha rfl rfl (x_move rfl) ⟨A5_, c5_, rfl, o5_⟩ rfl
    | 7, _ =>
     intro val w1 a hb ha hd;obtain ⟨A6_, c6_, e6, o6_⟩ := hd 6 (ZA.1 rfl);have ha := ha.s1 (d := 55) rfl e6
     exact ZG ha rfl rfl (ZM (v := .slice A6_ b.plan.length c6_) rfl rfl) ⟨A6_, c6_, rfl, o6_⟩ rfl
    | 8, _ =>
     intro val w1 a hb ha hd;obtain ⟨A6_, c6_, e6, o6_⟩ := hd 6 (ZA.1 rfl);have ha := ha.s1 (d := 55) rfl e6
     exact ZG ha rfl rfl (ZM (v := .int .i64 b.s.cost) rfl rfl) rfl rfl
    | 9, _ =>
     intro val w1 a hb ha hd;obtain ⟨A6_, c6_, e6, o6_⟩ := hd 6 (ZA.1 rfl);have ha := ha.s1 (d := 55) rfl e6
     exact ZG ha rfl rfl (ZM (v := .int .i64 b.s.mv) rfl rfl) rfl rfl
    | 10, _ =>
     intro val w1 a hb ha hd;obtain ⟨A6_, c6_, e6, o6_⟩ := hd 6 (ZA.1 rfl);have ha := ha.s1 (d := 55) rfl e6
     exact ZG ha rfl rfl (ZM (v := .int .i64 0) rfl rfl) rfl rfl
    | 11, _ =>
     intro val w1 a hb ha hd;obtain ⟨A7_, c7_, e7, o7_⟩ := hd 7 (ZA.1 rfl);have ha := ha.s1 (d := 62) rfl e7
     exact ZG ha rfl rfl (ZQ rfl) ⟨A7_, c7_, rfl, o7_⟩ rfl
    | 12, _ =>
     intro val w1 a hb ha hd;have e8 : val 8 = _ := hd 8 (ZA.1 rfl);have ha := ha.s1 (d := 63) rfl e8
     exact ZG ha rfl rfl (ZQ rfl) rfl rfl
    | 13, _ =>
     intro val w1 a hb ha hd;have e9 : val 9 = _ := hd 9 (ZA.1 rfl);have ha := ha.s1 (d := 64) rfl e9
     exact ZG ha rfl rfl (ZQ rfl) rfl rfl
    | 14, _ =>
     intro val w1 a hb ha hd;have e10 : val 10 = _ := hd 10 (ZA.1 rfl);have ha := ha.s1 (d := 65) rfl e10
     exact ZG ha rfl rfl (ZQ rfl) rfl rfl
    | k + 15, h => exact absurd h (by omega)
   ·intro val wR6 hb halc hd
    have e0 : val 0 = _ := hd 0 (by omega)
    have e1 : val 1 = _ := hd 1 (by omega)
    obtain ⟨A2_, c2_, e2, o2_⟩ := hd 2 (by omega)
    have e3 : val 3 = _ := hd 3 (by omega)
    obtain ⟨A4_, c4_, e4, o4_⟩ := hd 4 (by omega)
    obtain ⟨A5_, c5_, e5, o5_⟩ := hd 5 (by omega)
    obtain ⟨A6_, c6_, e6, o6_⟩ := hd 6 (by omega)
    obtain ⟨A7_, c7_, e7, o7_⟩ := hd 7 (by omega)
    have e8 : val 8 = _ := hd 8 (by omega)
    have e9 : val 9 = _ := hd 9 (by omega)
    have e10 : val 10 = _ := hd 10 (by omega)
    obtain ⟨A11_, c11_, e11, o11_⟩ := hd 11 (by omega)
    have e12 : val 12 = _ := hd 12 (by omega)
    have e13 : val 13 = _ := hd 13 (by omega)
    have e14 : val 14 = _ := hd 14 (by omega)
    refine EL.ends (cs := [_, _, _, _, _, _, _, _, _, _, _, _, _, _, _]) ⟨e0, e1, e2, e3, e4, e5, e6, e7, e8, e9, e10, e11, e12, e13, e14, trivial⟩ rfl ?_;replace q1 := q1.bl hb;replace q3 := q3.bl hb;replace htw := ZB htw hb (Nat.le_refl _);replace hpl := ZB hpl hb (Nat.le_refl _);replace hbr := ZB hbr hb (Nat.le_refl _);replace hbw := bo_ hbw hb;clear hb;refine EL.nil (EX.seq ?_);refine EC.cutD [4, 66, 67, 68, 69, 70, 71, 72, 73, 74, 75, 76, 77, 78, 79, 80, 81, 82, 83, 84, 85, 86, 87, 88, 89, 90, 91, 92, 93, 94, 95] (fun _ : Unit => []) (fun _ W => W.ownsRow w.heap.size 39 5 (.slice Aw ts.length cw) ts.length (twsC ts) ∧ W.ownsRow w.heap.size 87 2 (.slice Ap d.plan.length cp) d.plan.length (spsC d.plan) ∧ W.ownsRow w.heap.size 87 2 (.slice A8_ b.plan.length c8_) b.plan.length (spsC b.plan) ∧ Blk W g3 23 #[.int .i64 l.length, .int .i64 l.cycle, .int .i64 l.turn, .int .i64 l.fill, .int .i64 l.save, .bool l.high] ∧ Below w.heap.size w W) ?_ ?_
    ·
     refine EC.seq (EC.region (EL.mv rfl rfl ?_));refine EL.val (Zr (r := false) rfl rfl (decide_eq_false (by decide))) rfl ?_
     refine EL.mv rfl rfl (EL.mg rfl rfl rfl rfl ?_);refine EL.valg rfl rfl (Zr (r := false) rfl rfl (decide_eq_false (by decide))) rfl ?_
     refine EL.pf rfl rfl rfl (EL.mv rfl rfl (EL.mg rfl rfl rfl rfl ?_));refine EL.valg rfl rfl (Zr (r := false) rfl rfl (decide_eq_false (by decide))) rfl ?_
     refine EL.pf rfl rfl rfl (EL.mv rfl rfl (EL.mg rfl rfl rfl rfl (EL.mg rfl rfl rfl rfl ?_)));refine EL.valg rfl rfl (Zr (r := false) rfl rfl (decide_eq_false (fun h => h rfl))) rfl ?_
     refine EL.pf rfl rfl rfl (EL.mv rfl rfl (EL.mg rfl rfl rfl rfl (EL.mg rfl rfl rfl rfl ?_)));refine EL.valg rfl rfl (ZT (r := false) rfl rfl (decide_eq_false (by omega))) rfl ?_
     refine EL.pf rfl rfl rfl (EL.mv rfl rfl (EL.mg rfl rfl rfl rfl (EL.mg rfl rfl rfl rfl ?_)))
     by_cases hq1 : d.s.cost = b.s.cost
     ·
      refine EL.valg rfl rfl (Z4 (r := true) rfl rfl (decide_eq_true hq1)) rfl (EL.mg rfl rfl rfl rfl (EL.mg rfl rfl rfl rfl (EL.mg rfl rfl rfl rfl ?_)));refine EL.valg rfl rfl (ZT (r := false) rfl rfl (decide_eq_false (by omega))) rfl ?_
      refine EL.valg rfl rfl (Ye rfl rfl) rfl (EL.pf rfl rfl rfl (EL.nil (EX.seq (EC.no rfl (EC.skip ?_)))))
      exact EX.cutE () trivial (by repeat first | with_reducible exact (Sub.refl _).del _ | refine sp_ rfl ?_ | exact (Sub.refl _).del _ | refine sd_ rfl ?_ | refine sn_ ?_) ⟨htw, hpl, hbr, q3, hbw⟩
     ·
      refine EL.valg rfl rfl (Z4 (r := false) rfl rfl (decide_eq_false hq1)) rfl (EL.mg rfl rfl rfl rfl (EL.skip rfl rfl rfl rfl (EL.skip rfl rfl rfl rfl (EL.skip rfl rfl rfl rfl (EL.valg rfl rfl (QAB rfl rfl) rfl (EL.pf rfl rfl rfl (EL.nil (EX.seq (EC.no rfl ?_)))))))));refine EC.skip ?_
      exact EX.cutE () trivial (by repeat first | with_reducible exact (Sub.refl _).del _ | refine sp_ rfl ?_ | exact (Sub.refl _).del _ | refine sd_ rfl ?_ | refine sn_ ?_) ⟨htw, hpl, hbr, q3, hbw⟩
    ·
     clear htw hpl hbr q3 hbw
     rintro ⟨⟩ wc5 ⟨htw, hpl, hbr, q3, hbw⟩
     refine EC.seq (EC.region (EL.mv rfl rfl (EL.mv rfl rfl ?_)));refine EL.val (QL2 rfl (IntWalk.i64_in y ⟨by omega, by omega⟩)) rfl ?_
     refine EL.val (QBQ rfl rfl (by decide) rfl) rfl ?_
     refine EL.val (ZR rfl rfl (c := mo) (by rw [hmo]; exact IntWalk.i64_in _ ⟨by omega, by omega⟩)) rfl ?_
     refine EL.as rfl rfl (EL.nil (EX.seq (EC.seq ?_)));have hsz := hbw.size;have lt_3 := q3.lt;refine EC.regionP [[], [], [1], [], [0, 1, 2, 3], [0, 1, 2, 3, 4], [0, 1, 2, 3, 4, 5], [0, 1, 2, 3, 4, 5], [0, 1, 2, 3, 4, 5], [0, 1, 2, 3, 4, 5, 6], [0, 1, 2, 3, 4, 5, 6, 7, 9], [0, 1, 2, 3, 4, 5, 6, 7, 8, 9, 10]] 12 [] (phi (fun i_ r => match i_ with | 0 => r 0 = .agg #[.int .i64 l.length, .int .i64 l.cycle, .int .i64 l.turn, .int .i64 l.fill, .int .i64 l.save, .bool l.high] | 1 => r 1 = .slice Aw ts.length cw | 3 => r 3 = .int .i64 mo | 7 => r 7 = .int .i64 aq.s.cost | 8 => r 8 = .int .i64 0 | 10 => r 10 = .int .i64 aq.s.cost | 11 => r 11 = .int .i64 0 | _ => True) [(2, fun r w_ => ∃ A_ c_, r 2 = .slice A_ ts.length c_ ∧ w_.ownsRow wc5.heap.size 39 5 (.slice A_ ts.length c_) ts.length (twsC ts)), (4, fun r w_ => ∃ A_ c_, r 4 = .tuple #[.slice A_ aq.plan.length c_, .int .i64 aq.s.cost, .int .i64 0] ∧ w_.ownsRow wc5.heap.size 87 2 (.slice A_ aq.plan.length c_) aq.plan.length (spsC aq.plan)), (5, fun r w_ => ∃ A_ c_, r 5 = .tuple #[.slice A_ aq.plan.length c_, .int .i64 aq.s.cost, .int .i64 0] ∧ w_.ownsRow wc5.heap.size 87 2 (.slice A_ aq.plan.length c_) aq.plan.length (spsC aq.plan)), (6, fun r w_ => ∃ A_ c_, r 6 = .slice A_ aq.plan.length c_ ∧ w_.ownsRow wc5.heap.size 87 2 (.slice A_ aq.plan.length c_) aq.plan.length (spsC aq.plan)), (9, fun r w_ => ∃ A_ c_, r 9 = .slice A_ aq.plan.length c_ ∧ w_.ownsRow wc5.heap.size 87 2 (.slice A_ aq.plan.length c_) aq.plan.length (spsC aq.plan))]) (by kernel_rfl) rfl rfl (ZU Zc (ZU Zc (ZU Zc (ZU Zc (ZU Zc (YF)))))) (fun i_ hi_ => ?_) ?_
     ·match i_, hi_ with
      | 0, _ =>
       intro val w1 a hb ha hd;have ha := ha.s0 (d := 5) rfl
       exact ZG ha rfl rfl (Yr rfl ((q3.below hb q3.lt).at (j := 0) rfl) ((q3.below hb q3.lt).at (j := 1) rfl) ((q3.below hb q3.lt).at (j := 2) rfl) ((q3.below hb q3.lt).at (j := 3) rfl) ((q3.below hb q3.lt).at (j := 4) rfl) ((q3.below hb q3.lt).at (j := 5) rfl)) rfl rfl
      | 1, _ =>
       intro val w1 a hb ha hd;have ha := ha.s0 (d := 6) rfl
       exact ZG ha rfl rfl (x_move rfl) rfl rfl
      | 2, _ =>
       intro val w1 a hb ha hd;have e1 : val 1 = _ := hd 1 (ZA.1 rfl);have ha := ha.s1 (d := 103) rfl e1;refine Zx ha rfl rfl (cA1 cF13 rfl) (Yc ((Rd.of_own htw).below hb) hb.size (by omega)) rfl ?_
       rintro e w' ⟨⟨v, rfl, p1⟩, hb'⟩
       obtain ⟨A1, c1, rfl, _⟩ := (Rd.of_own p1).shape
       exact ⟨_, rfl, hb', A1, c1, rfl, Zn p1 hb.size⟩
      | 3, _ =>
       intro val w1 a hb ha hd;have ha := ha.s0 (d := 19) rfl
       exact ZG ha rfl rfl (x_move rfl) rfl rfl
      | 4, _ =>
       intro val w1 a hb ha hd;have e0 : val 0 = _ := hd 0 (ZA.1 rfl);obtain ⟨A2_, c2_, e2, o2_⟩ := hd 2 (ZA.1 rfl);have e3 : val 3 = _ := hd 3 (ZA.1 rfl);have ha := ha.sub (Sub.ins (d := 105) (Sub.ins (d := 104) (Sub.ins (d := 102) (Sub.nil _) (ZN rfl e0)) (ZN rfl e2)) (ZN rfl e3));refine Zx ha rfl rfl (cA3 cF25 rfl rfl rfl) (QDE hta (Rd.of_own o2_) (Nat.le_refl _)) rfl ?_
       rintro e w' ⟨sl, rfl, p1, hb'⟩
       obtain ⟨A1, c1, rfl, _⟩ := (Rd.of_own p1).shape
       exact ⟨_, rfl, hb', A1, c1, rfl, Zn p1 hb.size⟩
      | 5, _ =>
       intro val w1 a hb ha hd;obtain ⟨A4_, c4_, e4, o4_⟩ := hd 4 (ZA.1 rfl);have ha := ha.s1 (d := 106) rfl e4
       exact ZG ha rfl rfl (x_move rfl) ⟨A4_, c4_, rfl, o4_⟩ rfl
      | 6, _ =>
       intro val w1 a hb ha hd;obtain ⟨A5_, c5_, e5, o5_⟩ := hd 5 (ZA.1 rfl);have ha := ha.s1 (d := 101) rfl e5
       exact ZG ha rfl rfl (ZM (v := .slice A5_ aq.plan.length c5_) rfl rfl) ⟨A5_, c5_, rfl, o5_⟩ rfl
      | 7, _ =>
       intro val w1 a hb ha hd;obtain ⟨A5_, c5_, e5, o5_⟩ := hd 5 (ZA.1 rfl);have ha := ha.s1 (d := 101) rfl e5
       exact ZG ha rfl rfl (ZM (v := .int .i64 aq.s.cost) rfl rfl) rfl rfl
      | 8, _ =>
       intro val w1 a hb ha hd;obtain ⟨A5_, c5_, e5, o5_⟩ := hd 5 (ZA.1 rfl);have ha := ha.s1 (d := 101) rfl e5
       exact ZG ha rfl rfl (ZM (v := .int .i64 0) rfl rfl) rfl rfl
      | 9, _ =>
       intro val w1 a hb ha hd;obtain ⟨A6_, c6_, e6, o6_⟩ := hd 6 (ZA.1 rfl);have ha := ha.s1 (d := 107) rfl e6
       exact ZG ha rfl rfl (ZQ rfl) ⟨A6_, c6_, rfl, o6_⟩ rfl
      | 10, _ =>
       intro val w1 a hb ha hd;have e7 : val 7 = _ := hd 7 (ZA.1 rfl);have ha := ha.s1 (d := 108) rfl e7
       exact ZG ha rfl rfl (ZQ rfl) rfl rfl
      | 11, _ =>
       intro val w1 a hb ha hd;have e8 : val 8 = _ := hd 8 (ZA.1 rfl);have ha := ha.s1 (d := 109) rfl e8
       exact ZG ha rfl rfl (ZQ rfl) rfl rfl
      | k + 12, h => exact absurd h (by omega)
     ·intro val wR10 hb halc hd
      have e0 : val 0 = _ := hd 0 (by omega)
      have e1 : val 1 = _ := hd 1 (by omega)
      obtain ⟨A2_, c2_, e2, o2_⟩ := hd 2 (by omega)
      have e3 : val 3 = _ := hd 3 (by omega)
      obtain ⟨A4_, c4_, e4, o4_⟩ := hd 4 (by omega)
      obtain ⟨A5_, c5_, e5, o5_⟩ := hd 5 (by omega)
      obtain ⟨A6_, c6_, e6, o6_⟩ := hd 6 (by omega)
      have e7 : val 7 = _ := hd 7 (by omega)
      have e8 : val 8 = _ := hd 8 (by omega)
      obtain ⟨A9_, c9_, e9, o9_⟩ := hd 9 (by omega)
      have e10 : val 10 = _ := hd 10 (by omega)
      have e11 : val 11 = _ := hd 11 (by omega)
      refine EL.ends (cs := [_, _, _, _, _, _, _, _, _, _, _, _]) ⟨e0, e1, e2, e3, e4, e5, e6, e7, e8, e9, e10, e11, trivial⟩ rfl ?_;replace q3 := q3.bl hb;replace htw := ZB htw hb (Nat.le_refl _);replace hpl := ZB hpl hb (Nat.le_refl _);replace hbr := ZB hbr hb (Nat.le_refl _);replace hbw := bo_ hbw hb;clear hb;have hth := Zn o9_ hsz;refine EL.nil (EX.seq (EC.seq ?_));have hsz := hbw.size;have lt_3 := q3.lt;refine EC.regionS [[], [], [1], [], [0, 1, 2, 3], [0, 1, 2, 3, 4], [0, 1, 2, 3, 4, 5], [0, 1, 2, 3, 4, 5], [], [0, 1, 2, 3, 4, 5, 6, 8], [0, 1, 2, 3, 4, 5, 6, 7, 8, 9]] 11 [8] [9] (fun _ w_ => Below wR10.heap.size wR10 w_) (phiS (fun i_ r => match i_ with | 0 => r 0 = .agg #[.int .i64 l.length, .int .i64 l.cycle, .int .i64 l.turn, .int .i64 l.fill, .int .i64 l.save, .bool l.high] | 1 => r 1 = .slice Aw ts.length cw | 3 => r 3 = .slice A9_ aq.plan.length c9_ | 4 => r 4 = .tuple #[.agg #[.int .i64 aq.s.up, .int .i64 aq.s.lo, .int .i64 aq.s.ch, .int .i64 aq.s.ba], .int .i64 0] | 5 => r 5 = .tuple #[.agg #[.int .i64 aq.s.up, .int .i64 aq.s.lo, .int .i64 aq.s.ch, .int .i64 aq.s.ba], .int .i64 0] | 6 => r 6 = .agg #[.int .i64 aq.s.up, .int .i64 aq.s.lo, .int .i64 aq.s.ch, .int .i64 aq.s.ba] | 7 => r 7 = .int .i64 0 | 10 => r 10 = .int .i64 0 | _ => True) [(2, fun _ r w_ => ∃ A_ c_, r 2 = .slice A_ ts.length c_ ∧ w_.ownsRow wR10.heap.size 39 5 (.slice A_ ts.length c_) ts.length (twsC ts)), (8, fun fl r w_ => ∃ g_, r 8 = .pointer (some ⟨g_, 0, none⟩) ∧ wR10.heap.size ≤ g_ ∧ (fl 9 = false → Blk w_ g_ 35 #[.int .i64 0, .int .i64 0, .int .i64 0, .int .i64 0])), (9, fun _ r w_ => ∃ g_, r 8 = .pointer (some ⟨g_, 0, none⟩) ∧ Blk w_ g_ 35 #[.int .i64 aq.s.up, .int .i64 aq.s.lo, .int .i64 aq.s.ch, .int .i64 aq.s.ba])]) (by kernel_rfl) rfl rfl (by intro i hi; simp at hi; first | (subst hi; exact ⟨by simp, by omega⟩) | (rcases hi with rfl | rfl | rfl <;> exact ⟨by simp, by omega⟩) | (rcases hi with rfl | rfl <;> exact ⟨by simp, by omega⟩)) (YD wR10) (ZK (fun _ _ _ _ hb ⟨A, c, h1, h2⟩ => ⟨A, c, h1, ZB h2 hb (Nat.le_refl _)⟩) (ZK Ze (ZK Zd (Zb)))) (fun i_ hi_ hs_ => ?_) (fun i_ hi_ => ?_) ?_
      ·match i_, hi_ with
       | 0, _ =>
        intro val fl w1 a hb ha hd hfl;have ha := ha.s0 (d := 5) rfl
        exact ZC ha rfl rfl (Yr rfl ((q3.below hb q3.lt).at (j := 0) rfl) ((q3.below hb q3.lt).at (j := 1) rfl) ((q3.below hb q3.lt).at (j := 2) rfl) ((q3.below hb q3.lt).at (j := 3) rfl) ((q3.below hb q3.lt).at (j := 4) rfl) ((q3.below hb q3.lt).at (j := 5) rfl)) rfl rfl
       | 1, _ =>
        intro val fl w1 a hb ha hd hfl;have ha := ha.s0 (d := 6) rfl
        exact ZC ha rfl rfl (x_move rfl) rfl rfl
       | 2, _ =>
        intro val fl w1 a hb ha hd hfl;have e1 : val 1 = _ := hd 1 (ZA.1 rfl);have ha := ha.s1 (d := 112) rfl e1;refine Z8 ha rfl rfl (cA1 cF13 rfl) (Yc ((Rd.of_own htw).below hb) hb.size (by omega)) rfl ?_
        rintro e w' ⟨⟨v, rfl, p1⟩, hb'⟩
        obtain ⟨A1, c1, rfl, _⟩ := (Rd.of_own p1).shape
        exact ⟨_, rfl, hb', A1, c1, rfl, Zn p1 hb.size⟩
       | 3, _ =>
        intro val fl w1 a hb ha hd hfl;have ha := ha.s0 (d := 20) rfl
        exact ZC ha rfl rfl (x_move rfl) rfl rfl
       | 4, _ =>
        intro val fl w1 a hb ha hd hfl;have e0 : val 0 = _ := hd 0 (ZA.1 rfl);obtain ⟨A2_, c2_, e2, o2_⟩ := hd 2 (ZA.1 rfl);have e3 : val 3 = _ := hd 3 (ZA.1 rfl);have ha := ha.sub (Sub.ins (d := 114) (Sub.ins (d := 113) (Sub.ins (d := 111) (Sub.nil _) (ZN rfl e0)) (ZN rfl e2)) (ZN rfl e3));refine Z8 ha rfl rfl (cA3 cF17 rfl rfl rfl) (QEo hcea hena (Rd.of_own o2_) (((Rd.of_own hth).below hb).more hb.size) (Nat.le_refl _) (by omega)) rfl ?_
        rintro e w' ⟨rfl, hb'⟩
        exact ⟨_, rfl, hb', rfl⟩
       | 5, _ =>
        intro val fl w1 a hb ha hd hfl;have e4 : val 4 = _ := hd 4 (ZA.1 rfl);have ha := ha.s1 (d := 115) rfl e4
        exact ZC ha rfl rfl (x_move rfl) rfl rfl
       | 6, _ =>
        intro val fl w1 a hb ha hd hfl;have e5 : val 5 = _ := hd 5 (ZA.1 rfl);have ha := ha.s1 (d := 110) rfl e5
        exact ZC ha rfl rfl (ZM (v := .agg #[.int .i64 aq.s.up, .int .i64 aq.s.lo, .int .i64 aq.s.ch, .int .i64 aq.s.ba]) rfl rfl) rfl rfl
       | 7, _ =>
        intro val fl w1 a hb ha hd hfl;have e5 : val 5 = _ := hd 5 (ZA.1 rfl);have ha := ha.s1 (d := 110) rfl e5
        exact ZC ha rfl rfl (ZM (v := .int .i64 0) rfl rfl) rfl rfl
       | 8, _ =>
        intro val fl w1 a hb ha hd hfl;have ha := ha.sub (Sub.nil _)
        exact Z7 ha rfl rfl QHA (fun g w' hq _ hge => ⟨g, rfl, Nat.le_trans hb.size hge, fun _ => hq⟩)
       | 9, _ =>
        exact absurd (by simp) hs_
       | 10, _ =>
        intro val fl w1 a hb ha hd hfl;have e7 : val 7 = _ := hd 7 (ZA.1 rfl);have ha := ha.s1 (d := 117) rfl e7
        exact ZC ha rfl rfl (ZQ rfl) rfl rfl
       | k + 11, h => exact absurd h (by omega)
      ·simp only [List.mem_singleton] at hi_; subst hi_
       intro val fl w1 a hb hfi ha hd hfl;obtain ⟨g8_, e8, hg8_, q8_⟩ := hd 8 (ZA.1 rfl);change val 8 = _ at e8;have e6 : val 6 = _ := hd 6 (ZA.1 rfl);have ha := ha.s2 (d := 116) (e := 22) rfl e6 rfl e8;refine ZZ ha rfl rfl rfl (q8_ hfi) QE5 rfl rfl rfl rfl ?_;intro w' hq hgr;refine ⟨undef, rfl, hgr.size, ZE hb hgr hg8_, ⟨g8_, e8, hq⟩, fun j _ hj hn hA => ?_⟩
       exact ZF (C := fun j => j ≠ 9 ∧ 9 ∉ clsAt [[], [], [1], [], [0, 1, 2, 3], [0, 1, 2, 3, 4], [0, 1, 2, 3, 4, 5], [0, 1, 2, 3, 4, 5], [], [0, 1, 2, 3, 4, 5, 6, 8], [0, 1, 2, 3, 4, 5, 6, 7, 8, 9]] j ∧ ∀ p ∈ [8], (p = j ∨ p ∈ clsAt [[], [], [1], [], [0, 1, 2, 3], [0, 1, 2, 3, 4], [0, 1, 2, 3, 4, 5], [0, 1, 2, 3, 4, 5], [], [0, 1, 2, 3, 4, 5, 6, 8], [0, 1, 2, 3, 4, 5, 6, 7, 8, 9]] j) → ∀ q ∈ [8], (q = 9 ∨ q ∈ clsAt [[], [], [1], [], [0, 1, 2, 3], [0, 1, 2, 3, 4], [0, 1, 2, 3, 4, 5], [0, 1, 2, 3, 4, 5], [], [0, 1, 2, 3, 4, 5, 6, 8], [0, 1, 2, 3, 4, 5, 6, 7, 8, 9]] 9) → p ≠ q → val p ≠ val q) (fun _ ⟨A, c, h1, h2⟩ => ⟨A, c, h1, ZL h2 (q8_ hfi) rfl hgr⟩) (ZF (fun _ ⟨g, h1, h2, _⟩ => ⟨g, h1, h2, fun h => by rw [ZS] at h; cases h⟩) (ZF (fun hc => absurd rfl hc.1) (fun _ _ h => h))) j ⟨hj, hn, hA⟩
      ·intro val fl wR11 hfl hb halc hd
       have e0 : val 0 = _ := hd 0 (by omega)
       have e1 : val 1 = _ := hd 1 (by omega)
       obtain ⟨A2_, c2_, e2, o2_⟩ := hd 2 (by omega)
       change val 2 = _ at e2;have e3 : val 3 = _ := hd 3 (by omega)
       have e4 : val 4 = _ := hd 4 (by omega)
       have e5 : val 5 = _ := hd 5 (by omega)
       have e6 : val 6 = _ := hd 6 (by omega)
       have e7 : val 7 = _ := hd 7 (by omega)
       obtain ⟨ga8_11, e8, qa8_11⟩ := hd 9 (by omega)
       change val 8 = _ at e8;have e10 : val 10 = _ := hd 10 (by omega)
       refine EL.ends (cs := [_, _, _, _, _, _, _, _, _, val 9, _]) ⟨e0, e1, e2, e3, e4, e5, e6, e7, e8, rfl, e10, trivial⟩ rfl ?_;replace q3 := q3.bl hb;replace htw := ZB htw hb (Nat.le_refl _);replace hpl := ZB hpl hb (Nat.le_refl _);replace hbr := ZB hbr hb (Nat.le_refl _);replace hth := ZB hth hb (Nat.le_refl _);have bge6 := YP halc (i := 8) rfl rfl e8;have n3_6 : g3 ≠ ga8_11 := Nat.ne_of_lt (Nat.lt_of_lt_of_le lt_3 bge6);have bhbw_6 := Nat.le_trans hbw.size bge6;replace hbw := bo_ hbw hb;refine EL.nil (EX.seq (EC.seq ?_));have hsz := hbw.size;have lt_3 := q3.lt;have lt_6 := qa8_11.lt;refine EC.regionS [[], [], [1], [], [0, 1, 2, 3], [0, 1, 2, 3, 4], [0, 1, 2, 3, 4, 5], [0, 1, 2, 3, 4, 5], [], [0, 1, 2, 3, 4, 5, 6, 8], [0, 1, 2, 3, 4, 5, 6, 7, 8, 9]] 11 [8] [9] (fun _ w_ => Below wR11.heap.size wR11 w_) (phiS (fun i_ r => match i_ with | 0 => r 0 = .agg #[.int .i64 l.length, .int .i64 l.cycle, .int .i64 l.turn, .int .i64 l.fill, .int .i64 l.save, .bool l.high] | 1 => r 1 = .slice Aw ts.length cw | 3 => r 3 = .slice Ap d.plan.length cp | 4 => r 4 = .tuple #[.agg #[.int .i64 d.s.up, .int .i64 d.s.lo, .int .i64 d.s.ch, .int .i64 d.s.ba], .int .i64 0] | 5 => r 5 = .tuple #[.agg #[.int .i64 d.s.up, .int .i64 d.s.lo, .int .i64 d.s.ch, .int .i64 d.s.ba], .int .i64 0] | 6 => r 6 = .agg #[.int .i64 d.s.up, .int .i64 d.s.lo, .int .i64 d.s.ch, .int .i64 d.s.ba] | 7 => r 7 = .int .i64 0 | 10 => r 10 = .int .i64 0 | _ => True) [(2, fun _ r w_ => ∃ A_ c_, r 2 = .slice A_ ts.length c_ ∧ w_.ownsRow wR11.heap.size 39 5 (.slice A_ ts.length c_) ts.length (twsC ts)), (8, fun fl r w_ => ∃ g_, r 8 = .pointer (some ⟨g_, 0, none⟩) ∧ wR11.heap.size ≤ g_ ∧ (fl 9 = false → Blk w_ g_ 35 #[.int .i64 0, .int .i64 0, .int .i64 0, .int .i64 0])), (9, fun _ r w_ => ∃ g_, r 8 = .pointer (some ⟨g_, 0, none⟩) ∧ Blk w_ g_ 35 #[.int .i64 d.s.up, .int .i64 d.s.lo, .int .i64 d.s.ch, .int .i64 d.s.ba])]) (by kernel_rfl) rfl rfl (by intro i hi; simp at hi; first | (subst hi; exact ⟨by simp, by omega⟩) | (rcases hi with rfl | rfl | rfl <;> exact ⟨by simp, by omega⟩) | (rcases hi with rfl | rfl <;> exact ⟨by simp, by omega⟩)) (YD wR11) (ZK (fun _ _ _ _ hb ⟨A, c, h1, h2⟩ => ⟨A, c, h1, ZB h2 hb (Nat.le_refl _)⟩) (ZK Ze (ZK Zd (Zb)))) (fun i_ hi_ hs_ => ?_) (fun i_ hi_ => ?_) ?_
       ·match i_, hi_ with
        | 0, _ =>
         intro val fl w1 a hb ha hd hfl;have ha := ha.s0 (d := 5) rfl
         exact ZC ha rfl rfl (Yr rfl ((q3.below hb q3.lt).at (j := 0) rfl) ((q3.below hb q3.lt).at (j := 1) rfl) ((q3.below hb q3.lt).at (j := 2) rfl) ((q3.below hb q3.lt).at (j := 3) rfl) ((q3.below hb q3.lt).at (j := 4) rfl) ((q3.below hb q3.lt).at (j := 5) rfl)) rfl rfl
        | 1, _ =>
         intro val fl w1 a hb ha hd hfl;have ha := ha.s0 (d := 6) rfl
         exact ZC ha rfl rfl (x_move rfl) rfl rfl
        | 2, _ =>
         intro val fl w1 a hb ha hd hfl;have e1 : val 1 = _ := hd 1 (ZA.1 rfl);have ha := ha.s1 (d := 120) rfl e1;refine Z8 ha rfl rfl (cA1 cF13 rfl) (Yc ((Rd.of_own htw).below hb) hb.size (by omega)) rfl ?_
         rintro e w' ⟨⟨v, rfl, p1⟩, hb'⟩
         obtain ⟨A1, c1, rfl, _⟩ := (Rd.of_own p1).shape
         exact ⟨_, rfl, hb', A1, c1, rfl, Zn p1 hb.size⟩
        | 3, _ =>
         intro val fl w1 a hb ha hd hfl;have ha := ha.s0 (d := 7) rfl
         exact ZC ha rfl rfl (x_move rfl) rfl rfl
        | 4, _ =>
         intro val fl w1 a hb ha hd hfl;have e0 : val 0 = _ := hd 0 (ZA.1 rfl);obtain ⟨A2_, c2_, e2, o2_⟩ := hd 2 (ZA.1 rfl);have e3 : val 3 = _ := hd 3 (ZA.1 rfl);have ha := ha.sub (Sub.ins (d := 122) (Sub.ins (d := 121) (Sub.ins (d := 119) (Sub.nil _) (ZN rfl e0)) (ZN rfl e2)) (ZN rfl e3));refine Z8 ha rfl rfl (cA3 cF17 rfl rfl rfl) (QEo hce hen (Rd.of_own o2_) (((Rd.of_own hpl).below hb).more hb.size) (Nat.le_refl _) (by omega)) rfl ?_
         rintro e w' ⟨rfl, hb'⟩
         exact ⟨_, rfl, hb', rfl⟩
        | 5, _ =>
         intro val fl w1 a hb ha hd hfl;have e4 : val 4 = _ := hd 4 (ZA.1 rfl);have ha := ha.s1 (d := 123) rfl e4
         exact ZC ha rfl rfl (x_move rfl) rfl rfl
        | 6, _ =>
         intro val fl w1 a hb ha hd hfl;have e5 : val 5 = _ := hd 5 (ZA.1 rfl);have ha := ha.s1 (d := 118) rfl e5
         exact ZC ha rfl rfl (ZM (v := .agg #[.int .i64 d.s.up, .int .i64 d.s.lo, .int .i64 d.s.ch, .int .i64 d.s.ba]) rfl rfl) rfl rfl
        | 7, _ =>
         intro val fl w1 a hb ha hd hfl;have e5 : val 5 = _ := hd 5 (ZA.1 rfl);have ha := ha.s1 (d := 118) rfl e5
         exact ZC ha rfl rfl (ZM (v := .int .i64 0) rfl rfl) rfl rfl
        | 8, _ =>
         intro val fl w1 a hb ha hd hfl;have ha := ha.sub (Sub.nil _)
         exact Z7 ha rfl rfl QHA (fun g w' hq _ hge => ⟨g, rfl, Nat.le_trans hb.size hge, fun _ => hq⟩)
        | 9, _ =>
         exact absurd (by simp) hs_
        | 10, _ =>
         intro val fl w1 a hb ha hd hfl;have e7 : val 7 = _ := hd 7 (ZA.1 rfl);have ha := ha.s1 (d := 125) rfl e7
         exact ZC ha rfl rfl (ZQ rfl) rfl rfl
        | k + 11, h => exact absurd h (by omega)
       ·simp only [List.mem_singleton] at hi_; subst hi_
        intro val fl w1 a hb hfi ha hd hfl;obtain ⟨g8_, e8, hg8_, q8_⟩ := hd 8 (ZA.1 rfl);change val 8 = _ at e8;have e6 : val 6 = _ := hd 6 (ZA.1 rfl);have ha := ha.s2 (d := 124) (e := 23) rfl e6 rfl e8;refine ZZ ha rfl rfl rfl (q8_ hfi) QE5 rfl rfl rfl rfl ?_;intro w' hq hgr;refine ⟨undef, rfl, hgr.size, ZE hb hgr hg8_, ⟨g8_, e8, hq⟩, fun j _ hj hn hA => ?_⟩
        exact ZF (C := fun j => j ≠ 9 ∧ 9 ∉ clsAt [[], [], [1], [], [0, 1, 2, 3], [0, 1, 2, 3, 4], [0, 1, 2, 3, 4, 5], [0, 1, 2, 3, 4, 5], [], [0, 1, 2, 3, 4, 5, 6, 8], [0, 1, 2, 3, 4, 5, 6, 7, 8, 9]] j ∧ ∀ p ∈ [8], (p = j ∨ p ∈ clsAt [[], [], [1], [], [0, 1, 2, 3], [0, 1, 2, 3, 4], [0, 1, 2, 3, 4, 5], [0, 1, 2, 3, 4, 5], [], [0, 1, 2, 3, 4, 5, 6, 8], [0, 1, 2, 3, 4, 5, 6, 7, 8, 9]] j) → ∀ q ∈ [8], (q = 9 ∨ q ∈ clsAt [[], [], [1], [], [0, 1, 2, 3], [0, 1, 2, 3, 4], [0, 1, 2, 3, 4, 5], [0, 1, 2, 3, 4, 5], [], [0, 1, 2, 3, 4, 5, 6, 8], [0, 1, 2, 3, 4, 5, 6, 7, 8, 9]] 9) → p ≠ q → val p ≠ val q) (fun _ ⟨A, c, h1, h2⟩ => ⟨A, c, h1, ZL h2 (q8_ hfi) rfl hgr⟩) (ZF (fun _ ⟨g, h1, h2, _⟩ => ⟨g, h1, h2, fun h => by rw [ZS] at h; cases h⟩) (ZF (fun hc => absurd rfl hc.1) (fun _ _ h => h))) j ⟨hj, hn, hA⟩
       ·intro val fl wR12 hfl hb halc hd
        have e0 : val 0 = _ := hd 0 (by omega)
        have e1 : val 1 = _ := hd 1 (by omega)
        obtain ⟨A2_, c2_, e2, o2_⟩ := hd 2 (by omega)
        change val 2 = _ at e2;have e3 : val 3 = _ := hd 3 (by omega)
        have e4 : val 4 = _ := hd 4 (by omega)
        have e5 : val 5 = _ := hd 5 (by omega)
        have e6 : val 6 = _ := hd 6 (by omega)
        have e7 : val 7 = _ := hd 7 (by omega)
        obtain ⟨ga8_12, e8, qa8_12⟩ := hd 9 (by omega)
        change val 8 = _ at e8;have e10 : val 10 = _ := hd 10 (by omega)
        refine EL.ends (cs := [_, _, _, _, _, _, _, _, _, val 9, _]) ⟨e0, e1, e2, e3, e4, e5, e6, e7, e8, rfl, e10, trivial⟩ rfl ?_;replace q3 := q3.bl hb;replace qa8_11 := qa8_11.bl hb;replace htw := ZB htw hb (Nat.le_refl _);replace hpl := ZB hpl hb (Nat.le_refl _);replace hbr := ZB hbr hb (Nat.le_refl _);replace hth := ZB hth hb (Nat.le_refl _);have bge7 := YP halc (i := 8) rfl rfl e8;have n3_7 : g3 ≠ ga8_12 := Nat.ne_of_lt (Nat.lt_of_lt_of_le lt_3 bge7);have n6_7 : ga8_11 ≠ ga8_12 := Nat.ne_of_lt (Nat.lt_of_lt_of_le lt_6 bge7);have bhbw_7 := Nat.le_trans hbw.size bge7;replace hbw := bo_ hbw hb;refine EL.nil (EX.seq (EC.seq ?_));have hsz := hbw.size;have lt_3 := q3.lt;have lt_6 := qa8_11.lt;have lt_7 := qa8_12.lt;refine EC.regionS [[], [], [1], [], [0, 1, 2, 3], [0, 1, 2, 3, 4], [0, 1, 2, 3, 4, 5], [0, 1, 2, 3, 4, 5], [], [0, 1, 2, 3, 4, 5, 6, 8], [0, 1, 2, 3, 4, 5, 6, 7, 8, 9]] 11 [8] [9] (fun _ w_ => Below wR12.heap.size wR12 w_) (phiS (fun i_ r => match i_ with | 0 => r 0 = .agg #[.int .i64 l.length, .int .i64 l.cycle, .int .i64 l.turn, .int .i64 l.fill, .int .i64 l.save, .bool l.high] | 1 => r 1 = .slice Aw ts.length cw | 3 => r 3 = .slice A8_ b.plan.length c8_ | 4 => r 4 = .tuple #[.agg #[.int .i64 b.s.up, .int .i64 b.s.lo, .int .i64 b.s.ch, .int .i64 b.s.ba], .int .i64 0] | 5 => r 5 = .tuple #[.agg #[.int .i64 b.s.up, .int .i64 b.s.lo, .int .i64 b.s.ch, .int .i64 b.s.ba], .int .i64 0] | 6 => r 6 = .agg #[.int .i64 b.s.up, .int .i64 b.s.lo, .int .i64 b.s.ch, .int .i64 b.s.ba] | 7 => r 7 = .int .i64 0 | 10 => r 10 = .int .i64 0 | _ => True) [(2, fun _ r w_ => ∃ A_ c_, r 2 = .slice A_ ts.length c_ ∧ w_.ownsRow wR12.heap.size 39 5 (.slice A_ ts.length c_) ts.length (twsC ts)), (8, fun fl r w_ => ∃ g_, r 8 = .pointer (some ⟨g_, 0, none⟩) ∧ wR12.heap.size ≤ g_ ∧ (fl 9 = false → Blk w_ g_ 35 #[.int .i64 0, .int .i64 0, .int .i64 0, .int .i64 0])), (9, fun _ r w_ => ∃ g_, r 8 = .pointer (some ⟨g_, 0, none⟩) ∧ Blk w_ g_ 35 #[.int .i64 b.s.up, .int .i64 b.s.lo, .int .i64 b.s.ch, .int .i64 b.s.ba])]) (by kernel_rfl) rfl rfl (by intro i hi; simp at hi; first | (subst hi; exact ⟨by simp, by omega⟩) | (rcases hi with rfl | rfl | rfl <;> exact ⟨by simp, by omega⟩) | (rcases hi with rfl | rfl <;> exact ⟨by simp, by omega⟩)) (YD wR12) (ZK (fun _ _ _ _ hb ⟨A, c, h1, h2⟩ => ⟨A, c, h1, ZB h2 hb (Nat.le_refl _)⟩) (ZK Ze (ZK Zd (Zb)))) (fun i_ hi_ hs_ => ?_) (fun i_ hi_ => ?_) ?_
        ·match i_, hi_ with
         | 0, _ =>
          intro val fl w1 a hb ha hd hfl;have ha := ha.s0 (d := 5) rfl
          exact ZC ha rfl rfl (Yr rfl ((q3.below hb q3.lt).at (j := 0) rfl) ((q3.below hb q3.lt).at (j := 1) rfl) ((q3.below hb q3.lt).at (j := 2) rfl) ((q3.below hb q3.lt).at (j := 3) rfl) ((q3.below hb q3.lt).at (j := 4) rfl) ((q3.below hb q3.lt).at (j := 5) rfl)) rfl rfl
         | 1, _ =>
          intro val fl w1 a hb ha hd hfl;have ha := ha.s0 (d := 6) rfl
          exact ZC ha rfl rfl (x_move rfl) rfl rfl
         | 2, _ =>
          intro val fl w1 a hb ha hd hfl;have e1 : val 1 = _ := hd 1 (ZA.1 rfl);have ha := ha.s1 (d := 128) rfl e1;refine Z8 ha rfl rfl (cA1 cF13 rfl) (Yc ((Rd.of_own htw).below hb) hb.size (by omega)) rfl ?_
          rintro e w' ⟨⟨v, rfl, p1⟩, hb'⟩
          obtain ⟨A1, c1, rfl, _⟩ := (Rd.of_own p1).shape
          exact ⟨_, rfl, hb', A1, c1, rfl, Zn p1 hb.size⟩
         | 3, _ =>
          intro val fl w1 a hb ha hd hfl;have ha := ha.s0 (d := 8) rfl
          exact ZC ha rfl rfl (x_move rfl) rfl rfl
         | 4, _ =>
          intro val fl w1 a hb ha hd hfl;have e0 : val 0 = _ := hd 0 (ZA.1 rfl);obtain ⟨A2_, c2_, e2, o2_⟩ := hd 2 (ZA.1 rfl);have e3 : val 3 = _ := hd 3 (ZA.1 rfl);have ha := ha.sub (Sub.ins (d := 130) (Sub.ins (d := 129) (Sub.ins (d := 127) (Sub.nil _) (ZN rfl e0)) (ZN rfl e2)) (ZN rfl e3));refine Z8 ha rfl rfl (cA3 cF17 rfl rfl rfl) (QEo hceb henb (Rd.of_own o2_) (((Rd.of_own hbr).below hb).more hb.size) (Nat.le_refl _) (by omega)) rfl ?_
          rintro e w' ⟨rfl, hb'⟩
          exact ⟨_, rfl, hb', rfl⟩
         | 5, _ =>
          intro val fl w1 a hb ha hd hfl;have e4 : val 4 = _ := hd 4 (ZA.1 rfl);have ha := ha.s1 (d := 131) rfl e4
          exact ZC ha rfl rfl (x_move rfl) rfl rfl
         | 6, _ =>
          intro val fl w1 a hb ha hd hfl;have e5 : val 5 = _ := hd 5 (ZA.1 rfl);have ha := ha.s1 (d := 126) rfl e5
          exact ZC ha rfl rfl (ZM (v := .agg #[.int .i64 b.s.up, .int .i64 b.s.lo, .int .i64 b.s.ch, .int .i64 b.s.ba]) rfl rfl) rfl rfl
         | 7, _ =>
          intro val fl w1 a hb ha hd hfl;have e5 : val 5 = _ := hd 5 (ZA.1 rfl);have ha := ha.s1 (d := 126) rfl e5
          exact ZC ha rfl rfl (ZM (v := .int .i64 0) rfl rfl) rfl rfl
         | 8, _ =>
          intro val fl w1 a hb ha hd hfl;have ha := ha.sub (Sub.nil _)
          exact Z7 ha rfl rfl QHA (fun g w' hq _ hge => ⟨g, rfl, Nat.le_trans hb.size hge, fun _ => hq⟩)
         | 9, _ =>
          exact absurd (by simp) hs_
         | 10, _ =>
          intro val fl w1 a hb ha hd hfl;have e7 : val 7 = _ := hd 7 (ZA.1 rfl);have ha := ha.s1 (d := 133) rfl e7
          exact ZC ha rfl rfl (ZQ rfl) rfl rfl
         | k + 11, h => exact absurd h (by omega)
        ·simp only [List.mem_singleton] at hi_; subst hi_
         intro val fl w1 a hb hfi ha hd hfl;obtain ⟨g8_, e8, hg8_, q8_⟩ := hd 8 (ZA.1 rfl);change val 8 = _ at e8;have e6 : val 6 = _ := hd 6 (ZA.1 rfl);have ha := ha.s2 (d := 132) (e := 24) rfl e6 rfl e8;refine ZZ ha rfl rfl rfl (q8_ hfi) QE5 rfl rfl rfl rfl ?_;intro w' hq hgr;refine ⟨undef, rfl, hgr.size, ZE hb hgr hg8_, ⟨g8_, e8, hq⟩, fun j _ hj hn hA => ?_⟩
         exact ZF (C := fun j => j ≠ 9 ∧ 9 ∉ clsAt [[], [], [1], [], [0, 1, 2, 3], [0, 1, 2, 3, 4], [0, 1, 2, 3, 4, 5], [0, 1, 2, 3, 4, 5], [], [0, 1, 2, 3, 4, 5, 6, 8], [0, 1, 2, 3, 4, 5, 6, 7, 8, 9]] j ∧ ∀ p ∈ [8], (p = j ∨ p ∈ clsAt [[], [], [1], [], [0, 1, 2, 3], [0, 1, 2, 3, 4], [0, 1, 2, 3, 4, 5], [0, 1, 2, 3, 4, 5], [], [0, 1, 2, 3, 4, 5, 6, 8], [0, 1, 2, 3, 4, 5, 6, 7, 8, 9]] j) → ∀ q ∈ [8], (q = 9 ∨ q ∈ clsAt [[], [], [1], [], [0, 1, 2, 3], [0, 1, 2, 3, 4], [0, 1, 2, 3, 4, 5], [0, 1, 2, 3, 4, 5], [], [0, 1, 2, 3, 4, 5, 6, 8], [0, 1, 2, 3, 4, 5, 6, 7, 8, 9]] 9) → p ≠ q → val p ≠ val q) (fun _ ⟨A, c, h1, h2⟩ => ⟨A, c, h1, ZL h2 (q8_ hfi) rfl hgr⟩) (ZF (fun _ ⟨g, h1, h2, _⟩ => ⟨g, h1, h2, fun h => by rw [ZS] at h; cases h⟩) (ZF (fun hc => absurd rfl hc.1) (fun _ _ h => h))) j ⟨hj, hn, hA⟩
        ·intro val fl wR13 hfl hb halc hd
         have e0 : val 0 = _ := hd 0 (by omega)
         have e1 : val 1 = _ := hd 1 (by omega)
         obtain ⟨A2_, c2_, e2, o2_⟩ := hd 2 (by omega)
         change val 2 = _ at e2;have e3 : val 3 = _ := hd 3 (by omega)
         have e4 : val 4 = _ := hd 4 (by omega)
         have e5 : val 5 = _ := hd 5 (by omega)
         have e6 : val 6 = _ := hd 6 (by omega)
         have e7 : val 7 = _ := hd 7 (by omega)
         obtain ⟨ga8_13, e8, qa8_13⟩ := hd 9 (by omega)
         change val 8 = _ at e8;have e10 : val 10 = _ := hd 10 (by omega)
         refine EL.ends (cs := [_, _, _, _, _, _, _, _, _, val 9, _]) ⟨e0, e1, e2, e3, e4, e5, e6, e7, e8, rfl, e10, trivial⟩ rfl ?_;replace q3 := q3.bl hb;replace qa8_11 := qa8_11.bl hb;replace qa8_12 := qa8_12.bl hb;replace htw := ZB htw hb (Nat.le_refl _);replace hpl := ZB hpl hb (Nat.le_refl _);replace hbr := ZB hbr hb (Nat.le_refl _);replace hth := ZB hth hb (Nat.le_refl _);have bge8 := YP halc (i := 8) rfl rfl e8;have n3_8 : g3 ≠ ga8_13 := Nat.ne_of_lt (Nat.lt_of_lt_of_le lt_3 bge8);have n6_8 : ga8_11 ≠ ga8_13 := Nat.ne_of_lt (Nat.lt_of_lt_of_le lt_6 bge8);have n7_8 : ga8_12 ≠ ga8_13 := Nat.ne_of_lt (Nat.lt_of_lt_of_le lt_7 bge8);have bhbw_8 := Nat.le_trans hbw.size bge8;replace hbw := bo_ hbw hb;refine EL.nil (EX.seq ?_);refine EC.cutD [4, 134, 135, 136, 137, 138, 139, 140, 141, 142, 143, 144, 145, 146, 147, 148, 149, 150, 151, 152, 153, 154, 155, 156, 157, 158, 159, 160, 161, 162, 163, 164, 165, 166, 167, 168, 169, 170, 171, 172, 173, 174, 175, 176] (fun _ : Unit => []) (fun _ W => W.ownsRow w.heap.size 39 5 (.slice Aw ts.length cw) ts.length (twsC ts) ∧ W.ownsRow w.heap.size 87 2 (.slice Ap d.plan.length cp) d.plan.length (spsC d.plan) ∧ W.ownsRow w.heap.size 87 2 (.slice A8_ b.plan.length c8_) b.plan.length (spsC b.plan) ∧ W.ownsRow w.heap.size 87 2 (.slice A9_ aq.plan.length c9_) aq.plan.length (spsC aq.plan) ∧ Blk W g3 23 #[.int .i64 l.length, .int .i64 l.cycle, .int .i64 l.turn, .int .i64 l.fill, .int .i64 l.save, .bool l.high] ∧ Blk W ga8_11 35 #[.int .i64 aq.s.up, .int .i64 aq.s.lo, .int .i64 aq.s.ch, .int .i64 aq.s.ba] ∧ Blk W ga8_12 35 #[.int .i64 d.s.up, .int .i64 d.s.lo, .int .i64 d.s.ch, .int .i64 d.s.ba] ∧ Blk W ga8_13 35 #[.int .i64 b.s.up, .int .i64 b.s.lo, .int .i64 b.s.ch, .int .i64 b.s.ba] ∧ Below w.heap.size w W) ?_ ?_
         ·
          refine EC.seq (EC.region (EL.mv rfl rfl ?_));refine EL.val (Zr (r := false) rfl rfl (decide_eq_false (by decide))) rfl ?_
          refine EL.mv rfl rfl (EL.mg rfl rfl rfl rfl ?_);refine EL.valg rfl rfl (Zr (r := false) rfl rfl (decide_eq_false (by decide))) rfl ?_
          refine EL.pf rfl rfl rfl (EL.mv rfl rfl (EL.mg rfl rfl rfl rfl ?_));refine EL.valg rfl rfl (Zr (r := false) rfl rfl (decide_eq_false (by decide))) rfl ?_
          refine EL.pf rfl rfl rfl (EL.mv rfl rfl (EL.mg rfl rfl rfl rfl ?_));refine EL.valg rfl rfl (Zr (r := false) rfl rfl (decide_eq_false (by decide))) rfl ?_
          refine EL.pf rfl rfl rfl (EL.mv rfl rfl (EL.mg rfl rfl rfl rfl (EL.mg rfl rfl rfl rfl ?_)));refine EL.valg rfl rfl (ZT (r := false) rfl rfl (decide_eq_false (by omega))) rfl ?_
          refine EL.pf rfl rfl rfl (EL.mv rfl rfl (EL.mg rfl rfl rfl rfl (EL.mg rfl rfl rfl rfl ?_)));refine EL.valg rfl rfl (Zy (r := false) rfl rfl (decide_eq_false (by omega))) rfl ?_
          refine EL.pf rfl rfl rfl (EL.mv rfl rfl (EL.valg rfl rfl (Ya rfl) rfl (EL.valg rfl rfl (ld_3 rfl (qa8_11.at (j := 0) rfl)) rfl (EL.valg rfl rfl (Ya rfl) rfl (EL.valg rfl rfl (ld_3 rfl (qa8_13.at (j := 0) rfl)) rfl ?_)))));refine EL.valg rfl rfl (ZT (r := false) rfl rfl (decide_eq_false (by omega))) rfl ?_
          refine EL.pf rfl rfl rfl (EL.mv rfl rfl (EL.mg rfl rfl rfl rfl (EL.mg rfl rfl rfl rfl ?_)))
          by_cases hq2 : d.s.cost ≤ mo
          ·
           refine EL.valg rfl rfl (QCT (r := true) rfl rfl (decide_eq_true hq2)) rfl (EL.mg rfl rfl rfl rfl (EL.valg rfl rfl (Ya rfl) rfl (EL.valg rfl rfl (ld_3 rfl (qa8_12.at (j := 0) rfl)) rfl (EL.valg rfl rfl (Ya rfl) rfl (EL.valg rfl rfl (ld_3 rfl (qa8_11.at (j := 0) rfl)) rfl ?_)))));refine EL.valg rfl rfl (Zy (r := false) rfl rfl (decide_eq_false (by have := hup _ hin hq2; omega))) rfl ?_
           refine EL.valg rfl rfl (Ye rfl rfl) rfl (EL.pf rfl rfl rfl (EL.nil (EX.seq (EC.no rfl (EC.skip ?_)))))
           exact EX.cutE () trivial (by repeat first | with_reducible exact (Sub.refl _).del _ | refine sp_ rfl ?_ | exact (Sub.refl _).del _ | refine sd_ rfl ?_ | refine sn_ ?_) ⟨htw, hpl, hbr, hth, q3, qa8_11, qa8_12, qa8_13, hbw⟩
          ·
           refine EL.valg rfl rfl (QCT (r := false) rfl rfl (decide_eq_false hq2)) rfl (EL.mg rfl rfl rfl rfl (EL.skip rfl rfl rfl rfl (EL.skip rfl rfl rfl rfl (EL.skip rfl rfl rfl rfl (EL.skip rfl rfl rfl rfl (EL.skip rfl rfl rfl rfl (EL.valg rfl rfl (QAB rfl rfl) rfl (EL.pf rfl rfl rfl (EL.nil ?_)))))))));refine EX.seq (EC.no rfl (EC.skip ?_))
           exact EX.cutE () trivial (by repeat first | with_reducible exact (Sub.refl _).del _ | refine sp_ rfl ?_ | exact (Sub.refl _).del _ | refine sd_ rfl ?_ | refine sn_ ?_) ⟨htw, hpl, hbr, hth, q3, qa8_11, qa8_12, qa8_13, hbw⟩
         ·
          clear htw hpl hbr hth q3 qa8_11 qa8_12 qa8_13 hbw
          rintro ⟨⟩ wc9 ⟨htw, hpl, hbr, hth, q3, qa8_11, qa8_12, qa8_13, hbw⟩
          refine EC.seq ?_;have hsz := hbw.size;have lt_3 := q3.lt;have lt_6 := qa8_11.lt;have lt_7 := qa8_12.lt;have lt_8 := qa8_13.lt;refine EC.regionP [[], [], [1], [], [0, 1, 2, 3], [0, 1, 2, 3, 4], [0, 1, 2, 3, 4, 5], [0, 1, 2, 3, 4, 5], [0, 1, 2, 3, 4, 5], [0, 1, 2, 3, 4, 5, 6, 7], [0, 1, 2, 3, 4, 5, 6, 7, 8, 9]] 11 [] (phi (fun i_ r => match i_ with | 0 => r 0 = .agg #[.int .i64 l.length, .int .i64 l.cycle, .int .i64 l.turn, .int .i64 l.fill, .int .i64 l.save, .bool l.high] | 1 => r 1 = .slice Aw ts.length cw | 3 => r 3 = .int .i64 b.s.cost | 7 => r 7 = .int .i64 b.s.cost | 8 => r 8 = .int .i64 0 | 9 => r 9 = .int .i64 b.s.cost | 10 => r 10 = .int .i64 0 | _ => True) [(2, fun r w_ => ∃ A_ c_, r 2 = .slice A_ ts.length c_ ∧ w_.ownsRow wc9.heap.size 39 5 (.slice A_ ts.length c_) ts.length (twsC ts)), (4, fun r w_ => ∃ A_ c_, r 4 = .tuple #[.slice A_ P2.length c_, .int .i64 b.s.cost, .int .i64 0] ∧ w_.ownsRow wc9.heap.size 87 2 (.slice A_ P2.length c_) P2.length (spsC P2)), (5, fun r w_ => ∃ A_ c_, r 5 = .tuple #[.slice A_ P2.length c_, .int .i64 b.s.cost, .int .i64 0] ∧ w_.ownsRow wc9.heap.size 87 2 (.slice A_ P2.length c_) P2.length (spsC P2)), (6, fun r w_ => ∃ A_ c_, r 6 = .slice A_ P2.length c_ ∧ w_.ownsRow wc9.heap.size 87 2 (.slice A_ P2.length c_) P2.length (spsC P2))]) (by kernel_rfl) rfl rfl (ZU Zc (ZU Zc (ZU Zc (ZU Zc (YF))))) (fun i_ hi_ => ?_) ?_
          ·match i_, hi_ with
           | 0, _ =>
            intro val w1 a hb ha hd;have ha := ha.s0 (d := 5) rfl
            exact ZG ha rfl rfl (Yr rfl ((q3.below hb q3.lt).at (j := 0) rfl) ((q3.below hb q3.lt).at (j := 1) rfl) ((q3.below hb q3.lt).at (j := 2) rfl) ((q3.below hb q3.lt).at (j := 3) rfl) ((q3.below hb q3.lt).at (j := 4) rfl) ((q3.below hb q3.lt).at (j := 5) rfl)) rfl rfl
           | 1, _ =>
            intro val w1 a hb ha hd;have ha := ha.s0 (d := 6) rfl
            exact ZG ha rfl rfl (x_move rfl) rfl rfl
           | 2, _ =>
            intro val w1 a hb ha hd;have e1 : val 1 = _ := hd 1 (ZA.1 rfl);have ha := ha.s1 (d := 179) rfl e1;refine Zx ha rfl rfl (cA1 cF13 rfl) (Yc ((Rd.of_own htw).below hb) hb.size (by omega)) rfl ?_
            rintro e w' ⟨⟨v, rfl, p1⟩, hb'⟩
            obtain ⟨A1, c1, rfl, _⟩ := (Rd.of_own p1).shape
            exact ⟨_, rfl, hb', A1, c1, rfl, Zn p1 hb.size⟩
           | 3, _ =>
            intro val w1 a hb ha hd;have ha := ha.s0 (d := 9) rfl
            exact ZG ha rfl rfl (x_move rfl) rfl rfl
           | 4, _ =>
            intro val w1 a hb ha hd;have e0 : val 0 = _ := hd 0 (ZA.1 rfl);obtain ⟨A2_, c2_, e2, o2_⟩ := hd 2 (ZA.1 rfl);have e3 : val 3 = _ := hd 3 (ZA.1 rfl);have ha := ha.sub (Sub.ins (d := 181) (Sub.ins (d := 180) (Sub.ins (d := 178) (Sub.nil _) (ZN rfl e0)) (ZN rfl e2)) (ZN rfl e3));refine Zx ha rfl rfl (cA3 cF25 rfl rfl rfl) (QDE htc (Rd.of_own o2_) (Nat.le_refl _)) rfl ?_
            rintro e w' ⟨sl, rfl, p1, hb'⟩
            obtain ⟨A1, c1, rfl, _⟩ := (Rd.of_own p1).shape
            exact ⟨_, rfl, hb', A1, c1, rfl, Zn p1 hb.size⟩
           | 5, _ =>
            intro val w1 a hb ha hd;obtain ⟨A4_, c4_, e4, o4_⟩ := hd 4 (ZA.1 rfl);have ha := ha.s1 (d := 182) rfl e4
            exact ZG ha rfl rfl (x_move rfl) ⟨A4_, c4_, rfl, o4_⟩ rfl
           | 6, _ =>
            intro val w1 a hb ha hd;obtain ⟨A5_, c5_, e5, o5_⟩ := hd 5 (ZA.1 rfl);have ha := ha.s1 (d := 177) rfl e5
            exact ZG ha rfl rfl (ZM (v := .slice A5_ P2.length c5_) rfl rfl) ⟨A5_, c5_, rfl, o5_⟩ rfl
           | 7, _ =>
            intro val w1 a hb ha hd;obtain ⟨A5_, c5_, e5, o5_⟩ := hd 5 (ZA.1 rfl);have ha := ha.s1 (d := 177) rfl e5
            exact ZG ha rfl rfl (ZM (v := .int .i64 b.s.cost) rfl rfl) rfl rfl
           | 8, _ =>
            intro val w1 a hb ha hd;obtain ⟨A5_, c5_, e5, o5_⟩ := hd 5 (ZA.1 rfl);have ha := ha.s1 (d := 177) rfl e5
            exact ZG ha rfl rfl (ZM (v := .int .i64 0) rfl rfl) rfl rfl
           | 9, _ =>
            intro val w1 a hb ha hd;have e7 : val 7 = _ := hd 7 (ZA.1 rfl);have ha := ha.s1 (d := 184) rfl e7
            exact ZG ha rfl rfl (ZQ rfl) rfl rfl
           | 10, _ =>
            intro val w1 a hb ha hd;have e8 : val 8 = _ := hd 8 (ZA.1 rfl);have ha := ha.s1 (d := 185) rfl e8
            exact ZG ha rfl rfl (ZQ rfl) rfl rfl
           | k + 11, h => exact absurd h (by omega)
          ·intro val wR16 hb halc hd
           have e0 : val 0 = _ := hd 0 (by omega)
           have e1 : val 1 = _ := hd 1 (by omega)
           obtain ⟨A2_, c2_, e2, o2_⟩ := hd 2 (by omega)
           have e3 : val 3 = _ := hd 3 (by omega)
           obtain ⟨A4_, c4_, e4, o4_⟩ := hd 4 (by omega)
           obtain ⟨A5_, c5_, e5, o5_⟩ := hd 5 (by omega)
           obtain ⟨A6_, c6_, e6, o6_⟩ := hd 6 (by omega)
           have e7 : val 7 = _ := hd 7 (by omega)
           have e8 : val 8 = _ := hd 8 (by omega)
           have e9 : val 9 = _ := hd 9 (by omega)
           have e10 : val 10 = _ := hd 10 (by omega)
           refine EL.ends (cs := [_, _, _, _, _, _, _, _, _, _, _]) ⟨e0, e1, e2, e3, e4, e5, e6, e7, e8, e9, e10, trivial⟩ rfl ?_;replace q3 := q3.bl hb;replace qa8_11 := qa8_11.bl hb;replace qa8_12 := qa8_12.bl hb;replace qa8_13 := qa8_13.bl hb;replace htw := ZB htw hb (Nat.le_refl _);replace hpl := ZB hpl hb (Nat.le_refl _);replace hbr := ZB hbr hb (Nat.le_refl _);replace hth := ZB hth hb (Nat.le_refl _);replace hbw := bo_ hbw hb;clear hb;refine EL.nil (EX.seq (EC.seq ?_));have hsz := hbw.size;have lt_3 := q3.lt;have lt_6 := qa8_11.lt;have lt_7 := qa8_12.lt;have lt_8 := qa8_13.lt;refine EC.regionP [[], [], [1], [], [3], [0, 1, 2, 3, 4], [0, 1, 2, 3, 4, 5], [0, 1, 2, 3, 4, 5, 6], [0, 1, 2, 3, 4, 5, 6], [0, 1, 2, 3, 4, 5, 6], [0, 1, 2, 3, 4, 5, 6, 7], [0, 1, 2, 3, 4, 5, 6, 7, 8, 10], [0, 1, 2, 3, 4, 5, 6, 7, 8, 9, 10, 11]] 13 [] (phi (fun i_ r => match i_ with | 0 => r 0 = .agg #[.int .i64 l.length, .int .i64 l.cycle, .int .i64 l.turn, .int .i64 l.fill, .int .i64 l.save, .bool l.high] | 1 => r 1 = .slice Aw ts.length cw | 3 => r 3 = .int .i64 b.s.cost | 4 => r 4 = .int .i64 (b.s.cost - 1) | 8 => r 8 = .int .i64 0 | 9 => r 9 = .int .i64 7 | 11 => r 11 = .int .i64 0 | 12 => r 12 = .int .i64 7 | _ => True) [(2, fun r w_ => ∃ A_ c_, r 2 = .slice A_ ts.length c_ ∧ w_.ownsRow wR16.heap.size 39 5 (.slice A_ ts.length c_) ts.length (twsC ts)), (5, fun r w_ => ∃ A_ c_, r 5 = .tuple #[.slice A_ ([] : List SP).length c_, .int .i64 0, .int .i64 7] ∧ w_.ownsRow wR16.heap.size 87 2 (.slice A_ ([] : List SP).length c_) ([] : List SP).length (spsC ([] : List SP))), (6, fun r w_ => ∃ A_ c_, r 6 = .tuple #[.slice A_ ([] : List SP).length c_, .int .i64 0, .int .i64 7] ∧ w_.ownsRow wR16.heap.size 87 2 (.slice A_ ([] : List SP).length c_) ([] : List SP).length (spsC ([] : List SP))), (7, fun r w_ => ∃ A_ c_, r 7 = .slice A_ ([] : List SP).length c_ ∧ w_.ownsRow wR16.heap.size 87 2 (.slice A_ ([] : List SP).length c_) ([] : List SP).length (spsC ([] : List SP))), (10, fun r w_ => ∃ A_ c_, r 10 = .slice A_ ([] : List SP).length c_ ∧ w_.ownsRow wR16.heap.size 87 2 (.slice A_ ([] : List SP).length c_) ([] : List SP).length (spsC ([] : List SP)))]) (by kernel_rfl) rfl rfl (ZU Zc (ZU Zc (ZU Zc (ZU Zc (ZU Zc (YF)))))) (fun i_ hi_ => ?_) ?_
           ·match i_, hi_ with
            | 0, _ =>
             intro val w1 a hb ha hd;have ha := ha.s0 (d := 5) rfl
             exact ZG ha rfl rfl (Yr rfl ((q3.below hb q3.lt).at (j := 0) rfl) ((q3.below hb q3.lt).at (j := 1) rfl) ((q3.below hb q3.lt).at (j := 2) rfl) ((q3.below hb q3.lt).at (j := 3) rfl) ((q3.below hb q3.lt).at (j := 4) rfl) ((q3.below hb q3.lt).at (j := 5) rfl)) rfl rfl
            | 1, _ =>
             intro val w1 a hb ha hd;have ha := ha.s0 (d := 6) rfl
             exact ZG ha rfl rfl (x_move rfl) rfl rfl
            | 2, _ =>
             intro val w1 a hb ha hd;have e1 : val 1 = _ := hd 1 (ZA.1 rfl);have ha := ha.s1 (d := 188) rfl e1;refine Zx ha rfl rfl (cA1 cF13 rfl) (Yc ((Rd.of_own htw).below hb) hb.size (by omega)) rfl ?_
             rintro e w' ⟨⟨v, rfl, p1⟩, hb'⟩
             obtain ⟨A1, c1, rfl, _⟩ := (Rd.of_own p1).shape
             exact ⟨_, rfl, hb', A1, c1, rfl, Zn p1 hb.size⟩
            | 3, _ =>
             intro val w1 a hb ha hd;have ha := ha.s0 (d := 9) rfl
             exact ZG ha rfl rfl (x_move rfl) rfl rfl
            | 4, _ =>
             intro val w1 a hb ha hd;have e3 : val 3 = _ := hd 3 (ZA.1 rfl);have ha := ha.s1 (d := 190) rfl e3
             exact ZG ha rfl rfl (YB rfl rfl (c := b.s.cost - 1) (IntWalk.i64_in (b.s.cost - 1) ⟨by omega, by omega⟩)) rfl rfl
            | 5, _ =>
             intro val w1 a hb ha hd;have e0 : val 0 = _ := hd 0 (ZA.1 rfl);obtain ⟨A2_, c2_, e2, o2_⟩ := hd 2 (ZA.1 rfl);have e4 : val 4 = _ := hd 4 (ZA.1 rfl);have ha := ha.sub (Sub.ins (d := 191) (Sub.ins (d := 189) (Sub.ins (d := 187) (Sub.nil _) (ZN rfl e0)) (ZN rfl e2)) (ZN rfl e4));refine Zx ha rfl rfl (cA3 cF25 rfl rfl rfl) (QDE htl (Rd.of_own o2_) (Nat.le_refl _)) rfl ?_
             rintro e w' ⟨sl, rfl, p1, hb'⟩
             obtain ⟨A1, c1, rfl, _⟩ := (Rd.of_own p1).shape
             exact ⟨_, rfl, hb', A1, c1, rfl, Zn p1 hb.size⟩
            | 6, _ =>
             intro val w1 a hb ha hd;obtain ⟨A5_, c5_, e5, o5_⟩ := hd 5 (ZA.1 rfl);have ha := ha.s1 (d := 192) rfl e5
             exact ZG ha rfl rfl (x_move rfl) ⟨A5_, c5_, rfl, o5_⟩ rfl
            | 7, _ =>
             intro val w1 a hb ha hd;obtain ⟨A6_, c6_, e6, o6_⟩ := hd 6 (ZA.1 rfl);have ha := ha.s1 (d := 186) rfl e6
             exact ZG ha rfl rfl (ZM (v := .slice A6_ ([] : List SP).length c6_) rfl rfl) ⟨A6_, c6_, rfl, o6_⟩ rfl
            | 8, _ =>
             intro val w1 a hb ha hd;obtain ⟨A6_, c6_, e6, o6_⟩ := hd 6 (ZA.1 rfl);have ha := ha.s1 (d := 186) rfl e6
             exact ZG ha rfl rfl (ZM (v := .int .i64 0) rfl rfl) rfl rfl
            | 9, _ =>
             intro val w1 a hb ha hd;obtain ⟨A6_, c6_, e6, o6_⟩ := hd 6 (ZA.1 rfl);have ha := ha.s1 (d := 186) rfl e6
             exact ZG ha rfl rfl (ZM (v := .int .i64 7) rfl rfl) rfl rfl
            | 10, _ =>
             intro val w1 a hb ha hd;obtain ⟨A7_, c7_, e7, o7_⟩ := hd 7 (ZA.1 rfl);have ha := ha.s1 (d := 193) rfl e7
             exact ZG ha rfl rfl (ZQ rfl) ⟨A7_, c7_, rfl, o7_⟩ rfl
            | 11, _ =>
             intro val w1 a hb ha hd;have e8 : val 8 = _ := hd 8 (ZA.1 rfl);have ha := ha.s1 (d := 194) rfl e8
             exact ZG ha rfl rfl (ZQ rfl) rfl rfl
            | 12, _ =>
             intro val w1 a hb ha hd;have e9 : val 9 = _ := hd 9 (ZA.1 rfl);have ha := ha.s1 (d := 195) rfl e9
             exact ZG ha rfl rfl (ZQ rfl) rfl rfl
            | k + 13, h => exact absurd h (by omega)
           ·intro val wR17 hb halc hd
            have e0 : val 0 = _ := hd 0 (by omega)
            have e1 : val 1 = _ := hd 1 (by omega)
            obtain ⟨A2_, c2_, e2, o2_⟩ := hd 2 (by omega)
            have e3 : val 3 = _ := hd 3 (by omega)
            have e4 : val 4 = _ := hd 4 (by omega)
            obtain ⟨A5_, c5_, e5, o5_⟩ := hd 5 (by omega)
            obtain ⟨A6_, c6_, e6, o6_⟩ := hd 6 (by omega)
            obtain ⟨A7_, c7_, e7, o7_⟩ := hd 7 (by omega)
            have e8 : val 8 = _ := hd 8 (by omega)
            have e9 : val 9 = _ := hd 9 (by omega)
            obtain ⟨A10_, c10_, e10, o10_⟩ := hd 10 (by omega)
            have e11 : val 11 = _ := hd 11 (by omega)
            have e12 : val 12 = _ := hd 12 (by omega)
            refine EL.ends (cs := [_, _, _, _, _, _, _, _, _, _, _, _, _]) ⟨e0, e1, e2, e3, e4, e5, e6, e7, e8, e9, e10, e11, e12, trivial⟩ rfl ?_;replace q3 := q3.bl hb;replace qa8_11 := qa8_11.bl hb;replace qa8_12 := qa8_12.bl hb;replace qa8_13 := qa8_13.bl hb;replace htw := ZB htw hb (Nat.le_refl _);replace hpl := ZB hpl hb (Nat.le_refl _);replace hbr := ZB hbr hb (Nat.le_refl _);replace hth := ZB hth hb (Nat.le_refl _);replace hbw := bo_ hbw hb;clear hb;refine EL.nil (EX.seq (EC.seq (EC.region (EL.mv rfl rfl (EL.val (Z4 (r := true) rfl rfl (decide_eq_true rfl)) rfl (EL.mv rfl rfl (EL.mg rfl rfl rfl rfl (EL.mg rfl rfl rfl rfl (EL.valg rfl rfl (Z4 (r := true) rfl rfl (decide_eq_true rfl)) rfl ?_)))))))));refine EL.pt rfl rfl rfl (EL.mv rfl rfl (EL.mg rfl rfl rfl rfl (EL.valg rfl rfl (Z4 (r := true) rfl rfl (decide_eq_true rfl)) rfl (EL.pt rfl rfl rfl (EL.mv rfl rfl (EL.mg rfl rfl rfl rfl (EL.valg rfl rfl (Z4 (r := true) rfl rfl (decide_eq_true rfl)) rfl (EL.pt rfl rfl rfl (EL.mv rfl rfl ?_)))))))));refine EL.mg rfl rfl rfl rfl (EL.valg rfl rfl (QBl rfl) rfl ?_);refine EL.valg rfl rfl (Z4 (r := true) rfl rfl (decide_eq_true (by simp))) rfl ?_
            refine EL.pt rfl rfl rfl (EL.mv rfl rfl (EL.callg rfl rfl (cA0 cF12) rfl (QJF _) ?_))
            rintro e w10 ⟨rfl, hc10⟩
            refine ⟨_, rfl, ?_⟩;replace q3 := q3.bl hc10;replace qa8_11 := qa8_11.bl hc10;replace qa8_12 := qa8_12.bl hc10;replace qa8_13 := qa8_13.bl hc10;replace htw := ZB htw hc10 (Nat.le_refl _);replace hpl := ZB hpl hc10 (Nat.le_refl _);replace hbr := ZB hbr hc10 (Nat.le_refl _);replace hth := ZB hth hc10 (Nat.le_refl _);replace hbw := bo_ hbw hc10;clear hc10;refine EL.pt rfl rfl rfl (EL.as rfl rfl (EL.nil (EX.seq (EC.ret ?_))))
            exact EX.done (res1 rfl rfl) ⟨rfl, hbw⟩
end Go.Proofs.Ytlbfnimilcnihaa
