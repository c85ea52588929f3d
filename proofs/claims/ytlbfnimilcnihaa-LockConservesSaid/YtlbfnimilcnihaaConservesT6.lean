/- ExX33, X33, ExX34, X34, LkWater, ExX35, X35: what LockConservesProof needs of them (merged by trimpack.py). -/
import Derived.Test.YtlbfnimilcnihaaConservesT5
set_option linter.unusedVariables false
set_option linter.unusedSimpArgs false
namespace Go.Proofs.Ytlbfnimilcnihaa
open Go Go.RowKit
section
variable {n : Nat} {σ : Sg} {w : World} {dst : Option Tmp} {ty : TypeId} {pos : String} {af : Array Edge} {g : Option (Nat × Bool)} {x y z : Operand} {at' : Array TypeId}
theorem QAM {m : Int} (hx : evS σ x = some (.int .u8 m)) (hm : IntKind.i64.wrap m = m) : ZI Try.prog n σ w ⟨dst, .convert 5 3 x, ty, pos, af, g⟩ (.int .i64 m) := fun a ha => by
 simp only [execOp, ha.eval hx]
 simp [go_sem, hm]
theorem QIY {v0 v1 v2 v3 v4 v5 v6 v7 : Value} (hx : evS σ x = some (.agg #[v0, v1, v2, v3, v4, v5, v6, v7])) (a : Act) (ha : Env n σ a) : (execOp a.eval ⟨dst, .box 82 x, ty, pos, af, g⟩).run Try.prog w = .ok (.value (.pointer (some ⟨w.heap.size, 0, none⟩))) (w.alloc (.cells #[v0, v1, v2, v3, v4, v5, v6, v7] 82)) := by
 simp only [execOp, ha.eval hx]
 simp [go_sem]
theorem QCr {b o : Nat} (hx : evS σ x = some (.pointer (some ⟨b, o, none⟩))) : ZI Try.prog n σ w ⟨dst, .fieldAddr 82 x 0, ty, pos, af, g⟩ (.pointer (some ⟨b, o, none⟩)) := fun a ha => by
 simp only [execOp, ha.eval hx]
 simp [go_sem]
theorem Y7 {b o k : Nat} (hx : evS σ x = some (.pointer (some ⟨b, o, none⟩))) (hy : evS σ y = some (.int .i64 (k : Int))) (hk : k < 5) : ZI Try.prog n σ w ⟨dst, .indexAddr 78 x y, ty, pos, af, g⟩ (.pointer (some ⟨b, o + k, none⟩)) := fun a ha => by
 have k0 : (0 : Int) ≤ (k : Int) := Int.natCast_nonneg _;have k1 : (k : Int) < 5 := by omega
 simp only [execOp, ha.eval hx, ha.eval hy]
 simp [go_sem, k0, k1]
theorem ld_5 {b o : Nat} {v0 : Value} (hx : evS σ x = some (.pointer (some ⟨b, o, none⟩))) (c0 : w.cell? ⟨b, o, none⟩ = some v0) : ZI Try.prog n σ w ⟨dst, .load 5 x, ty, pos, af, g⟩ (v0) := fun a ha => by
 simp only [execOp, ha.eval hx]
 simp [go_sem, c0]
theorem QLn {b o : Nat} (hx : evS σ x = some (.pointer (some ⟨b, o, none⟩))) : ZI Try.prog n σ w ⟨dst, .fieldAddr 82 x 1, ty, pos, af, g⟩ (.pointer (some ⟨b, o + 5, none⟩)) := fun a ha => by
 simp only [execOp, ha.eval hx]
 simp [go_sem]
theorem QC5 {x0 x1 x2 x3 x4 x5 : Operand} {z0 : Int} {z1 : Int} {z2 : Int} {z3 : Int} {z4 : Int} {b5 : Bool} (h0 : evS σ x0 = some (.int .i64 z0)) (h1 : evS σ x1 = some (.int .i64 z1)) (h2 : evS σ x2 = some (.int .i64 z2)) (h3 : evS σ x3 = some (.int .i64 z3)) (h4 : evS σ x4 = some (.int .i64 z4)) (h5 : evS σ x5 = some (.bool b5)) : ZI Try.prog n σ w ⟨dst, .build 23 #[(0, x0), (1, x1), (2, x2), (3, x3), (4, x4), (5, x5)], ty, pos, af, g⟩ (.agg #[.int .i64 z0, .int .i64 z1, .int .i64 z2, .int .i64 z3, .int .i64 z4, .bool b5]) := fun a ha => by
 simp only [execOp, List.map_toArray, List.map_cons, List.map_nil, ha.eval h0, ha.eval h1, ha.eval h2, ha.eval h3, ha.eval h4, ha.eval h5]
 go_simp
theorem QIF {b o : Nat} {v0 v1 v2 v3 v4 v5 v6 v7 : Value} (hx : evS σ x = some (.pointer (some ⟨b, o, none⟩))) (c0 : w.cell? ⟨b, o, none⟩ = some v0) (c1 : w.cell? ⟨b, o + 1, none⟩ = some v1) (c2 : w.cell? ⟨b, o + 2, none⟩ = some v2) (c3 : w.cell? ⟨b, o + 3, none⟩ = some v3) (c4 : w.cell? ⟨b, o + 4, none⟩ = some v4) (c5 : w.cell? ⟨b, o + 5, none⟩ = some v5) (c6 : w.cell? ⟨b, o + 6, none⟩ = some v6) (c7 : w.cell? ⟨b, o + 7, none⟩ = some v7) : ZI Try.prog n σ w ⟨dst, .load 82 x, ty, pos, af, g⟩ (.agg #[v0, v1, v2, v3, v4, v5, v6, v7]) := fun a ha => by
 simp only [execOp, ha.eval hx]
 simp [go_sem, c0, c1, c2, c3, c4, c5, c6, c7]
theorem cF31 : cF 31 := fun _ _ => by simp [go_sem]
theorem QNW {b o m c k : Nat} (hx : evS σ x = some (.slice (some ⟨b, o, none⟩) m c)) (hy : evS σ y = some (.int .i64 (k : Int))) (hk : k < m) : ZI Try.prog n σ w ⟨dst, .indexAddr 79 x y, ty, pos, af, g⟩ (.pointer (some ⟨b, o + k * 5, none⟩)) := fun a ha => by
 have k0 : (0 : Int) ≤ (k : Int) := Int.natCast_nonneg _;have k1 : (k : Int) < (m : Int) := by omega
 simp only [execOp, ha.eval hx, ha.eval hy]
 simp [go_sem, k0, k1]
theorem QKC {p q r : Int} (hx : evS σ x = some (.int .i64 p)) (hy : evS σ y = some (.int .i64 q)) (hr : min p q = r) : ZI Try.prog n σ w ⟨dst, .call { callee := .builtin .min, args := #[x, y], argTypes := at' }, ty, pos, af, g⟩ (.int .i64 r) := fun a ha => by
 simp only [execOp, resolve, List.map_toArray, List.map_cons, List.map_nil, ha.eval hx, ha.eval hy]
 subst hr
 simp [go_sem, Int.min_def]
 split <;> split <;> omega
theorem QDm {b o : Nat} (hx : evS σ x = some (.pointer (some ⟨b, o, none⟩))) : ZI Try.prog n σ w ⟨dst, .fieldAddr 82 x 2, ty, pos, af, g⟩ (.pointer (some ⟨b, o + 6, none⟩)) := fun a ha => by
 simp only [execOp, ha.eval hx]
 simp [go_sem]
theorem QIH {b o : Nat} {v0 : Value} (hx : evS σ x = some (.pointer (some ⟨b, o, none⟩))) (c0 : w.cell? ⟨b, o, none⟩ = some v0) : ZI Try.prog n σ w ⟨dst, .load 79 x, ty, pos, af, g⟩ (v0) := fun a ha => by
 simp only [execOp, ha.eval hx]
 simp [go_sem, c0]
theorem QKH {A : Option Addr} {m c : Nat} (hx : evS σ x = some (.slice A m c)) : ZI Try.prog n σ w ⟨dst, .call { callee := .builtin .len, args := #[x], argTypes := #[79] }, ty, pos, af, g⟩ (.int .i64 (m : Int)) := fun a ha => by
 simp only [execOp, resolve, List.map_toArray, List.map_cons, List.map_nil, ha.eval hx]
 simp [go_sem]
theorem QNT {b o : Nat} {v0 v1 v2 v3 v4 : Value} (hx : evS σ x = some (.pointer (some ⟨b, o, none⟩))) (c0 : w.cell? ⟨b, o, none⟩ = some v0) (c1 : w.cell? ⟨b, o + 1, none⟩ = some v1) (c2 : w.cell? ⟨b, o + 2, none⟩ = some v2) (c3 : w.cell? ⟨b, o + 3, none⟩ = some v3) (c4 : w.cell? ⟨b, o + 4, none⟩ = some v4) : ZI Try.prog n σ w ⟨dst, .load 78 x, ty, pos, af, g⟩ (.agg #[v0, v1, v2, v3, v4]) := fun a ha => by
 simp only [execOp, ha.eval hx]
 simp [go_sem, c0, c1, c2, c3, c4]
theorem QNk (a : Act) (_ : Env n σ a) : (execOp a.eval ⟨dst, .alloc 78, ty, pos, af, g⟩).run Try.prog w = .ok (.value (.pointer (some ⟨w.heap.size, 0, none⟩))) (w.alloc (.cells #[.int .u8 0, .int .u8 0, .int .u8 0, .int .u8 0, .int .u8 0] 78)) := by
 simp only [execOp]
 simp [go_sem]
theorem QNK : (Try.prog.info? 78).map (·.size) = some 5 := by kernel_rfl
theorem QDZ {x0 x1 x2 x3 x4 : Operand} {b0 : Bool} {z1 : Int} {z2 : Int} {z3 : Int} {z4 : Int} (h0 : evS σ x0 = some (.bool b0)) (h1 : evS σ x1 = some (.int .i64 z1)) (h2 : evS σ x2 = some (.int .i64 z2)) (h3 : evS σ x3 = some (.int .i64 z3)) (h4 : evS σ x4 = some (.int .i64 z4)) : ZI Try.prog n σ w ⟨dst, .build 39 #[(0, x0), (1, x1), (2, x2), (3, x3), (4, x4)], ty, pos, af, g⟩ (.agg #[.bool b0, .int .i64 z1, .int .i64 z2, .int .i64 z3, .int .i64 z4]) := fun a ha => by
 simp only [execOp, List.map_toArray, List.map_cons, List.map_nil, ha.eval h0, ha.eval h1, ha.eval h2, ha.eval h3, ha.eval h4]
 go_simp
end
theorem QE6 {x : Sml} (hx : SmlOk x) {At As : Option Addr} {ct cs : Nat} (w : World) : Calls Try.prog 31 #[.agg #[.int .u8 x.a0, .int .u8 x.a1, .int .u8 x.a2, .int .u8 x.a3, .int .u8 x.a4, .bool x.hi, .slice At x.tows.length ct, .slice As x.steps.length cs]] w fun e w' => e = .returned (.agg #[.int .i64 (Zn x).length, .int .i64 (Zn x).cycle, .int .i64 (Zn x).turn, .int .i64 (Zn x).fill, .int .i64 (Zn x).save, .bool (Zn x).high]) ∧ Below w.heap.size w w' := by
 have hbw := Below.refl w.heap.size w;have e0 := Ys hx.a0 (n := 100) (by decide)
 have e1 := Ys hx.a1 (n := 60) (by decide)
 have e3 := hx.a3
 unfold byte at e3
 refine EC.enter 33 Try.func31 rfl rfl rfl (EC.seq (EC.region (EL.newP (QIY rfl) rfl ?_)));intro g1 w1 q1 hb1 hg1 hl1;have bhbw_1 := Nat.le_trans hbw.size hg1;replace hbw := bo_ hbw hb1;clear hb1 hg1 hl1;refine EL.newP QIk rfl ?_;intro g2 w2 q2 hb2 hg2 hl2;have n1_2 := q1.na hg2;have bhbw_2 := Nat.le_trans hbw.size hg2;replace q1 := q1.bl hb2;replace hbw := bo_ hbw hb2;clear hb2 hg2 hl2;refine EL.nil (EX.seq (EC.seq (EC.region (EL.val (QCr rfl) rfl ?_))));refine EL.val (Y7 (k := 0) rfl rfl (by omega)) rfl ?_
 refine EL.val (ld_5 rfl (q1.at (j := 0) rfl)) rfl (EL.val (QAM rfl (YB hx.a0)) rfl ?_);refine EL.val (QAE rfl rfl (by decide) rfl) rfl ?_
 refine EL.val (ZP rfl rfl (c := 40 + x.a0.tmod 100) (IntWalk.i64_in (40 + x.a0.tmod 100) ⟨by omega, by omega⟩)) rfl ?_
 refine EL.val (QCr rfl) rfl ?_;refine EL.val (Y7 (k := 1) rfl rfl (by omega)) rfl ?_
 refine EL.val (ld_5 rfl (q1.at (j := 1) rfl)) rfl (EL.val (QAM rfl (YB hx.a1)) rfl ?_);refine EL.val (QAE rfl rfl (by decide) rfl) rfl ?_
 refine EL.val (ZP rfl rfl (c := 1 + x.a1.tmod 60) (IntWalk.i64_in (1 + x.a1.tmod 60) ⟨by omega, by omega⟩)) rfl ?_
 refine EL.val (QCr rfl) rfl ?_;refine EL.val (Y7 (k := 2) rfl rfl (by omega)) rfl ?_
 refine EL.val (ld_5 rfl (q1.at (j := 2) rfl)) rfl (EL.val (QAM rfl (YB hx.a2)) rfl ?_);refine EL.val (QAE rfl rfl (by decide) rfl) rfl ?_
 refine EL.val (QCr rfl) rfl ?_;refine EL.val (Y7 (k := 3) rfl rfl (by omega)) rfl ?_
 refine EL.val (ld_5 rfl (q1.at (j := 3) rfl)) rfl (EL.val (QAM rfl (YB hx.a3)) rfl ?_);refine EL.val (QAO rfl rfl (c := 10 * x.a3) (IntWalk.i64_in (10 * x.a3) ⟨by omega, by omega⟩)) rfl ?_
 refine EL.val (QCr rfl) rfl ?_;refine EL.val (Y7 (k := 4) rfl rfl (by omega)) rfl ?_
 refine EL.val (ld_5 rfl (q1.at (j := 4) rfl)) rfl (EL.val (QAM rfl (YB hx.a4)) rfl ?_);refine EL.val (QAE rfl rfl (by decide) rfl) rfl ?_
 refine EL.val (QLn rfl) rfl (EL.val (ld_4 rfl (q1.at (j := 5) rfl)) rfl (EL.val (QC5 rfl rfl rfl rfl rfl rfl) rfl (EL.store rfl rfl q2 QE2 rfl rfl rfl rfl ?_)));intro w3 hq3 hg3;replace q1 := q1.gr hg3 n1_2;replace hbw := ZE hbw hg3 bhbw_2;replace q2 := hq3;clear hg3 hq3;refine EL.nil (EX.seq (EC.ret ?_))
 exact EX.done (QE9 rfl rfl (QML (q2.at (j := 0) rfl) (q2.at (j := 1) rfl) (q2.at (j := 2) rfl) (q2.at (j := 3) rfl) (q2.at (j := 4) rfl) (q2.at (j := 5) rfl))) ⟨rfl, hbw⟩
set_option maxRecDepth 100000 in
theorem QIs {x : Sml} (hx : SmlOk x) {At As : Option Addr} {ct cs : Nat} {w : World} {B : Nat} (hr : Rd w B 5 (.slice At x.tows.length ct) x.tows.length (e5s x.tows)) (hB : B ≤ w.heap.size) {m : Nat} (hm : m ≤ 1000) :
  Calls Try.prog 32 #[.agg #[.int .u8 x.a0, .int .u8 x.a1, .int .u8 x.a2, .int .u8 x.a3, .int .u8 x.a4, .bool x.hi, .slice At x.tows.length ct, .slice As x.steps.length cs], .int .i64 (m : Nat)] w fun e w' => (∃ v', e = .returned v' ∧ w'.ownsRow w.heap.size 39 5 v' (QAw x m).length (twsC (QAw x m))) ∧ Below w.heap.size w w' := by
 have hbw := Below.refl w.heap.size w;refine EC.enter 69 Try.func32 rfl rfl rfl (EC.seq (EC.region (EL.newP (QIY rfl) rfl ?_)));intro g1 w1 q1 hb1 hg1 hl1;have bhbw_1 := Nat.le_trans hbw.size hg1;have hbg1 : w.heap.size ≤ g1 := Nat.le_trans hbw.size hg1;replace hbw := bo_ hbw hb1;clear hb1 hg1 hl1;refine EL.as rfl rfl (EL.nil (EX.seq (EC.seq (EC.region (EL.newS (QGB) rfl ?_)))));intro g2 w2 q2 hb2 hg2 hl2;have n1_2 := q1.na hg2;have bhbw_2 := Nat.le_trans hbw.size hg2;have hbg2 : w.heap.size ≤ g2 := Nat.le_trans hbw.size hg2;replace q1 := q1.bl hb2;replace hbw := bo_ hbw hb2;clear hb2 hg2 hl2;have hO : w2.ownsRow w.heap.size 39 5 (.slice (some ⟨g2, 0, none⟩) 0 0) 0 [] := QBy 5 q2 hbg2;refine EL.val (QIF rfl (q1.at (j := 0) rfl) (q1.at (j := 1) rfl) (q1.at (j := 2) rfl) (q1.at (j := 3) rfl) (q1.at (j := 4) rfl) (q1.at (j := 5) rfl) (q1.at (j := 6) rfl) (q1.at (j := 7) rfl)) rfl (EL.call (cA1 cF31 rfl) rfl (QE6 hx _) ?_)
 rintro e w3 ⟨rfl, hc3⟩
 refine ⟨_, rfl, ?_⟩;replace q1 := q1.bl hc3;replace hO := ZD hO hc3 (Nat.le_refl _);replace hbw := bo_ hbw hc3;clear hc3;refine EL.newP QIk rfl ?_;intro g4 w4 q4 hb4 hg4 hl4;have n1_4 := q1.na hg4;have bhbw_4 := Nat.le_trans hbw.size hg4;have hbg4 : w.heap.size ≤ g4 := Nat.le_trans hbw.size hg4;replace q1 := q1.bl hb4;replace hO := ZD hO hb4 (Nat.le_refl _);replace hbw := bo_ hbw hb4;clear hb4 hg4 hl4;refine EL.as rfl rfl (EL.store rfl rfl q4 QE2 rfl rfl rfl rfl ?_);intro w5 hq5 hg5;replace q1 := q1.gr hg5 n1_4;replace hO := ZL hO q4 rfl hg5;replace hbw := ZE hbw hg5 bhbw_4;replace q4 := hq5;clear hg5 hq5;refine EL.nil (EX.seq (EC.seq (EC.seq (EC.region (EL.as rfl rfl (EL.nil (EX.seq (EC.block ?_))))))));refine EC.loopD [5, 7, 8, 9, 13, 14, 15, 16, 17, 18, 19, 20, 21, 22, 23, 24, 25, 26, 27, 28, 29, 30, 31, 32, 33, 34, 35, 36, 37, 38, 39, 40, 41, 42, 43, 44, 45, 46, 47, 48, 49, 50, 51, 52, 53, 54, 55, 56, 57, 58, 59, 60, 61, 62, 63, 64, 65, 66, 67] (fun y : Nat × Value => [(7, .int .i64 (y.1 : Nat)), (5, y.2)]) (fun y W => (y.1 ≤ x.tows.length ∧ y.1 ≤ m) ∧ W.ownsRow w.heap.size 39 5 y.2 y.1 (twsC ((x.tows.take y.1).map (towS (Zn x).length))) ∧ Below w.heap.size w W ∧ Blk W g1 82 #[.int .u8 x.a0, .int .u8 x.a1, .int .u8 x.a2, .int .u8 x.a3, .int .u8 x.a4, .bool x.hi, .slice At x.tows.length ct, .slice As x.steps.length cs] ∧ Blk W g4 23 #[.int .i64 (Zn x).length, .int .i64 (Zn x).cycle, .int .i64 (Zn x).turn, .int .i64 (Zn x).fill, .int .i64 (Zn x).save, .bool (Zn x).high]) (fun y => x.tows.length - y.1) (0, .slice (some ⟨g2, 0, none⟩) 0 0) ⟨⟨Nat.zero_le _, Nat.zero_le _⟩, hO, hbw, q1, q4⟩ ⟨rfl, rfl, trivial⟩ ?_
 clear hbw hO q1 q4
 rintro ⟨i, v3⟩ wx ⟨⟨hi, hi2⟩, hO, hbw, q1, q4⟩
 dsimp only at hi hi2 hO
 by_cases hlt : i < x.tows.length
 ·
  by_cases hlm : i < m
  ·
   obtain ⟨bx, ox, ebx, _, c0, c1, c2, c3, c4⟩ := QJD x.tows i hlt wx B _ _ _ (hr.below (hbw.mono hB));have hv := hx.t _ (Zx hlt z5);have hsu := QEo (towS (Zn x).length) x.tows z5 hlt
   generalize x.tows.getD i z5 = v at *
   obtain ⟨p0, p1, p2, p3, p4⟩ := hv;have hlb := QGp hx;have r2 := Ys p2 (n := (Zn x).length) (by omega)
   have hbl := QGn (L := (Zn x).length) (v := v) (by omega) p2
   have p2b : 0 ≤ v.2.2.1 ∧ v.2.2.1 ≤ 255 := p2;refine EC.seq (EC.seq (EC.region (EL.mv rfl rfl (EL.val (QDm rfl) rfl (EL.val (QIH rfl (q1.at (j := 6) rfl)) rfl (EL.val (QKH rfl) rfl ?_))))));refine EL.val (ZS rfl rfl (decide_eq_true (show (((i : Nat) : Int) < ((x.tows.length : Nat) : Int)) by omega))) rfl ?_
   refine EL.mv rfl rfl (EL.mg rfl rfl rfl rfl (EL.mg rfl rfl rfl rfl ?_));refine EL.valg rfl rfl (ZS rfl rfl (decide_eq_true (show (((i : Nat) : Int) < ((m : Nat) : Int)) by omega))) rfl ?_
   refine EL.pt rfl rfl rfl (EL.nil (EX.seq (EC.yes rfl (EC.skip (EX.seq (EC.seq (EC.block (EC.seq (EC.region ?_)))))))));refine EL.val (QDm rfl) rfl (EL.val (QIH rfl (q1.at (j := 6) rfl)) rfl (EL.mv rfl rfl ?_));refine EL.val (QNW (by show some (Value.slice At _ _) = _; rw [ebx]) rfl hlt) rfl ?_
   refine EL.val (QNT rfl c0 c1 c2 c3 c4) rfl (EL.newP QNk rfl ?_);intro g6 w6 q6 hb6 hg6 hl6;have n1_6 := q1.na hg6;have n4_6 := q4.na hg6;have bhbw_6 := Nat.le_trans hbw.size hg6;have hbg6 : w.heap.size ≤ g6 := Nat.le_trans hbw.size hg6;replace q1 := q1.bl hb6;replace q4 := q4.bl hb6;replace hO := ZD hO hb6 (Nat.le_refl _);replace hbw := bo_ hbw hb6;clear hb6 hg6 hl6;refine EL.store rfl rfl q6 QNK rfl rfl rfl rfl ?_;intro w7 hq7 hg7;replace q1 := q1.gr hg7 n1_6;replace q4 := q4.gr hg7 n4_6;replace hO := ZL hO q6 rfl hg7;replace hbw := ZE hbw hg7 bhbw_6;replace q6 := hq7;clear hg7 hq7;refine EL.nil (EX.seq (EC.seq (EC.region ?_)));refine EL.val (Y7 (k := 2) rfl rfl (by omega)) rfl ?_
   refine EL.val (ld_5 rfl (q6.at (j := 2) rfl)) rfl (EL.val (QAM rfl (YB p2)) rfl (EL.val (QAC rfl) rfl (EL.val (ld_3 rfl (q4.at (j := 0) rfl)) rfl ?_)));refine EL.val (QAE rfl rfl (by omega) rfl) rfl ?_
   refine EL.val (ZP rfl rfl (c := 1 + v.2.2.1.tmod (Zn x).length) (IntWalk.i64_in (1 + v.2.2.1.tmod (Zn x).length) ⟨by omega, by omega⟩)) rfl ?_
   refine EL.as rfl rfl (EL.nil (EX.seq ?_));refine EC.cutD [9, 37, 38, 39, 40, 41, 42, 43, 44] (fun _ : Unit => [(9, .int .i64 (QEI (Zn x).length v))]) (fun _ W => W.ownsRow w.heap.size 39 5 v3 i (twsC ((x.tows.take i).map (towS (Zn x).length))) ∧ Below w.heap.size w W ∧ Blk W g1 82 #[.int .u8 x.a0, .int .u8 x.a1, .int .u8 x.a2, .int .u8 x.a3, .int .u8 x.a4, .bool x.hi, .slice At x.tows.length ct, .slice As x.steps.length cs] ∧ Blk W g4 23 #[.int .i64 (Zn x).length, .int .i64 (Zn x).cycle, .int .i64 (Zn x).turn, .int .i64 (Zn x).fill, .int .i64 (Zn x).save, .bool (Zn x).high] ∧ Blk W g6 78 #[.int .u8 v.1, .int .u8 v.2.1, .int .u8 v.2.2.1, .int .u8 v.2.2.2.1, .int .u8 v.2.2.2.2]) ?_ ?_
   ·
    by_cases h7 : v.1.tmod 8 = 7
    ·
     refine EC.seq (EC.region ?_);refine EL.val (Y7 (k := 0) rfl rfl (by omega)) rfl ?_
     refine EL.val (ld_5 rfl (q6.at (j := 0) rfl)) rfl ?_;refine EL.val (QAE rfl rfl (by decide) rfl) rfl ?_
     refine EL.val (Z2 (r := true) rfl rfl (decide_eq_true h7)) rfl (EL.nil (EX.seq (EC.yes rfl (EC.region ?_))));refine EL.val (Y7 (k := 2) rfl rfl (by omega)) rfl ?_
     refine EL.val (ld_5 rfl (q6.at (j := 2) rfl)) rfl (EL.val (QAM rfl (YB p2)) rfl ?_);refine EL.val (ZP rfl rfl (c := 1 + v.2.2.1) (IntWalk.i64_in (1 + v.2.2.1) ⟨by omega, by omega⟩)) rfl ?_
     refine EL.as rfl rfl (EL.nil ?_)
     exact EX.cutE () ⟨Zv (by unfold QEI; rw [if_pos h7]) rfl, trivial⟩ (by repeat first | with_reducible exact (Sub.refl _).del _ | refine sp_ rfl ?_ | exact (Sub.refl _).del _ | refine sd_ rfl ?_ | refine sn_ ?_) ⟨hO, hbw, q1, q4, q6⟩
    ·
     refine EC.seq (EC.region ?_);refine EL.val (Y7 (k := 0) rfl rfl (by omega)) rfl ?_
     refine EL.val (ld_5 rfl (q6.at (j := 0) rfl)) rfl ?_;refine EL.val (QAE rfl rfl (by decide) rfl) rfl ?_
     refine EL.val (Z2 (r := false) rfl rfl (decide_eq_false h7)) rfl (EL.nil (EX.seq (EC.no rfl (EC.skip ?_))))
     exact EX.cutE () ⟨Zv (by unfold QEI; rw [if_neg h7]) rfl, trivial⟩ (by repeat first | with_reducible exact (Sub.refl _).del _ | refine sp_ rfl ?_ | exact (Sub.refl _).del _ | refine sd_ rfl ?_ | refine sn_ ?_) ⟨hO, hbw, q1, q4, q6⟩
   ·
    clear hO hbw q1 q4 q6
    rintro ⟨⟩ w7 ⟨hO, hbw, q1, q4, q6⟩
    refine EC.region (EL.mv rfl rfl ?_);refine EL.val (Y7 (k := 0) rfl rfl (by omega)) rfl ?_
    refine EL.val (ld_5 rfl (q6.at (j := 0) rfl)) rfl ?_;refine EL.val (QAE rfl rfl (by decide) rfl) rfl ?_
    refine EL.val (Z2 (r := decide (v.1.tmod 2 = 1)) rfl rfl rfl) rfl ?_;refine EL.val (Y7 (k := 1) rfl rfl (by omega)) rfl ?_
    refine EL.val (ld_5 rfl (q6.at (j := 1) rfl)) rfl (EL.val (QAM rfl (YB p1)) rfl (EL.mv rfl rfl (EL.val (QAC rfl) rfl (EL.val (ld_3 rfl (q4.at (j := 0) rfl)) rfl ?_))));refine EL.val (QAO rfl rfl (c := 3 * (Zn x).length) (IntWalk.i64_in (3 * (Zn x).length) ⟨by omega, by omega⟩)) rfl ?_
    refine EL.val (QKC rfl rfl rfl) rfl ?_;refine EL.val (Y7 (k := 3) rfl rfl (by omega)) rfl ?_
    refine EL.val (ld_5 rfl (q6.at (j := 3) rfl)) rfl (EL.val (QAM rfl (YB p3)) rfl ?_);refine EL.val (QAE rfl rfl (by decide) rfl) rfl ?_
    refine EL.val (Y7 (k := 4) rfl rfl (by omega)) rfl ?_
    refine EL.val (ld_5 rfl (q6.at (j := 4) rfl)) rfl (EL.val (QAM rfl (YB p4)) rfl (EL.val (QDZ rfl rfl rfl rfl rfl) rfl (EL.newS (QDq rfl) rfl ?_)));intro g8 w8 q8 hb8 hg8 hl8;have n1_8 := q1.na hg8;have n4_8 := q4.na hg8;have n6_8 := q6.na hg8;have bhbw_8 := Nat.le_trans hbw.size hg8;have hbg8 : w.heap.size ≤ g8 := Nat.le_trans hbw.size hg8;replace q1 := q1.bl hb8;replace q4 := q4.bl hb8;replace q6 := q6.bl hb8;replace hO := ZD hO hb8 (Nat.le_refl _);replace hbw := bo_ hbw hb8;clear hb8 hg8 hl8;refine EL.push QBc rfl rfl hO (QAK (l := twC (towS (Zn x).length v)) q8 rfl) (twsC_one [towS (Zn x).length v]) (by omega) rfl hbw.size rfl ?_
    intro v9 w9 ho9 hgr hb_ hat;replace hbw := hbw.trans hb_;replace q1 := ZM q1 hO rfl hgr;replace q4 := ZM q4 hO rfl hgr;clear hO hgr hb_ hat;refine EL.as rfl rfl (EL.nil (EX.blk (EX.seq (EC.region (EL.mv rfl rfl ?_)))));refine EL.val (ZP rfl rfl (c := ((i + 1 : Nat) : Int)) ((IntWalk.i64_in _ ⟨by first | omega | (simp only; omega), by first | omega | (simp only; omega)⟩).trans (by first | omega | (simp only; omega)))) rfl ?_
    refine EL.as rfl rfl (EL.nil ?_);refine EX.roundD (i + 1, v9) ⟨rfl, rfl, trivial⟩ (by repeat first | with_reducible exact .refl _ | refine sp_ rfl ?_ | exact .refl _ | refine sd_ rfl ?_ | refine sn_ ?_) ⟨⟨hlt, hlm⟩, by simp only; rw [hsu, QCU]; exact ho9, hbw, q1, q4⟩ (by simp only; omega)
  ·
   have hxe : i = min x.tows.length m := by omega
   refine EC.seq (EC.seq (EC.region (EL.mv rfl rfl (EL.val (QDm rfl) rfl (EL.val (QIH rfl (q1.at (j := 6) rfl)) rfl (EL.val (QKH rfl) rfl ?_))))));refine EL.val (ZS rfl rfl (decide_eq_true (show (((i : Nat) : Int) < ((x.tows.length : Nat) : Int)) by omega))) rfl ?_
   refine EL.mv rfl rfl (EL.mg rfl rfl rfl rfl (EL.mg rfl rfl rfl rfl ?_));refine EL.valg rfl rfl (ZS rfl rfl (decide_eq_false (show ¬(((i : Nat) : Int) < ((m : Nat) : Int)) by omega))) rfl ?_
   refine EL.pt rfl rfl rfl (EL.nil (EX.seq (EC.no rfl (EC.exit (EX.seq_exit (EX.seq_exit (EX.blk_here (EX.seq (EC.seq ?_)))))))));refine EC.region (EL.mv rfl rfl (EL.as rfl rfl (EL.nil (EX.seq (EC.ret ?_)))))
   exact EX.done (res1 rfl rfl) ⟨⟨_, rfl, QGK hxe hO⟩, hbw⟩
 ·
  have hxe : i = min x.tows.length m := by omega
  refine EC.seq (EC.seq (EC.region (EL.mv rfl rfl (EL.val (QDm rfl) rfl (EL.val (QIH rfl (q1.at (j := 6) rfl)) rfl (EL.val (QKH rfl) rfl ?_))))));refine EL.val (ZS rfl rfl (decide_eq_false (show ¬(((i : Nat) : Int) < ((x.tows.length : Nat) : Int)) by omega))) rfl ?_
  refine EL.mv rfl rfl (EL.skip rfl rfl rfl rfl (EL.skip rfl rfl rfl rfl (EL.skip rfl rfl rfl rfl (EL.pf rfl rfl rfl (EL.nil (EX.seq (EC.no rfl (EC.exit (EX.seq_exit ?_)))))))));refine EX.seq_exit (EX.blk_here (EX.seq (EC.seq (EC.region (EL.mv rfl rfl (EL.as rfl rfl (EL.nil (EX.seq (EC.ret ?_)))))))))
  exact EX.done (res1 rfl rfl) ⟨⟨_, rfl, QGK hxe hO⟩, hbw⟩
theorem QJv (ts : List TW) (u : Bool) (a : Int) : (qA ts u a).length ≤ ts.length := List.length_filter_le _ _
theorem QMp {ts : List TW} {u : Bool} {n : Nat} : (qN ts u n).length ≤ n * ts.length := by
 induction n with
 | zero => simp [QLN]
 | succ n ih =>
  rw [QAS, List.length_append, Nat.succ_mul];have := QJv ts u n
  omega
theorem QLM {ts : List TW} {u : Bool} {a i : Nat} (hn : ts.length ≤ 12) (ha : a ≤ 256) (h : a < 256) (hi : i ≤ ts.length) : (qN ts u a ++ qA (ts.take i) u a).length ≤ 300 * 12 := by
 rw [List.length_append];have h1 := QMp (ts := ts) (u := u) (n := a);have h2 := QJv (ts.take i) u a;rw [List.length_take] at h2;have h3 : a * ts.length ≤ 256 * 12 := Nat.mul_le_mul (by omega) hn
 omega
set_option maxRecDepth 100000 in
theorem QEH {ts : List TW} {u : Bool} (harr : ∀ t ∈ ts, 0 ≤ t.arrive ∧ t.arrive < (256 : Nat)) {v : Value} {w : World} {B : Nat} (hr : Rd w B 5 v ts.length (twsC ts)) (hB : B ≤ w.heap.size) (hn : ts.length ≤ 12) :
  Calls Try.prog 34 #[v, .bool u] w fun e w' => (∃ v', e = .returned v' ∧ w'.ownsRow w.heap.size 39 5 v' (qL ts u).length (twsC (qL ts u))) ∧ Below w.heap.size w w' := by
 obtain ⟨At, ct, rfl, _⟩ := hr.shape;have hbw := Below.refl w.heap.size w;refine EC.enter 43 Try.func34 rfl rfl rfl (EC.seq (EC.region (EL.as rfl rfl (EL.nil (EX.seq (EC.seq (EC.region (EL.newS (QGB) rfl ?_))))))));intro g1 w1 q1 hb1 hg1 hl1;have bhbw_1 := Nat.le_trans hbw.size hg1;have hbg1 : w.heap.size ≤ g1 := Nat.le_trans hbw.size hg1;replace hbw := bo_ hbw hb1;clear hb1 hg1 hl1;have hO : w1.ownsRow w.heap.size 39 5 (.slice (some ⟨g1, 0, none⟩) 0 0) 0 [] := QBy 5 q1 hbg1;refine EL.as rfl rfl (EL.nil (EX.seq (EC.seq (EC.seq (EC.region (EL.as rfl rfl (EL.nil (EX.seq (EC.block ?_)))))))));refine EC.loopD [5, 6, 7, 9, 10, 11, 12, 13, 14, 15, 16, 17, 18, 19, 20, 21, 22, 23, 24, 25, 26, 27, 28, 29, 30, 31, 32, 33, 34, 35, 36, 37, 38, 39, 40, 41] (fun y : Nat × Value => [(6, .int .i64 (y.1 : Nat)), (5, y.2)]) (fun y W => y.1 ≤ 256 ∧ W.ownsRow w.heap.size 39 5 y.2 (qN ts u y.1).length (twsC (qN ts u y.1)) ∧ Below w.heap.size w W) (fun y => 256 - y.1) (0, .slice (some ⟨g1, 0, none⟩) 0 0) ⟨Nat.zero_le _, hO, hbw⟩ ⟨rfl, rfl, trivial⟩ ?_
 clear hbw hO
 rintro ⟨a, v3⟩ wx ⟨ha, hO, hbw⟩
 dsimp only at ha hO
 by_cases hlta : a < 256
 ·
  refine EC.seq (EC.seq (EC.region (EL.mv rfl rfl ?_)));refine EL.val (QDu (r := true) rfl rfl (decide_eq_true (by omega))) rfl ?_
  refine EL.nil (EX.seq (EC.yes rfl (EC.skip (EX.seq (EC.seq (EC.block (EC.seq (EC.region (EL.as rfl rfl ?_)))))))));refine EL.nil (EX.seq (EC.block ?_));have hz : qN ts u a ++ qA (ts.take 0) u a = qN ts u a := List.append_nil _;refine EC.loopD [5, 7, 13, 14, 15, 16, 17, 18, 19, 20, 21, 22, 23, 24, 25, 26, 27, 28, 29, 30, 31, 32, 33, 34, 35, 36, 37, 38, 39, 40, 41] (fun y : Nat × Value => [(7, .int .i64 (y.1 : Nat)), (5, y.2)]) (fun y W => y.1 ≤ ts.length ∧ W.ownsRow w.heap.size 39 5 y.2 (qN ts u a ++ qA (ts.take y.1) u a).length (twsC (qN ts u a ++ qA (ts.take y.1) u a)) ∧ Below w.heap.size w W) (fun y => ts.length - y.1) (0, v3) ⟨Nat.zero_le _, by rw [hz]; exact hO, hbw⟩ ⟨rfl, rfl, trivial⟩ ?_
  clear hbw hO
  rintro ⟨i, v4⟩ wy ⟨hi, hO, hbw⟩
  dsimp only at hi hO
  by_cases hlti : i < ts.length
  ·
   obtain ⟨b, o, eA_, _, cc⟩ := YC ts i hlti wy B _ _ _ (hr.below (hbw.mono hB))
   cases eA_
   have hsu := QDh (ts.take i) (ts.getD i tw0) u a;rw [← Z_ (d := tw0) hlti] at hsu;have hlq : (qN ts u a ++ qA (ts.take i) u a).length ≤ 300 * 12 := QLM hn ha hlta (by omega)
   generalize ts.getD i tw0 = y at cc hsu
   refine EC.seq (EC.seq (EC.region (EL.mv rfl rfl (EL.mv rfl rfl (EL.val (Z0 rfl) rfl ?_)))));refine EL.val (ZS rfl rfl (decide_eq_true (show (((i : Nat) : Int) < ((ts.length : Nat) : Int)) by omega))) rfl ?_
   refine EL.nil (EX.seq (EC.yes rfl (EC.skip (EX.seq (EC.seq (EC.block (EC.seq (EC.region (EL.mv rfl rfl ?_)))))))));refine EL.mv rfl rfl (EL.val (Yn rfl rfl hlti) rfl (EL.val (QFz rfl) rfl (EL.val (ld_4 rfl cc.c0) rfl (EL.mv rfl rfl ?_))))
   by_cases hu : y.up = u
   ·
    refine EL.val (QC_ (r := true) rfl rfl (decide_eq_true hu)) rfl (EL.mv rfl rfl (EL.mg rfl rfl rfl rfl (EL.mg rfl rfl rfl rfl (EL.valg rfl rfl (Yn rfl rfl hlti) rfl (EL.valg rfl rfl (QBQ rfl) rfl (EL.valg rfl rfl (ld_3 rfl cc.c1) rfl (EL.mg rfl rfl rfl rfl ?_)))))))
    by_cases hay : y.arrive = (a : Int)
    ·
     rw [if_pos ⟨hu, hay⟩] at hsu;refine EL.valg rfl rfl (Z2 (r := true) rfl rfl (decide_eq_true hay)) rfl (EL.pt rfl rfl rfl (EL.nil (EX.seq (EC.yes rfl (EC.region (EL.mv rfl rfl (EL.mv rfl rfl (EL.mv rfl rfl (EL.val (Yn rfl rfl hlti) rfl ?_)))))))));refine EL.val (QAk rfl cc.c0 cc.c1 cc.c2 cc.c3 cc.c4) rfl (EL.newS (QDq rfl) rfl ?_);intro g2 w2 q2 hb2 hg2 hl2;have bhbw_2 := Nat.le_trans hbw.size hg2;have hbg2 : w.heap.size ≤ g2 := Nat.le_trans hbw.size hg2;replace hO := ZD hO hb2 (Nat.le_refl _);replace hbw := bo_ hbw hb2;clear hb2 hg2 hl2;refine EL.push QBc rfl rfl hO (QAK (l := twC y) q2 rfl) (twsC_one [y]) (by omega) rfl hbw.size rfl ?_
     intro v9 w9 ho9 hgr hb_ hat;replace hbw := hbw.trans hb_;clear hO hgr hb_ hat;refine EL.as rfl rfl (EL.nil (EX.blk (EX.seq (EC.region (EL.mv rfl rfl ?_)))));refine EL.val (ZP rfl rfl (c := ((i + 1 : Nat) : Int)) ((IntWalk.i64_in _ ⟨by first | omega | (simp only; omega), by first | omega | (simp only; omega)⟩).trans (by first | omega | (simp only; omega)))) rfl ?_
     refine EL.as rfl rfl (EL.nil ?_);refine EX.roundD (i + 1, v9) ⟨rfl, rfl, trivial⟩ (by repeat first | with_reducible exact .refl _ | refine sp_ rfl ?_ | exact .refl _ | refine sd_ rfl ?_ | refine sn_ ?_) ⟨hlti, by simp only; rw [hsu, ← List.append_assoc, QCU, List.length_append]; exact ho9, hbw⟩ (by simp only; omega)
    ·
     rw [if_neg (fun h => hay h.2)] at hsu
     refine EL.valg rfl rfl (Z2 (r := false) rfl rfl (decide_eq_false hay)) rfl (EL.pt rfl rfl rfl (EL.nil (EX.seq (EC.no rfl (EC.skip (EX.blk (EX.seq (EC.region (EL.mv rfl rfl ?_)))))))));refine EL.val (ZP rfl rfl (c := ((i + 1 : Nat) : Int)) ((IntWalk.i64_in _ ⟨by first | omega | (simp only; omega), by first | omega | (simp only; omega)⟩).trans (by first | omega | (simp only; omega)))) rfl ?_
     refine EL.as rfl rfl (EL.nil ?_);refine EX.roundD (i + 1, v4) ⟨rfl, rfl, trivial⟩ (by repeat first | with_reducible exact .refl _ | refine sp_ rfl ?_ | exact .refl _ | refine sd_ rfl ?_ | refine sn_ ?_) ⟨hlti, by simp only; rw [hsu, List.append_nil]; exact hO, hbw⟩ (by simp only; omega)
   ·
    rw [if_neg (fun h => hu h.1)] at hsu
    refine EL.val (QC_ (r := false) rfl rfl (decide_eq_false hu)) rfl (EL.mv rfl rfl (EL.skip rfl rfl rfl rfl (EL.skip rfl rfl rfl rfl (EL.skip rfl rfl rfl rfl (EL.skip rfl rfl rfl rfl (EL.skip rfl rfl rfl rfl (EL.skip rfl rfl rfl rfl (EL.skip rfl rfl rfl rfl (EL.pf rfl rfl rfl ?_)))))))));refine EL.nil (EX.seq (EC.no rfl (EC.skip (EX.blk (EX.seq (EC.region (EL.mv rfl rfl ?_)))))));refine EL.val (ZP rfl rfl (c := ((i + 1 : Nat) : Int)) ((IntWalk.i64_in _ ⟨by first | omega | (simp only; omega), by first | omega | (simp only; omega)⟩).trans (by first | omega | (simp only; omega)))) rfl ?_
    refine EL.as rfl rfl (EL.nil ?_);refine EX.roundD (i + 1, v4) ⟨rfl, rfl, trivial⟩ (by repeat first | with_reducible exact .refl _ | refine sp_ rfl ?_ | exact .refl _ | refine sd_ rfl ?_ | refine sn_ ?_) ⟨hlti, by simp only; rw [hsu, List.append_nil]; exact hO, hbw⟩ (by simp only; omega)
  ·
   obtain rfl : i = ts.length := by omega
   rw [List.take_length] at hO;refine EC.seq (EC.seq (EC.region (EL.mv rfl rfl (EL.mv rfl rfl (EL.val (Z0 rfl) rfl ?_)))));refine EL.val (ZS rfl rfl (decide_eq_false (show ¬(((ts.length : Nat) : Int) < ((ts.length : Nat) : Int)) by omega))) rfl ?_
   refine EL.nil (EX.seq (EC.no rfl (EC.exit (EX.seq_exit (EX.seq_exit (EX.blk_here (EX.blk (EX.seq (EC.region ?_)))))))));refine EL.mv rfl rfl ?_;refine EL.val (ZP rfl rfl (c := ((a + 1 : Nat) : Int)) ((IntWalk.i64_in _ ⟨by first | omega | (simp only; omega), by first | omega | (simp only; omega)⟩).trans (by first | omega | (simp only; omega)))) rfl ?_
   refine EL.as rfl rfl (EL.nil ?_);refine EX.roundD (a + 1, v4) ⟨rfl, rfl, trivial⟩ (by repeat first | with_reducible exact .refl _ | refine sp_ rfl ?_ | exact .refl _ | refine sd_ rfl ?_ | refine sn_ ?_) ⟨hlta, by rw [QAS]; exact hO, hbw⟩ (by simp only; omega)
 ·
  obtain rfl : a = 256 := by omega
  refine EC.seq (EC.seq (EC.region (EL.mv rfl rfl ?_)));refine EL.val (QDu (r := false) rfl rfl (decide_eq_false (by simp only; omega))) rfl ?_
  refine EL.nil (EX.seq (EC.no rfl (EC.exit (EX.seq_exit (EX.seq_exit (EX.blk_here (EX.seq (EC.seq (EC.region ?_)))))))));refine EL.mv rfl rfl (EL.as rfl rfl (EL.nil (EX.seq (EC.ret ?_))))
  exact EX.done (res1 rfl rfl) ⟨⟨_, rfl, by rw [QNN harr] at hO; exact hO⟩, hbw⟩
section
variable {n : Nat} {σ : Sg} {w : World} {dst : Option Tmp} {ty : TypeId} {pos : String} {af : Array Edge} {g : Option (Nat × Bool)} {x y z : Operand} {at' : Array TypeId}
theorem cF34 : cF 34 := fun _ _ => by simp [go_sem]
theorem QJH {x0 x1 : Operand} {A0 : Option Addr} {m0 : Nat} {c0 : Nat} {A1 : Option Addr} {m1 : Nat} {c1 : Nat} (h0 : evS σ x0 = some (.slice A0 m0 c0)) (h1 : evS σ x1 = some (.slice A1 m1 c1)) : ZI Try.prog n σ w ⟨dst, .build 90 #[(0, x0), (1, x1)], ty, pos, af, g⟩ (.agg #[.slice A0 m0 c0, .slice A1 m1 c1]) := fun a ha => by
 simp only [execOp, List.map_toArray, List.map_cons, List.map_nil, ha.eval h0, ha.eval h1]
 go_simp
theorem QNj (a : Act) (_ : Env n σ a) : (execOp a.eval ⟨dst, .alloc 90, ty, pos, af, g⟩).run Try.prog w = .ok (.value (.pointer (some ⟨w.heap.size, 0, none⟩))) (w.alloc (.cells #[.slice none 0 0, .slice none 0 0] 90)) := by
 simp only [execOp]
 simp [go_sem]
theorem QNJ : (Try.prog.info? 90).map (·.size) = some 2 := by kernel_rfl
theorem Yz {b o k : Nat} (hx : evS σ x = some (.pointer (some ⟨b, o, none⟩))) (hy : evS σ y = some (.int .i64 (k : Int))) (hk : k < 2) : ZI Try.prog n σ w ⟨dst, .indexAddr 90 x y, ty, pos, af, g⟩ (.pointer (some ⟨b, o + k, none⟩)) := fun a ha => by
 have k0 : (0 : Int) ≤ (k : Int) := Int.natCast_nonneg _;have k1 : (k : Int) < 2 := by omega
 simp only [execOp, ha.eval hx, ha.eval hy]
 simp [go_sem, k0, k1]
theorem QMQ {b o m c k : Nat} (hx : evS σ x = some (.slice (some ⟨b, o, none⟩) m c)) (hy : evS σ y = some (.int .i64 (k : Int))) (hk : k < m) : ZI Try.prog n σ w ⟨dst, .indexAddr 80 x y, ty, pos, af, g⟩ (.pointer (some ⟨b, o + k * 2, none⟩)) := fun a ha => by
 have k0 : (0 : Int) ≤ (k : Int) := Int.natCast_nonneg _;have k1 : (k : Int) < (m : Int) := by omega
 simp only [execOp, ha.eval hx, ha.eval hy]
 simp [go_sem, k0, k1]
theorem QIJ {b o k : Nat} (hx : evS σ x = some (.pointer (some ⟨b, o, none⟩))) (hy : evS σ y = some (.int .i64 (k : Int))) (hk : k < 2) : ZI Try.prog n σ w ⟨dst, .indexAddr 131 x y, ty, pos, af, g⟩ (.pointer (some ⟨b, o + k, none⟩)) := fun a ha => by
 have k0 : (0 : Int) ≤ (k : Int) := Int.natCast_nonneg _;have k1 : (k : Int) < 2 := by omega
 simp only [execOp, ha.eval hx, ha.eval hy]
 simp [go_sem, k0, k1]
theorem QDl {b o : Nat} (hx : evS σ x = some (.pointer (some ⟨b, o, none⟩))) : ZI Try.prog n σ w ⟨dst, .fieldAddr 82 x 3, ty, pos, af, g⟩ (.pointer (some ⟨b, o + 7, none⟩)) := fun a ha => by
 simp only [execOp, ha.eval hx]
 simp [go_sem]
theorem QIG {b o : Nat} {v0 : Value} (hx : evS σ x = some (.pointer (some ⟨b, o, none⟩))) (c0 : w.cell? ⟨b, o, none⟩ = some v0) : ZI Try.prog n σ w ⟨dst, .load 80 x, ty, pos, af, g⟩ (v0) := fun a ha => by
 simp only [execOp, ha.eval hx]
 simp [go_sem, c0]
theorem QMM {A : Option Addr} {m c : Nat} (hx : evS σ x = some (.slice A m c)) : ZI Try.prog n σ w ⟨dst, .call { callee := .builtin .len, args := #[x], argTypes := #[80] }, ty, pos, af, g⟩ (.int .i64 (m : Int)) := fun a ha => by
 simp only [execOp, resolve, List.map_toArray, List.map_cons, List.map_nil, ha.eval hx]
 simp [go_sem]
end
structure PlV where
 d : Dr
 i : Nat
 v : Value
 Ad : Option Addr
 nd : Nat
 cd : Nat
 Au : Option Addr
 nu : Nat
 cu : Nat
theorem QMI {l : LK} {q : QS} {d : Dr} {nd nu : Nat} (hq : QOk l q) (h : PlOk l q d) (hd : nd = (waitL q d.s false).length) (hu : nu = (waitL q d.s true).length) : nd + nu ≤ 8 ∧ d.plan.length ≤ 8 := by
 have h1 := h.dr.len;have h2 := QAy (u := true) (n := 0) hq h.dr (Nat.zero_le _);have h3 := hq.len;rw [Z3] at hd hu
 exact ⟨by omega, by omega⟩
theorem QLR {l : LK} {q : QS} {d : Dr} (h : PlOk l q d) (hz : (waitL q d.s false).length + (waitL q d.s true).length = 0) : YQ q d.s = true := by
 rw [QGz h.dr];rw [Z3, Z3] at hz
 exact hz
theorem QIc {W : World} {g nd cd nu cu nw : Nat} {u : Bool} {Ad Au : Option Addr} (hs : sel u nd nu = nw) (h : Blk W g 90 #[.slice Ad nd cd, .slice Au nu cu]) : W.cell? ⟨g, 0 + uI u, none⟩ = some (.slice (sel u Ad Au) nw (sel u cd cu)) := by
 subst hs
 cases u
 ·exact h.at (j := 0) rfl
 ·exact h.at (j := 1) rfl
theorem QE7 {w : World} {B z n c : Nat} {A : Option Addr} {xs : List Value} (h : Rd w B z (.slice A n c) n xs) : n ≤ c := by
 obtain ⟨_, A2, c2, e, hc, _⟩ := h
 injection e with _ _ e
 omega
theorem QJu {w : World} {B m c lo : Nat} {A : Option Addr} {ts : List TW} (hr : Rd w B 5 (.slice A m c) m (twsC ts)) (hlo : lo ≤ m) : Rd w B 5 (.slice (QA3 A c lo) (m - lo) (c - lo)) (m - lo) (twsC (ts.drop lo)) := by
 have hl := hr.len;obtain ⟨_, A2, c2, e, hc2, hrr⟩ := hr
 injection e with e1 _ e3
 subst e1 e3;have hd : twsC (ts.drop lo) = (twsC ts).drop (lo * 5) := QCO QBE ts lo;refine ⟨by rw [hd, List.length_drop, hl]; omega, _, _, rfl, by omega, fun h0 => ?_⟩
 obtain ⟨b, off, e2, hb2, hcell⟩ := hrr (by omega)
 subst e2;refine ⟨b, _, rfl, hb2, fun j u hu => ?_⟩
 rw [if_neg (by omega)]
 rw [hd, List.getElem?_drop] at hu;have := hcell (lo * 5 + j) u hu;rw [← Nat.add_assoc] at this
 exact this
set_option maxHeartbeats 1000000 in
set_option maxRecDepth 100000 in
theorem QIu {x : Sml} (hx : SmlOk x) {At As : Option Addr} {ct cs : Nat} {l : LK} {ts : List TW} {v : Value} {w : World} {B : Nat} (hs : Rd w B 2 (.slice As x.steps.length cs) x.steps.length (e2s x.steps)) (hr : Rd w B 5 v ts.length (twsC ts)) (hB : B ≤ w.heap.size) (hq : QOk l (qL ts)) (harr : ∀ t ∈ ts, 0 ≤ t.arrive ∧ t.arrive < (256 : Nat)) (hn : ts.length ≤ 12) :
  Calls Try.prog 33 #[.agg #[.int .u8 x.a0, .int .u8 x.a1, .int .u8 x.a2, .int .u8 x.a3, .int .u8 x.a4, .bool x.hi, .slice At x.tows.length ct, .slice As x.steps.length cs], .agg #[.int .i64 l.length, .int .i64 l.cycle, .int .i64 l.turn, .int .i64 l.fill, .int .i64 l.save, .bool l.high], v] w fun e w' => (∃ d v', PlOk l (qL ts) d ∧ YQ (qL ts) d.s = true ∧ e = .returned v' ∧ w'.ownsRow w.heap.size 87 2 v' d.plan.length (spsC d.plan)) ∧ Below w.heap.size w w' := by
 obtain ⟨Av, cv, rfl, _⟩ := hr.shape;have hbw := Below.refl w.heap.size w;refine EC.enter 102 Try.func33 rfl rfl rfl (EC.seq (EC.region (EL.newP (QIY rfl) rfl ?_)));intro g1 w1 q1 hb1 hg1 hl1;have bhbw_1 := Nat.le_trans hbw.size hg1;replace hbw := bo_ hbw hb1;clear hb1 hg1 hl1;refine EL.newP (QC3 rfl) rfl ?_;intro g2 w2 q2 hb2 hg2 hl2;have n1_2 := q1.na hg2;have bhbw_2 := Nat.le_trans hbw.size hg2;replace q1 := q1.bl hb2;replace hbw := bo_ hbw hb2;clear hb2 hg2 hl2;refine EL.as rfl rfl (EL.nil (EX.seq (EC.seq (EC.region (EL.mv rfl rfl (EL.call (cA2 cF34 rfl rfl) rfl (QEH (u := false) harr (hr.below (hbw.mono hB)) (Nat.le_trans hB hbw.size) hn) ?_))))))
 rintro e wq0 ⟨⟨vq0, rfl, hqq0⟩, hcq⟩
 refine ⟨_, rfl, ?_⟩;replace hqq0 := YW hqq0 hbw.size;replace q1 := q1.bl hcq;replace q2 := q2.bl hcq;replace hbw := bo_ hbw hcq;clear hcq;obtain ⟨Aq0, cq0, rfl, _⟩ := (Rd.of_own hqq0).shape;refine EL.mv rfl rfl (EL.call (cA2 cF34 rfl rfl) rfl (QEH (u := true) harr (hr.below (hbw.mono hB)) (Nat.le_trans hB hbw.size) hn) ?_)
 rintro e wq1 ⟨⟨vq1, rfl, hqq1⟩, hcq⟩
 refine ⟨_, rfl, ?_⟩;replace hqq1 := YW hqq1 hbw.size;replace q1 := q1.bl hcq;replace q2 := q2.bl hcq;replace hqq0 := ZD hqq0 hcq (Nat.le_refl _);replace hbw := bo_ hbw hcq;clear hcq;obtain ⟨Aq1, cq1, rfl, _⟩ := (Rd.of_own hqq1).shape;have hd2 := Rd.of_own hqq0;have hu2 := Rd.of_own hqq1;clear hqq0 hqq1;have hb2 := Below.refl wq1.heap.size wq1;have hwq := hbw.size;refine EL.val (QJH rfl rfl) rfl (EL.newS (QIb) rfl ?_);intro g3 w3 q3 hb3 hg3 hl3;have n1_3 := q1.na hg3;have n2_3 := q2.na hg3;have bhbw_3 := Nat.le_trans hbw.size hg3;have bhb2_3 := Nat.le_trans hb2.size hg3;have hbg3 : wq1.heap.size ≤ g3 := Nat.le_trans hb2.size hg3;replace q1 := q1.bl hb3;replace q2 := q2.bl hb3;replace hbw := bo_ hbw hb3;replace hb2 := bo_ hb2 hb3;clear hb3 hg3 hl3;have hO : w3.ownsRow wq1.heap.size 87 2 (.slice (some ⟨g3, 0, none⟩) 0 0) 0 [] := QBy 2 q3 hbg3;refine EL.newP QNj rfl ?_;intro g4 w4 q4 hb4 hg4 hl4;have n1_4 := q1.na hg4;have n2_4 := q2.na hg4;have bhbw_4 := Nat.le_trans hbw.size hg4;have bhb2_4 := Nat.le_trans hb2.size hg4;have hbg4 : wq1.heap.size ≤ g4 := Nat.le_trans hb2.size hg4;replace q1 := q1.bl hb4;replace q2 := q2.bl hb4;replace hO := ZD hO hb4 (Nat.le_refl _);replace hbw := bo_ hbw hb4;replace hb2 := bo_ hb2 hb4;clear hb4 hg4 hl4;refine EL.store rfl rfl q4 QNJ rfl rfl rfl rfl ?_;intro w5 hq5 hg5;replace q1 := q1.gr hg5 n1_4;replace q2 := q2.gr hg5 n2_4;replace hO := ZL hO q4 rfl hg5;replace hbw := ZE hbw hg5 bhbw_4;replace hb2 := ZE hb2 hg5 bhb2_4;replace q4 := hq5;clear hg5 hq5;refine EL.as rfl rfl (EL.nil (EX.seq (EC.seq (EC.seq (EC.region (EL.as rfl rfl (EL.nil (EX.seq (EC.block ?_)))))))));refine EC.loopD [8, 9, 10, 11, 12, 13, 20, 21, 22, 23, 24, 25, 26, 27, 28, 29, 30, 31, 32, 33, 34, 35, 36, 37, 38, 39, 40, 41, 42, 43, 44, 45, 46, 47, 48, 49, 50, 51, 52, 53, 54, 55, 56, 57, 58, 59, 60, 61, 62, 63, 64, 65, 66, 67, 68, 69, 70, 71, 72, 73, 74, 75, 76, 77, 78, 79, 80, 81, 82, 83, 84, 85, 86, 87, 88, 89, 90, 91, 92, 93, 94, 95, 96, 97, 98, 99, 100] (fun y : PlV => [(9, .int .i64 (y.i : Nat)), (8, y.v)]) (fun y W => PlOk l (qL ts) y.d ∧ y.i = y.d.plan.length ∧ y.nd = (waitL (qL ts) y.d.s false).length ∧ Rd wq1 wq1.heap.size 5 (.slice y.Ad y.nd y.cd) y.nd (twsC (waitL (qL ts) y.d.s false)) ∧ y.nu = (waitL (qL ts) y.d.s true).length ∧ Rd wq1 wq1.heap.size 5 (.slice y.Au y.nu y.cu) y.nu (twsC (waitL (qL ts) y.d.s true)) ∧ W.ownsRow wq1.heap.size 87 2 y.v y.i (spsC y.d.plan) ∧ Blk W g1 82 #[.int .u8 x.a0, .int .u8 x.a1, .int .u8 x.a2, .int .u8 x.a3, .int .u8 x.a4, .bool x.hi, .slice At x.tows.length ct, .slice As x.steps.length cs] ∧ Blk W g2 23 #[.int .i64 l.length, .int .i64 l.cycle, .int .i64 l.turn, .int .i64 l.fill, .int .i64 l.save, .bool l.high] ∧ Blk W g4 90 #[.slice y.Ad y.nd y.cd, .slice y.Au y.nu y.cu] ∧ Below wq1.heap.size wq1 W ∧ Below w.heap.size w W) (fun y => remD (qL ts) y.d.s) ⟨⟨stL l, []⟩, 0, .slice (some ⟨g3, 0, none⟩) 0 0, Aq0, ((qL ts) false).length, cq0, Aq1, ((qL ts) true).length, cq1⟩ ⟨PlOk.start hq.lk, rfl, rfl, hd2, rfl, hu2, hO, q1, q2, q4, hb2, hbw⟩ ⟨rfl, rfl, trivial⟩ ?_
 clear hO hd2 hu2 q1 q2 q4 hb2 hbw
 rintro ⟨d, i, v8, Ad, nd, cd, Au, nu, cu⟩ wx ⟨hpk, hi, hnd, hd2, hnu, hu2, hO, q1, q2, q4, hb2, hbw⟩
 dsimp only at hpk hi hnd hd2 hnu hu2 hO q4
 have h8 := QMI hq hpk hnd hnu
 by_cases hz : nd + nu = 0
 ·
  have hcp : YQ (qL ts) d.s = true := QLR hpk (by omega)
  refine EC.seq (EC.seq (EC.region ?_));refine EL.val (Yz (k := 0) rfl rfl (by omega)) rfl ?_
  refine EL.val (YG rfl (q4.at (j := 0) rfl)) rfl (EL.val (Z0 rfl) rfl ?_);refine EL.val (Yz (k := 1) rfl rfl (by omega)) rfl ?_
  refine EL.val (YG rfl (q4.at (j := 1) rfl)) rfl (EL.val (Z0 rfl) rfl ?_);refine EL.val (ZP rfl rfl (c := ((nd + nu : Nat) : Int)) ((IntWalk.i64_in _ ⟨by omega, by omega⟩).trans (by omega))) rfl ?_
  refine EL.val (Zt (r := false) rfl rfl (decide_eq_false (by omega))) rfl ?_
  refine EL.nil (EX.seq (EC.no rfl (EC.exit (EX.seq_exit (EX.seq_exit (EX.blk_here (EX.seq (EC.seq (EC.region ?_)))))))));refine EL.mv rfl rfl (EL.as rfl rfl (EL.nil (EX.seq (EC.ret ?_))))
  exact EX.done (res1 rfl rfl) ⟨⟨d, _, hpk, hcp, rfl, by rw [← hi]; exact YW hO hwq⟩, hbw⟩
 ·
  refine EC.seq (EC.seq (EC.region ?_));refine EL.val (Yz (k := 0) rfl rfl (by omega)) rfl ?_
  refine EL.val (YG rfl (q4.at (j := 0) rfl)) rfl (EL.val (Z0 rfl) rfl ?_);refine EL.val (Yz (k := 1) rfl rfl (by omega)) rfl ?_
  refine EL.val (YG rfl (q4.at (j := 1) rfl)) rfl (EL.val (Z0 rfl) rfl ?_);refine EL.val (ZP rfl rfl (c := ((nd + nu : Nat) : Int)) ((IntWalk.i64_in _ ⟨by omega, by omega⟩).trans (by omega))) rfl ?_
  refine EL.val (Zt (r := true) rfl rfl (decide_eq_true (by omega))) rfl ?_
  refine EL.nil (EX.seq (EC.yes rfl (EC.skip (EX.seq (EC.seq (EC.block (EC.seq (EC.region (EL.as rfl rfl ?_)))))))));refine EL.as rfl rfl (EL.nil (EX.seq ?_));refine EC.cutD [10, 11, 30, 31, 32, 33, 34, 35, 36, 37, 38, 39, 40, 41, 42, 43, 44, 45, 46, 47, 48, 49, 50, 51] (fun y : Bool × Nat => [(10, .int .i64 ((uI y.1 : Nat) : Int)), (11, .int .i64 (y.2 : Nat))]) (fun y W => (1 ≤ y.2 ∧ y.2 ≤ 3) ∧ W.ownsRow wq1.heap.size 87 2 v8 i (spsC d.plan) ∧ Blk W g1 82 #[.int .u8 x.a0, .int .u8 x.a1, .int .u8 x.a2, .int .u8 x.a3, .int .u8 x.a4, .bool x.hi, .slice At x.tows.length ct, .slice As x.steps.length cs] ∧ Blk W g2 23 #[.int .i64 l.length, .int .i64 l.cycle, .int .i64 l.turn, .int .i64 l.fill, .int .i64 l.save, .bool l.high] ∧ Blk W g4 90 #[.slice Ad nd cd, .slice Au nu cu] ∧ Below wq1.heap.size wq1 W ∧ Below w.heap.size w W) ?_ ?_
  ·
   by_cases hst : i < x.steps.length
   ·
    obtain ⟨bx, ox, ebx, _, x0, x1⟩ := QJE x.steps i hst w B _ _ _ hs
    cases ebx
    obtain ⟨hy0, hy1⟩ := hx.s _ (Zx hst (0, 0));have t2 := Ys hy1 (n := 3) (by decide)
    have t1 := QMd hy0;refine EC.seq (EC.region (EL.mv rfl rfl (EL.val (QDl rfl) rfl (EL.val (QIG rfl (q1.at (j := 7) rfl)) rfl (EL.val (QMM rfl) rfl ?_)))));refine EL.val (ZS rfl rfl (decide_eq_true (show (((i : Nat) : Int) < ((x.steps.length : Nat) : Int)) by omega))) rfl ?_
    refine EL.nil (EX.seq (EC.yes rfl ?_));refine EC.regionQ (by kernel_rfl) (by kernel_rfl) ?_
    refine EQ.val (fun _ hw => (QDl rfl)) rfl ?_
    refine EQ.val (fun _ hw => (QIG rfl (ZC hw (q1.at (j := 7) rfl)))) rfl ?_
    refine EQ.mv rfl rfl ?_;refine EQ.val (fun _ hw => (QMQ rfl rfl hst)) rfl ?_
    refine EQ.val (fun _ hw => (QIJ (k := 0) rfl rfl (by omega))) rfl ?_
    refine EQ.val (fun _ hw => (ld_5 rfl (ZC hw (ZC hbw x0)))) rfl ?_
    refine EQ.val (fun _ hw => (QAM rfl (YB hy0))) rfl ?_
    refine EQ.val (fun _ hw => (QAE rfl rfl (by decide) rfl)) rfl ?_
    refine EQ.val (fun _ hw => (QDl rfl)) rfl ?_
    refine EQ.val (fun _ hw => (QIG rfl (ZC hw (q1.at (j := 7) rfl)))) rfl ?_
    refine EQ.mv rfl rfl ?_;refine EQ.val (fun _ hw => (QMQ rfl rfl hst)) rfl ?_
    refine EQ.val (fun _ hw => (QIJ (k := 1) rfl rfl (by omega))) rfl ?_
    refine EQ.val (fun _ hw => (ld_5 rfl (ZC hw (ZC hbw x1)))) rfl ?_
    refine EQ.val (fun _ hw => (QAM rfl (YB hy1))) rfl ?_
    refine EQ.val (fun _ hw => (QAE rfl rfl (by decide) rfl)) rfl ?_
    refine EQ.val (fun _ hw => (ZP rfl rfl (c := 1 + (x.steps.getD i (0, 0)).2.tmod 3) (IntWalk.i64_in (1 + (x.steps.getD i (0, 0)).2.tmod 3) ⟨by omega, by omega⟩))) rfl ?_
    refine EQ.val (fun _ hw => (ZV rfl)) rfl ?_
    refine EQ.val (fun _ hw => (ZV rfl)) rfl ?_
    refine EQ.fin (fun w6 hw_ => ?_)
    replace q1 := q1.bl hw_;replace q2 := q2.bl hw_;replace q4 := q4.bl hw_;replace hO := ZD hO hw_ (Nat.le_refl _);replace hb2 := bo_ hb2 hw_;replace hbw := bo_ hbw hw_;clear hw_
    exact EX.cutE (decide ((x.steps.getD i (0, 0)).1.tmod 2 = 1), (1 + (x.steps.getD i (0, 0)).2.tmod 3).toNat) ⟨Zv t1 rfl, Zv (by show _ = (((1 + (x.steps.getD i (0, 0)).2.tmod 3).toNat : Nat) : Int); omega) rfl, trivial⟩ (by repeat first | with_reducible exact (Sub.refl _).del _ | refine sp_ rfl ?_ | exact (Sub.refl _).del _ | refine sd_ rfl ?_ | refine sn_ ?_) ⟨by simp only; omega, hO, q1, q2, q4, hb2, hbw⟩
   ·
    refine EC.seq (EC.region (EL.mv rfl rfl (EL.val (QDl rfl) rfl (EL.val (QIG rfl (q1.at (j := 7) rfl)) rfl (EL.val (QMM rfl) rfl ?_)))));refine EL.val (ZS rfl rfl (decide_eq_false (show ¬(((i : Nat) : Int) < ((x.steps.length : Nat) : Int)) by omega))) rfl ?_
    refine EL.nil (EX.seq (EC.no rfl (EC.skip ?_)))
    exact EX.cutE (false, 1) ⟨rfl, rfl, trivial⟩ (by repeat first | with_reducible exact (Sub.refl _).del _ | refine sp_ rfl ?_ | exact (Sub.refl _).del _ | refine sd_ rfl ?_ | refine sn_ ?_) ⟨by simp, hO, q1, q2, q4, hb2, hbw⟩
  ·
   clear hO q1 q2 q4 hb2 hbw
   rintro ⟨u0, n0⟩ w6 ⟨hn0, hO, q1, q2, q4, hb2, hbw⟩
   dsimp only at hn0
   refine EC.cutD [10, 52, 53, 54, 55, 56, 57, 58] (fun y : Bool => [(10, .int .i64 ((uI y : Nat) : Int))]) (fun y W => 1 ≤ (waitL (qL ts) d.s y).length ∧ W.ownsRow wq1.heap.size 87 2 v8 i (spsC d.plan) ∧ Blk W g1 82 #[.int .u8 x.a0, .int .u8 x.a1, .int .u8 x.a2, .int .u8 x.a3, .int .u8 x.a4, .bool x.hi, .slice At x.tows.length ct, .slice As x.steps.length cs] ∧ Blk W g2 23 #[.int .i64 l.length, .int .i64 l.cycle, .int .i64 l.turn, .int .i64 l.fill, .int .i64 l.save, .bool l.high] ∧ Blk W g4 90 #[.slice Ad nd cd, .slice Au nu cu] ∧ Below wq1.heap.size wq1 W ∧ Below w.heap.size w W) ?_ ?_
   ·
    cases u0
    ·
     by_cases hz0 : nd = 0
     ·
      refine EC.seq (EC.region (EL.mv rfl rfl ?_));refine EL.val (Yz (k := 0) rfl rfl (by omega)) rfl ?_
      refine EL.val (YG rfl (q4.at (j := 0) rfl)) rfl (EL.val (Z0 rfl) rfl ?_);refine EL.val (Z2 (r := true) rfl rfl (decide_eq_true (by omega))) rfl ?_
      refine EL.nil (EX.seq (EC.yes rfl (EC.region (EL.mv rfl rfl (EL.val (Zz rfl rfl (c := 1) rfl) rfl (EL.as rfl rfl (EL.nil ?_)))))))
      exact EX.cutE true ⟨rfl, trivial⟩ (by repeat first | with_reducible exact (Sub.refl _).del _ | refine sp_ rfl ?_ | exact (Sub.refl _).del _ | refine sd_ rfl ?_ | refine sn_ ?_) ⟨by rw [← hnu]; omega, hO, q1, q2, q4, hb2, hbw⟩
     ·
      refine EC.seq (EC.region (EL.mv rfl rfl ?_));refine EL.val (Yz (k := 0) rfl rfl (by omega)) rfl ?_
      refine EL.val (YG rfl (q4.at (j := 0) rfl)) rfl (EL.val (Z0 rfl) rfl ?_);refine EL.val (Z2 (r := false) rfl rfl (decide_eq_false (by omega))) rfl ?_
      refine EL.nil (EX.seq (EC.no rfl (EC.skip ?_)))
      exact EX.cutE false ⟨rfl, trivial⟩ (by repeat first | with_reducible exact (Sub.refl _).del _ | refine sp_ rfl ?_ | exact (Sub.refl _).del _ | refine sd_ rfl ?_ | refine sn_ ?_) ⟨by rw [← hnd]; omega, hO, q1, q2, q4, hb2, hbw⟩
    ·
     by_cases hz0 : nu = 0
     ·
      refine EC.seq (EC.region (EL.mv rfl rfl ?_));refine EL.val (Yz (k := 1) rfl rfl (by omega)) rfl ?_
      refine EL.val (YG rfl (q4.at (j := 1) rfl)) rfl (EL.val (Z0 rfl) rfl ?_);refine EL.val (Z2 (r := true) rfl rfl (decide_eq_true (by omega))) rfl ?_
      refine EL.nil (EX.seq (EC.yes rfl (EC.region (EL.mv rfl rfl (EL.val (Zz rfl rfl (c := 0) rfl) rfl (EL.as rfl rfl (EL.nil ?_)))))))
      exact EX.cutE false ⟨rfl, trivial⟩ (by repeat first | with_reducible exact (Sub.refl _).del _ | refine sp_ rfl ?_ | exact (Sub.refl _).del _ | refine sd_ rfl ?_ | refine sn_ ?_) ⟨by rw [← hnd]; omega, hO, q1, q2, q4, hb2, hbw⟩
     ·
      refine EC.seq (EC.region (EL.mv rfl rfl ?_));refine EL.val (Yz (k := 1) rfl rfl (by omega)) rfl ?_
      refine EL.val (YG rfl (q4.at (j := 1) rfl)) rfl (EL.val (Z0 rfl) rfl ?_);refine EL.val (Z2 (r := false) rfl rfl (decide_eq_false (by omega))) rfl ?_
      refine EL.nil (EX.seq (EC.no rfl (EC.skip ?_)))
      exact EX.cutE true ⟨rfl, trivial⟩ (by repeat first | with_reducible exact (Sub.refl _).del _ | refine sp_ rfl ?_ | exact (Sub.refl _).del _ | refine sd_ rfl ?_ | refine sn_ ?_) ⟨by rw [← hnu]; omega, hO, q1, q2, q4, hb2, hbw⟩
   ·
    clear hO q1 q2 q4 hb2 hbw
    rintro u w8 ⟨hw1, hO, q1, q2, q4, hb2, hbw⟩
    have hwl := Z3 (qL ts) d.s u;obtain ⟨nw, hnw⟩ : ∃ z, z = (waitL (qL ts) d.s u).length := ⟨_, rfl⟩;rw [← hnw] at hw1;have hsn : sel u nd nu = nw := by rw [hnw]; cases u; exact hnd; exact hnu
    have hw2 : Rd wq1 wq1.heap.size 5 (.slice (sel u Ad Au) nw (sel u cd cu)) nw (twsC (waitL (qL ts) d.s u)) := by rw [← hsn]; cases u; exact hd2; exact hu2
    have hw8 : nw ≤ 8 := by rw [← hsn]; cases u <;> simp [sel] <;> omega
    refine EC.seq (EC.region (EL.mv rfl rfl (EL.mv rfl rfl (EL.val (Yz (k := uI u) rfl rfl (QME u)) rfl (EL.val (YG rfl (QIc hsn q4)) rfl (EL.val (Z0 rfl) rfl ?_))))));refine EL.val (QKC rfl rfl (show min ((n0 : Nat) : Int) ((nw : Nat) : Int) = ((min n0 nw : Nat) : Int) by omega)) rfl ?_
    refine EL.as rfl rfl (EL.nil (EX.seq ?_));refine EC.cutD [11, 12, 13, 65, 66, 67, 68, 69, 70, 71, 72, 73, 74, 75, 76, 77, 78, 79, 80, 81, 82, 83, 84, 85, 86] (fun n : Nat => [(11, .int .i64 (n : Nat))]) (fun n W => (1 ≤ n ∧ n ≤ nw ∧ fitN (qL ts) d.s u n = true) ∧ W.ownsRow wq1.heap.size 87 2 v8 i (spsC d.plan) ∧ Blk W g1 82 #[.int .u8 x.a0, .int .u8 x.a1, .int .u8 x.a2, .int .u8 x.a3, .int .u8 x.a4, .bool x.hi, .slice At x.tows.length ct, .slice As x.steps.length cs] ∧ Blk W g2 23 #[.int .i64 l.length, .int .i64 l.cycle, .int .i64 l.turn, .int .i64 l.fill, .int .i64 l.save, .bool l.high] ∧ Blk W g4 90 #[.slice Ad nd cd, .slice Au nu cu] ∧ Below wq1.heap.size wq1 W ∧ Below w.heap.size w W) ?_ ?_
    ·
     refine EC.seq (EC.region (EL.as rfl rfl (EL.nil (EX.seq (EC.block ?_)))));refine EC.loopD [11, 12, 13, 65, 66, 67, 68, 69, 70, 71, 72, 73, 74, 75, 76, 77, 78, 79, 80, 81, 82, 83, 84, 85, 86] (fun n : Nat => [(11, .int .i64 (n : Nat))]) (fun n W => (1 ≤ n ∧ n ≤ nw ∧ n ≤ 3) ∧ W.ownsRow wq1.heap.size 87 2 v8 i (spsC d.plan) ∧ Blk W g1 82 #[.int .u8 x.a0, .int .u8 x.a1, .int .u8 x.a2, .int .u8 x.a3, .int .u8 x.a4, .bool x.hi, .slice At x.tows.length ct, .slice As x.steps.length cs] ∧ Blk W g2 23 #[.int .i64 l.length, .int .i64 l.cycle, .int .i64 l.turn, .int .i64 l.fill, .int .i64 l.save, .bool l.high] ∧ Blk W g4 90 #[.slice Ad nd cd, .slice Au nu cu] ∧ Below wq1.heap.size wq1 W ∧ Below w.heap.size w W) (fun n => n) (min n0 nw) ⟨⟨by omega, by omega, by omega⟩, hO, q1, q2, q4, hb2, hbw⟩ ⟨rfl, trivial⟩ ?_
     clear hO q1 q2 q4 hb2 hbw
     rintro n wm ⟨⟨hn1, hn2, hn3⟩, hO, q1, q2, q4, hb2, hbw⟩
     by_cases hgt : 1 < n
     ·
      refine EC.seq (EC.seq (EC.region (EL.mv rfl rfl ?_)));refine EL.val (Zt (r := true) rfl rfl (decide_eq_true (by omega))) rfl ?_
      refine EL.nil (EX.seq (EC.yes rfl (EC.skip (EX.seq (EC.seq (EC.block (EC.seq (EC.region (EL.as rfl rfl ?_)))))))));refine EL.nil (EX.seq (EC.seq (EC.seq (EC.region (EL.as rfl rfl (EL.nil (EX.seq (EC.block ?_))))))));refine EC.loopD [12, 13, 69, 70, 71, 72, 73, 74, 75, 76, 77, 78, 79, 80, 81, 82] (fun k : Nat => [(13, .int .i64 (k : Nat)), (12, .int .i64 (Zi ((waitL (qL ts) d.s u).take k)))]) (fun k W => k ≤ n ∧ W.ownsRow wq1.heap.size 87 2 v8 i (spsC d.plan) ∧ Blk W g1 82 #[.int .u8 x.a0, .int .u8 x.a1, .int .u8 x.a2, .int .u8 x.a3, .int .u8 x.a4, .bool x.hi, .slice At x.tows.length ct, .slice As x.steps.length cs] ∧ Blk W g2 23 #[.int .i64 l.length, .int .i64 l.cycle, .int .i64 l.turn, .int .i64 l.fill, .int .i64 l.save, .bool l.high] ∧ Blk W g4 90 #[.slice Ad nd cd, .slice Au nu cu] ∧ Below wq1.heap.size wq1 W ∧ Below w.heap.size w W) (fun k => n - k) 0 ⟨Nat.zero_le _, hO, q1, q2, q4, hb2, hbw⟩ ⟨rfl, rfl, trivial⟩ ?_
      clear hO q1 q2 q4 hb2 hbw
      rintro k wk ⟨hk, hO, q1, q2, q4, hb2, hbw⟩
      have htwU : ∀ y ∈ (waitL (qL ts) d.s u), twB l y = true := fun y hy => hq.tw u y (List.mem_of_mem_drop hy)
      have hpb := QHN htwU (hnw ▸ hw8) hq.lk k;have hlb := Yb hq.lk
      by_cases hkn : k < n
      ·
       have hkw : k < (waitL (qL ts) d.s u).length := by omega
       obtain ⟨b, o, eb_, _, cc⟩ := YC (waitL (qL ts) d.s u) k hkw wq1 wq1.heap.size _ _ _ hw2;have hy := htwU _ (Zx hkw tw0);have hs1 : (Zi ((waitL (qL ts) d.s u).take (k + 1))) = (Zi ((waitL (qL ts) d.s u).take k)) + ((waitL (qL ts) d.s u).getD k tw0).length := QDC (f := (·.length)) hkw
       generalize (waitL (qL ts) d.s u).getD k tw0 = y at cc hy hs1
       obtain ⟨_, y2, _, _⟩ := QAZ hy;refine EC.seq (EC.seq (EC.region (EL.mv rfl rfl (EL.mv rfl rfl ?_))));refine EL.val (ZS rfl rfl (decide_eq_true (show (((k : Nat) : Int) < ((n : Nat) : Int)) by omega))) rfl ?_
       refine EL.nil (EX.seq (EC.yes rfl (EC.skip (EX.seq (EC.seq (EC.block (EC.region (EL.mv rfl rfl (EL.mv rfl rfl ?_)))))))));refine EL.val (Yz (k := uI u) rfl rfl (QME u)) rfl (EL.val (YG rfl (QIc hsn q4)) rfl (EL.mv rfl rfl ?_));refine EL.val (Yn (by show some (Value.slice (sel u Ad Au) _ _) = _; rw [eb_]) rfl (show k < nw by omega)) rfl ?_
       refine EL.val (QFy rfl) rfl (EL.val (ld_3 rfl (ZC hb2 cc.c2)) rfl ?_);refine EL.val (ZP rfl rfl (c := (Zi ((waitL (qL ts) d.s u).take (k + 1)))) ((IntWalk.i64_in _ ⟨by omega, by omega⟩).trans hs1.symm)) rfl ?_
       refine EL.as rfl rfl (EL.nil (EX.blk (EX.seq (EC.region (EL.mv rfl rfl ?_)))));refine EL.val (ZP rfl rfl (c := ((k + 1 : Nat) : Int)) ((IntWalk.i64_in _ ⟨by first | omega | (simp only; omega), by first | omega | (simp only; omega)⟩).trans (by first | omega | (simp only; omega)))) rfl ?_
       refine EL.as rfl rfl (EL.nil ?_);refine EX.roundD (k + 1) ⟨rfl, rfl, trivial⟩ (by repeat first | with_reducible exact .refl _ | refine sp_ rfl ?_ | exact .refl _ | refine sd_ rfl ?_ | refine sn_ ?_) ⟨hkn, hO, q1, q2, q4, hb2, hbw⟩ (by omega)
      ·
       obtain rfl : k = n := by omega
       refine EC.seq (EC.seq (EC.region (EL.mv rfl rfl (EL.mv rfl rfl ?_))));refine EL.val (ZS rfl rfl (decide_eq_false (show ¬(((k : Nat) : Int) < ((k : Nat) : Int)) by omega))) rfl ?_
       refine EL.nil (EX.seq (EC.no rfl (EC.exit (EX.seq_exit (EX.seq_exit (EX.blk_here (EX.seq (EC.seq (EC.region ?_)))))))));refine EL.mv rfl rfl (EL.val (QAC rfl) rfl (EL.val (ld_3 rfl (q2.at (j := 0) rfl)) rfl ?_))
       by_cases hle : (Zi ((waitL (qL ts) d.s u).take k)) ≤ l.length
       ·
        refine EL.val (QDu (r := true) rfl rfl (decide_eq_true hle)) rfl (EL.nil (EX.seq (EC.yes rfl (EC.exit (EX.blk_other rfl (EX.seq_exit (EX.seq_exit (EX.blk_here ?_))))))))
        exact EX.cutE k ⟨rfl, trivial⟩ (by repeat first | with_reducible exact (Sub.refl _).del _ | refine sp_ rfl ?_ | exact (Sub.refl _).del _ | refine sd_ rfl ?_ | refine sn_ ?_) ⟨⟨hn1, hn2, QM7 hpk.dr hle⟩, hO, q1, q2, q4, hb2, hbw⟩
       ·
        refine EL.val (QDu (r := false) rfl rfl (decide_eq_false hle)) rfl (EL.nil (EX.seq (EC.no rfl (EC.skip (EX.blk (EX.seq (EC.region (EL.mv rfl rfl ?_))))))));refine EL.val (Zz rfl rfl (c := ((k - 1 : Nat) : Int)) ((IntWalk.i64_in _ ⟨by omega, by omega⟩).trans (by omega))) rfl ?_
        refine EL.as rfl rfl (EL.nil ?_);refine EX.roundD (k - 1) ⟨rfl, trivial⟩ (by repeat first | with_reducible exact .refl _ | refine sp_ rfl ?_ | exact .refl _ | refine sd_ rfl ?_ | refine sn_ ?_) ⟨⟨by omega, by omega, by omega⟩, hO, q1, q2, q4, hb2, hbw⟩ (by omega)
     ·
      obtain rfl : n = 1 := by omega
      refine EC.seq (EC.seq (EC.region (EL.mv rfl rfl ?_)));refine EL.val (Zt (r := false) rfl rfl (decide_eq_false (by decide))) rfl ?_
      refine EL.nil (EX.seq (EC.no rfl (EC.exit (EX.seq_exit (EX.seq_exit (EX.blk_here ?_))))))
      exact EX.cutE 1 ⟨rfl, trivial⟩ (by repeat first | with_reducible exact (Sub.refl _).del _ | refine sp_ rfl ?_ | exact (Sub.refl _).del _ | refine sd_ rfl ?_ | refine sn_ ?_) ⟨⟨hn1, hn2, QLU (hnw ▸ hn2)⟩, hO, q1, q2, q4, hb2, hbw⟩
    ·
     clear hO q1 q2 q4 hb2 hbw
     rintro n wn ⟨⟨hn1, hn2, hfit⟩, hO, q1, q2, q4, hb2, hbw⟩
     cases u
     ·
      have hsn2 : nd = nw := hsn;obtain ⟨bA, oA, rfl, _⟩ := hd2.at_ (by omega)
      have hlc := QE7 hd2;have hW := ZG hO (w1 := wn) ⟨rfl, rfl, rfl, Nat.le_refl _, fun _ _ _ => rfl⟩ hb2.size
      clear hW;have lt_1 := q1.lt;have lt_2 := q2.lt;have lt_4 := q4.lt;refine EC.regionS [[], [], [], [2], [], [2, 3, 4], [2, 3, 4, 5], [1, 2, 3, 4, 5, 6], [], [8], [8, 9], [], [8, 9, 10, 11], [1, 2, 3, 4, 5, 6, 7], [0, 1, 2, 3, 4, 5, 6, 7, 8, 9, 10, 11, 12, 13], [0, 1, 2, 3, 4, 5, 6, 7, 8, 9, 10, 11, 12, 13, 14]] 14 [] [7] (fun fl w_ => wn.grownBy w_ (v8 : Value).ownBlock ∧ (fl 7 = false → w_.ownsRow wq1.heap.size 87 2 v8 i (spsC d.plan))) (phiS (fun i_ r => match i_ with | 0 => r 0 = .int .i64 ((uI false : Nat) : Int) | 1 => r 1 = v8 | 2 => r 2 = .int .i64 ((uI false : Nat) : Int) | 3 => r 3 = .bool false | 4 => r 4 = .int .i64 (n : Nat) | 5 => r 5 = .agg #[.bool false, .int .i64 (n : Nat)] | 8 => r 8 = .int .i64 ((uI false : Nat) : Int) | 9 => r 9 = .pointer (some ⟨g4, 0 + 0, none⟩) | 10 => r 10 = .slice (some ⟨bA, oA, none⟩) nd cd | 11 => r 11 = .int .i64 (n : Nat) | 12 => r 12 = .slice (QA3 (some ⟨bA, oA, none⟩) cd n) (nd - n) (cd - n) | _ => True) [(6, fun fl r w_ => fl 7 = false → (∃ g_, r 6 = .slice (some ⟨g_, 0, none⟩) 1 1 ∧ Blk w_ g_ 87 #[.bool false, .int .i64 (n : Nat)] ∧ wn.heap.size ≤ g_)), (7, fun _ r w_ => w_.ownsRow wq1.heap.size 87 2 (r 7) (i + 1) ((spsC d.plan) ++ [.bool false, .int .i64 (n : Nat)]) ∧ ∀ b, (r 7).ownBlock = some b → (v8 : Value).ownBlock = some b ∨ wn.heap.size ≤ b), (13, fun _ r w_ => r 13 = r 7)]) (by kernel_rfl) rfl rfl (by intro i hi; simp at hi; subst hi; exact ⟨by simp, by omega⟩) (QAg hO) (ZK (Yh Yx) (ZK (Y5 (e := 7) (C := fun u_ => ∀ b, u_.ownBlock = some b → (v8 : Value).ownBlock = some b ∨ wn.heap.size ≤ b)) (ZK (fun _ _ _ _ _ h => h) (Zb)))) (fun i_ hi_ hs_ => ?_) (fun i_ hi_ => ?_) ?_
      ·match i_, hi_ with
       | 0, _ =>
        intro val fl w1 a hb ha hd hfl;obtain ⟨hgb, hg0⟩ := hb;have hb := ZG hO hgb hb2.size;have ha := ha.s0 (d := 10) rfl
        exact ZB ha rfl rfl (x_move rfl) rfl rfl
       | 1, _ =>
        intro val fl w1 a hb ha hd hfl;obtain ⟨hgb, hg0⟩ := hb;have hb := ZG hO hgb hb2.size;have ha := ha.s0 (d := 8) rfl
        exact ZB ha rfl rfl (x_move rfl) rfl rfl
       | 2, _ =>
        intro val fl w1 a hb ha hd hfl;obtain ⟨hgb, hg0⟩ := hb;have hb := ZG hO hgb hb2.size;have ha := ha.s0 (d := 10) rfl
        exact ZB ha rfl rfl (x_move rfl) rfl rfl
       | 3, _ =>
        intro val fl w1 a hb ha hd hfl;obtain ⟨hgb, hg0⟩ := hb;have hb := ZG hO hgb hb2.size;have e2 : val 2 = _ := hd 2 (ZA.1 rfl);have ha := ha.s1 (d := 89) rfl e2
        exact ZB ha rfl rfl (Z2 (r := false) rfl rfl rfl) rfl rfl
       | 4, _ =>
        intro val fl w1 a hb ha hd hfl;obtain ⟨hgb, hg0⟩ := hb;have hb := ZG hO hgb hb2.size;have ha := ha.s0 (d := 11) rfl
        exact ZB ha rfl rfl (x_move rfl) rfl rfl
       | 5, _ =>
        intro val fl w1 a hb ha hd hfl;obtain ⟨hgb, hg0⟩ := hb;have hb := ZG hO hgb hb2.size;have e3 : val 3 = _ := hd 3 (ZA.1 rfl);have e4 : val 4 = _ := hd 4 (ZA.1 rfl);have ha := ha.s2 (d := 91) (e := 90) rfl e4 rfl e3
        exact ZB ha rfl rfl (Y8 rfl rfl) rfl rfl
       | 6, _ =>
        intro val fl w1 a hb ha hd hfl;obtain ⟨hgb, hg0⟩ := hb;have hb := ZG hO hgb hb2.size;have e5 : val 5 = _ := hd 5 (ZA.1 rfl);have ha := ha.s1 (d := 92) rfl e5
        exact QBH ha rfl rfl (QDp rfl) rfl (fun g w' hq _ hge => fun _ => ⟨g, rfl, hq, Nat.le_trans hgb.size hge⟩)
       | 7, _ =>
        exact absurd (by simp) hs_
       | 8, _ =>
        intro val fl w1 a hb ha hd hfl;obtain ⟨hgb, hg0⟩ := hb;have hb := ZG hO hgb hb2.size;have ha := ha.s0 (d := 10) rfl
        exact ZB ha rfl rfl (x_move rfl) rfl rfl
       | 9, _ =>
        intro val fl w1 a hb ha hd hfl;obtain ⟨hgb, hg0⟩ := hb;have hb := ZG hO hgb hb2.size;have e8 : val 8 = _ := hd 8 (ZA.1 rfl);have ha := ha.sub (Sub.ins (d := 95) (Sub.ins (d := 7) (Sub.nil _) rfl) (ZO rfl e8))
        exact ZB ha rfl rfl (Yz (k := 0) rfl rfl (by omega)) rfl rfl
       | 10, _ =>
        intro val fl w1 a hb ha hd hfl;obtain ⟨hgb, hg0⟩ := hb;have hb := ZG hO hgb hb2.size;have e9 : val 9 = _ := hd 9 (ZA.1 rfl);have ha := ha.s1 (d := 96) rfl e9
        exact ZB ha rfl rfl (YG rfl ((ZM q4 hO rfl hgb).at (j := 0) rfl)) rfl rfl
       | 11, _ =>
        intro val fl w1 a hb ha hd hfl;obtain ⟨hgb, hg0⟩ := hb;have hb := ZG hO hgb hb2.size;have ha := ha.s0 (d := 11) rfl
        exact ZB ha rfl rfl (x_move rfl) rfl rfl
       | 12, _ =>
        intro val fl w1 a hb ha hd hfl;obtain ⟨hgb, hg0⟩ := hb;have hb := ZG hO hgb hb2.size;have e10 : val 10 = _ := hd 10 (ZA.1 rfl);have e11 : val 11 = _ := hd 11 (ZA.1 rfl);have ha := ha.s2 (d := 98) (e := 97) rfl e11 rfl e10
        exact ZB ha rfl rfl (QHH (lo := n) rfl rfl (by omega) rfl) rfl rfl
       | 13, _ =>
        intro val fl w1 a hb ha hd hfl;obtain ⟨hgb, hg0⟩ := hb;have hb := ZG hO hgb hb2.size;obtain ⟨ho7_, hn7_⟩ := hd 7 (ZA.1 rfl);change w1.ownsRow _ _ _ (val 7) _ _ at ho7_;obtain ⟨A7_, c7_, e7, _⟩ := (Rd.of_own ho7_).shape;rw [e7] at ho7_;have ha := ha.s1 (d := 94) rfl e7
        exact ZB ha rfl rfl (ZV rfl) e7.symm rfl
       | k + 14, h => exact absurd h (by omega)
      ·simp only [List.mem_singleton] at hi_; subst hi_
       intro val fl w1 a hb hfi ha hd hfl;obtain ⟨hgb, hg0⟩ := hb;have hb := ZG hO hgb hb2.size;have e1 : val 1 = _ := hd 1 (ZA.1 rfl);obtain ⟨g6_, e6, q6_, h6_⟩ := hd 6 (ZA.1 rfl) hfi;change val 6 = _ at e6;have ha := ha.s2 (d := 93) (e := 88) rfl e6 rfl e1;refine QBF QCY ha rfl rfl rfl (hg0 hfi) (QAK (l := [.bool false, .int .i64 (n : Nat)]) q6_ rfl) (by intro u hu; simp only [List.mem_cons, List.not_mem_nil, or_false] at hu; rcases hu with rfl | rfl <;> rfl) (by omega) rfl (Nat.le_trans hb2.size hgb.size) ?_
       intro v' w' ho' hgr hat;refine ⟨v', rfl, hgr.size, ⟨Zg hgb hgr, fun h => by rw [ZR] at h; cases h⟩, ⟨ho', fun b hb' => ?_⟩, fun j _ hj hn hA => ?_⟩
       ·rcases hat with h | h
        ·exact .inl (h ▸ hb')
        ·refine .inr ?_
         change v'.ownBlock = some b at hb';rw [h] at hb'
         injection hb' with hb'
         have := hgb.size
         omega
       ·exact ZF (C := fun j => j ≠ 7 ∧ 7 ∉ clsAt [[], [], [], [2], [], [2, 3, 4], [2, 3, 4, 5], [1, 2, 3, 4, 5, 6], [], [8], [8, 9], [], [8, 9, 10, 11], [1, 2, 3, 4, 5, 6, 7], [0, 1, 2, 3, 4, 5, 6, 7, 8, 9, 10, 11, 12, 13], [0, 1, 2, 3, 4, 5, 6, 7, 8, 9, 10, 11, 12, 13, 14]] j) (fun _ _ h => by rw [ZR] at h; cases h) (ZF (fun hc => absurd rfl hc.1) (ZF (fun hc => absurd (ZA.1 rfl) hc.2) (fun _ _ h => h))) j ⟨hj, hn⟩
      ·intro val fl w' hfl hb halc hd
       obtain ⟨hgb, _⟩ := hb;have hb := ZG hO hgb hb2.size;have e0 : val 0 = _ := hd 0 (by omega)
       have e1 : val 1 = _ := hd 1 (by omega)
       have e2 : val 2 = _ := hd 2 (by omega)
       have e3 : val 3 = _ := hd 3 (by omega)
       have e4 : val 4 = _ := hd 4 (by omega)
       have e5 : val 5 = _ := hd 5 (by omega)
       obtain ⟨ho7, hn7⟩ := hd 7 (by omega)
       change w'.ownsRow _ _ _ (val 7) _ _ at ho7;have e8 : val 8 = _ := hd 8 (by omega)
       have e9 : val 9 = _ := hd 9 (by omega)
       have e10 : val 10 = _ := hd 10 (by omega)
       have e11 : val 11 = _ := hd 11 (by omega)
       have e12 : val 12 = _ := hd 12 (by omega)
       have e13 : val 13 = val 7 := hd 13 (by omega)
       refine EL.ends (cs := [_, _, _, _, _, _, val 6, val 7, _, _, _, _, _, _]) ⟨e0, e1, e2, e3, e4, e5, rfl, rfl, e8, e9, e10, e11, e12, e13, trivial⟩ rfl ?_;replace q1 := ZM q1 hO rfl hgb;replace q2 := ZM q2 hO rfl hgb;replace q4 := ZM q4 hO rfl hgb;replace hb2 := hb2.trans (hb.mono (Nat.le_refl _));replace hbw := hbw.trans (hb.mono hwq);obtain ⟨A7, c7, e7_, _⟩ := (Rd.of_own ho7).shape;rw [e7_] at ho7 ⊢;refine EL.val (Yz (k := 0) rfl rfl (by omega)) rfl ?_
       refine EL.store rfl rfl q4 QHp rfl rfl rfl rfl ?_;intro w7 hq7 hg7;replace q1 := q1.gr hg7 n1_4;replace q2 := q2.gr hg7 n2_4;replace ho7 := ZL ho7 q4 rfl hg7;replace hb2 := ZE hb2 hg7 bhb2_4;replace hbw := ZE hbw hg7 bhbw_4;replace q4 := hq7;clear hg7 hq7;refine EL.nil (EX.blk (EX.seq (EC.region (EL.mv rfl rfl ?_))));refine EL.val (ZP rfl rfl (c := ((i + 1 : Nat) : Int)) ((IntWalk.i64_in _ ⟨by first | omega | (simp only; omega), by first | omega | (simp only; omega)⟩).trans (by first | omega | (simp only; omega)))) rfl ?_
       refine EL.as rfl rfl (EL.nil ?_);have hnx : n ≤ (waitL (qL ts) d.s false).length := by omega
       have hwo := fun v => QGI (q := (qL ts)) (d := d) (u := false) (v := v) (n := n) hnx
       refine EX.roundD ⟨oneD (qL ts) d false n, i + 1, (.slice A7 (i + 1) c7), (QA3 (some ⟨bA, oA, none⟩) cd n), nd - n, cd - n, Au, nu, cu⟩ ⟨rfl, rfl, trivial⟩ (by repeat first | with_reducible exact .refl _ | refine sp_ rfl ?_ | exact .refl _ | refine sd_ rfl ?_ | refine sn_ ?_) ⟨PlOk.one hq hpk hn1 hnx hfit, (by rw [QJz, hi]), (by show nd - n = _; rw [hwo, if_pos rfl, List.length_drop]; omega), (by rw [hwo, if_pos rfl]; exact QJu hd2 (by omega)), (by rw [hwo, if_neg (by decide)]; exact hnu), (by rw [hwo, if_neg (by decide)]; exact hu2), (by rw [pl_C]; exact ho7), q1, q2, q4, hb2, hbw⟩ (by have := QDg (q := (qL ts)) (d := d) (u := false) (n := n) hpk.dr hnx; show remD (qL ts) (oneD (qL ts) d false n).s < remD (qL ts) d.s; omega)
     ·
      have hsn2 : nu = nw := hsn;obtain ⟨bA, oA, rfl, _⟩ := hu2.at_ (by omega)
      have hlc := QE7 hu2;have hW := ZG hO (w1 := wn) ⟨rfl, rfl, rfl, Nat.le_refl _, fun _ _ _ => rfl⟩ hb2.size
      clear hW;have lt_1 := q1.lt;have lt_2 := q2.lt;have lt_4 := q4.lt;refine EC.regionS [[], [], [], [2], [], [2, 3, 4], [2, 3, 4, 5], [1, 2, 3, 4, 5, 6], [], [8], [8, 9], [], [8, 9, 10, 11], [1, 2, 3, 4, 5, 6, 7], [0, 1, 2, 3, 4, 5, 6, 7, 8, 9, 10, 11, 12, 13], [0, 1, 2, 3, 4, 5, 6, 7, 8, 9, 10, 11, 12, 13, 14]] 14 [] [7] (fun fl w_ => wn.grownBy w_ (v8 : Value).ownBlock ∧ (fl 7 = false → w_.ownsRow wq1.heap.size 87 2 v8 i (spsC d.plan))) (phiS (fun i_ r => match i_ with | 0 => r 0 = .int .i64 ((uI true : Nat) : Int) | 1 => r 1 = v8 | 2 => r 2 = .int .i64 ((uI true : Nat) : Int) | 3 => r 3 = .bool true | 4 => r 4 = .int .i64 (n : Nat) | 5 => r 5 = .agg #[.bool true, .int .i64 (n : Nat)] | 8 => r 8 = .int .i64 ((uI true : Nat) : Int) | 9 => r 9 = .pointer (some ⟨g4, 0 + 1, none⟩) | 10 => r 10 = .slice (some ⟨bA, oA, none⟩) nu cu | 11 => r 11 = .int .i64 (n : Nat) | 12 => r 12 = .slice (QA3 (some ⟨bA, oA, none⟩) cu n) (nu - n) (cu - n) | _ => True) [(6, fun fl r w_ => fl 7 = false → (∃ g_, r 6 = .slice (some ⟨g_, 0, none⟩) 1 1 ∧ Blk w_ g_ 87 #[.bool true, .int .i64 (n : Nat)] ∧ wn.heap.size ≤ g_)), (7, fun _ r w_ => w_.ownsRow wq1.heap.size 87 2 (r 7) (i + 1) ((spsC d.plan) ++ [.bool true, .int .i64 (n : Nat)]) ∧ ∀ b, (r 7).ownBlock = some b → (v8 : Value).ownBlock = some b ∨ wn.heap.size ≤ b), (13, fun _ r w_ => r 13 = r 7)]) (by kernel_rfl) rfl rfl (by intro i hi; simp at hi; subst hi; exact ⟨by simp, by omega⟩) (QAg hO) (ZK (Yh Yx) (ZK (Y5 (e := 7) (C := fun u_ => ∀ b, u_.ownBlock = some b → (v8 : Value).ownBlock = some b ∨ wn.heap.size ≤ b)) (ZK (fun _ _ _ _ _ h => h) (Zb)))) (fun i_ hi_ hs_ => ?_) (fun i_ hi_ => ?_) ?_
      ·match i_, hi_ with
       | 0, _ =>
        intro val fl w1 a hb ha hd hfl;obtain ⟨hgb, hg0⟩ := hb;have hb := ZG hO hgb hb2.size;have ha := ha.s0 (d := 10) rfl
        exact ZB ha rfl rfl (x_move rfl) rfl rfl
       | 1, _ =>
        intro val fl w1 a hb ha hd hfl;obtain ⟨hgb, hg0⟩ := hb;have hb := ZG hO hgb hb2.size;have ha := ha.s0 (d := 8) rfl
        exact ZB ha rfl rfl (x_move rfl) rfl rfl
       | 2, _ =>
        intro val fl w1 a hb ha hd hfl;obtain ⟨hgb, hg0⟩ := hb;have hb := ZG hO hgb hb2.size;have ha := ha.s0 (d := 10) rfl
        exact ZB ha rfl rfl (x_move rfl) rfl rfl
       | 3, _ =>
        intro val fl w1 a hb ha hd hfl;obtain ⟨hgb, hg0⟩ := hb;have hb := ZG hO hgb hb2.size;have e2 : val 2 = _ := hd 2 (ZA.1 rfl);have ha := ha.s1 (d := 89) rfl e2
        exact ZB ha rfl rfl (Z2 (r := true) rfl rfl rfl) rfl rfl
       | 4, _ =>
        intro val fl w1 a hb ha hd hfl;obtain ⟨hgb, hg0⟩ := hb;have hb := ZG hO hgb hb2.size;have ha := ha.s0 (d := 11) rfl
        exact ZB ha rfl rfl (x_move rfl) rfl rfl
       | 5, _ =>
        intro val fl w1 a hb ha hd hfl;obtain ⟨hgb, hg0⟩ := hb;have hb := ZG hO hgb hb2.size;have e3 : val 3 = _ := hd 3 (ZA.1 rfl);have e4 : val 4 = _ := hd 4 (ZA.1 rfl);have ha := ha.s2 (d := 91) (e := 90) rfl e4 rfl e3
        exact ZB ha rfl rfl (Y8 rfl rfl) rfl rfl
       | 6, _ =>
        intro val fl w1 a hb ha hd hfl;obtain ⟨hgb, hg0⟩ := hb;have hb := ZG hO hgb hb2.size;have e5 : val 5 = _ := hd 5 (ZA.1 rfl);have ha := ha.s1 (d := 92) rfl e5
        exact QBH ha rfl rfl (QDp rfl) rfl (fun g w' hq _ hge => fun _ => ⟨g, rfl, hq, Nat.le_trans hgb.size hge⟩)
       | 7, _ =>
        exact absurd (by simp) hs_
       | 8, _ =>
        intro val fl w1 a hb ha hd hfl;obtain ⟨hgb, hg0⟩ := hb;have hb := ZG hO hgb hb2.size;have ha := ha.s0 (d := 10) rfl
        exact ZB ha rfl rfl (x_move rfl) rfl rfl
       | 9, _ =>
        intro val fl w1 a hb ha hd hfl;obtain ⟨hgb, hg0⟩ := hb;have hb := ZG hO hgb hb2.size;have e8 : val 8 = _ := hd 8 (ZA.1 rfl);have ha := ha.sub (Sub.ins (d := 95) (Sub.ins (d := 7) (Sub.nil _) rfl) (ZO rfl e8))
        exact ZB ha rfl rfl (Yz (k := 1) rfl rfl (by omega)) rfl rfl
       | 10, _ =>
        intro val fl w1 a hb ha hd hfl;obtain ⟨hgb, hg0⟩ := hb;have hb := ZG hO hgb hb2.size;have e9 : val 9 = _ := hd 9 (ZA.1 rfl);have ha := ha.s1 (d := 96) rfl e9
        exact ZB ha rfl rfl (YG rfl ((ZM q4 hO rfl hgb).at (j := 1) rfl)) rfl rfl
       | 11, _ =>
        intro val fl w1 a hb ha hd hfl;obtain ⟨hgb, hg0⟩ := hb;have hb := ZG hO hgb hb2.size;have ha := ha.s0 (d := 11) rfl
        exact ZB ha rfl rfl (x_move rfl) rfl rfl
       | 12, _ =>
        intro val fl w1 a hb ha hd hfl;obtain ⟨hgb, hg0⟩ := hb;have hb := ZG hO hgb hb2.size;have e10 : val 10 = _ := hd 10 (ZA.1 rfl);have e11 : val 11 = _ := hd 11 (ZA.1 rfl);have ha := ha.s2 (d := 98) (e := 97) rfl e11 rfl e10
        exact ZB ha rfl rfl (QHH (lo := n) rfl rfl (by omega) rfl) rfl rfl
       | 13, _ =>
        intro val fl w1 a hb ha hd hfl;obtain ⟨hgb, hg0⟩ := hb;have hb := ZG hO hgb hb2.size;obtain ⟨ho7_, hn7_⟩ := hd 7 (ZA.1 rfl);change w1.ownsRow _ _ _ (val 7) _ _ at ho7_;obtain ⟨A7_, c7_, e7, _⟩ := (Rd.of_own ho7_).shape;rw [e7] at ho7_;have ha := ha.s1 (d := 94) rfl e7
        exact ZB ha rfl rfl (ZV rfl) e7.symm rfl
       | k + 14, h => exact absurd h (by omega)
      ·simp only [List.mem_singleton] at hi_; subst hi_
       intro val fl w1 a hb hfi ha hd hfl;obtain ⟨hgb, hg0⟩ := hb;have hb := ZG hO hgb hb2.size;have e1 : val 1 = _ := hd 1 (ZA.1 rfl);obtain ⟨g6_, e6, q6_, h6_⟩ := hd 6 (ZA.1 rfl) hfi;change val 6 = _ at e6;have ha := ha.s2 (d := 93) (e := 88) rfl e6 rfl e1;refine QBF QCY ha rfl rfl rfl (hg0 hfi) (QAK (l := [.bool true, .int .i64 (n : Nat)]) q6_ rfl) (by intro u hu; simp only [List.mem_cons, List.not_mem_nil, or_false] at hu; rcases hu with rfl | rfl <;> rfl) (by omega) rfl (Nat.le_trans hb2.size hgb.size) ?_
       intro v' w' ho' hgr hat;refine ⟨v', rfl, hgr.size, ⟨Zg hgb hgr, fun h => by rw [ZR] at h; cases h⟩, ⟨ho', fun b hb' => ?_⟩, fun j _ hj hn hA => ?_⟩
       ·rcases hat with h | h
        ·exact .inl (h ▸ hb')
        ·refine .inr ?_
         change v'.ownBlock = some b at hb';rw [h] at hb'
         injection hb' with hb'
         have := hgb.size
         omega
       ·exact ZF (C := fun j => j ≠ 7 ∧ 7 ∉ clsAt [[], [], [], [2], [], [2, 3, 4], [2, 3, 4, 5], [1, 2, 3, 4, 5, 6], [], [8], [8, 9], [], [8, 9, 10, 11], [1, 2, 3, 4, 5, 6, 7], [0, 1, 2, 3, 4, 5, 6, 7, 8, 9, 10, 11, 12, 13], [0, 1, 2, 3, 4, 5, 6, 7, 8, 9, 10, 11, 12, 13, 14]] j) (fun _ _ h => by rw [ZR] at h; cases h) (ZF (fun hc => absurd rfl hc.1) (ZF (fun hc => absurd (ZA.1 rfl) hc.2) (fun _ _ h => h))) j ⟨hj, hn⟩
      ·intro val fl w' hfl hb halc hd
       obtain ⟨hgb, _⟩ := hb;have hb := ZG hO hgb hb2.size;have e0 : val 0 = _ := hd 0 (by omega)
       have e1 : val 1 = _ := hd 1 (by omega)
       have e2 : val 2 = _ := hd 2 (by omega)
       have e3 : val 3 = _ := hd 3 (by omega)
       have e4 : val 4 = _ := hd 4 (by omega)
       have e5 : val 5 = _ := hd 5 (by omega)
       obtain ⟨ho7, hn7⟩ := hd 7 (by omega)
       change w'.ownsRow _ _ _ (val 7) _ _ at ho7;have e8 : val 8 = _ := hd 8 (by omega)
       have e9 : val 9 = _ := hd 9 (by omega)
       have e10 : val 10 = _ := hd 10 (by omega)
       have e11 : val 11 = _ := hd 11 (by omega)
       have e12 : val 12 = _ := hd 12 (by omega)
       have e13 : val 13 = val 7 := hd 13 (by omega)
       refine EL.ends (cs := [_, _, _, _, _, _, val 6, val 7, _, _, _, _, _, _]) ⟨e0, e1, e2, e3, e4, e5, rfl, rfl, e8, e9, e10, e11, e12, e13, trivial⟩ rfl ?_;replace q1 := ZM q1 hO rfl hgb;replace q2 := ZM q2 hO rfl hgb;replace q4 := ZM q4 hO rfl hgb;replace hb2 := hb2.trans (hb.mono (Nat.le_refl _));replace hbw := hbw.trans (hb.mono hwq);obtain ⟨A7, c7, e7_, _⟩ := (Rd.of_own ho7).shape;rw [e7_] at ho7 ⊢;refine EL.val (Yz (k := 1) rfl rfl (by omega)) rfl ?_
       refine EL.store rfl rfl q4 QHp rfl rfl rfl rfl ?_;intro w8 hq8 hg8;replace q1 := q1.gr hg8 n1_4;replace q2 := q2.gr hg8 n2_4;replace ho7 := ZL ho7 q4 rfl hg8;replace hb2 := ZE hb2 hg8 bhb2_4;replace hbw := ZE hbw hg8 bhbw_4;replace q4 := hq8;clear hg8 hq8;refine EL.nil (EX.blk (EX.seq (EC.region (EL.mv rfl rfl ?_))));refine EL.val (ZP rfl rfl (c := ((i + 1 : Nat) : Int)) ((IntWalk.i64_in _ ⟨by first | omega | (simp only; omega), by first | omega | (simp only; omega)⟩).trans (by first | omega | (simp only; omega)))) rfl ?_
       refine EL.as rfl rfl (EL.nil ?_);have hnx : n ≤ (waitL (qL ts) d.s true).length := by omega
       have hwo := fun v => QGI (q := (qL ts)) (d := d) (u := true) (v := v) (n := n) hnx
       refine EX.roundD ⟨oneD (qL ts) d true n, i + 1, (.slice A7 (i + 1) c7), Ad, nd, cd, (QA3 (some ⟨bA, oA, none⟩) cu n), nu - n, cu - n⟩ ⟨rfl, rfl, trivial⟩ (by repeat first | with_reducible exact .refl _ | refine sp_ rfl ?_ | exact .refl _ | refine sd_ rfl ?_ | refine sn_ ?_) ⟨PlOk.one hq hpk hn1 hnx hfit, (by rw [QJz, hi]), (by rw [hwo, if_neg (by decide)]; exact hnd), (by rw [hwo, if_neg (by decide)]; exact hd2), (by show nu - n = _; rw [hwo, if_pos rfl, List.length_drop]; omega), (by rw [hwo, if_pos rfl]; exact QJu hu2 (by omega)), (by rw [pl_C]; exact ho7), q1, q2, q4, hb2, hbw⟩ (by have := QDg (q := (qL ts)) (d := d) (u := true) (n := n) hpk.dr hnx; show remD (qL ts) (oneD (qL ts) d true n).s < remD (qL ts) d.s; omega)
/-! ### How often the chamber was filled and emptied in m movements -/
def fiN (h : Bool) (m : Nat) : Nat := if h = true then m / 2 else (m + 1) / 2
def emN (h : Bool) (m : Nat) : Nat := if h = true then (m + 1) / 2 else m / 2
def hiN (h : Bool) (m : Nat) : Bool := if m % 2 = 1 then !h else h
def baN (l : LK) (m : Nat) : Int := if hiN l.high m = true then 0 else if emN l.high m = 0 then 0 else Zj l
def chN (l : LK) (m : Nat) : Int := if hiN l.high m = true then (if l.high = true then 0 else l.fill) else (if l.high = true then -l.fill else 0)
theorem QIO (h : Bool) (m : Nat) : hiN h (m + 1) = !hiN h m := by
 unfold hiN
 by_cases e : m % 2 = 1
 ·rw [if_pos e, if_neg (by omega)]; cases h <;> rfl
 ·rw [if_neg e, if_pos (by omega)]
theorem QMj {h : Bool} {m : Nat} (hv : hiN h m = true) : fiN h (m + 1) = fiN h m ∧ emN h (m + 1) = emN h m + 1 := by
 unfold hiN at hv
 unfold fiN emN
 cases h <;> simp at hv ⊢ <;> omega
theorem QMk {h : Bool} {m : Nat} (hv : hiN h m = false) : fiN h (m + 1) = fiN h m + 1 ∧ emN h (m + 1) = emN h m := by
 unfold hiN at hv
 unfold fiN emN
 cases h <;> simp at hv ⊢ <;> omega
structure WS (l : LK) (s : ST) (P : Int) (m : Nat) : Prop where
 mv : s.mv = (m : Int)
 lk : s.lk = lkW l (hiN l.high m)
 up : s.up + P = (emN l.high m : Int) * Zj l - (fiN l.high m : Int) * l.fill - baN l m
 ch : s.ch = chN l m
 ba : s.ba = baN l m
 sum : s.up + s.lo + s.ch + s.ba = 0
theorem WS.start (l : LK) : WS l (stL l) 0 0 := by
 have hb : baN l 0 = 0 := by unfold baN emN; cases l.high <;> simp
 have hc : chN l 0 = 0 := by unfold chN hiN; cases l.high <;> simp
 refine ⟨rfl, (QKM l).symm, ?_, hc.symm, hb.symm, rfl⟩;rw [hb];have e1 : emN l.high 0 = 0 := by unfold emN; cases l.high <;> rfl
 have e2 : fiN l.high 0 = 0 := by unfold fiN; cases l.high <;> rfl
 rw [e1, e2]
 simp [stL]
section
variable {l : LK} {s : ST} {P : Int} {m : Nat}
theorem WS.mvS (h : WS l s P m) : WS l (mvS s) P (m + 1) := by
 obtain ⟨h1, h2, h3, h4, h5, h6⟩ := h;have hs := QIO l.high m;have hf : s.lk.fill = l.fill := by rw [h2]; rfl
 have hk : Zj s.lk = Zj l := by rw [h2]; rfl
 cases hv : hiN l.high m with
 | true =>
  obtain ⟨e1, e2⟩ := QMj hv;have hh : s.lk.high = true := by rw [h2]; exact hv
  have e3 : Go.Proofs.Ytlbfnimilcnihaa.mvS s = ⟨lkW s.lk false, s.up, s.lo + s.lk.fill - Zj s.lk, s.ch - s.lk.fill, s.ba + Zj s.lk, s.mv + 1, s.fr, s.t0, s.t1, s.cost⟩ := by unfold Go.Proofs.Ytlbfnimilcnihaa.mvS; rw [if_pos hh]
  rw [hv] at hs;have hs : hiN l.high (m + 1) = false := hs;have b0 : baN l m = 0 := by unfold baN; rw [if_pos hv]
  have b1 : baN l (m + 1) = Zj l := by unfold baN; rw [if_neg (by rw [hs]; decide), if_neg (by rw [e2]; omega)]
  have c0 : chN l m = if l.high = true then 0 else l.fill := by unfold chN; rw [if_pos hv]
  have c1 : chN l (m + 1) = if l.high = true then -l.fill else 0 := by unfold chN; rw [if_neg (by rw [hs]; decide)]
  rw [e3];refine ⟨by show s.mv + 1 = _; omega, ?_, ?_, ?_, ?_, ?_⟩
  ·show lkW s.lk false = _
   rw [h2, hs]
   rfl
  ·show s.up + P = _
   rw [h3, e1, e2, b0, b1, Int.natCast_add, Int.add_mul]
   omega
  ·show s.ch - s.lk.fill = _
   rw [h4, c0, c1, hf]
   split <;> omega
  ·show s.ba + Zj s.lk = _
   rw [h5, b0, b1, hk]
   omega
  ·show s.up + (s.lo + s.lk.fill - Zj s.lk) + (s.ch - s.lk.fill) + (s.ba + Zj s.lk) = 0
   omega
 | false =>
  obtain ⟨e1, e2⟩ := QMk hv;have hh : s.lk.high = false := by rw [h2]; exact hv
  have e3 : Go.Proofs.Ytlbfnimilcnihaa.mvS s = ⟨lkW s.lk true, s.up - s.lk.fill + s.ba, s.lo, s.ch + s.lk.fill, 0, s.mv + 1, s.fr, s.t0, s.t1, s.cost⟩ := by unfold Go.Proofs.Ytlbfnimilcnihaa.mvS; rw [if_neg (by rw [hh]; decide)]
  rw [hv] at hs;have hs : hiN l.high (m + 1) = true := hs;have b1 : baN l (m + 1) = 0 := by unfold baN; rw [if_pos hs]
  have c0 : chN l m = if l.high = true then -l.fill else 0 := by unfold chN; rw [if_neg (by rw [hv]; decide)]
  have c1 : chN l (m + 1) = if l.high = true then 0 else l.fill := by unfold chN; rw [if_pos hs]
  rw [e3];refine ⟨by show s.mv + 1 = _; omega, ?_, ?_, ?_, ?_, ?_⟩
  ·show lkW s.lk true = _
   rw [h2, hs]
   rfl
  ·show s.up - s.lk.fill + s.ba + P = _
   rw [e1, e2, b1, Int.natCast_add, Int.add_mul, hf, h5]
   omega
  ·show s.ch + s.lk.fill = _
   rw [h4, c0, c1, hf]
   split <;> omega
  ·exact b1.symm
  ·show s.up - s.lk.fill + s.ba + s.lo + (s.ch + s.lk.fill) + 0 = 0
   omega
theorem WS.mvN (h : WS l s P m) : ∀ n, WS l (mvN n s) P (m + n)
 | 0 => h
 | n + 1 => (h.mvN n).mvS
theorem WS.turn (h : WS l s P m) (u : Bool) : ∃ m1, m ≤ m1 ∧ WS l (Zq s u) P m1 := by
 unfold Zq
 split
 ·have k := h.mvS
  exact ⟨m + 1, by omega, ⟨k.mv, k.lk, k.up, k.ch, k.ba, k.sum⟩⟩
 ·exact ⟨m, by omega, h⟩
theorem QGg : ∀ (n : Nat) (s : ST), (mvN n s).lk.high = hiN s.lk.high n
 | 0, s => rfl
 | n + 1, s => by
  show (Go.Proofs.Ytlbfnimilcnihaa.mvS (Go.Proofs.Ytlbfnimilcnihaa.mvN n s)).lk.high = _
  rw [QCI]
  show (!(Go.Proofs.Ytlbfnimilcnihaa.mvN n s).lk.high) = _
  rw [QGg n s, QIO]
theorem QK_ (s : ST) (ts : List TW) (u : Bool) (hp : 0 < Zu (Zi ts) s.lk.length) : (tkS s ts u).lk.high = u := by
 show (Go.Proofs.Ytlbfnimilcnihaa.mvN _ (Zq s u)).lk.high = u
 rw [QGg, QBa]
 unfold hiN
 rw [if_pos (by omega)]
 show (!!u) = u
 cases u <;> rfl
theorem WS.tk {ts : List TW} {u : Bool} (h : WS l s P m) (hp : 0 < Zu (Zi ts) s.lk.length) : ∃ m1, m < m1 ∧ WS l (tkS s ts u) (P + sgB u * Yv ts) m1 := by
 obtain ⟨m1, hm, k⟩ := h.turn u;have k2 := k.mvN (2 * Zu (Zi ts) s.lk.length - 1);refine ⟨_, by omega, ⟨k2.mv, k2.lk, ?_, k2.ch, k2.ba, ?_⟩⟩
 ·have := k2.up
  show (midS s ts u).up - sgB u * Yv ts + (P + sgB u * Yv ts) = _
  rw [← this]
  show (midS s ts u).up - _ + _ = (midS s ts u).up + P
  omega
 ·have := k2.sum
  show (midS s ts u).up - sgB u * Yv ts + ((midS s ts u).lo + sgB u * Yv ts) + (midS s ts u).ch + (midS s ts u).ba = 0
  have e : (midS s ts u).up + (midS s ts u).lo + (midS s ts u).ch + (midS s ts u).ba = 0 := this
  omega
end
/-! ### Along a plan -/
theorem QLE {l : LK} {q : QS} {d : Dr} {k : Nat} (hQ : QOk l q) (h : PlOk l q d) (hk : k < d.plan.length) :
  DrOk l q ⟨sAt l q d.plan k, d.plan.take k⟩ ∧ (∀ t ∈ twAt l q d.plan k, twB l t = true) ∧ (sAt l q d.plan k).t0 + (sAt l q d.plan k).t1 + (twAt l q d.plan k).length ≤ 8 ∧ 1 ≤ (twAt l q d.plan k).length ∧ (twAt l q d.plan k).length ≤ (waitL q (sAt l q d.plan k) (d.plan.getD k sp0).up).length ∧ (waitL q (sAt l q d.plan k) (d.plan.getD k sp0).up).take (twAt l q d.plan k).length = twAt l q d.plan k ∧ (d.plan.getD k sp0).tows = (((twAt l q d.plan k).length : Nat) : Int) ∧ fitB l.length (twAt l q d.plan k) = true := by
 obtain ⟨hd, ht⟩ := QEc hQ (Nat.le_of_lt hk) (fun i hi => (h.at_ i (by omega)).1) (fun i hi => (h.at_ i (by omega)).2)
 obtain ⟨a, b⟩ := QCN (h.at_ k hk).1;have hu := ht (d.plan.getD k sp0).up;have hw : (d.plan.getD k sp0).tows.toNat ≤ (waitL q (sAt l q d.plan k) (d.plan.getD k sp0).up).length := by
  rw [Z3]
  unfold Zf at b
  omega
 have hl : (twAt l q d.plan k).length = (d.plan.getD k sp0).tows.toNat := Zh (d := ⟨sAt l q d.plan k, d.plan.take k⟩) hw;have hf := (h.at_ k hk).2
 unfold QA8 at hf
 have hlk : (sAt l q d.plan k).lk.length = l.length := hd.lkl;rw [hlk] at hf;refine ⟨hd, Ye (d := ⟨sAt l q d.plan k, d.plan.take k⟩) hQ, ?_, by omega, by omega, by rw [hl]; rfl, by omega, hf⟩
 rw [hl]
 exact QAy hQ hd hw
/-- what the tows that were taken displace upwards -/
def QDB (q : QS) (s : ST) : Int := sumF (·.push) ((q true).take s.t1) - sumF (·.push) ((q false).take s.t0)
theorem QGN (f : TW → Int) (a b : List TW) : sumF f (a ++ b) = sumF f a + sumF f b := by simp [sumF]
theorem QJc {q : QS} {s : ST} {u : Bool} {n : Nat} (h : n ≤ (waitL q s u).length) : QDB q (tkS s ((waitL q s u).take n) u) = QDB q s + sgB u * Yv ((waitL q s u).take n) := by
 have hl : ((waitL q s u).take n).length = n := by rw [List.length_take]; omega
 obtain ⟨a, b⟩ := QHj s ((waitL q s u).take n) u;rw [hl] at a b
 unfold QDB
 rw [a, b]
 cases u
 ·rw [if_neg (by decide), if_neg (by decide)]
  have e : (q false).take (s.t0 + n) = (q false).take s.t0 ++ (waitL q s false).take n := List.take_add;rw [e, QGN]
  show _ = _ + (-1 : Int) * Yv _
  unfold Yv
  omega
 ·rw [if_pos rfl, if_pos rfl]
  have e : (q true).take (s.t1 + n) = (q true).take s.t1 ++ (waitL q s true).take n := List.take_add;rw [e, QGN]
  show _ = _ + (1 : Int) * Yv _
  unfold Yv
  omega
theorem QMD {l : LK} {q : QS} {d : Dr} (hQ : QOk l q) (h : PlOk l q d) : ∀ {k : Nat}, k ≤ d.plan.length → ∃ m, k ≤ m ∧ WS l (sAt l q d.plan k) (QDB q (sAt l q d.plan k)) m ∧ (0 < k → (sAt l q d.plan k).lk.high = (d.plan.getD (k - 1) sp0).up)
 | 0, _ => ⟨0, Nat.le_refl _, WS.start l, fun h => absurd h (by omega)⟩
 | k + 1, hk => by
  obtain ⟨m, hm, hw, _⟩ := QMD hQ h (k := k) (by omega)
  obtain ⟨hd, htw, h8, h1, hn, hp, _⟩ := QLE hQ h (show k < d.plan.length by omega)
  have e := QBi (l := l) (q := q) (show k < d.plan.length by omega)
  have hlk : (sAt l q d.plan k).lk.length = l.length := hd.lkl;have hpt : 0 < Zu (Zi (twAt l q d.plan k)) (sAt l q d.plan k).lk.length := by rw [hlk]; exact QFA htw hQ.lk (by omega) (by omega)
  obtain ⟨m1, hm1, k1⟩ := hw.tk (u := (d.plan.getD k sp0).up) hpt;have et := QJc (q := q) (s := sAt l q d.plan k) (u := (d.plan.getD k sp0).up) hn;rw [hp, ← e] at et;rw [← e, ← et] at k1;refine ⟨m1, by omega, k1, fun _ => ?_⟩
  rw [e]
  exact QK_ _ _ _ hpt
/-! ### All tows -/
theorem QE5 {f : TW → Int} {a b : List TW} (h : a.Perm b) : sumF f a = sumF f b := by
 induction h with
 | nil => rfl
 | cons x _ ih => simp only [sumF, List.map_cons, List.sum_cons] at ih ⊢; omega
 | swap x y l => simp only [sumF, List.map_cons, List.sum_cons]; omega
 | trans _ _ ih1 ih2 => exact ih1.trans ih2
def QA4 (ts : List TW) (k : Nat) : Int := sumF (fun t => sgB t.up * t.push) (ts.take k)
theorem QD8 : ∀ ts : List TW, sumF (fun t => sgB t.up * t.push) ts = sumF (·.push) (fU true ts) - sumF (·.push) (fU false ts)
 | [] => rfl
 | t :: ts => by
  have ih := QD8 ts
  unfold fU at ih ⊢
  rw [List.filter_cons, List.filter_cons];have e : sumF (fun t => sgB t.up * t.push) (t :: ts) = sgB t.up * t.push + sumF (fun t => sgB t.up * t.push) ts := by simp [sumF]
  rw [e, ih]
  cases hu : t.up
  ·simp [hu, sumF, sgB]; omega
  ·simp [hu, sumF, sgB]; omega
theorem QJx {ts : List TW} {s : ST} (hc : YQ (qL ts) s = true) : QDB (qL ts) s = QA4 ts ts.length := by
 unfold YQ at hc
 rw [Bool.and_eq_true, decide_eq_true_iff, decide_eq_true_iff] at hc
 unfold QDB QA4
 rw [List.take_length, QD8, List.take_of_length_le (by omega), List.take_of_length_le (by omega), QE5 (QCb ts true), QE5 (QCb ts false)]
theorem QHM {ts : List TW} {k : Nat} (h : k < ts.length) : QA4 ts (k + 1) = QA4 ts k + sgB (ts.getD k tw0).up * (ts.getD k tw0).push := by
 unfold QA4
 rw [QDC h]
/-- what the law reckons -/
theorem QCu {l : LK} {k : Nat} (h : l.high = true) : fiN l.high (2 * k) = k ∧ (emN l.high (2 * k) : Int) * Zj l - baN l (2 * k) = (k : Int) * Zj l := by
 have e1 : fiN l.high (2 * k) = k := by unfold fiN; rw [if_pos h]; omega
 have e2 : emN l.high (2 * k) = k := by unfold emN; rw [if_pos h]; omega
 have e3 : baN l (2 * k) = 0 := by unfold baN hiN; rw [if_neg (show ¬(2 * k) % 2 = 1 by omega), if_pos h]
 exact ⟨e1, by rw [e2, e3]; omega⟩
theorem QDQ {l : LK} {k : Nat} (h : l.high = true) : fiN l.high (2 * k + 1) = k ∧ (emN l.high (2 * k + 1) : Int) * Zj l - baN l (2 * k + 1) = (k : Int) * Zj l := by
 have e1 : fiN l.high (2 * k + 1) = k := by unfold fiN; rw [if_pos h]; omega
 have e2 : emN l.high (2 * k + 1) = k + 1 := by unfold emN; rw [if_pos h]; omega
 have e3 : baN l (2 * k + 1) = Zj l := by unfold baN hiN; rw [if_pos (show (2 * k + 1) % 2 = 1 by omega), if_neg (by rw [h]; decide), if_neg (by rw [e2]; omega)]
 exact ⟨e1, by rw [e2, e3, Int.natCast_add, Int.add_mul]; omega⟩
theorem QDR {l : LK} {k : Nat} (h : l.high = false) : fiN l.high (2 * k) = k ∧ (emN l.high (2 * k) : Int) * Zj l - baN l (2 * k) = if 0 < k then (k : Int) * Zj l - Zj l else 0 := by
 have e1 : fiN l.high (2 * k) = k := by unfold fiN; rw [if_neg (by rw [h]; decide)]; omega
 have e2 : emN l.high (2 * k) = k := by unfold emN; rw [if_neg (by rw [h]; decide)]; omega
 refine ⟨e1, ?_⟩;have e3 : baN l (2 * k) = if k = 0 then 0 else Zj l := by unfold baN hiN; rw [if_neg (show ¬(2 * k) % 2 = 1 by omega), if_neg (by rw [h]; decide), e2]
 rw [e2, e3]
 by_cases hk : k = 0
 ·subst hk; simp
 ·rw [if_neg hk, if_pos (by omega)]
theorem QEX {l : LK} {k : Nat} (h : l.high = false) : fiN l.high (2 * k + 1) = k + 1 ∧ (emN l.high (2 * k + 1) : Int) * Zj l - baN l (2 * k + 1) = ((k + 1 : Nat) : Int) * Zj l - Zj l := by
 have e1 : fiN l.high (2 * k + 1) = k + 1 := by unfold fiN; rw [if_neg (by rw [h]; decide)]; omega
 have e2 : emN l.high (2 * k + 1) = k := by unfold emN; rw [if_neg (by rw [h]; decide)]; omega
 have e3 : baN l (2 * k + 1) = 0 := by unfold baN hiN; rw [if_pos (show (2 * k + 1) % 2 = 1 by omega), if_pos (by rw [h]; rfl)]
 exact ⟨e1, by rw [e2, e3, Int.natCast_add, Int.add_mul]; omega⟩
section
variable {n : Nat} {σ : Sg} {w : World} {dst : Option Tmp} {ty : TypeId} {pos : String} {af : Array Edge} {g : Option (Nat × Bool)} {x y z : Operand} {at' : Array TypeId}
theorem cF32 : cF 32 := fun _ _ => by simp [go_sem]
theorem cF33 : cF 33 := fun _ _ => by simp [go_sem]
end
theorem QJn {x : Sml} {l : LK} (hl : l = Zn x) (hx : SmlOk x) {At As : Option Addr} {ct cs : Nat} {w : World} : Calls Try.prog 31 #[.agg #[.int .u8 x.a0, .int .u8 x.a1, .int .u8 x.a2, .int .u8 x.a3, .int .u8 x.a4, .bool x.hi, .slice At x.tows.length ct, .slice As x.steps.length cs]] w fun e w' => e = .returned (.agg #[.int .i64 l.length, .int .i64 l.cycle, .int .i64 l.turn, .int .i64 l.fill, .int .i64 l.save, .bool l.high]) ∧ Below w.heap.size w w' := hl ▸ QE6 hx w
theorem QJj {x : Sml} {ts : List TW} {m : Nat} (hts : ts = QAw x m) (hx : SmlOk x) {At As : Option Addr} {ct cs : Nat} {w : World} {B : Nat} (hr : Rd w B 5 (.slice At x.tows.length ct) x.tows.length (e5s x.tows)) (hB : B ≤ w.heap.size) (hm : m ≤ 1000) :
  Calls Try.prog 32 #[.agg #[.int .u8 x.a0, .int .u8 x.a1, .int .u8 x.a2, .int .u8 x.a3, .int .u8 x.a4, .bool x.hi, .slice At x.tows.length ct, .slice As x.steps.length cs], .int .i64 (m : Nat)] w fun e w' => (∃ v', e = .returned v' ∧ w'.ownsRow w.heap.size 39 5 v' ts.length (twsC ts)) ∧ Below w.heap.size w w' := hts ▸ QIs hx hr hB hm
theorem QJ0 {l : LK} {ts : List TW} {d : Dr} (he : towE l ts = 0) (h : PlOk l (qL ts) d) (hc : YQ (qL ts) d.s = true) : Zr l ts d.plan = 0 ∧ endP l ts d.plan = d.s ∧ QD4 l ts d.plan = YZ l (qL ts) d.plan d.plan.length := by
 obtain ⟨a, b⟩ := h.ok hc;have e : Zr l ts d.plan = 0 := by unfold Zr; rw [if_pos he, if_pos a, if_pos b]
 exact ⟨e, by rw [QKh e]; exact h.end_, QHv e⟩
theorem QIw (l : LK) (q : QS) (p : List SP) (k : Nat) : (YZ l q p k).length = k := by simp [YZ]
theorem QK2 {l : LK} {ts : List TW} {p : List SP} {s : ST} {v vp : Value} {w : World} {B : Nat} (hce : Zr l ts p = 0) (hen : endP l ts p = s) (hr : Rd w B 5 v ts.length (twsC ts)) (hp : Rd w B 2 vp p.length (spsC p)) (hB : B ≤ w.heap.size) (hpn : p.length ≤ 1000000) :
  Calls Try.prog 17 #[.agg #[.int .i64 l.length, .int .i64 l.cycle, .int .i64 l.turn, .int .i64 l.fill, .int .i64 l.save, .bool l.high], v, vp] w fun e w' => e = .returned (.tuple #[.agg #[.int .i64 s.up, .int .i64 s.lo, .int .i64 s.ch, .int .i64 s.ba], .int .i64 0]) ∧ Below w.heap.size w w' := by
 have h := QFR (l := l) hr hp hB hpn;rw [hce, hen] at h
 exact h
theorem QNH {l : LK} {ts : List TW} {p : List SP} {s : ST} {v vp : Value} {w : World} {B : Nat} (hce : Zr l ts p = 0) (hen : endP l ts p = s) (hru : QD4 l ts p = YZ l (qL ts) p p.length) (hr : Rd w B 5 v ts.length (twsC ts)) (hp : Rd w B 2 vp p.length (spsC p)) (hB : B ≤ w.heap.size) (hpn : p.length ≤ 1000000) :
  Calls Try.prog 16 #[.agg #[.int .i64 l.length, .int .i64 l.cycle, .int .i64 l.turn, .int .i64 l.fill, .int .i64 l.save, .bool l.high], v, vp] w fun e w' => (∃ A c, e = .returned (.tuple #[.slice A p.length c, .int .i64 s.cost, .int .i64 s.mv, .int .i64 0]) ∧ w'.ownsRow w.heap.size 49 2 (.slice A p.length c) p.length (rnsC (YZ l (qL ts) p p.length))) ∧ Below w.heap.size w w' := by
 have h := QIn (l := l) hr hp hB hpn;rw [hce, hen, hru, QIw] at h;refine h.mono fun e w' ⟨sl, he, ho, hb⟩ => ⟨?_, hb⟩
 obtain ⟨A, c, rfl, _⟩ := (Rd.of_own ho).shape
 exact ⟨A, c, he, ho⟩
def c1N (l : LK) (m : Nat) : Int := if hiN l.high m = true then (if l.high = true then 0 else l.fill) else 0
theorem QNY (h : Bool) (m : Nat) : fiN h m ≤ m := by unfold fiN; split <;> omega
theorem QNZ (h : Bool) (m : Nat) : emN h m ≤ m := by unfold emN; split <;> omega
theorem QGi {l : LK} (hl : lkB l = true) {n : Nat} (hn : n ≤ 100000000) : 0 ≤ (n : Int) * Zj l ∧ (n : Int) * Zj l ≤ 100000000 * 1000000 := by
 have := QB4 hl;have := Yb hl
 exact ⟨Int.mul_nonneg (by omega) (by omega), Int.mul_le_mul (by omega) (by omega) (by omega) (by omega)⟩
theorem QKB {l : LK} (hl : lkB l = true) {n : Nat} (hn : n ≤ 100000000) : 0 ≤ (n : Int) * l.fill ∧ (n : Int) * l.fill ≤ 100000000 * 1000000 := by
 have := Yb hl
 exact ⟨Int.mul_nonneg (by omega) (by omega), Int.mul_le_mul (by omega) (by omega) (by omega) (by omega)⟩
theorem QNi {l : LK} (hl : lkB l = true) (m : Nat) : 0 ≤ baN l m ∧ baN l m ≤ 1000000 := by
 have := QB4 hl;have := Yb hl
 unfold baN
 split
 ·omega
 ·split <;> omega
theorem QGW {l : LK} {ts : List TW} (h : ∀ t ∈ ts, twB l t = true) (k : Nat) : -100000 * (ts.take k).length ≤ QA4 ts k ∧ QA4 ts k ≤ 100000 * (ts.take k).length := by
 have := QBG (f := fun t => sgB t.up * t.push) (l := ts.take k) (a := -100000) (b := 100000) fun t ht => by
  have h4 := (QAZ (h t (List.mem_of_mem_take ht))).2.2.2
  cases t.up <;> simp [sgB] <;> omega
 exact this
theorem QIl {σ : Sg} {s : Nat} {b b' : Bool} (h : b = b') (hs : σ s = some (.bool b)) : σ s = some (.bool b') := h ▸ hs
set_option maxHeartbeats 1000000 in
set_option maxRecDepth 100000 in
theorem conserves_law {x : Sml} (hx : SmlOk x) {At As : Option Addr} {ct cs : Nat} {w : World} {B : Nat} (hrt : Rd w B 5 (.slice At x.tows.length ct) x.tows.length (e5s x.tows)) (hrs : Rd w B 2 (.slice As x.steps.length cs) x.steps.length (e2s x.steps)) (hB : B ≤ w.heap.size) :
  Calls Try.prog 7 #[.agg #[.int .u8 x.a0, .int .u8 x.a1, .int .u8 x.a2, .int .u8 x.a3, .int .u8 x.a4, .bool x.hi, .slice At x.tows.length ct, .slice As x.steps.length cs]] w fun e w' => e = .returned (.bool true) ∧ Below w.heap.size w w' := by
 obtain ⟨l, hl⟩ : ∃ z, z = Zn x := ⟨_, rfl⟩;obtain ⟨ts, hts⟩ : ∃ z, z = QAw x 8 := ⟨_, rfl⟩;have he0 : towE l ts = 0 := by rw [hl, hts]; exact QK8 hx (by omega)
 have hq := QFf he0;have hlk := hq.lk;obtain ⟨_, hts8, htwB⟩ := QAx he0;have harr : ∀ t ∈ ts, 0 ≤ t.arrive ∧ t.arrive < (256 : Nat) := fun t ht => by have := (QEy hx (hts ▸ ht)).2; omega
 have hbw := Below.refl w.heap.size w;refine EC.enter 205 Try.func7 rfl rfl rfl (EC.seq (EC.region (EL.newP (QIY rfl) rfl ?_)));intro g1 w1 q1 hb1 hg1 hl1;have bhbw_1 := Nat.le_trans hbw.size hg1;replace hbw := bo_ hbw hb1;clear hb1 hg1 hl1;refine EL.as rfl rfl (EL.nil (EX.seq (EC.seq (EC.region (EL.val (QIF rfl (q1.at (j := 0) rfl) (q1.at (j := 1) rfl) (q1.at (j := 2) rfl) (q1.at (j := 3) rfl) (q1.at (j := 4) rfl) (q1.at (j := 5) rfl) (q1.at (j := 6) rfl) (q1.at (j := 7) rfl)) rfl (EL.call (cA1 cF31 rfl) rfl (QJn hl hx) ?_))))))
 rintro e w2 ⟨rfl, hc2⟩
 refine ⟨_, rfl, ?_⟩;replace q1 := q1.bl hc2;replace hbw := bo_ hbw hc2;clear hc2;refine EL.newP QIk rfl ?_;intro g3 w3 q3 hb3 hg3 hl3;have n1_3 := q1.na hg3;have bhbw_3 := Nat.le_trans hbw.size hg3;replace q1 := q1.bl hb3;replace hbw := bo_ hbw hb3;clear hb3 hg3 hl3;refine EL.store rfl rfl q3 QE2 rfl rfl rfl rfl ?_;intro w4 hq4 hg4;replace q1 := q1.gr hg4 n1_3;replace hbw := ZE hbw hg4 bhbw_3;replace q3 := hq4;clear hg4 hq4;refine EL.nil (EX.seq (EC.seq (EC.region (EL.val (QIF rfl (q1.at (j := 0) rfl) (q1.at (j := 1) rfl) (q1.at (j := 2) rfl) (q1.at (j := 3) rfl) (q1.at (j := 4) rfl) (q1.at (j := 5) rfl) (q1.at (j := 6) rfl) (q1.at (j := 7) rfl)) rfl ?_))));refine EL.call (cA2 cF32 rfl rfl) rfl (QJj hts hx (hrt.below (hbw.mono hB)) (Nat.le_trans hB hbw.size) (by omega)) ?_
 rintro e wt ⟨⟨vt, rfl, htw⟩, hct⟩
 refine ⟨_, rfl, ?_⟩;replace htw := YW htw hbw.size;replace q1 := q1.bl hct;replace q3 := q3.bl hct;replace hbw := bo_ hbw hct;clear hct;obtain ⟨Aw, cw, rfl, _⟩ := (Rd.of_own htw).shape;refine EL.as rfl rfl (EL.nil (EX.seq (EC.seq (EC.region (EL.val (QIF rfl (q1.at (j := 0) rfl) (q1.at (j := 1) rfl) (q1.at (j := 2) rfl) (q1.at (j := 3) rfl) (q1.at (j := 4) rfl) (q1.at (j := 5) rfl) (q1.at (j := 6) rfl) (q1.at (j := 7) rfl)) rfl (EL.val (QA7 rfl (q3.at (j := 0) rfl) (q3.at (j := 1) rfl) (q3.at (j := 2) rfl) (q3.at (j := 3) rfl) (q3.at (j := 4) rfl) (q3.at (j := 5) rfl)) rfl (EL.mv rfl rfl ?_)))))));refine EL.call (cA3 cF33 rfl rfl rfl) rfl (QIu hx ((hrs.below (hbw.mono hB)).more (Nat.le_trans hB hbw.size)) (Rd.of_own htw) (Nat.le_refl _) hq harr (by omega)) ?_
 rintro e wp ⟨⟨d, vp, hpk, hcp, rfl, hpl⟩, hcp_⟩
 refine ⟨_, rfl, ?_⟩;replace hpl := YW hpl hbw.size;replace q1 := q1.bl hcp_;replace q3 := q3.bl hcp_;replace htw := ZD htw hcp_ (Nat.le_refl _);replace hbw := bo_ hbw hcp_;clear hcp_;obtain ⟨Ap, cp, rfl, _⟩ := (Rd.of_own hpl).shape;obtain ⟨hce, hen, hru⟩ := QJ0 he0 hpk hcp;have hd8 := (QMI hq hpk rfl rfl).2;obtain ⟨m, hm, hws, hhi⟩ := QMD hq hpk (Nat.le_refl _);rw [hpk.end_] at hws hhi;refine EL.as rfl rfl (EL.nil (EX.seq (EC.seq ?_)));have hsz := hbw.size;have lt_1 := q1.lt;have lt_3 := q3.lt;refine EC.regionS [[], [], [1], [], [1, 2, 3], [0, 1, 2, 3, 4], [0, 1, 2, 3, 4, 5], [0, 1, 2, 3, 4, 5, 6], [0, 1, 2, 3, 4, 5, 6], [], [0, 1, 2, 3, 4, 5, 6, 7, 9], [0, 1, 2, 3, 4, 5, 6, 7, 8, 9, 10]] 12 [9] [10] (fun _ w_ => Below wp.heap.size wp w_) (phiS (fun i_ r => match i_ with | 0 => r 0 = .agg #[.int .i64 l.length, .int .i64 l.cycle, .int .i64 l.turn, .int .i64 l.fill, .int .i64 l.save, .bool l.high] | 1 => r 1 = .slice Aw ts.length cw | 3 => r 3 = .slice Ap d.plan.length cp | 5 => r 5 = .tuple #[.agg #[.int .i64 d.s.up, .int .i64 d.s.lo, .int .i64 d.s.ch, .int .i64 d.s.ba], .int .i64 0] | 6 => r 6 = .tuple #[.agg #[.int .i64 d.s.up, .int .i64 d.s.lo, .int .i64 d.s.ch, .int .i64 d.s.ba], .int .i64 0] | 7 => r 7 = .agg #[.int .i64 d.s.up, .int .i64 d.s.lo, .int .i64 d.s.ch, .int .i64 d.s.ba] | 8 => r 8 = .int .i64 0 | 11 => r 11 = .int .i64 0 | _ => True) [(2, fun _ r w_ => ∃ A_ c_, r 2 = .slice A_ ts.length c_ ∧ w_.ownsRow wp.heap.size 39 5 (.slice A_ ts.length c_) ts.length (twsC ts)), (4, fun _ r w_ => ∃ A_ c_, r 4 = .slice A_ d.plan.length c_ ∧ w_.ownsRow wp.heap.size 87 2 (.slice A_ d.plan.length c_) d.plan.length (spsC d.plan)), (9, fun fl r w_ => ∃ g_, r 9 = .pointer (some ⟨g_, 0, none⟩) ∧ wp.heap.size ≤ g_ ∧ (fl 10 = false → Blk w_ g_ 35 #[.int .i64 0, .int .i64 0, .int .i64 0, .int .i64 0])), (10, fun _ r w_ => ∃ g_, r 9 = .pointer (some ⟨g_, 0, none⟩) ∧ Blk w_ g_ 35 #[.int .i64 d.s.up, .int .i64 d.s.lo, .int .i64 d.s.ch, .int .i64 d.s.ba])]) (by kernel_rfl) rfl rfl (by intro i hi; simp at hi; first | (subst hi; exact ⟨by simp, by omega⟩) | (rcases hi with rfl | rfl | rfl <;> exact ⟨by simp, by omega⟩) | (rcases hi with rfl | rfl <;> exact ⟨by simp, by omega⟩)) (YM wp) (ZK (fun _ _ _ _ hb ⟨A, c, h1, h2⟩ => ⟨A, c, h1, ZD h2 hb (Nat.le_refl _)⟩) (ZK (fun _ _ _ _ hb ⟨A, c, h1, h2⟩ => ⟨A, c, h1, ZD h2 hb (Nat.le_refl _)⟩) (ZK Ze (ZK Zd (Zb))))) (fun i_ hi_ hs_ => ?_) (fun i_ hi_ => ?_) ?_
 ·match i_, hi_ with
  | 0, _ =>
   intro val fl w1 a hb ha hd hfl;have ha := ha.s0 (d := 3) rfl
   exact ZB ha rfl rfl (QA7 rfl ((q3.below hb q3.lt).at (j := 0) rfl) ((q3.below hb q3.lt).at (j := 1) rfl) ((q3.below hb q3.lt).at (j := 2) rfl) ((q3.below hb q3.lt).at (j := 3) rfl) ((q3.below hb q3.lt).at (j := 4) rfl) ((q3.below hb q3.lt).at (j := 5) rfl)) rfl rfl
  | 1, _ =>
   intro val fl w1 a hb ha hd hfl;have ha := ha.s0 (d := 4) rfl
   exact ZB ha rfl rfl (x_move rfl) rfl rfl
  | 2, _ =>
   intro val fl w1 a hb ha hd hfl;have e1 : val 1 = _ := hd 1 (ZA.1 rfl);have ha := ha.s1 (d := 29) rfl e1;refine YH ha rfl rfl (cA1 cF13 rfl) (QFI ((Rd.of_own htw).below hb) hb.size (by omega)) rfl ?_
   rintro e w' ⟨⟨v, rfl, p1⟩, hb'⟩
   obtain ⟨A1, c1, rfl, _⟩ := (Rd.of_own p1).shape
   exact ⟨_, rfl, hb', A1, c1, rfl, YW p1 hb.size⟩
  | 3, _ =>
   intro val fl w1 a hb ha hd hfl;have ha := ha.s0 (d := 5) rfl
   exact ZB ha rfl rfl (x_move rfl) rfl rfl
  | 4, _ =>
   intro val fl w1 a hb ha hd hfl;have e3 : val 3 = _ := hd 3 (ZA.1 rfl);have ha := ha.s1 (d := 31) rfl e3;refine YH ha rfl rfl (cA1 cF14 rfl) (QEG ((Rd.of_own hpl).below hb) hb.size (by omega)) rfl ?_
   rintro e w' ⟨⟨v, rfl, p1⟩, hb'⟩
   obtain ⟨A1, c1, rfl, _⟩ := (Rd.of_own p1).shape
   exact ⟨_, rfl, hb', A1, c1, rfl, YW p1 hb.size⟩
  | 5, _ =>
   intro val fl w1 a hb ha hd hfl;have e0 : val 0 = _ := hd 0 (ZA.1 rfl);obtain ⟨A2_, c2_, e2, o2_⟩ := hd 2 (ZA.1 rfl);obtain ⟨A4_, c4_, e4, o4_⟩ := hd 4 (ZA.1 rfl);have ha := ha.sub (Sub.ins (d := 32) (Sub.ins (d := 30) (Sub.ins (d := 28) (Sub.nil _) (ZO rfl e0)) (ZO rfl e2)) (ZO rfl e4));refine YH ha rfl rfl (cA3 cF17 rfl rfl rfl) (QK2 hce hen (Rd.of_own o2_) (Rd.of_own o4_) (Nat.le_refl _) (by omega)) rfl ?_
   rintro e w' ⟨rfl, hb'⟩
   exact ⟨_, rfl, hb', rfl⟩
  | 6, _ =>
   intro val fl w1 a hb ha hd hfl;have e5 : val 5 = _ := hd 5 (ZA.1 rfl);have ha := ha.s1 (d := 33) rfl e5
   exact ZB ha rfl rfl (x_move rfl) rfl rfl
  | 7, _ =>
   intro val fl w1 a hb ha hd hfl;have e6 : val 6 = _ := hd 6 (ZA.1 rfl);have ha := ha.s1 (d := 27) rfl e6
   exact ZB ha rfl rfl (ZQ (v := .agg #[.int .i64 d.s.up, .int .i64 d.s.lo, .int .i64 d.s.ch, .int .i64 d.s.ba]) rfl rfl) rfl rfl
  | 8, _ =>
   intro val fl w1 a hb ha hd hfl;have e6 : val 6 = _ := hd 6 (ZA.1 rfl);have ha := ha.s1 (d := 27) rfl e6
   exact ZB ha rfl rfl (ZQ (v := .int .i64 0) rfl rfl) rfl rfl
  | 9, _ =>
   intro val fl w1 a hb ha hd hfl;have ha := ha.sub (Sub.nil _)
   exact YD ha rfl rfl QK0 (fun g w' hq _ hge => ⟨g, rfl, Nat.le_trans hb.size hge, fun _ => hq⟩)
  | 10, _ =>
   exact absurd (by simp) hs_
  | 11, _ =>
   intro val fl w1 a hb ha hd hfl;have e8 : val 8 = _ := hd 8 (ZA.1 rfl);have ha := ha.s1 (d := 35) rfl e8
   exact ZB ha rfl rfl (ZV rfl) rfl rfl
  | k + 12, h => exact absurd h (by omega)
 ·simp only [List.mem_singleton] at hi_; subst hi_
  intro val fl w1 a hb hfi ha hd hfl;obtain ⟨g9_, e9, hg9_, q9_⟩ := hd 9 (ZA.1 rfl);change val 9 = _ at e9;have e7 : val 7 = _ := hd 7 (ZA.1 rfl);have ha := ha.s2 (d := 34) (e := 6) rfl e7 rfl e9;refine Za ha rfl rfl rfl (q9_ hfi) QHo rfl rfl rfl rfl ?_;intro w' hq hgr;refine ⟨undef, rfl, hgr.size, ZE hb hgr hg9_, ⟨g9_, e9, hq⟩, fun j _ hj hn hA => ?_⟩
  exact ZF (C := fun j => j ≠ 10 ∧ 10 ∉ clsAt [[], [], [1], [], [1, 2, 3], [0, 1, 2, 3, 4], [0, 1, 2, 3, 4, 5], [0, 1, 2, 3, 4, 5, 6], [0, 1, 2, 3, 4, 5, 6], [], [0, 1, 2, 3, 4, 5, 6, 7, 9], [0, 1, 2, 3, 4, 5, 6, 7, 8, 9, 10]] j ∧ ∀ p ∈ [9], (p = j ∨ p ∈ clsAt [[], [], [1], [], [1, 2, 3], [0, 1, 2, 3, 4], [0, 1, 2, 3, 4, 5], [0, 1, 2, 3, 4, 5, 6], [0, 1, 2, 3, 4, 5, 6], [], [0, 1, 2, 3, 4, 5, 6, 7, 9], [0, 1, 2, 3, 4, 5, 6, 7, 8, 9, 10]] j) → ∀ q ∈ [9], (q = 10 ∨ q ∈ clsAt [[], [], [1], [], [1, 2, 3], [0, 1, 2, 3, 4], [0, 1, 2, 3, 4, 5], [0, 1, 2, 3, 4, 5, 6], [0, 1, 2, 3, 4, 5, 6], [], [0, 1, 2, 3, 4, 5, 6, 7, 9], [0, 1, 2, 3, 4, 5, 6, 7, 8, 9, 10]] 10) → p ≠ q → val p ≠ val q) (fun _ ⟨A, c, h1, h2⟩ => ⟨A, c, h1, ZL h2 (q9_ hfi) rfl hgr⟩) (ZF (fun _ ⟨A, c, h1, h2⟩ => ⟨A, c, h1, ZL h2 (q9_ hfi) rfl hgr⟩) (ZF (fun _ ⟨g, h1, h2, _⟩ => ⟨g, h1, h2, fun h => by rw [ZR] at h; cases h⟩) (ZF (fun hc => absurd rfl hc.1) (fun _ _ h => h)))) j ⟨hj, hn, hA⟩
 ·intro val fl wR4 hfl hb halc hd
  have e0 : val 0 = _ := hd 0 (by omega)
  have e1 : val 1 = _ := hd 1 (by omega)
  obtain ⟨A2_, c2_, e2, o2_⟩ := hd 2 (by omega)
  change val 2 = _ at e2;have e3 : val 3 = _ := hd 3 (by omega)
  obtain ⟨A4_, c4_, e4, o4_⟩ := hd 4 (by omega)
  change val 4 = _ at e4;have e5 : val 5 = _ := hd 5 (by omega)
  have e6 : val 6 = _ := hd 6 (by omega)
  have e7 : val 7 = _ := hd 7 (by omega)
  have e8 : val 8 = _ := hd 8 (by omega)
  obtain ⟨ga9_4, e9, qa9_4⟩ := hd 10 (by omega)
  change val 9 = _ at e9;have e11 : val 11 = _ := hd 11 (by omega)
  refine EL.ends (cs := [_, _, _, _, _, _, _, _, _, _, val 10, _]) ⟨e0, e1, e2, e3, e4, e5, e6, e7, e8, e9, rfl, e11, trivial⟩ rfl ?_;replace q1 := q1.bl hb;replace q3 := q3.bl hb;replace htw := ZD htw hb (Nat.le_refl _);replace hpl := ZD hpl hb (Nat.le_refl _);have bge5 := YX halc (i := 9) rfl rfl e9;have n1_5 : g1 ≠ ga9_4 := Nat.ne_of_lt (Nat.lt_of_lt_of_le lt_1 bge5);have n3_5 : g3 ≠ ga9_4 := Nat.ne_of_lt (Nat.lt_of_lt_of_le lt_3 bge5);have bhbw_5 := Nat.le_trans hbw.size bge5;replace hbw := bo_ hbw hb;refine EL.nil (EX.seq (EC.seq ?_));have hsz := hbw.size;have lt_1 := q1.lt;have lt_3 := q3.lt;have lt_5 := qa9_4.lt;refine EC.regionP [[], [], [1], [], [1, 2, 3], [0, 1, 2, 3, 4], [0, 1, 2, 3, 4, 5], [0, 1, 2, 3, 4, 5, 6], [0, 1, 2, 3, 4, 5, 6], [0, 1, 2, 3, 4, 5, 6], [0, 1, 2, 3, 4, 5, 6], [0, 1, 2, 3, 4, 5, 6, 7], [0, 1, 2, 3, 4, 5, 6, 7, 8, 11], [0, 1, 2, 3, 4, 5, 6, 7, 8, 9, 11, 12], [0, 1, 2, 3, 4, 5, 6, 7, 8, 9, 10, 11, 12, 13]] 15 [] (phi (fun i_ r => match i_ with | 0 => r 0 = .agg #[.int .i64 l.length, .int .i64 l.cycle, .int .i64 l.turn, .int .i64 l.fill, .int .i64 l.save, .bool l.high] | 1 => r 1 = .slice Aw ts.length cw | 3 => r 3 = .slice Ap d.plan.length cp | 8 => r 8 = .int .i64 d.s.cost | 9 => r 9 = .int .i64 d.s.mv | 10 => r 10 = .int .i64 0 | 12 => r 12 = .int .i64 d.s.cost | 13 => r 13 = .int .i64 d.s.mv | 14 => r 14 = .int .i64 0 | _ => True) [(2, fun r w_ => ∃ A_ c_, r 2 = .slice A_ ts.length c_ ∧ w_.ownsRow wR4.heap.size 39 5 (.slice A_ ts.length c_) ts.length (twsC ts)), (4, fun r w_ => ∃ A_ c_, r 4 = .slice A_ d.plan.length c_ ∧ w_.ownsRow wR4.heap.size 87 2 (.slice A_ d.plan.length c_) d.plan.length (spsC d.plan)), (5, fun r w_ => ∃ A_ c_, r 5 = .tuple #[.slice A_ d.plan.length c_, .int .i64 d.s.cost, .int .i64 d.s.mv, .int .i64 0] ∧ w_.ownsRow wR4.heap.size 49 2 (.slice A_ d.plan.length c_) d.plan.length (rnsC (YZ l (qL ts) d.plan d.plan.length))), (6, fun r w_ => ∃ A_ c_, r 6 = .tuple #[.slice A_ d.plan.length c_, .int .i64 d.s.cost, .int .i64 d.s.mv, .int .i64 0] ∧ w_.ownsRow wR4.heap.size 49 2 (.slice A_ d.plan.length c_) d.plan.length (rnsC (YZ l (qL ts) d.plan d.plan.length))), (7, fun r w_ => ∃ A_ c_, r 7 = .slice A_ d.plan.length c_ ∧ w_.ownsRow wR4.heap.size 49 2 (.slice A_ d.plan.length c_) d.plan.length (rnsC (YZ l (qL ts) d.plan d.plan.length))), (11, fun r w_ => ∃ A_ c_, r 11 = .slice A_ d.plan.length c_ ∧ w_.ownsRow wR4.heap.size 49 2 (.slice A_ d.plan.length c_) d.plan.length (rnsC (YZ l (qL ts) d.plan d.plan.length)))]) (by kernel_rfl) rfl rfl (Z4 Y_ (Z4 Y_ (Z4 Y_ (Z4 Y_ (Z4 Y_ (Z4 Y_ (Yf))))))) (fun i_ hi_ => ?_) ?_
  ·match i_, hi_ with
   | 0, _ =>
    intro val w1 a hb ha hd;have ha := ha.s0 (d := 3) rfl
    exact ZJ ha rfl rfl (QA7 rfl ((q3.below hb q3.lt).at (j := 0) rfl) ((q3.below hb q3.lt).at (j := 1) rfl) ((q3.below hb q3.lt).at (j := 2) rfl) ((q3.below hb q3.lt).at (j := 3) rfl) ((q3.below hb q3.lt).at (j := 4) rfl) ((q3.below hb q3.lt).at (j := 5) rfl)) rfl rfl
   | 1, _ =>
    intro val w1 a hb ha hd;have ha := ha.s0 (d := 4) rfl
    exact ZJ ha rfl rfl (x_move rfl) rfl rfl
   | 2, _ =>
    intro val w1 a hb ha hd;have e1 : val 1 = _ := hd 1 (ZA.1 rfl);have ha := ha.s1 (d := 38) rfl e1;refine Y0 ha rfl rfl (cA1 cF13 rfl) (QFI ((Rd.of_own htw).below hb) hb.size (by omega)) rfl ?_
    rintro e w' ⟨⟨v, rfl, p1⟩, hb'⟩
    obtain ⟨A1, c1, rfl, _⟩ := (Rd.of_own p1).shape
    exact ⟨_, rfl, hb', A1, c1, rfl, YW p1 hb.size⟩
   | 3, _ =>
    intro val w1 a hb ha hd;have ha := ha.s0 (d := 5) rfl
    exact ZJ ha rfl rfl (x_move rfl) rfl rfl
   | 4, _ =>
    intro val w1 a hb ha hd;have e3 : val 3 = _ := hd 3 (ZA.1 rfl);have ha := ha.s1 (d := 40) rfl e3;refine Y0 ha rfl rfl (cA1 cF14 rfl) (QEG ((Rd.of_own hpl).below hb) hb.size (by omega)) rfl ?_
    rintro e w' ⟨⟨v, rfl, p1⟩, hb'⟩
    obtain ⟨A1, c1, rfl, _⟩ := (Rd.of_own p1).shape
    exact ⟨_, rfl, hb', A1, c1, rfl, YW p1 hb.size⟩
   | 5, _ =>
    intro val w1 a hb ha hd;have e0 : val 0 = _ := hd 0 (ZA.1 rfl);obtain ⟨A2_, c2_, e2, o2_⟩ := hd 2 (ZA.1 rfl);obtain ⟨A4_, c4_, e4, o4_⟩ := hd 4 (ZA.1 rfl);have ha := ha.sub (Sub.ins (d := 41) (Sub.ins (d := 39) (Sub.ins (d := 37) (Sub.nil _) (ZO rfl e0)) (ZO rfl e2)) (ZO rfl e4));refine Y0 ha rfl rfl (cA3 cF16 rfl rfl rfl) (QNH hce hen hru (Rd.of_own o2_) ((Rd.of_own o4_)) (Nat.le_refl _) (by omega)) rfl ?_
    rintro e w' ⟨⟨A1, c1, rfl, p1⟩, hb'⟩
    exact ⟨_, rfl, hb', A1, c1, rfl, YW p1 hb.size⟩
   | 6, _ =>
    intro val w1 a hb ha hd;obtain ⟨A5_, c5_, e5, o5_⟩ := hd 5 (ZA.1 rfl);have ha := ha.s1 (d := 42) rfl e5
    exact ZJ ha rfl rfl (x_move rfl) ⟨A5_, c5_, rfl, o5_⟩ rfl
   | 7, _ =>
    intro val w1 a hb ha hd;obtain ⟨A6_, c6_, e6, o6_⟩ := hd 6 (ZA.1 rfl);have ha := ha.s1 (d := 36) rfl e6
    exact ZJ ha rfl rfl (ZQ (v := .slice A6_ d.plan.length c6_) rfl rfl) ⟨A6_, c6_, rfl, o6_⟩ rfl
   | 8, _ =>
    intro val w1 a hb ha hd;obtain ⟨A6_, c6_, e6, o6_⟩ := hd 6 (ZA.1 rfl);have ha := ha.s1 (d := 36) rfl e6
    exact ZJ ha rfl rfl (ZQ (v := .int .i64 d.s.cost) rfl rfl) rfl rfl
   | 9, _ =>
    intro val w1 a hb ha hd;obtain ⟨A6_, c6_, e6, o6_⟩ := hd 6 (ZA.1 rfl);have ha := ha.s1 (d := 36) rfl e6
    exact ZJ ha rfl rfl (ZQ (v := .int .i64 d.s.mv) rfl rfl) rfl rfl
   | 10, _ =>
    intro val w1 a hb ha hd;obtain ⟨A6_, c6_, e6, o6_⟩ := hd 6 (ZA.1 rfl);have ha := ha.s1 (d := 36) rfl e6
    exact ZJ ha rfl rfl (ZQ (v := .int .i64 0) rfl rfl) rfl rfl
   | 11, _ =>
    intro val w1 a hb ha hd;obtain ⟨A7_, c7_, e7, o7_⟩ := hd 7 (ZA.1 rfl);have ha := ha.s1 (d := 43) rfl e7
    exact ZJ ha rfl rfl (ZV rfl) ⟨A7_, c7_, rfl, o7_⟩ rfl
   | 12, _ =>
    intro val w1 a hb ha hd;have e8 : val 8 = _ := hd 8 (ZA.1 rfl);have ha := ha.s1 (d := 44) rfl e8
    exact ZJ ha rfl rfl (ZV rfl) rfl rfl
   | 13, _ =>
    intro val w1 a hb ha hd;have e9 : val 9 = _ := hd 9 (ZA.1 rfl);have ha := ha.s1 (d := 45) rfl e9
    exact ZJ ha rfl rfl (ZV rfl) rfl rfl
   | 14, _ =>
    intro val w1 a hb ha hd;have e10 : val 10 = _ := hd 10 (ZA.1 rfl);have ha := ha.s1 (d := 46) rfl e10
    exact ZJ ha rfl rfl (ZV rfl) rfl rfl
   | k + 15, h => exact absurd h (by omega)
  ·intro val wR5 hb halc hd
   have e0 : val 0 = _ := hd 0 (by omega)
   have e1 : val 1 = _ := hd 1 (by omega)
   obtain ⟨A2_, c2_, e2, o2_⟩ := hd 2 (by omega)
   have e3 : val 3 = _ := hd 3 (by omega)
   obtain ⟨A4_, c4_, e4, o4_⟩ := hd 4 (by omega)
   obtain ⟨A5_, c5_, e5, o5_⟩ := hd 5 (by omega)
   obtain ⟨A6_, c6_, e6, o6_⟩ := hd 6 (by omega)
   obtain ⟨A7_, c7_, e7, o7_⟩ := hd 7 (by omega)
   have e8 : val 8 = _ := hd 8 (by omega)
   have e9 : val 9 = _ := hd 9 (by omega)
   have e10 : val 10 = _ := hd 10 (by omega)
   obtain ⟨A11_, c11_, e11, o11_⟩ := hd 11 (by omega)
   have e12 : val 12 = _ := hd 12 (by omega)
   have e13 : val 13 = _ := hd 13 (by omega)
   have e14 : val 14 = _ := hd 14 (by omega)
   refine EL.ends (cs := [_, _, _, _, _, _, _, _, _, _, _, _, _, _, _]) ⟨e0, e1, e2, e3, e4, e5, e6, e7, e8, e9, e10, e11, e12, e13, e14, trivial⟩ rfl ?_;replace q1 := q1.bl hb;replace q3 := q3.bl hb;replace qa9_4 := qa9_4.bl hb;replace htw := ZD htw hb (Nat.le_refl _);replace hpl := ZD hpl hb (Nat.le_refl _);replace hbw := bo_ hbw hb;clear hb;have hrn := YW o11_ hsz;refine EL.nil (EX.seq (EC.seq (EC.seq (EC.region (EL.mv rfl rfl ?_)))));refine EL.val (Zs (r := false) rfl rfl (decide_eq_false (by decide))) rfl ?_
   refine EL.mv rfl rfl (EL.mg rfl rfl rfl rfl ?_);refine EL.valg rfl rfl (Zs (r := false) rfl rfl (decide_eq_false (by decide))) rfl ?_
   refine EL.pf rfl rfl rfl (EL.mv rfl rfl (EL.mg rfl rfl rfl rfl (EL.valg rfl rfl (QMO rfl) rfl (EL.mg rfl rfl rfl rfl (EL.valg rfl rfl (QAj rfl) rfl ?_)))));refine EL.valg rfl rfl (Zs (r := false) rfl rfl (decide_eq_false (by omega))) rfl ?_
   refine EL.pf rfl rfl rfl (EL.mv rfl rfl (EL.mg rfl rfl rfl rfl (EL.mg rfl rfl rfl rfl (EL.valg rfl rfl (QAj rfl) rfl ?_))));refine EL.valg rfl rfl (ZS (r := false) rfl rfl (decide_eq_false (by rw [hws.mv]; omega))) rfl ?_
   refine EL.pf rfl rfl rfl (EL.nil (EX.seq (EC.no rfl (EC.skip (EX.seq (EC.seq ?_))))));have hkm := QEN hlk;have hkb := QB4 hlk;have hlkb := Yb hlk;refine EC.regionQ (by kernel_rfl) (by kernel_rfl) ?_
   refine EQ.val (fun _ hw => (QAB rfl)) rfl ?_
   refine EQ.val (fun _ hw => (ld_3 rfl (ZC hw (q3.at (j := 3) rfl)))) rfl ?_
   refine EQ.val (fun _ hw => (QF0 rfl)) rfl ?_
   refine EQ.val (fun _ hw => (ld_3 rfl (ZC hw (q3.at (j := 4) rfl)))) rfl ?_
   refine EQ.val (fun _ hw => (QAO rfl rfl (c := l.fill * l.save) (IntWalk.i64_in (l.fill * l.save) ⟨by omega, by omega⟩))) rfl ?_
   refine EQ.val (fun _ hw => (QHh rfl rfl (by decide) (c := Zj l) (IntWalk.i64_in (Zj l) ⟨by omega, by omega⟩))) rfl ?_
   refine EQ.val (fun _ hw => (Z9 rfl)) rfl ?_
   refine EQ.val (fun _ hw => (ld_4 rfl (ZC hw (q3.at (j := 5) rfl)))) rfl ?_
   refine EQ.val (fun _ hw => (ZV rfl)) rfl ?_
   refine EQ.val (fun _ hw => (ZV rfl)) rfl ?_
   refine EQ.fin (fun w6 hw_ => ?_)
   replace q1 := q1.bl hw_;replace q3 := q3.bl hw_;replace qa9_4 := qa9_4.bl hw_;replace htw := ZD htw hw_ (Nat.le_refl _);replace hpl := ZD hpl hw_ (Nat.le_refl _);replace hrn := ZD hrn hw_ (Nat.le_refl _);replace hbw := bo_ hbw hw_;clear hw_;refine EX.seq ?_;refine EC.cutD [13, 74, 75, 76, 77, 78] (fun _ : Unit => [(13, .bool (hiN l.high m))]) (fun _ W => W.ownsRow w.heap.size 39 5 (.slice Aw ts.length cw) ts.length (twsC ts) ∧ W.ownsRow w.heap.size 87 2 (.slice Ap d.plan.length cp) d.plan.length (spsC d.plan) ∧ Blk W g3 23 #[.int .i64 l.length, .int .i64 l.cycle, .int .i64 l.turn, .int .i64 l.fill, .int .i64 l.save, .bool l.high] ∧ Blk W ga9_4 35 #[.int .i64 d.s.up, .int .i64 d.s.lo, .int .i64 d.s.ch, .int .i64 d.s.ba] ∧ Below w.heap.size w W) ?_ ?_
   ·
    rcases Nat.mod_two_eq_zero_or_one m with hp | hp
    ·
     refine EC.seq (EC.region (EL.mv rfl rfl ?_));refine EL.val (QAE rfl rfl (by decide) (c := ((m % 2 : Nat) : Int)) (by rw [hws.mv]; rfl)) rfl ?_
     refine EL.val (Z2 (r := false) rfl rfl (decide_eq_false (by omega))) rfl ?_
     refine EL.nil (EX.seq (EC.no rfl (EC.skip ?_)))
     exact EX.cutE () ⟨QIl (by unfold hiN; rw [hp]; rfl) rfl, trivial⟩ (by repeat first | with_reducible exact (Sub.refl _).del _ | refine sp_ rfl ?_ | exact (Sub.refl _).del _ | refine sd_ rfl ?_ | refine sn_ ?_) ⟨htw, hpl, q3, qa9_4, hbw⟩
    ·
     refine EC.seq (EC.region (EL.mv rfl rfl ?_));refine EL.val (QAE rfl rfl (by decide) (c := ((m % 2 : Nat) : Int)) (by rw [hws.mv]; rfl)) rfl ?_
     refine EL.val (Z2 (r := true) rfl rfl (decide_eq_true (by omega))) rfl ?_
     refine EL.nil (EX.seq (EC.yes rfl (EC.region (EL.mv rfl rfl (EL.val (ZT rfl) rfl (EL.as rfl rfl (EL.nil ?_)))))))
     exact EX.cutE () ⟨QIl (by unfold hiN; rw [hp]; rfl) rfl, trivial⟩ (by repeat first | with_reducible exact (Sub.refl _).del _ | refine sp_ rfl ?_ | exact (Sub.refl _).del _ | refine sd_ rfl ?_ | refine sn_ ?_) ⟨htw, hpl, q3, qa9_4, hbw⟩
   ·
    clear htw hpl q3 qa9_4 hbw
    rintro ⟨⟩ wc7 ⟨htw, hpl, q3, qa9_4, hbw⟩
    refine EC.seq (EC.region (EL.as rfl rfl (EL.nil (EX.seq ?_))));refine EC.cutD [14, 79, 80, 81, 82, 83, 84, 85, 86] (fun _ : Unit => [(14, .int .i64 (c1N l m))]) (fun _ W => W.ownsRow w.heap.size 39 5 (.slice Aw ts.length cw) ts.length (twsC ts) ∧ W.ownsRow w.heap.size 87 2 (.slice Ap d.plan.length cp) d.plan.length (spsC d.plan) ∧ Blk W g3 23 #[.int .i64 l.length, .int .i64 l.cycle, .int .i64 l.turn, .int .i64 l.fill, .int .i64 l.save, .bool l.high] ∧ Blk W ga9_4 35 #[.int .i64 d.s.up, .int .i64 d.s.lo, .int .i64 d.s.ch, .int .i64 d.s.ba] ∧ Below w.heap.size w W) ?_ ?_
    ·
     cases hv : (hiN l.high m)
     ·
      rcases Bool.eq_false_or_eq_true l.high with hh | hh
      ·
       refine EC.seq (EC.region (EL.mv rfl rfl (EL.mv rfl rfl (EL.skip rfl rfl rfl rfl (EL.skip rfl rfl rfl rfl (EL.skip rfl rfl rfl rfl (EL.pf rfl rfl rfl (EL.nil (EX.seq ?_)))))))));refine EC.no rfl (EC.skip ?_)
       exact EX.cutE () ⟨Zv (by unfold c1N; rw [hv, hh]; rfl) rfl, trivial⟩ (by repeat first | with_reducible exact (Sub.refl _).del _ | refine sp_ rfl ?_ | exact (Sub.refl _).del _ | refine sd_ rfl ?_ | refine sn_ ?_) ⟨htw, hpl, q3, qa9_4, hbw⟩
      ·
       refine EC.seq (EC.region (EL.mv rfl rfl (EL.mv rfl rfl (EL.skip rfl rfl rfl rfl (EL.skip rfl rfl rfl rfl (EL.skip rfl rfl rfl rfl (EL.pf rfl rfl rfl (EL.nil (EX.seq ?_)))))))));refine EC.no rfl (EC.skip ?_)
       exact EX.cutE () ⟨Zv (by unfold c1N; rw [hv, hh]; rfl) rfl, trivial⟩ (by repeat first | with_reducible exact (Sub.refl _).del _ | refine sp_ rfl ?_ | exact (Sub.refl _).del _ | refine sd_ rfl ?_ | refine sn_ ?_) ⟨htw, hpl, q3, qa9_4, hbw⟩
     ·
      rcases Bool.eq_false_or_eq_true l.high with hh | hh
      ·
       refine EC.seq (EC.region (EL.mv rfl rfl (EL.mv rfl rfl (EL.valg rfl rfl (Z9 rfl) rfl (EL.valg rfl rfl (ld_4 rfl (hh ▸ q3.at (j := 5) rfl)) rfl (EL.valg rfl rfl (ZT rfl) rfl (EL.pt rfl rfl rfl (EL.nil (EX.seq ?_)))))))));refine EC.no rfl (EC.skip ?_)
       exact EX.cutE () ⟨Zv (by unfold c1N; rw [hv, hh]; rfl) rfl, trivial⟩ (by repeat first | with_reducible exact (Sub.refl _).del _ | refine sp_ rfl ?_ | exact (Sub.refl _).del _ | refine sd_ rfl ?_ | refine sn_ ?_) ⟨htw, hpl, q3, qa9_4, hbw⟩
      ·
       refine EC.seq (EC.region (EL.mv rfl rfl (EL.mv rfl rfl (EL.valg rfl rfl (Z9 rfl) rfl (EL.valg rfl rfl (ld_4 rfl (hh ▸ q3.at (j := 5) rfl)) rfl (EL.valg rfl rfl (ZT rfl) rfl (EL.pt rfl rfl rfl (EL.nil (EX.seq ?_)))))))));refine EC.yes rfl (EC.region (EL.val (QAB rfl) rfl (EL.val (ld_3 rfl (q3.at (j := 3) rfl)) rfl (EL.as rfl rfl (EL.nil ?_)))))
       exact EX.cutE () ⟨Zv (by unfold c1N; rw [hv, hh]; rfl) rfl, trivial⟩ (by repeat first | with_reducible exact (Sub.refl _).del _ | refine sp_ rfl ?_ | exact (Sub.refl _).del _ | refine sd_ rfl ?_ | refine sn_ ?_) ⟨htw, hpl, q3, qa9_4, hbw⟩
    ·
     clear htw hpl q3 qa9_4 hbw
     rintro ⟨⟩ wc8 ⟨htw, hpl, q3, qa9_4, hbw⟩
     refine EC.cutD [14, 87, 88, 89, 90, 91, 92, 93, 94, 95] (fun _ : Unit => [(14, .int .i64 (chN l m))]) (fun _ W => W.ownsRow w.heap.size 39 5 (.slice Aw ts.length cw) ts.length (twsC ts) ∧ W.ownsRow w.heap.size 87 2 (.slice Ap d.plan.length cp) d.plan.length (spsC d.plan) ∧ Blk W g3 23 #[.int .i64 l.length, .int .i64 l.cycle, .int .i64 l.turn, .int .i64 l.fill, .int .i64 l.save, .bool l.high] ∧ Blk W ga9_4 35 #[.int .i64 d.s.up, .int .i64 d.s.lo, .int .i64 d.s.ch, .int .i64 d.s.ba] ∧ Below w.heap.size w W) ?_ ?_
     ·
      cases hv : (hiN l.high m)
      ·
       rcases Bool.eq_false_or_eq_true l.high with hh | hh
       ·
        refine EC.seq (EC.region (EL.mv rfl rfl (EL.val (ZT rfl) rfl (EL.mv rfl rfl (EL.valg rfl rfl (Z9 rfl) rfl (EL.valg rfl rfl (ld_4 rfl (hh ▸ q3.at (j := 5) rfl)) rfl (EL.pt rfl rfl rfl (EL.nil (EX.seq ?_)))))))));refine EC.yes rfl (EC.region (EL.val (QAB rfl) rfl (EL.val (ld_3 rfl (q3.at (j := 3) rfl)) rfl ?_)));refine EL.val (QJQ rfl (by first | assumption | exact IntWalk.i64_in _ ⟨by omega, by omega⟩)) rfl ?_
        refine EL.as rfl rfl (EL.nil ?_)
        exact EX.cutE () ⟨Zv (by first | (unfold c1N chN; rw [hv, hh]; rfl) | (unfold chN; rw [hv, hh]; rfl)) rfl, trivial⟩ (by repeat first | with_reducible exact (Sub.refl _).del _ | refine sp_ rfl ?_ | exact (Sub.refl _).del _ | refine sd_ rfl ?_ | refine sn_ ?_) ⟨htw, hpl, q3, qa9_4, hbw⟩
       ·
        refine EC.seq (EC.region (EL.mv rfl rfl (EL.val (ZT rfl) rfl (EL.mv rfl rfl (EL.valg rfl rfl (Z9 rfl) rfl (EL.valg rfl rfl (ld_4 rfl (hh ▸ q3.at (j := 5) rfl)) rfl (EL.pt rfl rfl rfl (EL.nil (EX.seq ?_)))))))));refine EC.no rfl (EC.skip ?_)
        exact EX.cutE () ⟨Zv (by first | (unfold c1N chN; rw [hv, hh]; rfl) | (unfold chN; rw [hv, hh]; rfl)) rfl, trivial⟩ (by repeat first | with_reducible exact (Sub.refl _).del _ | refine sp_ rfl ?_ | exact (Sub.refl _).del _ | refine sd_ rfl ?_ | refine sn_ ?_) ⟨htw, hpl, q3, qa9_4, hbw⟩
      ·
       rcases Bool.eq_false_or_eq_true l.high with hh | hh
       ·
        refine EC.seq (EC.region (EL.mv rfl rfl (EL.val (ZT rfl) rfl (EL.mv rfl rfl (EL.skip rfl rfl rfl rfl (EL.skip rfl rfl rfl rfl (EL.pf rfl rfl rfl (EL.nil (EX.seq ?_)))))))));refine EC.no rfl (EC.skip ?_)
        exact EX.cutE () ⟨Zv (by first | (unfold c1N chN; rw [hv, hh]; rfl) | (unfold chN; rw [hv, hh]; rfl)) rfl, trivial⟩ (by repeat first | with_reducible exact (Sub.refl _).del _ | refine sp_ rfl ?_ | exact (Sub.refl _).del _ | refine sd_ rfl ?_ | refine sn_ ?_) ⟨htw, hpl, q3, qa9_4, hbw⟩
       ·
        refine EC.seq (EC.region (EL.mv rfl rfl (EL.val (ZT rfl) rfl (EL.mv rfl rfl (EL.skip rfl rfl rfl rfl (EL.skip rfl rfl rfl rfl (EL.pf rfl rfl rfl (EL.nil (EX.seq ?_)))))))));refine EC.no rfl (EC.skip ?_)
        exact EX.cutE () ⟨Zv (by first | (unfold c1N chN; rw [hv, hh]; rfl) | (unfold chN; rw [hv, hh]; rfl)) rfl, trivial⟩ (by repeat first | with_reducible exact (Sub.refl _).del _ | refine sp_ rfl ?_ | exact (Sub.refl _).del _ | refine sd_ rfl ?_ | refine sn_ ?_) ⟨htw, hpl, q3, qa9_4, hbw⟩
     ·
      clear htw hpl q3 qa9_4 hbw
      rintro ⟨⟩ wc9 ⟨htw, hpl, q3, qa9_4, hbw⟩
      have hwb := hpk.dr.st.wt;have ht8 := QAy (u := true) (n := 0) hq hpk.dr (Nat.zero_le _);have wb1 := hwb.up;have wb2 := hwb.lo;have wb3 := hwb.ch;have wb4 := hwb.ba;have hkL : Zj d.s.lk = Zj l := by rw [hpk.dr.st.lk]; rfl
      have hsum := hws.sum;have hchd := hws.ch;have hmb : m ≤ 100000000 := by have h1 := hwb.mv; have h2 := hws.mv; omega
      refine EC.cutD [2, 96, 97, 98, 99, 100, 101, 102, 103, 104, 105, 106, 107, 108, 109, 110, 111, 112, 113, 114, 115, 116, 117, 118, 119, 120, 121, 122, 123, 124, 125, 126, 127, 128, 129, 130, 131, 132, 133, 134, 135, 136, 137, 138, 139, 140] (fun _ : Unit => []) (fun _ W => W.ownsRow w.heap.size 39 5 (.slice Aw ts.length cw) ts.length (twsC ts) ∧ W.ownsRow w.heap.size 87 2 (.slice Ap d.plan.length cp) d.plan.length (spsC d.plan) ∧ Blk W g3 23 #[.int .i64 l.length, .int .i64 l.cycle, .int .i64 l.turn, .int .i64 l.fill, .int .i64 l.save, .bool l.high] ∧ Blk W ga9_4 35 #[.int .i64 d.s.up, .int .i64 d.s.lo, .int .i64 d.s.ch, .int .i64 d.s.ba] ∧ Below w.heap.size w W) ?_ ?_
      ·
       refine EC.seq (EC.region (EL.val (Yg rfl) rfl (EL.val (ld_3 rfl (qa9_4.at (j := 0) rfl)) rfl (EL.val (QBS rfl) rfl (EL.val (ld_3 rfl (qa9_4.at (j := 1) rfl)) rfl ?_)))));refine EL.val (ZP rfl rfl (c := d.s.up + d.s.lo) (IntWalk.i64_in (d.s.up + d.s.lo) ⟨by omega, by omega⟩)) rfl ?_
       refine EL.val (QB5 rfl) rfl (EL.val (ld_3 rfl (qa9_4.at (j := 2) rfl)) rfl ?_);refine EL.val (ZP rfl rfl (c := d.s.up + d.s.lo + d.s.ch) (IntWalk.i64_in (d.s.up + d.s.lo + d.s.ch) ⟨by omega, by omega⟩)) rfl ?_
       refine EL.val (QBR rfl) rfl (EL.val (ld_3 rfl (qa9_4.at (j := 3) rfl)) rfl ?_);refine EL.val (ZP rfl rfl (c := d.s.up + d.s.lo + d.s.ch + d.s.ba) (IntWalk.i64_in (d.s.up + d.s.lo + d.s.ch + d.s.ba) ⟨by omega, by omega⟩)) rfl ?_
       refine EL.val (Zs (r := false) rfl rfl (decide_eq_false (fun h => h hsum))) rfl ?_
       refine EL.mv rfl rfl (EL.valg rfl rfl (QB5 rfl) rfl (EL.valg rfl rfl (ld_3 rfl (qa9_4.at (j := 2) rfl)) rfl (EL.mg rfl rfl rfl rfl ?_)));refine EL.valg rfl rfl (Zs (r := false) rfl rfl (decide_eq_false (fun h => h hchd))) rfl ?_
       refine EL.pf rfl rfl rfl (EL.mv rfl rfl (EL.valg rfl rfl (QBR rfl) rfl (EL.valg rfl rfl (ld_3 rfl (qa9_4.at (j := 3) rfl)) rfl ?_)));refine EL.valg rfl rfl (ZS (r := false) rfl rfl (decide_eq_false (by omega))) rfl ?_
       refine EL.pf rfl rfl rfl (EL.mv rfl rfl (EL.valg rfl rfl (QBR rfl) rfl (EL.valg rfl rfl (ld_3 rfl (qa9_4.at (j := 3) rfl)) rfl (EL.mg rfl rfl rfl rfl ?_))));refine EL.valg rfl rfl (Zt (r := false) rfl rfl (decide_eq_false (by omega))) rfl ?_
       refine EL.pf rfl rfl rfl (EL.mv rfl rfl (EL.mg rfl rfl rfl rfl (EL.valg rfl rfl (QAj rfl) rfl ?_)))
       by_cases h0 : 0 < d.plan.length
       ·
        obtain ⟨bq, oq, eq_, _, cc⟩ := QA1 d.plan (d.plan.length - 1) (by omega) _ _ _ _ _ (Rd.of_own hpl)
        cases eq_
        have hhp := hhi h0;have hhl : d.s.lk.high = hiN l.high m := by rw [hws.lk]; rfl
        refine EL.valg rfl rfl (Zt (r := true) rfl rfl (decide_eq_true (by omega))) rfl ?_
        refine EL.mg rfl rfl rfl rfl (EL.mg rfl rfl rfl rfl (EL.mg rfl rfl rfl rfl (EL.mg rfl rfl rfl rfl (EL.valg rfl rfl (QAj rfl) rfl ?_))));refine EL.valg rfl rfl (Zz rfl rfl (c := ((d.plan.length - 1 : Nat) : Int)) ((IntWalk.i64_in _ ⟨by omega, by omega⟩).trans (by omega))) rfl ?_
        refine EL.valg rfl rfl (QEO (k := d.plan.length - 1) rfl rfl (by omega)) rfl ?_
        refine EL.valg rfl rfl (QCq rfl) rfl (EL.valg rfl rfl (ld_4 rfl cc.c0) rfl ?_);refine EL.valg rfl rfl (QMZ (r := false) rfl rfl (decide_eq_false (fun h => h (hhl.symm.trans hhp)))) rfl ?_
        refine EL.valg rfl rfl (Yr rfl rfl) rfl (EL.pf rfl rfl rfl (EL.nil (EX.seq (EC.no rfl (EC.skip ?_)))))
        exact EX.cutE () trivial (by repeat first | with_reducible exact (Sub.refl _).del _ | refine sp_ rfl ?_ | exact (Sub.refl _).del _ | refine sd_ rfl ?_ | refine sn_ ?_) ⟨htw, hpl, q3, qa9_4, hbw⟩
       ·
        refine EL.valg rfl rfl (Zt (r := false) rfl rfl (decide_eq_false (by omega))) rfl ?_
        refine EL.mg rfl rfl rfl rfl (EL.skip rfl rfl rfl rfl (EL.skip rfl rfl rfl rfl (EL.skip rfl rfl rfl rfl (EL.skip rfl rfl rfl rfl (EL.skip rfl rfl rfl rfl (EL.skip rfl rfl rfl rfl (EL.skip rfl rfl rfl rfl (EL.skip rfl rfl rfl rfl (EL.skip rfl rfl rfl rfl ?_)))))))));refine EL.valg rfl rfl (QAY rfl rfl) rfl (EL.pf rfl rfl rfl (EL.nil (EX.seq (EC.no rfl (EC.skip ?_)))))
        exact EX.cutE () trivial (by repeat first | with_reducible exact (Sub.refl _).del _ | refine sp_ rfl ?_ | exact (Sub.refl _).del _ | refine sd_ rfl ?_ | refine sn_ ?_) ⟨htw, hpl, q3, qa9_4, hbw⟩
      ·
       clear htw hpl q3 qa9_4 hbw
       rintro ⟨⟩ wd ⟨htw, hpl, q3, qa9_4, hbw⟩
       refine EC.seq (EC.region (EL.as rfl rfl (EL.nil (EX.seq (EC.seq (EC.seq (EC.region (EL.as rfl rfl (EL.nil ?_)))))))));refine EX.seq (EC.block ?_);have hpz : QA4 ts 0 = 0 := rfl;refine EC.loopD [15, 16, 141, 142, 143, 144, 145, 146, 147, 148, 149, 150, 151, 152, 153, 154, 155, 156, 157, 158, 159, 160, 161, 162, 163, 164, 165] (fun k : Nat => [(16, .int .i64 (k : Nat)), (15, .int .i64 (QA4 ts k))]) (fun k W => k ≤ ts.length ∧ Blk W g3 23 #[.int .i64 l.length, .int .i64 l.cycle, .int .i64 l.turn, .int .i64 l.fill, .int .i64 l.save, .bool l.high] ∧ Blk W ga9_4 35 #[.int .i64 d.s.up, .int .i64 d.s.lo, .int .i64 d.s.ch, .int .i64 d.s.ba] ∧ W.ownsRow w.heap.size 39 5 (.slice Aw ts.length cw) ts.length (twsC ts) ∧ W.ownsRow w.heap.size 87 2 (.slice Ap d.plan.length cp) d.plan.length (spsC d.plan) ∧ Below w.heap.size w W) (fun k => ts.length - k) 0 ⟨Nat.zero_le _, q3, qa9_4, htw, hpl, hbw⟩ ⟨rfl, rfl, trivial⟩ ?_
       clear q3 qa9_4 htw hpl hbw
       rintro k wk ⟨hk, q3, qa9_4, htw, hpl, hbw⟩
       by_cases hltk : k < ts.length
       ·
        obtain ⟨b, o, eA_, _, cc⟩ := YC ts k hltk _ _ _ _ _ (Rd.of_own htw)
        cases eA_
        have hps := QHM hltk;have hpb := QGW htwB k;have htk8 : (ts.take k).length ≤ 8 := by rw [List.length_take]; omega
        have hyb := htwB _ (Zx hltk tw0)
        generalize ts.getD k tw0 = y at cc hps hyb
        obtain ⟨_, _, _, y4⟩ := QAZ hyb;refine EC.seq (EC.seq (EC.region (EL.mv rfl rfl (EL.mv rfl rfl (EL.val (Z0 rfl) rfl ?_)))));refine EL.val (ZS (r := true) rfl rfl (decide_eq_true (by omega))) rfl ?_
        refine EL.nil (EX.seq (EC.yes rfl (EC.skip (EX.seq (EC.seq (EC.block (EC.seq (EC.region (EL.mv rfl rfl ?_)))))))));refine EL.mv rfl rfl (EL.val (Yn rfl rfl hltk) rfl (EL.val (QFz rfl) rfl (EL.val (ld_4 rfl cc.c0) rfl (EL.nil (EX.seq ?_)))))
        cases hyu : y.up
        ·
         rw [hyu] at hps;have hsg : sgB false = -1 := rfl;rw [hsg] at hps;refine EC.no rfl (EC.region (EL.mv rfl rfl (EL.mv rfl rfl (EL.mv rfl rfl (EL.val (Yn rfl rfl hltk) rfl (EL.val (QCs rfl) rfl (EL.val (ld_3 rfl cc.c4) rfl ?_)))))));refine EL.val (Zz rfl rfl (c := QA4 ts (k + 1)) ((IntWalk.i64_in _ ⟨by omega, by omega⟩).trans (by omega))) rfl ?_
         refine EL.as rfl rfl (EL.nil (EX.blk (EX.seq (EC.region (EL.mv rfl rfl ?_)))));refine EL.val (ZP rfl rfl (c := ((k + 1 : Nat) : Int)) ((IntWalk.i64_in _ ⟨by first | omega | (simp only; omega), by first | omega | (simp only; omega)⟩).trans (by first | omega | (simp only; omega)))) rfl ?_
         refine EL.as rfl rfl (EL.nil ?_);refine EX.roundD (k + 1) ⟨rfl, rfl, trivial⟩ (by repeat first | with_reducible exact .refl _ | refine sp_ rfl ?_ | exact .refl _ | refine sd_ rfl ?_ | refine sn_ ?_) ⟨hltk, q3, qa9_4, htw, hpl, hbw⟩ (by omega)
        ·
         rw [hyu] at hps;have hsg : sgB true = 1 := rfl;rw [hsg] at hps;refine EC.yes rfl (EC.region (EL.mv rfl rfl (EL.mv rfl rfl (EL.mv rfl rfl (EL.val (Yn rfl rfl hltk) rfl (EL.val (QCs rfl) rfl (EL.val (ld_3 rfl cc.c4) rfl ?_)))))));refine EL.val (ZP rfl rfl (c := QA4 ts (k + 1)) ((IntWalk.i64_in _ ⟨by omega, by omega⟩).trans (by omega))) rfl ?_
         refine EL.as rfl rfl (EL.nil (EX.blk (EX.seq (EC.region (EL.mv rfl rfl ?_)))));refine EL.val (ZP rfl rfl (c := ((k + 1 : Nat) : Int)) ((IntWalk.i64_in _ ⟨by first | omega | (simp only; omega), by first | omega | (simp only; omega)⟩).trans (by first | omega | (simp only; omega)))) rfl ?_
         refine EL.as rfl rfl (EL.nil ?_);refine EX.roundD (k + 1) ⟨rfl, rfl, trivial⟩ (by repeat first | with_reducible exact .refl _ | refine sp_ rfl ?_ | exact .refl _ | refine sd_ rfl ?_ | refine sn_ ?_) ⟨hltk, q3, qa9_4, htw, hpl, hbw⟩ (by omega)
       ·
        obtain rfl : k = ts.length := by omega
        refine EC.seq (EC.seq (EC.region (EL.mv rfl rfl (EL.mv rfl rfl (EL.val (Z0 rfl) rfl ?_)))));refine EL.val (ZS (r := false) rfl rfl (decide_eq_false (by omega))) rfl ?_
        refine EL.nil (EX.seq (EC.no rfl (EC.exit (EX.seq_exit (EX.seq_exit (EX.blk_here (EX.seq (EC.seq (EC.region ?_)))))))));refine EL.mv rfl rfl ?_;refine EL.val (QHh rfl rfl (by decide) (c := ((m / 2 : Nat) : Int)) (by rw [hws.mv]; exact IntWalk.i64_in ((m / 2 : Nat) : Int) ⟨by omega, by omega⟩)) rfl ?_
        refine EL.as rfl rfl (EL.as rfl rfl (EL.nil (EX.seq ?_)));refine EC.cutD [17, 168, 169, 170, 171, 172, 173, 174, 175, 176, 177] (fun _ : Unit => [(17, .int .i64 ((fiN l.high m : Nat) : Int))]) (fun _ W => W.ownsRow w.heap.size 39 5 (.slice Aw ts.length cw) ts.length (twsC ts) ∧ W.ownsRow w.heap.size 87 2 (.slice Ap d.plan.length cp) d.plan.length (spsC d.plan) ∧ Blk W g3 23 #[.int .i64 l.length, .int .i64 l.cycle, .int .i64 l.turn, .int .i64 l.fill, .int .i64 l.save, .bool l.high] ∧ Blk W ga9_4 35 #[.int .i64 d.s.up, .int .i64 d.s.lo, .int .i64 d.s.ch, .int .i64 d.s.ba] ∧ Below w.heap.size w W) ?_ ?_
        ·
         rcases Bool.eq_false_or_eq_true l.high with hh | hh
         ·
          obtain ⟨k, rfl | rfl⟩ : ∃ k, m = 2 * k ∨ m = 2 * k + 1 := ⟨m / 2, by omega⟩
          ·
           have hem := QCu (l := l) (k := k) hh;refine EC.seq (EC.region (EL.mv rfl rfl ?_));refine EL.val (QAE rfl rfl (by decide) (c := (((2 * k) % 2 : Nat) : Int)) (by rw [hws.mv]; rfl)) rfl ?_
           refine EL.val (Z2 (r := false) rfl rfl (decide_eq_false (by omega))) rfl ?_
           refine EL.mv rfl rfl (EL.skip rfl rfl rfl rfl (EL.skip rfl rfl rfl rfl (EL.skip rfl rfl rfl rfl (EL.pf rfl rfl rfl (EL.nil (EX.seq (EC.no rfl (EC.skip ?_))))))))
           exact EX.cutE () ⟨Zv (by have := hem.1; omega) rfl, trivial⟩ (by repeat first | with_reducible exact (Sub.refl _).del _ | refine sp_ rfl ?_ | exact (Sub.refl _).del _ | refine sd_ rfl ?_ | refine sn_ ?_) ⟨htw, hpl, q3, qa9_4, hbw⟩
          ·
           have hem := QDQ (l := l) (k := k) hh;refine EC.seq (EC.region (EL.mv rfl rfl ?_));refine EL.val (QAE rfl rfl (by decide) (c := (((2 * k + 1) % 2 : Nat) : Int)) (by rw [hws.mv]; rfl)) rfl ?_
           refine EL.val (Z2 (r := true) rfl rfl (decide_eq_true (by omega))) rfl ?_
           refine EL.mv rfl rfl (EL.valg rfl rfl (Z9 rfl) rfl (EL.valg rfl rfl (ld_4 rfl (hh ▸ q3.at (j := 5) rfl)) rfl (EL.valg rfl rfl (ZT rfl) rfl (EL.pt rfl rfl rfl (EL.nil (EX.seq (EC.no rfl (EC.skip ?_))))))))
           exact EX.cutE () ⟨Zv (by have := hem.1; omega) rfl, trivial⟩ (by repeat first | with_reducible exact (Sub.refl _).del _ | refine sp_ rfl ?_ | exact (Sub.refl _).del _ | refine sd_ rfl ?_ | refine sn_ ?_) ⟨htw, hpl, q3, qa9_4, hbw⟩
         ·
          obtain ⟨k, rfl | rfl⟩ : ∃ k, m = 2 * k ∨ m = 2 * k + 1 := ⟨m / 2, by omega⟩
          ·
           have hem := QDR (l := l) (k := k) hh;refine EC.seq (EC.region (EL.mv rfl rfl ?_));refine EL.val (QAE rfl rfl (by decide) (c := (((2 * k) % 2 : Nat) : Int)) (by rw [hws.mv]; rfl)) rfl ?_
           refine EL.val (Z2 (r := false) rfl rfl (decide_eq_false (by omega))) rfl ?_
           refine EL.mv rfl rfl (EL.skip rfl rfl rfl rfl (EL.skip rfl rfl rfl rfl (EL.skip rfl rfl rfl rfl (EL.pf rfl rfl rfl (EL.nil (EX.seq (EC.no rfl (EC.skip ?_))))))))
           exact EX.cutE () ⟨Zv (by have := hem.1; omega) rfl, trivial⟩ (by repeat first | with_reducible exact (Sub.refl _).del _ | refine sp_ rfl ?_ | exact (Sub.refl _).del _ | refine sd_ rfl ?_ | refine sn_ ?_) ⟨htw, hpl, q3, qa9_4, hbw⟩
          ·
           have hem := QEX (l := l) (k := k) hh;refine EC.seq (EC.region (EL.mv rfl rfl ?_));refine EL.val (QAE rfl rfl (by decide) (c := (((2 * k + 1) % 2 : Nat) : Int)) (by rw [hws.mv]; rfl)) rfl ?_
           refine EL.val (Z2 (r := true) rfl rfl (decide_eq_true (by omega))) rfl ?_
           refine EL.mv rfl rfl (EL.valg rfl rfl (Z9 rfl) rfl (EL.valg rfl rfl (ld_4 rfl (hh ▸ q3.at (j := 5) rfl)) rfl (EL.valg rfl rfl (ZT rfl) rfl (EL.pt rfl rfl rfl (EL.nil (EX.seq (EC.yes rfl (EC.region (EL.mv rfl rfl ?_)))))))));refine EL.val (ZP rfl rfl (c := ((k + 1 : Nat) : Int)) ((IntWalk.i64_in _ ⟨by omega, by omega⟩).trans (by omega))) rfl ?_
           refine EL.as rfl rfl (EL.nil ?_)
           exact EX.cutE () ⟨Zv (by have := hem.1; omega) rfl, trivial⟩ (by repeat first | with_reducible exact (Sub.refl _).del _ | refine sp_ rfl ?_ | exact (Sub.refl _).del _ | refine sd_ rfl ?_ | refine sn_ ?_) ⟨htw, hpl, q3, qa9_4, hbw⟩
        ·
         clear htw hpl q3 qa9_4 hbw
         rintro ⟨⟩ wc10 ⟨htw, hpl, q3, qa9_4, hbw⟩
         have hfl := QNY l.high m;have hfk := QGi (l := l) hlk (n := fiN l.high m) (by omega)
         have hff := QKB (l := l) hlk (n := fiN l.high m) (by omega)
         refine EC.seq (EC.region (EL.mv rfl rfl (EL.mv rfl rfl ?_)));refine EL.val (QAO rfl rfl (c := ((fiN l.high m : Nat) : Int) * Zj l) (IntWalk.i64_in (((fiN l.high m : Nat) : Int) * Zj l) ⟨by omega, by omega⟩)) rfl ?_
         refine EL.as rfl rfl (EL.nil (EX.seq ?_));refine EC.cutD [18, 181, 182, 183, 184, 185, 186, 187, 188, 189, 190] (fun _ : Unit => [(18, .int .i64 ((emN l.high m : Int) * Zj l - baN l m))]) (fun _ W => W.ownsRow w.heap.size 39 5 (.slice Aw ts.length cw) ts.length (twsC ts) ∧ W.ownsRow w.heap.size 87 2 (.slice Ap d.plan.length cp) d.plan.length (spsC d.plan) ∧ Blk W g3 23 #[.int .i64 l.length, .int .i64 l.cycle, .int .i64 l.turn, .int .i64 l.fill, .int .i64 l.save, .bool l.high] ∧ Blk W ga9_4 35 #[.int .i64 d.s.up, .int .i64 d.s.lo, .int .i64 d.s.ch, .int .i64 d.s.ba] ∧ Below w.heap.size w W) ?_ ?_
         ·
          rcases Bool.eq_false_or_eq_true l.high with hh | hh
          ·
           obtain ⟨k, rfl | rfl⟩ : ∃ k, m = 2 * k ∨ m = 2 * k + 1 := ⟨m / 2, by omega⟩
           ·
            have hem := QCu (l := l) (k := k) hh;refine EC.seq (EC.region (EL.val (Z9 rfl) rfl (EL.val (ld_4 rfl (hh ▸ q3.at (j := 5) rfl)) rfl (EL.val (ZT rfl) rfl (EL.mv rfl rfl (EL.skip rfl rfl rfl rfl (EL.skip rfl rfl rfl rfl (EL.pf rfl rfl rfl (EL.nil ?_)))))))));refine EX.seq (EC.no rfl (EC.skip ?_))
            exact EX.cutE () ⟨Zv (by rw [hem.2, hem.1]) rfl, trivial⟩ (by repeat first | with_reducible exact (Sub.refl _).del _ | refine sp_ rfl ?_ | exact (Sub.refl _).del _ | refine sd_ rfl ?_ | refine sn_ ?_) ⟨htw, hpl, q3, qa9_4, hbw⟩
           ·
            have hem := QDQ (l := l) (k := k) hh;refine EC.seq (EC.region (EL.val (Z9 rfl) rfl (EL.val (ld_4 rfl (hh ▸ q3.at (j := 5) rfl)) rfl (EL.val (ZT rfl) rfl (EL.mv rfl rfl (EL.skip rfl rfl rfl rfl (EL.skip rfl rfl rfl rfl (EL.pf rfl rfl rfl (EL.nil ?_)))))))));refine EX.seq (EC.no rfl (EC.skip ?_))
            exact EX.cutE () ⟨Zv (by rw [hem.2, hem.1]) rfl, trivial⟩ (by repeat first | with_reducible exact (Sub.refl _).del _ | refine sp_ rfl ?_ | exact (Sub.refl _).del _ | refine sd_ rfl ?_ | refine sn_ ?_) ⟨htw, hpl, q3, qa9_4, hbw⟩
          ·
           obtain ⟨k, rfl | rfl⟩ : ∃ k, m = 2 * k ∨ m = 2 * k + 1 := ⟨m / 2, by omega⟩
           ·
            have hem := QDR (l := l) (k := k) hh
            by_cases hk0 : 0 < k
            ·
             rw [if_pos hk0] at hem;refine EC.seq (EC.region (EL.val (Z9 rfl) rfl (EL.val (ld_4 rfl (hh ▸ q3.at (j := 5) rfl)) rfl (EL.val (ZT rfl) rfl (EL.mv rfl rfl (EL.mg rfl rfl rfl rfl ?_))))));refine EL.valg rfl rfl (Zt (r := true) rfl rfl (decide_eq_true (by rw [hem.1]; omega))) rfl ?_
             refine EL.pt rfl rfl rfl (EL.nil (EX.seq (EC.yes rfl (EC.region (EL.mv rfl rfl (EL.mv rfl rfl ?_))))));refine EL.val (Zz rfl rfl (c := ((fiN l.high (2 * k) : Nat) : Int) * Zj l - Zj l) (IntWalk.i64_in (((fiN l.high (2 * k) : Nat) : Int) * Zj l - Zj l) ⟨by omega, by omega⟩)) rfl ?_
             refine EL.as rfl rfl (EL.nil ?_)
             exact EX.cutE () ⟨Zv (by rw [hem.2, hem.1]) rfl, trivial⟩ (by repeat first | with_reducible exact (Sub.refl _).del _ | refine sp_ rfl ?_ | exact (Sub.refl _).del _ | refine sd_ rfl ?_ | refine sn_ ?_) ⟨htw, hpl, q3, qa9_4, hbw⟩
            ·
             rw [if_neg hk0] at hem;refine EC.seq (EC.region (EL.val (Z9 rfl) rfl (EL.val (ld_4 rfl (hh ▸ q3.at (j := 5) rfl)) rfl (EL.val (ZT rfl) rfl (EL.mv rfl rfl (EL.mg rfl rfl rfl rfl ?_))))));refine EL.valg rfl rfl (Zt (r := false) rfl rfl (decide_eq_false (by rw [hem.1]; omega))) rfl ?_
             refine EL.pt rfl rfl rfl (EL.nil (EX.seq (EC.no rfl (EC.skip ?_))))
             exact EX.cutE () ⟨Zv (by rw [hem.2, hem.1]; rw [show k = 0 by omega]; simp) rfl, trivial⟩ (by repeat first | with_reducible exact (Sub.refl _).del _ | refine sp_ rfl ?_ | exact (Sub.refl _).del _ | refine sd_ rfl ?_ | refine sn_ ?_) ⟨htw, hpl, q3, qa9_4, hbw⟩
           ·
            have hem := QEX (l := l) (k := k) hh;refine EC.seq (EC.region (EL.val (Z9 rfl) rfl (EL.val (ld_4 rfl (hh ▸ q3.at (j := 5) rfl)) rfl (EL.val (ZT rfl) rfl (EL.mv rfl rfl (EL.mg rfl rfl rfl rfl ?_))))));refine EL.valg rfl rfl (Zt (r := true) rfl rfl (decide_eq_true (by rw [hem.1]; omega))) rfl ?_
            refine EL.pt rfl rfl rfl (EL.nil (EX.seq (EC.yes rfl (EC.region (EL.mv rfl rfl (EL.mv rfl rfl ?_))))));refine EL.val (Zz rfl rfl (c := ((fiN l.high (2 * k + 1) : Nat) : Int) * Zj l - Zj l) (IntWalk.i64_in (((fiN l.high (2 * k + 1) : Nat) : Int) * Zj l - Zj l) ⟨by omega, by omega⟩)) rfl ?_
            refine EL.as rfl rfl (EL.nil ?_)
            exact EX.cutE () ⟨Zv (by rw [hem.2, hem.1]) rfl, trivial⟩ (by repeat first | with_reducible exact (Sub.refl _).del _ | refine sp_ rfl ?_ | exact (Sub.refl _).del _ | refine sd_ rfl ?_ | refine sn_ ?_) ⟨htw, hpl, q3, qa9_4, hbw⟩
         ·
          clear htw hpl q3 qa9_4 hbw
          rintro ⟨⟩ wc11 ⟨htw, hpl, q3, qa9_4, hbw⟩
          have hup := hws.up;rw [QJx hcp] at hup;have hpb := QGW htwB ts.length;rw [List.take_length] at hpb;have hbb := QNi (l := l) hlk m;have hek := QGi (l := l) hlk (n := emN l.high m) (by have := QNZ l.high m; omega)
          refine EC.seq (EC.region (EL.val (Yg rfl) rfl (EL.val (ld_3 rfl (qa9_4.at (j := 0) rfl)) rfl (EL.mv rfl rfl (EL.mv rfl rfl (EL.val (QAB rfl) rfl (EL.val (ld_3 rfl (q3.at (j := 3) rfl)) rfl ?_)))))));refine EL.val (QAO rfl rfl (c := ((fiN l.high m : Nat) : Int) * l.fill) (IntWalk.i64_in (((fiN l.high m : Nat) : Int) * l.fill) ⟨by omega, by omega⟩)) rfl ?_
          refine EL.val (Zz rfl rfl (c := (emN l.high m : Int) * Zj l - baN l m - ((fiN l.high m : Nat) : Int) * l.fill) (IntWalk.i64_in ((emN l.high m : Int) * Zj l - baN l m - ((fiN l.high m : Nat) : Int) * l.fill) ⟨by omega, by omega⟩)) rfl ?_
          refine EL.mv rfl rfl ?_;refine EL.val (Zz rfl rfl (c := (emN l.high m : Int) * Zj l - baN l m - ((fiN l.high m : Nat) : Int) * l.fill - QA4 ts ts.length) (IntWalk.i64_in ((emN l.high m : Int) * Zj l - baN l m - ((fiN l.high m : Nat) : Int) * l.fill - QA4 ts ts.length) ⟨by omega, by omega⟩)) rfl ?_
          refine EL.val (Z2 (r := true) rfl rfl (decide_eq_true (by omega))) rfl ?_
          refine EL.mv rfl rfl (EL.callg rfl rfl (cA0 cF12) rfl (QI8 _) ?_)
          rintro e w12 ⟨rfl, hc12⟩
          refine ⟨_, rfl, ?_⟩;replace q3 := q3.bl hc12;replace qa9_4 := qa9_4.bl hc12;replace htw := ZD htw hc12 (Nat.le_refl _);replace hpl := ZD hpl hc12 (Nat.le_refl _);replace hbw := bo_ hbw hc12;clear hc12;refine EL.pt rfl rfl rfl (EL.as rfl rfl (EL.nil (EX.seq (EC.ret ?_))))
          exact EX.done (res1 rfl rfl) ⟨rfl, hbw⟩
end Go.Proofs.Ytlbfnimilcnihaa
