/- X16, LkKnown, ExX17, X17, ExX18, X18, ExX19, X19, ExX20, X20, LkRef, ExX21, X21, ExX22, X22, ExX23, X23, ExX24, X24, ExX25: what LockRunsProof needs of them (merged by trimpack.py). -/
import Derived.Test.YtlbfnimilcnihaaRunsT5
set_option linter.unusedVariables false
set_option linter.unusedSimpArgs false
namespace Go.Proofs.Ytlbfnimilcnihaa
open Go Go.RowKit
theorem QJ8 (x : List LR) (y : List LT) : QAb x y 0 0 := ⟨fun e i h1 h2 => by omega, fun i h => by omega⟩
theorem QLU {x : List LR} {y : List LT} {d k : Nat} (h : QAb x y d k) (hs : QAY x y (d + 1) k = false) : QAb x y d (k + 1) := ⟨h.1, fun i hi => by
 rcases Nat.lt_or_ge i k with h1 | h1
 ·exact h.2 i h1
 ·rw [show i = k by omega]; exact hs⟩
theorem QMY {x : List LR} {y : List LT} {d : Nat} (h : QAb x y d x.length) : QAb x y (d + 1) 0 := ⟨fun e i h1 h2 hi => by
 rcases Nat.lt_or_ge e (d + 1) with h3 | h3
 ·exact h.1 e i h1 (by omega) hi
 ·rw [show e = d + 1 by omega]; exact h.2 i hi, fun i hi => by omega⟩
/-- the first day and reach on which there can be too little water -/
def QIw (x : List LR) (y : List LT) (N : Nat) (day reach : Int) (sure : Bool) : Prop :=
 (∃ d i : Nat, d < N ∧ i < x.length ∧ QAb x y d i ∧ QAY x y (d + 1) i = true ∧ day = ((d + 1 : Nat) : Int) ∧ reach = ((i : Nat) : Int) ∧ sure = decide ((volD x y i (d + 1)).hi < (x.getD i lr0).least)) ∨ (QAb x y N 0 ∧ day = 0 ∧ reach = 0 ∧ sure = false)
theorem QJW {x : List LR} {y : List LT} {vx vy : Value} {days : Int} {w : World} {B : Nat} (hx : Rd w B 4 vx x.length (lrsC x)) (hy : Rd w B 3 vy y.length (ltsC y)) (hB : B ≤ w.heap.size) (hyn : y.length ≤ 9223372036854775806) :
  Calls Try.prog 27 #[vx, vy, .int .i64 days] w fun e w' => ∃ day reach sure, e = .returned (.tuple #[.int .i64 day, .int .i64 reach, .bool sure, .int .i64 (chE x y days)]) ∧ (chE x y days = 0 → QIw x y days.toNat day reach sure) ∧ (chE x y days ≠ 0 → day = 0 ∧ reach = 0 ∧ sure = false) ∧ Below w.heap.size w w' := by
 obtain ⟨Ax, cx, rfl, _⟩ := hx.shape;obtain ⟨Ay, cy, rfl, _⟩ := hy.shape;have hbw := Below.refl w.heap.size w;refine EC.enter 58 Try.func27 rfl rfl rfl (EC.seq (EC.region (EL.as rfl rfl (EL.as rfl rfl (EL.as rfl rfl (EL.as rfl rfl (EL.nil (EX.seq (EC.seq ?_)))))))));refine EC.region (EL.mv rfl rfl (EL.mv rfl rfl (EL.mv rfl rfl (EL.call (cA3 cF26 rfl rfl rfl) rfl (QHK (hx.below (hbw.mono hB)) (hy.below (hbw.mono hB)) (Nat.le_trans hB hbw.size) hyn) ?_))))
 rintro e w1 ⟨sl, us, rfl, hout, hsl, hc1⟩
 refine ⟨_, rfl, ?_⟩;replace hbw := bo_ hbw hc1;clear hc1;refine EL.mv rfl rfl (EL.val (ZM (v := sl) rfl rfl) rfl (EL.val (ZM (v := .int .i64 (chE x y days)) rfl rfl) rfl (EL.as rfl rfl (EL.as rfl rfl (EL.nil (EX.seq (EC.seq (EC.seq (EC.region ?_)))))))));refine EL.mv rfl rfl ?_
 by_cases he : chE x y days = 0
 ·
  replace hout := hout he;have hch := QG_ he;obtain ⟨N, rfl⟩ : ∃ N : Nat, days = N := ⟨days.toNat, (Int.toNat_of_nonneg hch.days.1).symm⟩;have hN := hch.days.2;have hxn := hch.n10;have hyl := hch.yl;change OwnLL _ _ sl us (QA4 x y N) at hout;have hrd0 := hout.rd;rw [Yf] at hrd0;obtain ⟨As, cs, rfl, _⟩ := (Rd.of_own hrd0).shape;clear hrd0;refine EL.val (Zp (r := false) rfl rfl (decide_eq_false (by omega))) rfl ?_
  refine EL.nil (EX.seq (EC.no rfl (EC.skip (EX.seq (EC.seq (EC.seq (EC.region (EL.mv rfl rfl (EL.val (QMD rfl) rfl ?_)))))))));refine EL.mv rfl rfl (EL.nil (EX.seq (EC.block ?_)));refine EC.loopD [6, 7, 8, 9, 11, 12, 13, 14, 15, 28, 29, 30, 31, 32, 33, 34, 35, 36, 37, 38, 39, 40, 41, 42, 43, 44, 45, 46, 47, 48, 49, 50, 51, 52, 53, 54, 55, 56, 57] (fun dd : Nat => [(28, .int .i64 (dd : Nat))]) (fun dd W => dd ≤ N ∧ QAb x y dd 0 ∧ OwnLL W w.heap.size (.slice As N cs) us (QA4 x y N) ∧ Below w.heap.size w W) (fun dd => N - dd) 0 ⟨Nat.zero_le _, QJ8 x y, hout, hbw⟩ ⟨rfl, trivial⟩ ?_
  clear hout hbw
  rintro dd wdd ⟨hk, hns, hout, hbw⟩
  by_cases hltdd : dd < N
  ·
   have hlD := Yf x y N;obtain ⟨bq, oq, eq_, _, cq⟩ := QJy (Rd.of_own (hlD ▸ hout.rd)) (k := dd) (by rw [hout.len, hlD]; exact hltdd)
   subst eq_;have hrow := hout.row dd (by rw [hlD]; exact hltdd)
   rw [QB4 hltdd, QBk] at hrow;obtain ⟨gr, cr, er⟩ := Z7 hrow (by omega)
   rw [er] at cq;clear hrow;refine EC.seq (EC.region ?_);refine EL.val (ZQ (r := true) rfl rfl (decide_eq_true (by omega))) rfl ?_
   refine EL.nil (EX.seq (EC.seq (EC.yes rfl (EC.skip (EX.seq (EC.seq (EC.block (EC.seq (EC.region ?_)))))))));refine EL.mv rfl rfl (EL.val (QG2 rfl rfl hltdd) rfl (EL.val (QG1 rfl cq) rfl (EL.as rfl rfl (EL.as rfl rfl (EL.nil (EX.seq (EC.seq (EC.region (EL.mv rfl rfl ?_)))))))));refine EL.val (QKH rfl) rfl (EL.mv rfl rfl (EL.nil (EX.seq (EC.block ?_))));refine EC.loopD [6, 7, 8, 9, 13, 14, 15, 35, 36, 37, 38, 39, 40, 41, 42, 43, 44, 45, 46, 47, 48, 49, 50, 51, 52, 53, 54, 55, 56] (fun k : Nat => [(35, .int .i64 (k : Nat))]) (fun k W => k ≤ x.length ∧ QAb x y dd k ∧ OwnLL W w.heap.size (.slice (some ⟨bq, oq, none⟩) N cs) us (QA4 x y N) ∧ Below w.heap.size w W) (fun k => x.length - k) 0 ⟨Nat.zero_le _, hns, hout, hbw⟩ ⟨rfl, trivial⟩ ?_
   clear hns hout hbw
   rintro k wk ⟨hkx, hns, hout, hbw⟩
   by_cases hltk : k < x.length
   ·
    have hrow := hout.row dd (by rw [Yf]; exact hltdd)
    rw [QB4 hltdd, QBk, er] at hrow;obtain ⟨bn, on, eb_, _, cn⟩ := QAg _ k (by rw [QBk]; exact hltk) _ _ _ _ _ (Rd.of_own hrow)
    injection eb_ with eb_
    injection eb_ with eb1_ eb2_
    subst eb1_ eb2_;rw [show (volL x y (dd + 1)).getD k bd0 = volD x y k (dd + 1) from QCq _ hltk] at cn;obtain ⟨b, o, rfl, _, cc⟩ := QCH x k hltk w B _ _ _ hx;clear hrow;refine EC.seq (EC.region ?_);refine EL.val (ZQ (r := true) rfl rfl (decide_eq_true (by omega))) rfl ?_
    refine EL.nil (EX.seq (EC.seq (EC.yes rfl (EC.skip (EX.seq (EC.seq (EC.block (EC.seq (EC.region ?_)))))))));refine EL.mv rfl rfl (EL.val (QCQ rfl rfl hltk) rfl (EL.val (QC5 rfl cn.c0 cn.c1) rfl (EL.newP QIv rfl ?_)));intro g2 w2 q2 hb2 hg2 hl2;have bhbw_2 := Nat.le_trans hbw.size hg2;have hap2 := hout.apart hg2;replace hout := hout.below hb2;replace hbw := bo_ hbw hb2;clear hb2 hg2 hl2;refine EL.as rfl rfl (EL.store rfl rfl q2 QDY rfl rfl rfl rfl ?_);intro w3 hq3 hg3;replace hout := hout.kept hg3 hap2;replace hbw := ZE hbw hg3 bhbw_2;replace q2 := hq3;clear hg3 hq3;refine EL.nil (EX.seq (EC.seq (EC.region (EL.mv rfl rfl (EL.mv rfl rfl (EL.val (QIZ rfl rfl hltk) rfl (EL.val (QIf rfl) rfl (EL.val (ld_3 rfl (ZB hbw cc.c1)) rfl (EL.as rfl rfl ?_)))))))));refine EL.nil (EX.seq (EC.seq (EC.region (EL.val (QBd rfl) rfl (EL.val (ld_3 rfl (q2.at (j := 0) rfl)) rfl (EL.mv rfl rfl ?_))))))
    by_cases hsh : (volD x y k (dd + 1)).lo < (x.getD k lr0).least
    ·
     have hst : QAY x y (dd + 1) k = true := decide_eq_true hsh;refine EL.val (ZQ (r := true) rfl rfl (decide_eq_true (by omega))) rfl ?_
     refine EL.nil (EX.seq (EC.yes rfl (EC.seq ?_)));refine EC.regionQ (by kernel_rfl) (by kernel_rfl) ?_
     refine EQ.mv rfl rfl ?_;refine EQ.val (fun _ hw => (ZR rfl rfl (c := ((dd + 1 : Nat) : Int)) ((IntWalk.i64_in _ ⟨by first | omega | (simp only; omega), by first | omega | (simp only; omega)⟩).trans (by first | omega | (simp only; omega))))) rfl ?_
     refine EQ.mv rfl rfl ?_;refine EQ.val (fun _ hw => (QBc rfl)) rfl ?_
     refine EQ.val (fun _ hw => (ld_3 rfl (ZB hw (q2.at (j := 1) rfl)))) rfl ?_
     refine EQ.mv rfl rfl ?_;refine EQ.val (fun _ hw => (ZQ rfl rfl rfl)) rfl ?_
     refine EQ.val (fun _ hw => (Ze rfl)) rfl ?_
     refine EQ.val (fun _ hw => (Ze rfl)) rfl ?_
     refine EQ.val (fun _ hw => (Ze rfl)) rfl ?_
     refine EQ.val (fun _ hw => (Ze rfl)) rfl ?_
     refine EQ.fin (fun w4 hw_ => ?_)
     replace q2 := q2.bl hw_;replace hout := hout.below hw_;replace hbw := bo_ hbw hw_;clear hw_;refine EX.seq (EC.ret (EX.blk_ret (EX.seq_ret (EX.seq_ret (EX.blk_ret (EX.blk_ret (EX.seq_ret (EX.seq_ret (EX.blk_ret ?_)))))))));refine EX.seq_ret ?_
     exact EX.done (res4 rfl rfl rfl rfl rfl) ⟨_, _, _, by rw [he], fun _ => .inl ⟨dd, k, hltdd, hltk, hns, hst, rfl, rfl, rfl⟩, fun h => absurd he h, hbw⟩
    ·
     have hst : QAY x y (dd + 1) k = false := decide_eq_false hsh;refine EL.val (ZQ (r := false) rfl rfl (decide_eq_false (by omega))) rfl ?_
     refine EL.nil (EX.seq (EC.no rfl (EC.skip (EX.blk (EX.seq (EC.region ?_))))));refine EL.val (ZR rfl rfl (c := ((k + 1 : Nat) : Int)) ((IntWalk.i64_in _ ⟨by first | omega | (simp only; omega), by first | omega | (simp only; omega)⟩).trans (by first | omega | (simp only; omega)))) rfl ?_
     refine EL.mv rfl rfl (EL.nil ?_);refine EX.roundD (k + 1) ⟨rfl, trivial⟩ (by repeat first | with_reducible exact .refl _ | refine sp_ rfl ?_ | exact .refl _ | refine sd_ rfl ?_ | refine sn_ ?_) ⟨hltk, QLU hns hst, hout, hbw⟩ (by omega)
   ·
    obtain rfl : k = x.length := by omega
    replace hns := QMY hns;refine EC.seq (EC.region ?_);refine EL.val (ZQ (r := false) rfl rfl (decide_eq_false (by omega))) rfl ?_
    refine EL.nil (EX.seq (EC.seq (EC.no rfl (EC.exit (EX.seq_exit (EX.seq_exit (EX.blk_here (EX.blk (EX.seq ?_)))))))));refine EC.region ?_;refine EL.val (ZR rfl rfl (c := ((dd + 1 : Nat) : Int)) ((IntWalk.i64_in _ ⟨by first | omega | (simp only; omega), by first | omega | (simp only; omega)⟩).trans (by first | omega | (simp only; omega)))) rfl ?_
    refine EL.mv rfl rfl (EL.nil ?_);refine EX.roundD (dd + 1) ⟨rfl, trivial⟩ (by repeat first | with_reducible exact .refl _ | refine sp_ rfl ?_ | exact .refl _ | refine sd_ rfl ?_ | refine sn_ ?_) ⟨hltdd, hns, hout, hbw⟩ (by omega)
  ·
   obtain rfl : dd = N := by omega
   refine EC.seq (EC.region ?_);refine EL.val (ZQ (r := false) rfl rfl (decide_eq_false (by omega))) rfl ?_
   refine EL.nil (EX.seq (EC.seq (EC.no rfl (EC.exit (EX.seq_exit (EX.seq_exit (EX.blk_here (EX.seq (EC.seq ?_)))))))));refine EC.region (EL.as rfl rfl (EL.as rfl rfl (EL.as rfl rfl (EL.as rfl rfl (EL.nil (EX.seq (EC.ret ?_)))))))
   exact EX.done (res4 rfl rfl rfl rfl rfl) ⟨0, 0, false, by rw [he], fun _ => .inr ⟨hns, rfl, rfl, rfl⟩, fun h => absurd he h, hbw⟩
 ·
  clear hout;refine EL.val (Zp (r := true) rfl rfl (decide_eq_true (by omega))) rfl ?_
  refine EL.nil (EX.seq (EC.yes rfl (EC.seq (EC.region (EL.mv rfl rfl (EL.as rfl rfl (EL.as rfl rfl (EL.as rfl rfl (EL.as rfl rfl ?_)))))))));refine EL.nil (EX.seq (EC.ret (EX.seq_ret ?_)))
  exact EX.done (res4 rfl rfl rfl rfl rfl) ⟨_, _, _, rfl, fun h => absurd h he, fun _ => ⟨rfl, rfl, rfl⟩, hbw⟩
def oneK : LK := ⟨100, 20, 10, 1000, 40, false⟩
def Z_ : List TW := [⟨true, 0, 60, 1, 500⟩, ⟨false, 5, 80, 2, 300⟩, ⟨true, 10, 30, 1, 0⟩]
def QAx : List SP := [⟨true, 1⟩, ⟨false, 1⟩, ⟨true, 1⟩]
def xK : List LR := [⟨10000, 8000, ⟨500, 600⟩⟩, ⟨5000, 0, ⟨0, 0⟩⟩]
def yK : List LT := [⟨1000, ⟨1, 2⟩⟩]
theorem QHo : QCR oneK Z_ = ([⟨true, 2⟩, ⟨false, 1⟩], 140, 0) := by kernel_rfl
theorem QFo : QAF oneK Z_ 140 = ([⟨true, 2⟩, ⟨false, 1⟩], 140, 0) := by kernel_rfl
theorem QDi : Zn oneK Z_ QAx = 0 := by kernel_rfl
theorem QFa : (endP oneK Z_ QAx).up = -1800 ∧ (endP oneK Z_ QAx).lo = 800 ∧ (endP oneK Z_ QAx).ch = 1000 ∧ (endP oneK Z_ QAx).ba = 0 ∧ (endP oneK Z_ QAx).cost = 140 ∧ (endP oneK Z_ QAx).mv = 3 := ⟨by kernel_rfl, by kernel_rfl, by kernel_rfl, by kernel_rfl, by kernel_rfl, by kernel_rfl⟩
theorem QHW : QBH oneK Z_ QAx = [⟨0, 20⟩, ⟨20, 40⟩, ⟨40, 60⟩] := by kernel_rfl
theorem QDI : chE xK yK 2 = 0 := by kernel_rfl
theorem QFH : volL xK yK 1 = [⟨8500, 9600⟩, ⟨6000, 7000⟩] ∧ volL xK yK 2 = [⟨7000, 9200⟩, ⟨7000, 9000⟩] := ⟨by kernel_rfl, by kernel_rfl⟩
theorem QGh {day reach : Int} {sure : Bool} (h : QIw xK yK 2 day reach sure) : day = 2 ∧ reach = 0 ∧ sure = false := by
 have h1 : QAY xK yK 1 0 = false := by kernel_rfl
 have h2 : QAY xK yK 1 1 = false := by kernel_rfl
 have h3 : QAY xK yK 2 0 = true := by kernel_rfl
 have h4 : decide ((volD xK yK 0 2).hi < (xK.getD 0 lr0).least) = false := by kernel_rfl
 rcases h with ⟨d, i, hd, hi, hn, hs, rfl, rfl, rfl⟩ | ⟨hn, _⟩
 ·have hi2 : i < 2 := hi
  have hd2 : d = 0 ∨ d = 1 := by omega
  have hi3 : i = 0 ∨ i = 1 := by omega
  rcases hd2 with rfl | rfl
  ·rcases hi3 with rfl | rfl
   ·rw [h1] at hs; cases hs
   ·rw [h2] at hs; cases hs
  ·rcases hi3 with rfl | rfl
   ·exact ⟨rfl, rfl, h4⟩
   ·have := hn.2 0 (by omega)
    rw [h3] at this
    cases this
 ·have := hn.1 2 0 (by omega) (by omega) (by decide)
  rw [h3] at this
  cases this
section
variable {n : Nat} {σ : Sg} {w : World} {dst : Option Tmp} {ty : TypeId} {pos : String} {af : Array Edge} {g : Option (Nat × Bool)} {x y z : Operand} {at' : Array TypeId}
theorem QNG (a : Act) (_ : Env n σ a) : (execOp a.eval ⟨dst, .alloc 23, ty, pos, af, g⟩).run Try.prog w = .ok (.value (.pointer (some ⟨w.heap.size, 0, none⟩))) (w.alloc (.cells #[.int .i64 0, .int .i64 0, .int .i64 0, .int .i64 0, .int .i64 0, .bool false] 23)) := by
 simp only [execOp]
 simp [go_sem]
theorem QDn {x0 x1 x2 x3 x4 : Operand} {z0 : Int} {z1 : Int} {z2 : Int} {z3 : Int} {z4 : Int} (h0 : evS σ x0 = some (.int .i64 z0)) (h1 : evS σ x1 = some (.int .i64 z1)) (h2 : evS σ x2 = some (.int .i64 z2)) (h3 : evS σ x3 = some (.int .i64 z3)) (h4 : evS σ x4 = some (.int .i64 z4)) : ZL Try.prog n σ w ⟨dst, .build 23 #[(0, x0), (1, x1), (2, x2), (3, x3), (4, x4)], ty, pos, af, g⟩ (.agg #[.int .i64 z0, .int .i64 z1, .int .i64 z2, .int .i64 z3, .int .i64 z4, .bool false]) := fun a ha => by
 simp only [execOp, List.map_toArray, List.map_cons, List.map_nil, ha.eval h0, ha.eval h1, ha.eval h2, ha.eval h3, ha.eval h4]
 go_simp
theorem QM2 {b o : Nat} {v0 v1 v2 v3 v4 v5 : Value} (c0 : w.cell? ⟨b, o, none⟩ = some v0) (c1 : w.cell? ⟨b, o + 1, none⟩ = some v1) (c2 : w.cell? ⟨b, o + 2, none⟩ = some v2) (c3 : w.cell? ⟨b, o + 3, none⟩ = some v3) (c4 : w.cell? ⟨b, o + 4, none⟩ = some v4) (c5 : w.cell? ⟨b, o + 5, none⟩ = some v5) : (loadVar 23 ⟨b, o, none⟩).run Try.prog w = .ok (.agg #[v0, v1, v2, v3, v4, v5]) w := by
 simp [go_sem, loadVar, c0, c1, c2, c3, c4, c5]
theorem QFF {x0 x1 x2 x3 : Operand} {b0 : Bool} {z1 : Int} {z2 : Int} {z3 : Int} (h0 : evS σ x0 = some (.bool b0)) (h1 : evS σ x1 = some (.int .i64 z1)) (h2 : evS σ x2 = some (.int .i64 z2)) (h3 : evS σ x3 = some (.int .i64 z3)) : ZL Try.prog n σ w ⟨dst, .build 39 #[(0, x0), (2, x1), (3, x2), (4, x3)], ty, pos, af, g⟩ (.agg #[.bool b0, .int .i64 0, .int .i64 z1, .int .i64 z2, .int .i64 z3]) := fun a ha => by
 simp only [execOp, List.map_toArray, List.map_cons, List.map_nil, ha.eval h0, ha.eval h1, ha.eval h2, ha.eval h3]
 go_simp
theorem QFE {x0 x1 x2 x3 : Operand} {z0 : Int} {z1 : Int} {z2 : Int} {z3 : Int} (h0 : evS σ x0 = some (.int .i64 z0)) (h1 : evS σ x1 = some (.int .i64 z1)) (h2 : evS σ x2 = some (.int .i64 z2)) (h3 : evS σ x3 = some (.int .i64 z3)) : ZL Try.prog n σ w ⟨dst, .build 39 #[(1, x0), (2, x1), (3, x2), (4, x3)], ty, pos, af, g⟩ (.agg #[.bool false, .int .i64 z0, .int .i64 z1, .int .i64 z2, .int .i64 z3]) := fun a ha => by
 simp only [execOp, List.map_toArray, List.map_cons, List.map_nil, ha.eval h0, ha.eval h1, ha.eval h2, ha.eval h3]
 go_simp
theorem QFG {x0 x1 x2 x3 : Operand} {b0 : Bool} {z1 : Int} {z2 : Int} {z3 : Int} (h0 : evS σ x0 = some (.bool b0)) (h1 : evS σ x1 = some (.int .i64 z1)) (h2 : evS σ x2 = some (.int .i64 z2)) (h3 : evS σ x3 = some (.int .i64 z3)) : ZL Try.prog n σ w ⟨dst, .build 39 #[(0, x0), (1, x1), (2, x2), (3, x3)], ty, pos, af, g⟩ (.agg #[.bool b0, .int .i64 z1, .int .i64 z2, .int .i64 z3, .int .i64 0]) := fun a ha => by
 simp only [execOp, List.map_toArray, List.map_cons, List.map_nil, ha.eval h0, ha.eval h1, ha.eval h2, ha.eval h3]
 go_simp
theorem QLz {x0 x1 x2 : Operand} {v0_0 v0_1 v0_2 v0_3 v0_4 v1_0 v1_1 v1_2 v1_3 v1_4 v2_0 v2_1 v2_2 v2_3 v2_4 : Value} (h0 : evS σ x0 = some (.agg #[v0_0, v0_1, v0_2, v0_3, v0_4])) (h1 : evS σ x1 = some (.agg #[v1_0, v1_1, v1_2, v1_3, v1_4])) (h2 : evS σ x2 = some (.agg #[v2_0, v2_1, v2_2, v2_3, v2_4]))  (a : Act) (ha : Env n σ a) : (execOp a.eval ⟨dst, .buildSlice 24 3 #[(0, x0), (1, x1), (2, x2)], ty, pos, af, g⟩).run Try.prog w = .ok (.value (.slice (some ⟨w.heap.size, 0, none⟩) 3 3)) (w.alloc (.cells #[v0_0, v0_1, v0_2, v0_3, v0_4, v1_0, v1_1, v1_2, v1_3, v1_4, v2_0, v2_1, v2_2, v2_3, v2_4] 39)) := by
 simp only [execOp, List.map_toArray, List.map_cons, List.map_nil, ha.eval h0, ha.eval h1, ha.eval h2]
 go_simp
theorem QHD {x0 x1 x2 : Operand} {z0 : Int} {z1 : Int} {v2_0 : Value} {v2_1 : Value} (h0 : evS σ x0 = some (.int .i64 z0)) (h1 : evS σ x1 = some (.int .i64 z1)) (h2 : evS σ x2 = some (.agg #[v2_0, v2_1])) : ZL Try.prog n σ w ⟨dst, .build 69 #[(0, x0), (1, x1), (2, x2)], ty, pos, af, g⟩ (.agg #[.int .i64 z0, .int .i64 z1, v2_0, v2_1]) := fun a ha => by
 simp only [execOp, List.map_toArray, List.map_cons, List.map_nil, ha.eval h0, ha.eval h1, ha.eval h2]
 go_simp
theorem QL3 {x0 : Operand} {z0 : Int} (h0 : evS σ x0 = some (.int .i64 z0)) : ZL Try.prog n σ w ⟨dst, .build 69 #[(0, x0)], ty, pos, af, g⟩ (.agg #[.int .i64 z0, .int .i64 0, .int .i64 0, .int .i64 0]) := fun a ha => by
 simp only [execOp, List.map_toArray, List.map_cons, List.map_nil, ha.eval h0]
 go_simp
theorem QLv {x0 x1 : Operand} {v0_0 v0_1 v0_2 v0_3 v1_0 v1_1 v1_2 v1_3 : Value} (h0 : evS σ x0 = some (.agg #[v0_0, v0_1, v0_2, v0_3])) (h1 : evS σ x1 = some (.agg #[v1_0, v1_1, v1_2, v1_3]))  (a : Act) (ha : Env n σ a) : (execOp a.eval ⟨dst, .buildSlice 59 2 #[(0, x0), (1, x1)], ty, pos, af, g⟩).run Try.prog w = .ok (.value (.slice (some ⟨w.heap.size, 0, none⟩) 2 2)) (w.alloc (.cells #[v0_0, v0_1, v0_2, v0_3, v1_0, v1_1, v1_2, v1_3] 69)) := by
 simp only [execOp, List.map_toArray, List.map_cons, List.map_nil, ha.eval h0, ha.eval h1]
 go_simp
theorem QJR {x0 x1 : Operand} {z0 : Int} {v1_0 : Value} {v1_1 : Value} (h0 : evS σ x0 = some (.int .i64 z0)) (h1 : evS σ x1 = some (.agg #[v1_0, v1_1])) : ZL Try.prog n σ w ⟨dst, .build 71 #[(0, x0), (1, x1)], ty, pos, af, g⟩ (.agg #[.int .i64 z0, v1_0, v1_1]) := fun a ha => by
 simp only [execOp, List.map_toArray, List.map_cons, List.map_nil, ha.eval h0, ha.eval h1]
 go_simp
theorem QLu {x0 : Operand} {v0_0 v0_1 v0_2 : Value} (h0 : evS σ x0 = some (.agg #[v0_0, v0_1, v0_2]))  (a : Act) (ha : Env n σ a) : (execOp a.eval ⟨dst, .buildSlice 60 1 #[(0, x0)], ty, pos, af, g⟩).run Try.prog w = .ok (.value (.slice (some ⟨w.heap.size, 0, none⟩) 1 1)) (w.alloc (.cells #[v0_0, v0_1, v0_2] 71)) := by
 simp only [execOp, List.map_toArray, List.map_cons, List.map_nil, ha.eval h0]
 go_simp
theorem QGG {a0 a1 a2 a3 b0 b1 b2 b3 : Int} {r : Bool} (hx : evS σ x = some (.agg #[.int .i64 a0, .int .i64 a1, .int .i64 a2, .int .i64 a3])) (hy : evS σ y = some (.agg #[.int .i64 b0, .int .i64 b1, .int .i64 b2, .int .i64 b3])) (hc : decide (a0 = b0 ∧ a1 = b1 ∧ a2 = b2 ∧ a3 = b3) = r) : ZL Try.prog n σ w ⟨dst, .binOp .eql 35 x y 35, ty, pos, af, g⟩ (.bool r) := fun a ha => by
 subst hc
 simp only [execOp, ha.eval hx, ha.eval hy]
 go_simp
 repeat' split
 all_goals simp_all
theorem QKS {b o m c k : Nat} (hx : evS σ x = some (.slice (some ⟨b, o, none⟩) m c)) (hy : evS σ y = some (.int .i64 (k : Int))) (hk : k < m) : ZL Try.prog n σ w ⟨dst, .indexAddr 31 x y, ty, pos, af, g⟩ (.pointer (some ⟨b, o + k * 2, none⟩)) := fun a ha => by
 have k0 : (0 : Int) ≤ (k : Int) := Int.natCast_nonneg _;have k1 : (k : Int) < (m : Int) := by omega
 simp only [execOp, ha.eval hx, ha.eval hy]
 simp [go_sem, k0, k1]
theorem QMm {a0 a1 b0 b1 : Int} {r : Bool} (hx : evS σ x = some (.agg #[.int .i64 a0, .int .i64 a1])) (hy : evS σ y = some (.agg #[.int .i64 b0, .int .i64 b1])) (hc : decide (a0 = b0 ∧ a1 = b1) = r) : ZL Try.prog n σ w ⟨dst, .binOp .eql 49 x y 49, ty, pos, af, g⟩ (.bool r) := fun a ha => by
 subst hc
 simp only [execOp, ha.eval hx, ha.eval hy]
 go_simp
 repeat' split
 all_goals simp_all
theorem QKh {a0 a1 b0 b1 : Int} {r : Bool} (hx : evS σ x = some (.agg #[.int .i64 a0, .int .i64 a1])) (hy : evS σ y = some (.agg #[.int .i64 b0, .int .i64 b1])) (hc : decide (a0 = b0 ∧ a1 = b1) = r) : ZL Try.prog n σ w ⟨dst, .binOp .eql 67 x y 67, ty, pos, af, g⟩ (.bool r) := fun a ha => by
 subst hc
 simp only [execOp, ha.eval hx, ha.eval hy]
 go_simp
 repeat' split
 all_goals simp_all
theorem cA0 {F : FuncId} (hF : cF F)  (a : Act) (_ : Env n σ a) : (execOp a.eval ⟨dst, .call { callee := .value (.func F), args := #[], argTypes := at' }, ty, pos, af, g⟩).run Try.prog w = .ok (.enter F #[]) w := by
 simp only [execOp, resolve, List.map_toArray, List.map_nil]
 simp [go_sem, Act.eval, hF _ _]
theorem cF36 : cF 36 := fun _ _ => by simp [go_sem]
theorem cF37 : cF 37 := fun _ _ => by simp [go_sem]
theorem cF23 : cF 23 := fun _ _ => by simp [go_sem]
theorem QIr {x0 : Operand} {z0 : Int} (h0 : evS σ x0 = some (.int .i64 z0)) : ZL Try.prog n σ w ⟨dst, .build 87 #[(1, x0)], ty, pos, af, g⟩ (.agg #[.bool false, .int .i64 z0]) := fun a ha => by
 simp only [execOp, List.map_toArray, List.map_cons, List.map_nil, ha.eval h0]
 go_simp
theorem QLx {x0 x1 x2 : Operand} {v0_0 v0_1 v1_0 v1_1 v2_0 v2_1 : Value} (h0 : evS σ x0 = some (.agg #[v0_0, v0_1])) (h1 : evS σ x1 = some (.agg #[v1_0, v1_1])) (h2 : evS σ x2 = some (.agg #[v2_0, v2_1]))  (a : Act) (ha : Env n σ a) : (execOp a.eval ⟨dst, .buildSlice 25 3 #[(0, x0), (1, x1), (2, x2)], ty, pos, af, g⟩).run Try.prog w = .ok (.value (.slice (some ⟨w.heap.size, 0, none⟩) 3 3)) (w.alloc (.cells #[v0_0, v0_1, v1_0, v1_1, v2_0, v2_1] 87)) := by
 simp only [execOp, List.map_toArray, List.map_cons, List.map_nil, ha.eval h0, ha.eval h1, ha.eval h2]
 go_simp
theorem cF17 : cF 17 := fun _ _ => by simp [go_sem]
theorem cF16 : cF 16 := fun _ _ => by simp [go_sem]
theorem cF25 : cF 25 := fun _ _ => by simp [go_sem]
theorem cF38 : cF 38 := fun _ _ => by simp [go_sem]
theorem cF27 : cF 27 := fun _ _ => by simp [go_sem]
theorem QDa {A : Option Addr} {m c : Nat} (hx : evS σ x = some (.slice A m c)) : ZL Try.prog n σ w ⟨dst, .call { callee := .builtin .len, args := #[x], argTypes := #[31] }, ty, pos, af, g⟩ (.int .i64 (m : Int)) := fun a ha => by
 simp only [execOp, resolve, List.map_toArray, List.map_cons, List.map_nil, ha.eval hx]
 simp [go_sem]
theorem QHF {x0 x1 x2 : Operand} {z0 : Int} {z1 : Int} {z2 : Int} (h0 : evS σ x0 = some (.int .i64 z0)) (h1 : evS σ x1 = some (.int .i64 z1)) (h2 : evS σ x2 = some (.int .i64 z2)) : ZL Try.prog n σ w ⟨dst, .build 35 #[(0, x0), (1, x1), (2, x2)], ty, pos, af, g⟩ (.agg #[.int .i64 z0, .int .i64 z1, .int .i64 z2, .int .i64 0]) := fun a ha => by
 simp only [execOp, List.map_toArray, List.map_cons, List.map_nil, ha.eval h0, ha.eval h1, ha.eval h2]
 go_simp
theorem QJS {x0 x1 : Operand} {z0 : Int} {z1 : Int} (h0 : evS σ x0 = some (.int .i64 z0)) (h1 : evS σ x1 = some (.int .i64 z1)) : ZL Try.prog n σ w ⟨dst, .build 49 #[(0, x0), (1, x1)], ty, pos, af, g⟩ (.agg #[.int .i64 z0, .int .i64 z1]) := fun a ha => by
 simp only [execOp, List.map_toArray, List.map_cons, List.map_nil, ha.eval h0, ha.eval h1]
 go_simp
end
theorem QDw (w : World) : Calls Try.prog 36 #[] w fun e w' => e = .returned (.agg #[.int .i64 100, .int .i64 20, .int .i64 10, .int .i64 1000, .int .i64 40, .bool false]) ∧ Below w.heap.size w w' := by
 have hbw := Below.refl w.heap.size w;refine EC.enter 2 Try.func36 rfl rfl rfl (EC.seq (EC.region (EL.newP QNG rfl ?_)));intro g1 w1 q1 hb1 hg1 hl1;have bhbw_1 := Nat.le_trans hbw.size hg1;replace hbw := bo_ hbw hb1;clear hb1 hg1 hl1;refine EL.nil (EX.seq (EC.seq (EC.region (EL.val (QDn rfl rfl rfl rfl rfl) rfl (EL.store rfl rfl q1 QJn rfl rfl rfl rfl ?_)))));intro w2 hq2 hg2;replace hbw := ZE hbw hg2 bhbw_1;replace q1 := hq2;clear hg2 hq2;refine EL.nil (EX.seq (EC.ret ?_))
 exact EX.done (QCO rfl rfl (QM2 (q1.at (j := 0) rfl) (q1.at (j := 1) rfl) (q1.at (j := 2) rfl) (q1.at (j := 3) rfl) (q1.at (j := 4) rfl) (q1.at (j := 5) rfl))) ⟨rfl, hbw⟩
theorem QB_ (w : World) : Calls Try.prog 37 #[] w fun e w' => (∃ g, e = .returned (.slice (some ⟨g, 0, none⟩) 3 3) ∧ Blk w' g 39 (twsC Z_).toArray) ∧ Below w.heap.size w w' := by
 have hbw := Below.refl w.heap.size w;refine EC.enter 5 Try.func37 rfl rfl rfl (EC.seq (EC.region (EL.as rfl rfl (EL.nil (EX.seq (EC.seq (EC.region (EL.val (QFF rfl rfl rfl rfl) rfl (EL.val (QFE rfl rfl rfl rfl) rfl ?_)))))))));refine EL.val (QFG rfl rfl rfl rfl) rfl (EL.newS (QLz rfl rfl rfl) rfl ?_);intro g1 w1 q1 hb1 hg1 hl1;have bhbw_1 := Nat.le_trans hbw.size hg1;replace hbw := bo_ hbw hb1;clear hb1 hg1 hl1;refine EL.as rfl rfl (EL.nil (EX.seq (EC.ret ?_)))
 exact EX.done (res1 rfl rfl) ⟨⟨_, rfl, q1⟩, hbw⟩
theorem QJP (w : World) : Calls Try.prog 38 #[] w fun e w' => (∃ g h, e = .returned (.tuple #[.slice (some ⟨g, 0, none⟩) 2 2, .slice (some ⟨h, 0, none⟩) 1 1]) ∧ Blk w' g 69 (lrsC xK).toArray ∧ Blk w' h 71 (ltsC yK).toArray) ∧ Below w.heap.size w w' := by
 have hbw := Below.refl w.heap.size w;refine EC.enter 9 Try.func38 rfl rfl rfl (EC.seq (EC.region (EL.as rfl rfl (EL.as rfl rfl (EL.nil (EX.seq (EC.seq (EC.region (EL.val (Yw rfl rfl) rfl ?_)))))))));refine EL.val (QHD rfl rfl rfl) rfl (EL.val (QL3 rfl) rfl (EL.newS (QLv rfl rfl) rfl ?_));intro g1 w1 q1 hb1 hg1 hl1;have bhbw_1 := Nat.le_trans hbw.size hg1;replace hbw := bo_ hbw hb1;clear hb1 hg1 hl1;refine EL.val (Yw rfl rfl) rfl (EL.val (QJR rfl rfl) rfl (EL.newS (QLu rfl) rfl ?_));intro g2 w2 q2 hb2 hg2 hl2;have n1_2 := q1.na hg2;have bhbw_2 := Nat.le_trans hbw.size hg2;replace q1 := q1.bl hb2;replace hbw := bo_ hbw hb2;clear hb2 hg2 hl2;refine EL.as rfl rfl (EL.as rfl rfl (EL.nil (EX.seq (EC.ret ?_))))
 exact EX.done (res2 rfl rfl rfl) ⟨⟨_, _, rfl, q1, q2⟩, hbw⟩
theorem QMq {v : Value} {w : World} {B : Nat} (hr : Rd w B 5 v 3 (twsC Z_)) (hB : B ≤ w.heap.size) : Calls Try.prog 23 #[.agg #[.int .i64 100, .int .i64 20, .int .i64 10, .int .i64 1000, .int .i64 40, .bool false], v] w fun e w' => ∃ g c, e = .returned (.tuple #[.slice (some ⟨g, 0, none⟩) 2 c, .int .i64 140, .int .i64 0]) ∧ w'.ownsRow w.heap.size 87 2 (.slice (some ⟨g, 0, none⟩) 2 c) 2 (spsC [⟨true, 2⟩, ⟨false, 1⟩]) ∧ Below w.heap.size w w' :=
 (QK6 (l := oneK) (ts := Z_) hr hB).mono fun e w' ⟨sl, he, ho, hb⟩ => by
  rw [QHo] at he ho;obtain ⟨g, c, rfl⟩ := Z7 ho (by decide)
  exact ⟨g, c, he, ho, hb⟩
theorem QJe {v : Value} {w : World} {B : Nat} (hr : Rd w B 5 v 3 (twsC Z_)) (hB : B ≤ w.heap.size) : Calls Try.prog 25 #[.agg #[.int .i64 100, .int .i64 20, .int .i64 10, .int .i64 1000, .int .i64 40, .bool false], v, .int .i64 140] w fun e w' => ∃ g c, e = .returned (.tuple #[.slice (some ⟨g, 0, none⟩) 2 c, .int .i64 140, .int .i64 0]) ∧ w'.ownsRow w.heap.size 87 2 (.slice (some ⟨g, 0, none⟩) 2 c) 2 (spsC [⟨true, 2⟩, ⟨false, 1⟩]) ∧ Below w.heap.size w w' :=
 (QHv (l := oneK) (ts := Z_) hr hB).mono fun e w' ⟨sl, he, ho, hb⟩ => by
  rw [QFo] at he ho;obtain ⟨g, c, rfl⟩ := Z7 ho (by decide)
  exact ⟨g, c, he, ho, hb⟩
theorem QMx {v vp : Value} {w : World} {B : Nat} (hr : Rd w B 5 v 3 (twsC Z_)) (hp : Rd w B 2 vp 3 (spsC QAx)) (hB : B ≤ w.heap.size) : Calls Try.prog 16 #[.agg #[.int .i64 100, .int .i64 20, .int .i64 10, .int .i64 1000, .int .i64 40, .bool false], v, vp] w fun e w' => ∃ g c, e = .returned (.tuple #[.slice (some ⟨g, 0, none⟩) 3 c, .int .i64 140, .int .i64 3, .int .i64 0]) ∧ w'.ownsRow w.heap.size 49 2 (.slice (some ⟨g, 0, none⟩) 3 c) 3 (rnsC [⟨0, 20⟩, ⟨20, 40⟩, ⟨40, 60⟩]) ∧ Below w.heap.size w w' :=
 (QIx (l := oneK) (ts := Z_) (p := QAx) hr hp hB (by decide)).mono fun e w' ⟨sl, he, ho, hb⟩ => by
  obtain ⟨_, _, _, _, e5, e6⟩ := QFa;rw [QDi, e5, e6] at he;rw [QHW] at ho;obtain ⟨g, c, rfl⟩ := Z7 ho (by decide)
  exact ⟨g, c, he, ho, hb⟩
theorem QK9 {v vp : Value} {w : World} {B : Nat} (hr : Rd w B 5 v 3 (twsC Z_)) (hp : Rd w B 2 vp 3 (spsC QAx)) (hB : B ≤ w.heap.size) : Calls Try.prog 17 #[.agg #[.int .i64 100, .int .i64 20, .int .i64 10, .int .i64 1000, .int .i64 40, .bool false], v, vp] w fun e w' => e = .returned (.tuple #[.agg #[.int .i64 (-1800), .int .i64 800, .int .i64 1000, .int .i64 0], .int .i64 0]) ∧ Below w.heap.size w w' :=
 (QFh (l := oneK) (ts := Z_) (p := QAx) hr hp hB (by decide)).mono fun e w' ⟨he, hb⟩ => by
  obtain ⟨e1, e2, e3, e4, _, _⟩ := QFa;rw [QDi, e1, e2, e3, e4] at he
  exact ⟨he, hb⟩
theorem QMn {vx vy : Value} {w : World} {B : Nat} (hx : Rd w B 4 vx 2 (lrsC xK)) (hy : Rd w B 3 vy 1 (ltsC yK)) (hB : B ≤ w.heap.size) : Calls Try.prog 26 #[vx, vy, .int .i64 2] w fun e w' => ∃ g c g0 c0 g1 c1, e = .returned (.tuple #[.slice (some ⟨g, 0, none⟩) 2 c, .int .i64 0]) ∧ w'.ownsRow w.heap.size 73 1 (.slice (some ⟨g, 0, none⟩) 2 c) 2 [.slice (some ⟨g0, 0, none⟩) 2 c0, .slice (some ⟨g1, 0, none⟩) 2 c1] ∧ w'.ownsRow w.heap.size 67 2 (.slice (some ⟨g0, 0, none⟩) 2 c0) 2 (bdsC [⟨8500, 9600⟩, ⟨6000, 7000⟩]) ∧ w'.ownsRow w.heap.size 67 2 (.slice (some ⟨g1, 0, none⟩) 2 c1) 2 (bdsC [⟨7000, 9200⟩, ⟨7000, 9000⟩]) ∧ Below w.heap.size w w' :=
 (QHK (x := xK) (y := yK) (days := 2) hx hy hB (by decide)).mono fun e w' ⟨sl, us, he, ho, _, hb⟩ => by
  rw [QDI] at he;have h := ho QDI;have h0 := h.row 0 (by decide)
  have h1 := h.row 1 (by decide)
  have hl := h.len;have hd := h.rd;rw [show (QA4 xK yK (2 : Int).toNat).getD 0 [] = volL xK yK 1 from rfl, QFH.1] at h0;rw [show (QA4 xK yK (2 : Int).toNat).getD 1 [] = volL xK yK 2 from rfl, QFH.2] at h1
  match us, hl with
  | [a, b], _ =>
   obtain ⟨g0, c0, e0⟩ := Z7 h0 (by decide)
   obtain ⟨g1, c1, e1⟩ := Z7 h1 (by decide)
   obtain ⟨g, c, rfl⟩ := Z7 hd (by decide)
   have ea : a = .slice (some ⟨g0, 0, none⟩) 2 c0 := e0;have eb : b = .slice (some ⟨g1, 0, none⟩) 2 c1 := e1;subst ea eb
   exact ⟨g, c, g0, c0, g1, c1, he, hd, h0, h1, hb⟩
theorem QLG {vx vy : Value} {w : World} {B : Nat} (hx : Rd w B 4 vx 2 (lrsC xK)) (hy : Rd w B 3 vy 1 (ltsC yK)) (hB : B ≤ w.heap.size) : Calls Try.prog 27 #[vx, vy, .int .i64 2] w fun e w' => e = .returned (.tuple #[.int .i64 2, .int .i64 0, .bool false, .int .i64 0]) ∧ Below w.heap.size w w' :=
 (QJW (x := xK) (y := yK) (days := 2) hx hy hB (by decide)).mono fun e w' ⟨day, reach, sure, he, hs, _, hb⟩ => by
  obtain ⟨rfl, rfl, rfl⟩ := QGh (hs QDI);rw [QDI] at he
  exact ⟨he, hb⟩
section
variable {n : Nat} {σ : Sg} {w : World} {dst : Option Tmp} {ty : TypeId} {pos : String} {af : Array Edge} {g : Option (Nat × Bool)} {x y : Operand}
theorem eqSP {a b : Bool} {m k : Int} {r : Bool} (hx : evS σ x = some (.agg #[.bool a, .int .i64 m])) (hy : evS σ y = some (.agg #[.bool b, .int .i64 k])) (hc : decide (a = b ∧ m = k) = r) : ZL Try.prog n σ w ⟨dst, .binOp .eql 87 x y 87, ty, pos, af, g⟩ (.bool r) := fun _ ha => by
 subst hc
 simp only [execOp, ha.eval hx, ha.eval hy]
 go_simp
 repeat' split
 all_goals simp_all
end
theorem Yh {w : World} {base e z g m c : Nat} {xs : List Value} {j : Nat} {u : Value} (h : w.ownsRow base e z (.slice (some ⟨g, 0, none⟩) m c) m xs) (hj : xs[j]? = some u) : w.cell? ⟨g, 0 + j, none⟩ = some u := by
 obtain ⟨_, A, c2, e1, _, h1⟩ := Rd.of_own h
 injection e1 with e1 _ _
 subst e1;have hm : 0 < m := by
  rcases Nat.eq_zero_or_pos m with h0 | h0
  ·have := h.1
   rw [h0, Nat.zero_mul] at this;rw [List.eq_nil_of_length_eq_zero this] at hj
   cases hj
  ·exact h0
 obtain ⟨b, off, e2, _, h2⟩ := h1 hm
 injection e2 with e2
 injection e2 with e3 e4
 subst e3 e4
 exact h2 j u hj
set_option maxRecDepth 100000 in
theorem QAf (w : World) : Calls Try.prog 12 #[] w fun e w' => e = .returned (.bool true) ∧ Below w.heap.size w w' := by
 have hbw := Below.refl w.heap.size w;refine EC.enter 196 Try.func12 rfl rfl rfl (EC.seq (EC.region (EL.as rfl rfl (EL.nil (EX.seq (EC.seq (EC.region (EL.call (cA0 cF36) rfl (QDw _) ?_))))))))
 rintro e w1 ⟨rfl, hc1⟩
 refine ⟨_, rfl, ?_⟩;replace hbw := bo_ hbw hc1;clear hc1;refine EL.call (cA0 cF37) rfl (QB_ _) ?_
 rintro e w2 ⟨⟨g3, rfl, q3⟩, hc2⟩
 refine ⟨_, rfl, ?_⟩;replace hbw := bo_ hbw hc2;clear hc2;refine EL.call (cA2 cF23 rfl rfl) rfl (QMq (Y1 (k := 3) (l := twsC Z_) q3 rfl) (Nat.le_refl _)) ?_
 rintro e w3 ⟨gb, cb, rfl, hob, hc3⟩
 refine ⟨_, rfl, ?_⟩;replace hbw := bo_ hbw hc3;clear hc3;refine EL.mv rfl rfl (EL.xt rfl rfl rfl (EL.xt rfl rfl rfl (EL.xt rfl rfl rfl (EL.as rfl rfl (EL.as rfl rfl (EL.as rfl rfl (EL.nil (EX.seq (EC.seq ?_)))))))));refine EC.region (EL.val (QBM rfl rfl) rfl (EL.val (QIr rfl) rfl (EL.val (QBM rfl rfl) rfl (EL.newS (QLx rfl rfl rfl) rfl ?_))));intro g4 w4 q4 hb4 hg4 hl4;have bhbw_4 := Nat.le_trans hbw.size hg4;replace hob := ZC hob hb4 (Nat.le_refl _);replace hbw := bo_ hbw hb4;clear hb4 hg4 hl4;refine EL.as rfl rfl (EL.nil (EX.seq (EC.seq (EC.region (EL.call (cA0 cF36) rfl (QDw _) ?_)))))
 rintro e w5 ⟨rfl, hc5⟩
 refine ⟨_, rfl, ?_⟩;replace q4 := q4.bl hc5;replace hob := ZC hob hc5 (Nat.le_refl _);replace hbw := bo_ hbw hc5;clear hc5;refine EL.call (cA0 cF37) rfl (QB_ _) ?_
 rintro e w6 ⟨⟨g3, rfl, q3⟩, hc6⟩
 refine ⟨_, rfl, ?_⟩;replace q4 := q4.bl hc6;replace hob := ZC hob hc6 (Nat.le_refl _);replace hbw := bo_ hbw hc6;clear hc6;refine EL.mv rfl rfl (EL.call (cA3 cF17 rfl rfl rfl) rfl (QK9 (Y1 (k := 3) (l := twsC Z_) q3 rfl) (Y1 (k := 3) (l := spsC QAx) q4 rfl) (Nat.le_refl _)) ?_)
 rintro e w7 ⟨rfl, hc7⟩
 refine ⟨_, rfl, ?_⟩;replace q4 := q4.bl hc7;replace hob := ZC hob hc7 (Nat.le_refl _);replace hbw := bo_ hbw hc7;clear hc7;refine EL.mv rfl rfl (EL.xt rfl rfl rfl (EL.xt rfl rfl rfl (EL.newP QK3 rfl ?_)));intro g8 w8 q8 hb8 hg8 hl8;have n4_8 := q4.na hg8;have bhbw_8 := Nat.le_trans hbw.size hg8;replace q4 := q4.bl hb8;replace hob := ZC hob hb8 (Nat.le_refl _);replace hbw := bo_ hbw hb8;clear hb8 hg8 hl8;refine EL.store rfl rfl q8 QH4 rfl rfl rfl rfl ?_;intro w9 hq9 hg9;replace q4 := q4.gr hg9 n4_8;replace hob := ZG hob q8 rfl hg9;replace hbw := ZE hbw hg9 bhbw_8;replace q8 := hq9;clear hg9 hq9;refine EL.as rfl rfl (EL.nil (EX.seq (EC.seq (EC.region (EL.call (cA0 cF36) rfl (QDw _) ?_)))))
 rintro e w10 ⟨rfl, hc10⟩
 refine ⟨_, rfl, ?_⟩;replace q4 := q4.bl hc10;replace q8 := q8.bl hc10;replace hob := ZC hob hc10 (Nat.le_refl _);replace hbw := bo_ hbw hc10;clear hc10;refine EL.call (cA0 cF37) rfl (QB_ _) ?_
 rintro e w11 ⟨⟨g3, rfl, q3⟩, hc11⟩
 refine ⟨_, rfl, ?_⟩;replace q4 := q4.bl hc11;replace q8 := q8.bl hc11;replace hob := ZC hob hc11 (Nat.le_refl _);replace hbw := bo_ hbw hc11;clear hc11;refine EL.mv rfl rfl (EL.call (cA3 cF16 rfl rfl rfl) rfl (QMx (Y1 (k := 3) (l := twsC Z_) q3 rfl) (Y1 (k := 3) (l := spsC QAx) q4 rfl) (Nat.le_refl _)) ?_)
 rintro e w12 ⟨gr, cr, rfl, hor, hc12⟩
 refine ⟨_, rfl, ?_⟩;replace q4 := q4.bl hc12;replace q8 := q8.bl hc12;replace hob := ZC hob hc12 (Nat.le_refl _);replace hbw := bo_ hbw hc12;clear hc12;refine EL.mv rfl rfl (EL.xt rfl rfl rfl (EL.xt rfl rfl rfl (EL.xt rfl rfl rfl (EL.xt rfl rfl rfl (EL.as rfl rfl (EL.as rfl rfl (EL.as rfl rfl (EL.as rfl rfl (EL.nil ?_)))))))));refine EX.seq (EC.seq (EC.region (EL.call (cA0 cF36) rfl (QDw _) ?_)))
 rintro e w13 ⟨rfl, hc13⟩
 refine ⟨_, rfl, ?_⟩;replace q4 := q4.bl hc13;replace q8 := q8.bl hc13;replace hob := ZC hob hc13 (Nat.le_refl _);replace hor := ZC hor hc13 (Nat.le_refl _);replace hbw := bo_ hbw hc13;clear hc13;refine EL.call (cA0 cF37) rfl (QB_ _) ?_
 rintro e w14 ⟨⟨g3, rfl, q3⟩, hc14⟩
 refine ⟨_, rfl, ?_⟩;replace q4 := q4.bl hc14;replace q8 := q8.bl hc14;replace hob := ZC hob hc14 (Nat.le_refl _);replace hor := ZC hor hc14 (Nat.le_refl _);replace hbw := bo_ hbw hc14;clear hc14;refine EL.call (cA3 cF25 rfl rfl rfl) rfl (QJe (Y1 (k := 3) (l := twsC Z_) q3 rfl) (Nat.le_refl _)) ?_
 rintro e w15 ⟨gt, ct, rfl, hot, hc15⟩
 refine ⟨_, rfl, ?_⟩;replace q4 := q4.bl hc15;replace q8 := q8.bl hc15;replace hob := ZC hob hc15 (Nat.le_refl _);replace hor := ZC hor hc15 (Nat.le_refl _);replace hbw := bo_ hbw hc15;clear hc15;refine EL.mv rfl rfl (EL.xt rfl rfl rfl (EL.xt rfl rfl rfl (EL.xt rfl rfl rfl (EL.as rfl rfl (EL.as rfl rfl (EL.as rfl rfl (EL.nil (EX.seq (EC.seq ?_)))))))));refine EC.region (EL.call (cA0 cF38) rfl (QJP _) ?_)
 rintro e w16 ⟨⟨gx, gy, rfl, qx, qy⟩, hc16⟩
 refine ⟨_, rfl, ?_⟩;replace q4 := q4.bl hc16;replace q8 := q8.bl hc16;replace hob := ZC hob hc16 (Nat.le_refl _);replace hor := ZC hor hc16 (Nat.le_refl _);replace hot := ZC hot hc16 (Nat.le_refl _);replace hbw := bo_ hbw hc16;clear hc16;refine EL.mv rfl rfl (EL.xt rfl rfl rfl (EL.xt rfl rfl rfl (EL.as rfl rfl (EL.as rfl rfl (EL.nil (EX.seq (EC.seq (EC.region (EL.mv rfl rfl ?_)))))))));refine EL.mv rfl rfl (EL.call (cA3 cF26 rfl rfl rfl) rfl (QMn (Y1 (k := 2) (l := lrsC xK) qx rfl) (Y1 (k := 1) (l := ltsC yK) qy rfl) (Nat.le_refl _)) ?_)
 rintro e w19 ⟨gd, cd, gd0, cd0, gd1, cd1, rfl, hod, hod0, hod1, hc19⟩
 refine ⟨_, rfl, ?_⟩;replace q4 := q4.bl hc19;replace q8 := q8.bl hc19;replace qx := qx.bl hc19;replace qy := qy.bl hc19;replace hob := ZC hob hc19 (Nat.le_refl _);replace hor := ZC hor hc19 (Nat.le_refl _);replace hot := ZC hot hc19 (Nat.le_refl _);replace hbw := bo_ hbw hc19;clear hc19;refine EL.mv rfl rfl (EL.xt rfl rfl rfl (EL.xt rfl rfl rfl (EL.as rfl rfl (EL.as rfl rfl (EL.nil (EX.seq (EC.seq (EC.region (EL.mv rfl rfl ?_)))))))));refine EL.mv rfl rfl (EL.call (cA3 cF27 rfl rfl rfl) rfl (QLG (Y1 (k := 2) (l := lrsC xK) qx rfl) (Y1 (k := 1) (l := ltsC yK) qy rfl) (Nat.le_refl _)) ?_)
 rintro e w20 ⟨rfl, hc20⟩
 refine ⟨_, rfl, ?_⟩;replace q4 := q4.bl hc20;replace q8 := q8.bl hc20;replace qx := qx.bl hc20;replace qy := qy.bl hc20;replace hob := ZC hob hc20 (Nat.le_refl _);replace hor := ZC hor hc20 (Nat.le_refl _);replace hot := ZC hot hc20 (Nat.le_refl _);replace hod := ZC hod hc20 (Nat.le_refl _);replace hod0 := ZC hod0 hc20 (Nat.le_refl _);replace hod1 := ZC hod1 hc20 (Nat.le_refl _);replace hbw := bo_ hbw hc20;clear hc20;refine EL.mv rfl rfl (EL.xt rfl rfl rfl (EL.xt rfl rfl rfl (EL.xt rfl rfl rfl (EL.xt rfl rfl rfl (EL.as rfl rfl (EL.as rfl rfl (EL.as rfl rfl (EL.as rfl rfl (EL.nil ?_)))))))));refine EX.seq (EC.seq (EC.seq (EC.region (EL.mv rfl rfl ?_))));refine EL.val (Zp (r := false) rfl rfl (by decide)) rfl ?_
 refine EL.mv rfl rfl (EL.mg rfl rfl rfl rfl ?_);refine EL.valg rfl rfl (Zp (r := false) rfl rfl (by decide)) rfl ?_
 refine EL.pf rfl rfl rfl (EL.mv rfl rfl (EL.mg rfl rfl rfl rfl ?_));refine EL.valg rfl rfl (Zp (r := false) rfl rfl (by decide)) rfl ?_
 refine EL.pf rfl rfl rfl (EL.mv rfl rfl (EL.mg rfl rfl rfl rfl ?_));refine EL.valg rfl rfl (Zp (r := false) rfl rfl (by decide)) rfl ?_
 refine EL.pf rfl rfl rfl (EL.mv rfl rfl (EL.mg rfl rfl rfl rfl ?_));refine EL.valg rfl rfl (Zp (r := false) rfl rfl (by decide)) rfl ?_
 refine EL.pf rfl rfl rfl (EL.mv rfl rfl (EL.mg rfl rfl rfl rfl ?_));refine EL.valg rfl rfl (Zp (r := false) rfl rfl (by decide)) rfl ?_
 refine EL.pf rfl rfl rfl (EL.mv rfl rfl (EL.mg rfl rfl rfl rfl (EL.valg rfl rfl (Y3 rfl) rfl ?_)));refine EL.valg rfl rfl (Zp (r := false) rfl rfl (by decide)) rfl ?_
 refine EL.pf rfl rfl rfl (EL.mv rfl rfl (EL.mg rfl rfl rfl rfl (EL.valg rfl rfl (Y3 rfl) rfl ?_)));refine EL.valg rfl rfl (Zp (r := false) rfl rfl (by decide)) rfl ?_
 refine EL.pf rfl rfl rfl (EL.mv rfl rfl (EL.mg rfl rfl rfl rfl (EL.valg rfl rfl (QDa rfl) rfl ?_)));refine EL.valg rfl rfl (Zp (r := false) rfl rfl (by decide)) rfl ?_
 refine EL.pf rfl rfl rfl (EL.mv rfl rfl (EL.mg rfl rfl rfl rfl (EL.valg rfl rfl (QMD rfl) rfl ?_)));refine EL.valg rfl rfl (Zp (r := false) rfl rfl (by decide)) rfl ?_
 refine EL.pf rfl rfl rfl (EL.mv rfl rfl (EL.mg rfl rfl rfl rfl ?_));refine EL.valg rfl rfl (QG2 (k := 0) rfl rfl (by omega)) rfl ?_
 refine EL.valg rfl rfl (QG1 rfl (QAZ hod (k := 0) (Nat.zero_lt_succ _))) rfl (EL.valg rfl rfl (QKH rfl) rfl ?_);refine EL.valg rfl rfl (Zp (r := false) rfl rfl (by decide)) rfl ?_
 refine EL.pf rfl rfl rfl (EL.mv rfl rfl (EL.mg rfl rfl rfl rfl ?_));refine EL.valg rfl rfl (QG2 (k := 1) rfl rfl (by omega)) rfl ?_
 refine EL.valg rfl rfl (QG1 rfl (QAZ hod (k := 1) (Nat.lt_succ_self _))) rfl (EL.valg rfl rfl (QKH rfl) rfl ?_);refine EL.valg rfl rfl (Zp (r := false) rfl rfl (by decide)) rfl ?_
 refine EL.pf rfl rfl rfl (EL.nil (EX.seq (EC.no rfl (EC.skip (EX.seq (EC.seq (EC.region (EL.mv rfl rfl ?_))))))));refine EL.val (QAM (k := 0) rfl rfl (by omega)) rfl ?_
 refine EL.val (QAy rfl (Yh hob (j := 0) rfl) (Yh hob (j := 1) rfl)) rfl (EL.val (QBM rfl rfl) rfl ?_);refine EL.val (eqSP (r := true) rfl rfl (by decide)) rfl ?_
 refine EL.mv rfl rfl (EL.mg rfl rfl rfl rfl ?_);refine EL.valg rfl rfl (Zv (r := true) rfl rfl (by decide)) rfl ?_
 refine EL.pt rfl rfl rfl (EL.mv rfl rfl (EL.valg rfl rfl (QEh rfl (q8.at (j := 0) rfl) (q8.at (j := 1) rfl) (q8.at (j := 2) rfl) (q8.at (j := 3) rfl)) rfl (EL.valg rfl rfl (QHF rfl rfl rfl) rfl ?_)));refine EL.valg rfl rfl (QGG (r := true) rfl rfl (by decide)) rfl ?_
 refine EL.pt rfl rfl rfl (EL.mv rfl rfl (EL.mg rfl rfl rfl rfl ?_));refine EL.valg rfl rfl (QKS (k := 2) rfl rfl (by omega)) rfl ?_
 refine EL.valg rfl rfl (QB0 rfl (Yh hor (j := 4) rfl) (Yh hor (j := 5) rfl)) rfl (EL.valg rfl rfl (QJS rfl rfl) rfl ?_);refine EL.valg rfl rfl (QMm (r := true) rfl rfl (by decide)) rfl ?_
 refine EL.pt rfl rfl rfl (EL.mv rfl rfl (EL.mg rfl rfl rfl rfl ?_));refine EL.valg rfl rfl (Zv (r := true) rfl rfl (by decide)) rfl ?_
 refine EL.pt rfl rfl rfl (EL.mv rfl rfl (EL.mg rfl rfl rfl rfl ?_));refine EL.valg rfl rfl (Zv (r := true) rfl rfl (by decide)) rfl ?_
 refine EL.pt rfl rfl rfl (EL.mv rfl rfl (EL.mg rfl rfl rfl rfl ?_));refine EL.valg rfl rfl (QAM (k := 1) rfl rfl (by omega)) rfl ?_
 refine EL.valg rfl rfl (QAy rfl (Yh hot (j := 2) rfl) (Yh hot (j := 3) rfl)) rfl (EL.valg rfl rfl (QIr rfl) rfl ?_);refine EL.valg rfl rfl (eqSP (r := true) rfl rfl (by decide)) rfl ?_
 refine EL.pt rfl rfl rfl (EL.mv rfl rfl (EL.mg rfl rfl rfl rfl ?_));refine EL.valg rfl rfl (QG2 (k := 0) rfl rfl (by omega)) rfl ?_
 refine EL.valg rfl rfl (QG1 rfl (QAZ hod (k := 0) (Nat.zero_lt_succ _))) rfl ?_;refine EL.valg rfl rfl (QCQ (k := 1) rfl rfl (by omega)) rfl ?_
 refine EL.valg rfl rfl (QC5 rfl (Yh hod0 (j := 2) rfl) (Yh hod0 (j := 3) rfl)) rfl (EL.valg rfl rfl (Yw rfl rfl) rfl ?_);refine EL.valg rfl rfl (QKh (r := true) rfl rfl (by decide)) rfl ?_
 refine EL.pt rfl rfl rfl (EL.mv rfl rfl (EL.mg rfl rfl rfl rfl ?_));refine EL.valg rfl rfl (QG2 (k := 1) rfl rfl (by omega)) rfl ?_
 refine EL.valg rfl rfl (QG1 rfl (QAZ hod (k := 1) (Nat.lt_succ_self _))) rfl ?_;refine EL.valg rfl rfl (QCQ (k := 0) rfl rfl (by omega)) rfl ?_
 refine EL.valg rfl rfl (QC5 rfl (Yh hod1 (j := 0) rfl) (Yh hod1 (j := 1) rfl)) rfl (EL.valg rfl rfl (Yw rfl rfl) rfl ?_);refine EL.valg rfl rfl (QKh (r := true) rfl rfl (by decide)) rfl ?_
 refine EL.pt rfl rfl rfl (EL.mv rfl rfl (EL.mg rfl rfl rfl rfl ?_));refine EL.valg rfl rfl (Zv (r := true) rfl rfl (by decide)) rfl ?_
 refine EL.pt rfl rfl rfl (EL.mv rfl rfl (EL.mg rfl rfl rfl rfl ?_));refine EL.valg rfl rfl (Zv (r := true) rfl rfl (by decide)) rfl ?_
 refine EL.pt rfl rfl rfl (EL.mv rfl rfl (EL.mg rfl rfl rfl rfl (EL.valg rfl rfl (ZT rfl) rfl (EL.pt rfl rfl rfl (EL.as rfl rfl (EL.nil (EX.seq (EC.ret ?_))))))))
 exact EX.done (res1 rfl rfl) ⟨rfl, hbw⟩
section
variable {n : Nat} {σ : Sg} {w : World} {dst : Option Tmp} {ty : TypeId} {pos : String} {af : Array Edge} {g : Option (Nat × Bool)} {x y z : Operand} {at' : Array TypeId}
theorem cF41 : cF 41 := fun _ _ => by simp [go_sem]
end
theorem QLK (n a b : Int) (w : World) : Calls Try.prog 41 #[.int .i64 n, .int .i64 a, .int .i64 b] w fun e w' => e = .returned (.bool (inB a b n)) ∧ Below w.heap.size w w' := by
 have hbw := Below.refl w.heap.size w;refine EC.enter 15 Try.func41 rfl rfl rfl (EC.seq (EC.region (EL.as rfl rfl (EL.nil (EX.seq (EC.seq (EC.region (EL.mv rfl rfl (EL.mv rfl rfl ?_)))))))))
 by_cases h1 : a ≤ n
 ·
  refine EL.val (QCM (r := true) rfl rfl (decide_eq_true (by omega))) rfl ?_
  refine EL.mv rfl rfl (EL.mg rfl rfl rfl rfl (EL.mg rfl rfl rfl rfl ?_))
  by_cases h2 : n ≤ b
  ·
   refine EL.valg rfl rfl (QGW (r := true) rfl rfl (decide_eq_true (by omega))) rfl ?_
   refine EL.pt rfl rfl rfl (EL.as rfl rfl (EL.nil (EX.seq (EC.ret ?_))))
   exact EX.done (res1 rfl rfl) ⟨by unfold inB; simp [*], hbw⟩
  ·
   refine EL.valg rfl rfl (QGW (r := false) rfl rfl (decide_eq_false (by omega))) rfl ?_
   refine EL.pt rfl rfl rfl (EL.as rfl rfl (EL.nil (EX.seq (EC.ret ?_))))
   exact EX.done (res1 rfl rfl) ⟨by unfold inB; simp [*], hbw⟩
 ·
  refine EL.val (QCM (r := false) rfl rfl (decide_eq_false (by omega))) rfl ?_
  refine EL.mv rfl rfl (EL.skip rfl rfl rfl rfl (EL.skip rfl rfl rfl rfl (EL.skip rfl rfl rfl rfl (EL.pf rfl rfl rfl (EL.as rfl rfl (EL.nil (EX.seq (EC.ret ?_))))))))
  exact EX.done (res1 rfl rfl) ⟨by unfold inB; simp [*], hbw⟩
theorem YV {n a b : Int} {c : Bool} (h : inB a b n = c) (w : World) : Calls Try.prog 41 #[.int .i64 n, .int .i64 a, .int .i64 b] w fun e w' => e = .returned (.bool c) ∧ Below w.heap.size w w' := h ▸ QLK n a b w
section
variable {x : List LR} {y : List LT} {days : Int}
end
theorem QK2 {α : Type} {l : List α} {p : α → Bool} {d : α} (h : ∀ i, i < l.length → p (l.getD i d) = true) : l.all p = true := List.all_eq_true.2 fun x hx => by
 obtain ⟨i, hi, e⟩ := List.getElem_of_mem hx;have := h i hi;rw [Zm hi, e] at this
 exact this
theorem QD_ {α : Type} {l : List α} {p : α → Bool} {d : α} {k : Nat} (hk : k < l.length) (h : p (l.getD k d) = false) : l.all p = false := by
 cases e : l.all p with
 | false => rfl
 | true => rw [List.all_eq_true.1 e _ (Z0 hk d)] at h; cases h
theorem QAe {b : Bool} (h : b = true → False) : b = false := by
 cases b with
 | false => rfl
 | true => exact (h rfl).elim
section
variable {n : Nat} {σ : Sg} {w : World} {dst : Option Tmp} {ty : TypeId} {pos : String} {af : Array Edge} {g : Option (Nat × Bool)} {x y z : Operand} {at' : Array TypeId}
theorem cF12 : cF 12 := fun _ _ => by simp [go_sem]
end
theorem OwnLL.mono {w : World} {base b : Nat} {sl : Value} {us : List Value} {ls : List (List Bd)} (h : OwnLL w base sl us ls) (hb : b ≤ base) : OwnLL w b sl us ls := ⟨h.len, YL h.rd hb, fun i hi => YL (h.row i hi) hb⟩
section
variable {n : Nat} {σ : Sg} {w : World} {dst : Option Tmp} {ty : TypeId} {pos : String} {af : Array Edge} {g : Option (Nat × Bool)} {x y : Operand}
end
section
variable {n : Nat} {σ : Sg} {w : World} {dst : Option Tmp} {ty : TypeId} {pos : String} {af : Array Edge} {g : Option (Nat × Bool)} {x y z : Operand} {at' : Array TypeId}
theorem cF19 : cF 19 := fun _ _ => by simp [go_sem]
end
theorem QI6 (l : LK) (w : World) : Calls Try.prog 19 #[.agg #[.int .i64 l.length, .int .i64 l.cycle, .int .i64 l.turn, .int .i64 l.fill, .int .i64 l.save, .bool l.high]] w fun e w' => e = .returned (.bool (lkB l)) ∧ Below w.heap.size w w' := by
 have hbw := Below.refl w.heap.size w;refine EC.enter 26 Try.func19 rfl rfl rfl (EC.seq (EC.region (EL.newP (QAQ rfl) rfl ?_)));intro g1 w1 q1 hb1 hg1 hl1;have bhbw_1 := Nat.le_trans hbw.size hg1;replace hbw := bo_ hbw hb1;clear hb1 hg1 hl1;refine EL.as rfl rfl (EL.nil (EX.seq (EC.seq (EC.region (EL.val (Yo rfl) rfl (EL.val (ld_3 rfl (q1.at (j := 0) rfl)) rfl ?_))))))
 cases k1 : inB 1 500 l.length
 ·
  refine EL.call (cA3 cF41 rfl rfl rfl) rfl (YV k1 _) ?_
  rintro e w2 ⟨rfl, hc2⟩
  refine ⟨_, rfl, ?_⟩;replace q1 := q1.bl hc2;replace hbw := bo_ hbw hc2;clear hc2;refine EL.mv rfl rfl (EL.skip rfl rfl rfl rfl (EL.skip rfl rfl rfl rfl (EL.skip rfl rfl rfl rfl (EL.pf rfl rfl rfl (EL.mv rfl rfl (EL.skip rfl rfl rfl rfl (EL.skip rfl rfl rfl rfl (EL.skip rfl rfl rfl rfl (EL.pf rfl rfl rfl ?_)))))))));refine EL.mv rfl rfl (EL.skip rfl rfl rfl rfl (EL.skip rfl rfl rfl rfl (EL.skip rfl rfl rfl rfl (EL.pf rfl rfl rfl (EL.mv rfl rfl (EL.skip rfl rfl rfl rfl (EL.skip rfl rfl rfl rfl (EL.skip rfl rfl rfl rfl (EL.pf rfl rfl rfl ?_)))))))));refine EL.as rfl rfl (EL.nil (EX.seq (EC.ret ?_)))
  exact EX.done (res1 rfl rfl) ⟨by simp [lkB, *], hbw⟩
 ·
  refine EL.call (cA3 cF41 rfl rfl rfl) rfl (YV k1 _) ?_
  rintro e w3 ⟨rfl, hc3⟩
  refine ⟨_, rfl, ?_⟩;replace q1 := q1.bl hc3;replace hbw := bo_ hbw hc3;clear hc3;refine EL.mv rfl rfl (EL.valg rfl rfl (QBe rfl) rfl (EL.valg rfl rfl (ld_3 rfl (q1.at (j := 1) rfl)) rfl ?_))
  cases k2 : inB 1 500 l.cycle
  ·
   refine EL.callg rfl rfl (cA3 cF41 rfl rfl rfl) rfl (YV k2 _) ?_
   rintro e w4 ⟨rfl, hc4⟩
   refine ⟨_, rfl, ?_⟩;replace q1 := q1.bl hc4;replace hbw := bo_ hbw hc4;clear hc4;refine EL.pt rfl rfl rfl (EL.mv rfl rfl (EL.skip rfl rfl rfl rfl (EL.skip rfl rfl rfl rfl (EL.skip rfl rfl rfl rfl (EL.pf rfl rfl rfl (EL.mv rfl rfl (EL.skip rfl rfl rfl rfl (EL.skip rfl rfl rfl rfl (EL.skip rfl rfl rfl rfl ?_)))))))));refine EL.pf rfl rfl rfl (EL.mv rfl rfl (EL.skip rfl rfl rfl rfl (EL.skip rfl rfl rfl rfl (EL.skip rfl rfl rfl rfl (EL.pf rfl rfl rfl (EL.as rfl rfl (EL.nil (EX.seq (EC.ret ?_)))))))))
   exact EX.done (res1 rfl rfl) ⟨by simp [lkB, *], hbw⟩
  ·
   refine EL.callg rfl rfl (cA3 cF41 rfl rfl rfl) rfl (YV k2 _) ?_
   rintro e w5 ⟨rfl, hc5⟩
   refine ⟨_, rfl, ?_⟩;replace q1 := q1.bl hc5;replace hbw := bo_ hbw hc5;clear hc5;refine EL.pt rfl rfl rfl (EL.mv rfl rfl (EL.valg rfl rfl (Yn rfl) rfl (EL.valg rfl rfl (ld_3 rfl (q1.at (j := 2) rfl)) rfl ?_)))
   cases k3 : inB 0 500 l.turn
   ·
    refine EL.callg rfl rfl (cA3 cF41 rfl rfl rfl) rfl (YV k3 _) ?_
    rintro e w6 ⟨rfl, hc6⟩
    refine ⟨_, rfl, ?_⟩;replace q1 := q1.bl hc6;replace hbw := bo_ hbw hc6;clear hc6;refine EL.pt rfl rfl rfl (EL.mv rfl rfl (EL.skip rfl rfl rfl rfl (EL.skip rfl rfl rfl rfl (EL.skip rfl rfl rfl rfl (EL.pf rfl rfl rfl (EL.mv rfl rfl (EL.skip rfl rfl rfl rfl (EL.skip rfl rfl rfl rfl (EL.skip rfl rfl rfl rfl ?_)))))))));refine EL.pf rfl rfl rfl (EL.as rfl rfl (EL.nil (EX.seq (EC.ret ?_))))
    exact EX.done (res1 rfl rfl) ⟨by simp [lkB, *], hbw⟩
   ·
    refine EL.callg rfl rfl (cA3 cF41 rfl rfl rfl) rfl (YV k3 _) ?_
    rintro e w7 ⟨rfl, hc7⟩
    refine ⟨_, rfl, ?_⟩;replace q1 := q1.bl hc7;replace hbw := bo_ hbw hc7;clear hc7;refine EL.pt rfl rfl rfl (EL.mv rfl rfl (EL.valg rfl rfl (Ym rfl) rfl (EL.valg rfl rfl (ld_3 rfl (q1.at (j := 3) rfl)) rfl ?_)))
    cases k4 : inB 0 1000000 l.fill
    ·
     refine EL.callg rfl rfl (cA3 cF41 rfl rfl rfl) rfl (YV k4 _) ?_
     rintro e w8 ⟨rfl, hc8⟩
     refine ⟨_, rfl, ?_⟩;replace q1 := q1.bl hc8;replace hbw := bo_ hbw hc8;clear hc8;refine EL.pt rfl rfl rfl (EL.mv rfl rfl (EL.skip rfl rfl rfl rfl (EL.skip rfl rfl rfl rfl (EL.skip rfl rfl rfl rfl (EL.pf rfl rfl rfl (EL.as rfl rfl (EL.nil (EX.seq (EC.ret ?_)))))))))
     exact EX.done (res1 rfl rfl) ⟨by simp [lkB, *], hbw⟩
    ·
     refine EL.callg rfl rfl (cA3 cF41 rfl rfl rfl) rfl (YV k4 _) ?_
     rintro e w9 ⟨rfl, hc9⟩
     refine ⟨_, rfl, ?_⟩;replace q1 := q1.bl hc9;replace hbw := bo_ hbw hc9;clear hc9;refine EL.pt rfl rfl rfl (EL.mv rfl rfl (EL.valg rfl rfl (QD4 rfl) rfl (EL.valg rfl rfl (ld_3 rfl (q1.at (j := 4) rfl)) rfl ?_)))
     cases k5 : inB 0 90 l.save
     ·
      refine EL.callg rfl rfl (cA3 cF41 rfl rfl rfl) rfl (YV k5 _) ?_
      rintro e w10 ⟨rfl, hc10⟩
      refine ⟨_, rfl, ?_⟩;replace q1 := q1.bl hc10;replace hbw := bo_ hbw hc10;clear hc10;refine EL.pt rfl rfl rfl (EL.as rfl rfl (EL.nil (EX.seq (EC.ret ?_))))
      exact EX.done (res1 rfl rfl) ⟨by simp [lkB, *], hbw⟩
     ·
      refine EL.callg rfl rfl (cA3 cF41 rfl rfl rfl) rfl (YV k5 _) ?_
      rintro e w11 ⟨rfl, hc11⟩
      refine ⟨_, rfl, ?_⟩;replace q1 := q1.bl hc11;replace hbw := bo_ hbw hc11;clear hc11;refine EL.pt rfl rfl rfl (EL.as rfl rfl (EL.nil (EX.seq (EC.ret ?_))))
      exact EX.done (res1 rfl rfl) ⟨by simp [lkB, *], hbw⟩
theorem QCr {l : LK} {b : Bool} (h : lkB l = b) (w : World) : Calls Try.prog 19 #[.agg #[.int .i64 l.length, .int .i64 l.cycle, .int .i64 l.turn, .int .i64 l.fill, .int .i64 l.save, .bool l.high]] w fun e w' => e = .returned (.bool b) ∧ Below w.heap.size w w' := h ▸ QI6 l w
section
variable {l : LK} {ts : List TW}
theorem QHz (h : lkB l = true) (h1 : ¬8 < ts.length) (h2 : ts.all (twB l) = false) : towE l ts = 2 := by unfold towE; rw [if_pos h, if_neg h1, h2]; rfl
theorem QMu (h : lkB l = true) (h1 : ¬8 < ts.length) (h2 : ts.all (twB l) = true) : towE l ts = 0 := by unfold towE; rw [if_pos h, if_neg h1, h2]; rfl
end
theorem QI5 {l : LK} {ts : List TW} {v : Value} {w : World} {B : Nat} (hr : Rd w B 5 v ts.length (twsC ts)) (hB : B ≤ w.heap.size) (hn : ts.length ≤ 1000000) :
  Calls Try.prog 20 #[.agg #[.int .i64 l.length, .int .i64 l.cycle, .int .i64 l.turn, .int .i64 l.fill, .int .i64 l.save, .bool l.high], v] w fun e w' => e = .returned (.int .i64 (towE l ts)) ∧ Below w.heap.size w w' := by
 obtain ⟨At, ct, rfl, _⟩ := hr.shape;have hbw := Below.refl w.heap.size w;refine EC.enter 48 Try.func20 rfl rfl rfl (EC.seq (EC.region (EL.newP (QAQ rfl) rfl ?_)));intro g1 w1 q1 hb1 hg1 hl1;have bhbw_1 := Nat.le_trans hbw.size hg1;replace hbw := bo_ hbw hb1;clear hb1 hg1 hl1;refine EL.as rfl rfl (EL.nil (EX.seq (EC.seq (EC.seq (EC.region (EL.val (YC rfl (q1.at (j := 0) rfl) (q1.at (j := 1) rfl) (q1.at (j := 2) rfl) (q1.at (j := 3) rfl) (q1.at (j := 4) rfl) (q1.at (j := 5) rfl)) rfl ?_))))))
 cases h0 : lkB l
 ·
  refine EL.call (cA1 cF19 rfl) rfl (QCr h0 _) ?_
  rintro e w2 ⟨rfl, hc2⟩
  refine ⟨_, rfl, ?_⟩;replace q1 := q1.bl hc2;replace hbw := bo_ hbw hc2;clear hc2;refine EL.val (ZT rfl) rfl (EL.nil (EX.seq (EC.yes rfl (EC.seq (EC.region (EL.as rfl rfl (EL.nil (EX.seq (EC.ret ?_)))))))));refine EX.seq_ret ?_
  exact EX.done (res1 rfl rfl) ⟨by simp [towE, *], hbw⟩
 ·
  have hll := QHi h0;refine EL.call (cA1 cF19 rfl) rfl (QCr h0 _) ?_
  rintro e w3 ⟨rfl, hc3⟩
  refine ⟨_, rfl, ?_⟩;replace q1 := q1.bl hc3;replace hbw := bo_ hbw hc3;clear hc3;refine EL.val (ZT rfl) rfl (EL.nil (EX.seq (EC.no rfl (EC.skip (EX.seq (EC.seq (EC.seq (EC.region (EL.mv rfl rfl ?_)))))))));refine EL.val (Zx rfl) rfl ?_
  by_cases h1 : 8 < ts.length
  ·
   refine EL.val (Zq (r := true) rfl rfl (decide_eq_true (by omega))) rfl ?_
   refine EL.nil (EX.seq (EC.yes rfl (EC.seq (EC.region (EL.as rfl rfl (EL.nil (EX.seq (EC.ret (EX.seq_ret ?_)))))))))
   exact EX.done (res1 rfl rfl) ⟨by simp [towE, *], hbw⟩
  ·
   refine EL.val (Zq (r := false) rfl rfl (decide_eq_false (by omega))) rfl ?_
   refine EL.nil (EX.seq (EC.no rfl (EC.skip (EX.seq (EC.seq (EC.seq (EC.region (EL.as rfl rfl (EL.nil ?_)))))))));refine EX.seq (EC.block ?_);refine EC.loopD [4, 5, 6, 13, 14, 15, 16, 17, 18, 19, 20, 21, 22, 23, 24, 25, 26, 27, 28, 29, 30, 31, 32, 33, 34, 35, 36, 37, 38, 39, 40, 41, 42, 43, 44, 45, 46, 47] (fun k : Nat => [(5, .int .i64 (k : Nat))]) (fun k W => k ≤ ts.length ∧ (∀ i, i < k → twB l (ts.getD i tw0) = true) ∧ Blk W g1 23 #[.int .i64 l.length, .int .i64 l.cycle, .int .i64 l.turn, .int .i64 l.fill, .int .i64 l.save, .bool l.high] ∧ Below w.heap.size w W) (fun k => ts.length - k) 0 ⟨Nat.zero_le _, (fun i hi => absurd hi (Nat.not_lt_zero i)), q1, hbw⟩ ⟨rfl, trivial⟩ ?_
   clear q1 hbw
   rintro k wk ⟨hkn, hok, q1, hbw⟩
   by_cases hltk : k < ts.length
   ·
    obtain ⟨b, o, rfl, _, cc⟩ := Zt ts k hltk w B _ _ _ hr
    generalize hcx : ts.getD k tw0 = c at cc
    refine EC.seq (EC.seq (EC.region (EL.mv rfl rfl (EL.mv rfl rfl (EL.val (Zx rfl) rfl ?_)))));refine EL.val (ZQ (r := true) rfl rfl (decide_eq_true (by omega))) rfl ?_
    refine EL.nil (EX.seq (EC.yes rfl (EC.skip (EX.seq (EC.seq (EC.block (EC.seq (EC.region (EL.mv rfl rfl ?_)))))))));refine EL.mv rfl rfl (EL.val (YI rfl rfl hltk) rfl (EL.val (Y7 rfl (ZB hbw cc.c0) (ZB hbw cc.c1) (ZB hbw cc.c2) (ZB hbw cc.c3) (ZB hbw cc.c4)) rfl (EL.newP QHJ rfl ?_)));intro g4 w4 q4 hb4 hg4 hl4;have n1_4 := q1.na hg4;have bhbw_4 := Nat.le_trans hbw.size hg4;replace q1 := q1.bl hb4;replace hbw := bo_ hbw hb4;clear hb4 hg4 hl4;refine EL.store rfl rfl q4 QEF rfl rfl rfl rfl ?_;intro w5 hq5 hg5;replace q1 := q1.gr hg5 n1_4;replace hbw := ZE hbw hg5 bhbw_4;replace q4 := hq5;clear hg5 hq5;refine EL.nil (EX.seq (EC.seq (EC.region (EL.val (Ye rfl) rfl (EL.val (ld_3 rfl (q4.at (j := 1) rfl)) rfl ?_)))))
    cases k1 : inB 0 100000 c.arrive
    ·
     refine EL.call (cA3 cF41 rfl rfl rfl) rfl (YV k1 _) ?_
     rintro e w6 ⟨rfl, hc6⟩
     refine ⟨_, rfl, ?_⟩;replace q1 := q1.bl hc6;replace q4 := q4.bl hc6;replace hbw := bo_ hbw hc6;clear hc6;refine EL.val (ZT rfl) rfl (EL.mv rfl rfl (EL.skip rfl rfl rfl rfl (EL.skip rfl rfl rfl rfl (EL.skip rfl rfl rfl rfl (EL.skip rfl rfl rfl rfl (EL.skip rfl rfl rfl rfl (EL.skip rfl rfl rfl rfl (EL.skip rfl rfl rfl rfl (EL.pt rfl rfl rfl ?_)))))))));refine EL.mv rfl rfl (EL.skip rfl rfl rfl rfl (EL.skip rfl rfl rfl rfl (EL.skip rfl rfl rfl rfl (EL.skip rfl rfl rfl rfl (EL.pt rfl rfl rfl (EL.mv rfl rfl (EL.skip rfl rfl rfl rfl (EL.skip rfl rfl rfl rfl (EL.skip rfl rfl rfl rfl ?_)))))))));refine EL.skip rfl rfl rfl rfl (EL.pt rfl rfl rfl (EL.nil (EX.seq (EC.yes rfl (EC.seq (EC.region (EL.as rfl rfl (EL.nil (EX.seq ?_)))))))));refine EC.ret (EX.blk_ret (EX.seq_ret (EX.seq_ret (EX.blk_ret (EX.seq_ret ?_)))))
     exact EX.done (res1 rfl rfl) ⟨by rw [QHz h0 h1 (QD_ hltk (by rw [hcx]; simp only [twB, *, Bool.and_false, Bool.and_true, Bool.false_and, Bool.true_and]))], hbw⟩
    ·
     refine EL.call (cA3 cF41 rfl rfl rfl) rfl (YV k1 _) ?_
     rintro e w7 ⟨rfl, hc7⟩
     refine ⟨_, rfl, ?_⟩;replace q1 := q1.bl hc7;replace q4 := q4.bl hc7;replace hbw := bo_ hbw hc7;clear hc7;refine EL.val (ZT rfl) rfl (EL.mv rfl rfl (EL.valg rfl rfl (QD3 rfl) rfl (EL.valg rfl rfl (ld_3 rfl (q4.at (j := 2) rfl)) rfl (EL.valg rfl rfl (Yo rfl) rfl (EL.valg rfl rfl (ld_3 rfl (q1.at (j := 0) rfl)) rfl ?_)))));refine EL.valg rfl rfl (QAU rfl rfl (IntWalk.i64_in _ ⟨by omega, by omega⟩)) rfl ?_
     cases k2 : inB 1 (3 * l.length) c.length
     ·
      refine EL.callg rfl rfl (cA3 cF41 rfl rfl rfl) rfl (YV k2 _) ?_
      rintro e w8 ⟨rfl, hc8⟩
      refine ⟨_, rfl, ?_⟩;replace q1 := q1.bl hc8;replace q4 := q4.bl hc8;replace hbw := bo_ hbw hc8;clear hc8;refine EL.valg rfl rfl (ZT rfl) rfl (EL.pf rfl rfl rfl (EL.mv rfl rfl (EL.skip rfl rfl rfl rfl (EL.skip rfl rfl rfl rfl (EL.skip rfl rfl rfl rfl (EL.skip rfl rfl rfl rfl (EL.pt rfl rfl rfl (EL.mv rfl rfl (EL.skip rfl rfl rfl rfl ?_)))))))));refine EL.skip rfl rfl rfl rfl (EL.skip rfl rfl rfl rfl (EL.skip rfl rfl rfl rfl (EL.pt rfl rfl rfl (EL.nil (EX.seq (EC.yes rfl (EC.seq (EC.region (EL.as rfl rfl ?_)))))))));refine EL.nil (EX.seq (EC.ret (EX.blk_ret (EX.seq_ret (EX.seq_ret (EX.blk_ret (EX.seq_ret ?_)))))))
      exact EX.done (res1 rfl rfl) ⟨by rw [QHz h0 h1 (QD_ hltk (by rw [hcx]; simp only [twB, *, Bool.and_false, Bool.and_true, Bool.false_and, Bool.true_and]))], hbw⟩
     ·
      refine EL.callg rfl rfl (cA3 cF41 rfl rfl rfl) rfl (YV k2 _) ?_
      rintro e w9 ⟨rfl, hc9⟩
      refine ⟨_, rfl, ?_⟩;replace q1 := q1.bl hc9;replace q4 := q4.bl hc9;replace hbw := bo_ hbw hc9;clear hc9;refine EL.valg rfl rfl (ZT rfl) rfl (EL.pf rfl rfl rfl (EL.mv rfl rfl (EL.valg rfl rfl (QDC rfl) rfl (EL.valg rfl rfl (ld_3 rfl (q4.at (j := 3) rfl)) rfl ?_))))
      cases k3 : inB 0 100 c.weight
      ·
       refine EL.callg rfl rfl (cA3 cF41 rfl rfl rfl) rfl (YV k3 _) ?_
       rintro e w10 ⟨rfl, hc10⟩
       refine ⟨_, rfl, ?_⟩;replace q1 := q1.bl hc10;replace q4 := q4.bl hc10;replace hbw := bo_ hbw hc10;clear hc10;refine EL.valg rfl rfl (ZT rfl) rfl (EL.pf rfl rfl rfl (EL.mv rfl rfl (EL.skip rfl rfl rfl rfl (EL.skip rfl rfl rfl rfl (EL.skip rfl rfl rfl rfl (EL.skip rfl rfl rfl rfl (EL.pt rfl rfl rfl (EL.nil (EX.seq ?_)))))))));refine EC.yes rfl (EC.seq (EC.region (EL.as rfl rfl (EL.nil (EX.seq (EC.ret (EX.blk_ret (EX.seq_ret (EX.seq_ret ?_)))))))));refine EX.blk_ret (EX.seq_ret ?_)
       exact EX.done (res1 rfl rfl) ⟨by rw [QHz h0 h1 (QD_ hltk (by rw [hcx]; simp only [twB, *, Bool.and_false, Bool.and_true, Bool.false_and, Bool.true_and]))], hbw⟩
      ·
       refine EL.callg rfl rfl (cA3 cF41 rfl rfl rfl) rfl (YV k3 _) ?_
       rintro e w11 ⟨rfl, hc11⟩
       refine ⟨_, rfl, ?_⟩;replace q1 := q1.bl hc11;replace q4 := q4.bl hc11;replace hbw := bo_ hbw hc11;clear hc11;refine EL.valg rfl rfl (ZT rfl) rfl (EL.pf rfl rfl rfl (EL.mv rfl rfl (EL.valg rfl rfl (QDB rfl) rfl (EL.valg rfl rfl (ld_3 rfl (q4.at (j := 4) rfl)) rfl ?_))))
       cases k4 : inB 0 100000 c.push
       ·
        refine EL.callg rfl rfl (cA3 cF41 rfl rfl rfl) rfl (YV k4 _) ?_
        rintro e w12 ⟨rfl, hc12⟩
        refine ⟨_, rfl, ?_⟩;replace q1 := q1.bl hc12;replace q4 := q4.bl hc12;replace hbw := bo_ hbw hc12;clear hc12;refine EL.valg rfl rfl (ZT rfl) rfl (EL.pf rfl rfl rfl (EL.nil (EX.seq (EC.yes rfl (EC.seq (EC.region (EL.as rfl rfl (EL.nil (EX.seq ?_)))))))));refine EC.ret (EX.blk_ret (EX.seq_ret (EX.seq_ret (EX.blk_ret (EX.seq_ret ?_)))))
        exact EX.done (res1 rfl rfl) ⟨by rw [QHz h0 h1 (QD_ hltk (by rw [hcx]; simp only [twB, *, Bool.and_false, Bool.and_true, Bool.false_and, Bool.true_and]))], hbw⟩
       ·
        refine EL.callg rfl rfl (cA3 cF41 rfl rfl rfl) rfl (YV k4 _) ?_
        rintro e w13 ⟨rfl, hc13⟩
        refine ⟨_, rfl, ?_⟩;replace q1 := q1.bl hc13;replace q4 := q4.bl hc13;replace hbw := bo_ hbw hc13;clear hc13;refine EL.valg rfl rfl (ZT rfl) rfl (EL.pf rfl rfl rfl (EL.nil (EX.seq (EC.no rfl (EC.skip (EX.blk (EX.seq (EC.region (EL.mv rfl rfl ?_)))))))));refine EL.val (ZR rfl rfl (c := ((k + 1 : Nat) : Int)) ((IntWalk.i64_in _ ⟨by first | omega | (simp only; omega), by first | omega | (simp only; omega)⟩).trans (by first | omega | (simp only; omega)))) rfl ?_
        refine EL.as rfl rfl (EL.nil ?_);refine EX.roundD (k + 1) ⟨rfl, trivial⟩ (by repeat first | with_reducible exact .refl _ | refine sp_ rfl ?_ | exact .refl _ | refine sd_ rfl ?_ | refine sn_ ?_) ⟨hltk, (QAa hok (by rw [hcx]; simp only [twB, k1, k2, k3, k4, Bool.and_true])), q1, hbw⟩ (by omega)
   ·
    obtain rfl : k = ts.length := by omega
    have hall := QK2 hok;refine EC.seq (EC.seq (EC.region (EL.mv rfl rfl (EL.mv rfl rfl (EL.val (Zx rfl) rfl ?_)))));refine EL.val (ZQ (r := false) rfl rfl (decide_eq_false (by omega))) rfl ?_
    refine EL.nil (EX.seq (EC.no rfl (EC.exit (EX.seq_exit (EX.seq_exit (EX.blk_here (EX.seq (EC.seq (EC.region ?_)))))))));refine EL.as rfl rfl (EL.nil (EX.seq (EC.ret ?_)))
    exact EX.done (res1 rfl rfl) ⟨by rw [QMu h0 h1 hall], hbw⟩
/-- a state of the reference: the tows that wait, the runs, and the numbers of a state of the program -/
def rsV (vu vd vr : Value) (s : ST) : Value := .agg #[vu, vd, .int .i64 s.fr, .bool s.lk.high, vr, .int .i64 s.cost, .int .i64 s.mv, .int .i64 s.up, .int .i64 s.lo, .int .i64 s.ch, .int .i64 s.ba]
theorem QLX {s : ST} (h : s.lk.high = false) : mvS s = ⟨lkW s.lk true, s.up - s.lk.fill + s.ba, s.lo, s.ch + s.lk.fill, 0, s.mv + 1, s.fr, s.t0, s.t1, s.cost⟩ := by
 unfold mvS
 rw [if_neg (by rw [h]; decide)]
theorem QKB {s : ST} (h : s.lk.high = true) : mvS s = ⟨lkW s.lk false, s.up, s.lo + s.lk.fill - QAn s.lk, s.ch - s.lk.fill, s.ba + QAn s.lk, s.mv + 1, s.fr, s.t0, s.t1, s.cost⟩ := by
 unfold mvS
 rw [if_pos h]
section
variable {n : Nat} {σ : Sg} {w : World} {dst : Option Tmp} {ty : TypeId} {pos : String} {af : Array Edge} {g : Option (Nat × Bool)} {x y z : Operand} {at' : Array TypeId}
theorem QIn {v0 v1 v2 v3 v4 v5 v6 v7 v8 v9 v10 : Value} (hx : evS σ x = some (.agg #[v0, v1, v2, v3, v4, v5, v6, v7, v8, v9, v10])) (a : Act) (ha : Env n σ a) : (execOp a.eval ⟨dst, .box 45 x, ty, pos, af, g⟩).run Try.prog w = .ok (.value (.pointer (some ⟨w.heap.size, 0, none⟩))) (w.alloc (.cells #[v0, v1, v2, v3, v4, v5, v6, v7, v8, v9, v10] 45)) := by
 simp only [execOp, ha.eval hx]
 simp [go_sem]
theorem QBO (a : Act) (_ : Env n σ a) : (execOp a.eval ⟨dst, .alloc 45, ty, pos, af, g⟩).run Try.prog w = .ok (.value (.pointer (some ⟨w.heap.size, 0, none⟩))) (w.alloc (.cells #[.slice none 0 0, .slice none 0 0, .int .i64 0, .bool false, .slice none 0 0, .int .i64 0, .int .i64 0, .int .i64 0, .int .i64 0, .int .i64 0, .int .i64 0] 45)) := by
 simp only [execOp]
 simp [go_sem]
theorem YG {b o : Nat} (hx : evS σ x = some (.pointer (some ⟨b, o, none⟩))) : ZL Try.prog n σ w ⟨dst, .fieldAddr 45 x 7, ty, pos, af, g⟩ (.pointer (some ⟨b, o + 7, none⟩)) := fun a ha => by
 simp only [execOp, ha.eval hx]
 simp [go_sem]
theorem QDA {b o : Nat} (hx : evS σ x = some (.pointer (some ⟨b, o, none⟩))) : ZL Try.prog n σ w ⟨dst, .fieldAddr 45 x 6, ty, pos, af, g⟩ (.pointer (some ⟨b, o + 6, none⟩)) := fun a ha => by
 simp only [execOp, ha.eval hx]
 simp [go_sem]
theorem QD2 {b o : Nat} (hx : evS σ x = some (.pointer (some ⟨b, o, none⟩))) : ZL Try.prog n σ w ⟨dst, .fieldAddr 45 x 3, ty, pos, af, g⟩ (.pointer (some ⟨b, o + 3, none⟩)) := fun a ha => by
 simp only [execOp, ha.eval hx]
 simp [go_sem]
theorem Ys {b o : Nat} {v0 v1 v2 v3 v4 v5 v6 v7 v8 v9 v10 : Value} (hx : evS σ x = some (.pointer (some ⟨b, o, none⟩))) (c0 : w.cell? ⟨b, o, none⟩ = some v0) (c1 : w.cell? ⟨b, o + 1, none⟩ = some v1) (c2 : w.cell? ⟨b, o + 2, none⟩ = some v2) (c3 : w.cell? ⟨b, o + 3, none⟩ = some v3) (c4 : w.cell? ⟨b, o + 4, none⟩ = some v4) (c5 : w.cell? ⟨b, o + 5, none⟩ = some v5) (c6 : w.cell? ⟨b, o + 6, none⟩ = some v6) (c7 : w.cell? ⟨b, o + 7, none⟩ = some v7) (c8 : w.cell? ⟨b, o + 8, none⟩ = some v8) (c9 : w.cell? ⟨b, o + 9, none⟩ = some v9) (c10 : w.cell? ⟨b, o + 10, none⟩ = some v10) : ZL Try.prog n σ w ⟨dst, .load 45 x, ty, pos, af, g⟩ (.agg #[v0, v1, v2, v3, v4, v5, v6, v7, v8, v9, v10]) := fun a ha => by
 simp only [execOp, ha.eval hx]
 simp [go_sem, c0, c1, c2, c3, c4, c5, c6, c7, c8, c9, c10]
theorem YW : (Try.prog.info? 45).map (·.size) = some 11 := by kernel_rfl
theorem QBz {b o : Nat} {v0 v1 v2 v3 v4 v5 v6 v7 v8 v9 v10 : Value} (c0 : w.cell? ⟨b, o, none⟩ = some v0) (c1 : w.cell? ⟨b, o + 1, none⟩ = some v1) (c2 : w.cell? ⟨b, o + 2, none⟩ = some v2) (c3 : w.cell? ⟨b, o + 3, none⟩ = some v3) (c4 : w.cell? ⟨b, o + 4, none⟩ = some v4) (c5 : w.cell? ⟨b, o + 5, none⟩ = some v5) (c6 : w.cell? ⟨b, o + 6, none⟩ = some v6) (c7 : w.cell? ⟨b, o + 7, none⟩ = some v7) (c8 : w.cell? ⟨b, o + 8, none⟩ = some v8) (c9 : w.cell? ⟨b, o + 9, none⟩ = some v9) (c10 : w.cell? ⟨b, o + 10, none⟩ = some v10) : (loadVar 45 ⟨b, o, none⟩).run Try.prog w = .ok (.agg #[v0, v1, v2, v3, v4, v5, v6, v7, v8, v9, v10]) w := by
 simp [go_sem, loadVar, c0, c1, c2, c3, c4, c5, c6, c7, c8, c9, c10]
theorem cF78 : cF 78 := fun _ _ => by simp [go_sem]
theorem cF77 : cF 77 := fun _ _ => by simp [go_sem]
end
theorem QI7 {le cy tu fi sa up lo ch ba mv fr co M : Int} {hl : Bool} {t0 t1 : Nat} {Au Ad Ar : Option Addr} {nu cu nd cd nr cr : Nat} (hok : lkB ⟨le, cy, tu, fi, sa, false⟩ = true) (hB : WtB M ⟨⟨le, cy, tu, fi, sa, false⟩, up, lo, ch, ba, mv, fr, t0, t1, co⟩) (hM : M ≤ 1000000000000) (w : World) : Calls Try.prog 78 #[.agg #[.int .i64 le, .int .i64 cy, .int .i64 tu, .int .i64 fi, .int .i64 sa, .bool hl], .agg #[.slice Au nu cu, .slice Ad nd cd, .int .i64 fr, .bool false, .slice Ar nr cr, .int .i64 co, .int .i64 mv, .int .i64 up, .int .i64 lo, .int .i64 ch, .int .i64 ba]] w fun e w' => e = .returned (rsV (.slice Au nu cu) (.slice Ad nd cd) (.slice Ar nr cr) (mvS ⟨⟨le, cy, tu, fi, sa, false⟩, up, lo, ch, ba, mv, fr, t0, t1, co⟩)) ∧ Below w.heap.size w w' := by
 have k1 := QC6 hok;have k2 := QC7 hok;obtain ⟨_, _, _, k3, _⟩ := Y4 hok;have b1 := hB.up;have b2 := hB.lo;have b3 := hB.ch;have b4 := hB.mv;have b5 := hB.ba
 unfold QAn at k2 b5
 simp only at k1 k2 k3 b1 b2 b3 b4 b5
 clear hB;have hbw := Below.refl w.heap.size w;refine EC.enter 33 Try.func78 rfl rfl rfl (EC.seq (EC.region (EL.newP (QAQ rfl) rfl ?_)));intro g1 w1 q1 hb1 hg1 hl1;have bhbw_1 := Nat.le_trans hbw.size hg1;replace hbw := bo_ hbw hb1;clear hb1 hg1 hl1;refine EL.newP (QIn rfl) rfl ?_;intro g2 w2 q2 hb2 hg2 hl2;have n1_2 := q1.na hg2;have bhbw_2 := Nat.le_trans hbw.size hg2;replace q1 := q1.bl hb2;replace hbw := bo_ hbw hb2;clear hb2 hg2 hl2;refine EL.newP QBO rfl ?_;intro g3 w3 q3 hb3 hg3 hl3;have n1_3 := q1.na hg3;have n2_3 := q2.na hg3;have bhbw_3 := Nat.le_trans hbw.size hg3;replace q1 := q1.bl hb3;replace q2 := q2.bl hb3;replace hbw := bo_ hbw hb3;clear hb3 hg3 hl3;refine EL.nil (EX.seq (EC.seq (EC.region (EL.val (YG rfl) rfl (EL.val (YZ rfl) rfl (EL.val (ld_3 rfl (q2.at (j := 7) rfl)) rfl (EL.val (Ym rfl) rfl (EL.val (ld_3 rfl (q1.at (j := 3) rfl)) rfl (EL.val (YG rfl) rfl ?_)))))))));refine EL.val (QA1 rfl) rfl (EL.val (ld_3 rfl (q2.at (j := 10) rfl)) rfl ?_);refine EL.val (Zu rfl rfl (by first | assumption | exact IntWalk.i64_in _ ⟨by omega, by omega⟩)) rfl ?_
 refine EL.val (Zu rfl rfl (by first | assumption | exact IntWalk.i64_in _ ⟨by omega, by omega⟩)) rfl ?_
 refine EL.val (YG rfl) rfl (EL.val (YZ rfl) rfl (EL.store rfl rfl q2 sz_3 rfl rfl rfl rfl ?_));intro w4 hq4 hg4;replace q1 := q1.gr hg4 n1_2;replace q3 := q3.gr hg4 n2_3.symm;replace hbw := ZE hbw hg4 bhbw_2;replace q2 := hq4;clear hg4 hq4;refine EL.nil (EX.seq (EC.seq (EC.region (EL.val (YG rfl) rfl (EL.val (QA2 rfl) rfl (EL.val (ld_3 rfl (q2.at (j := 9) rfl)) rfl (EL.val (Ym rfl) rfl (EL.val (ld_3 rfl (q1.at (j := 3) rfl)) rfl ?_))))))));refine EL.val (ZR rfl rfl (by first | assumption | exact IntWalk.i64_in _ ⟨by omega, by omega⟩)) rfl ?_
 refine EL.val (YG rfl) rfl (EL.val (QA2 rfl) rfl (EL.store rfl rfl q2 sz_3 rfl rfl rfl rfl ?_));intro w5 hq5 hg5;replace q1 := q1.gr hg5 n1_2;replace q3 := q3.gr hg5 n2_3.symm;replace hbw := ZE hbw hg5 bhbw_2;replace q2 := hq5;clear hg5 hq5;refine EL.nil (EX.seq (EC.seq (EC.region (EL.val (QDA rfl) rfl (EL.val (ld_3 rfl (q2.at (j := 6) rfl)) rfl ?_)))));refine EL.val (ZR rfl rfl (by first | assumption | exact IntWalk.i64_in _ ⟨by omega, by omega⟩)) rfl ?_
 refine EL.val (YG rfl) rfl (EL.val (QA1 rfl) rfl (EL.store rfl rfl q2 sz_3 rfl rfl rfl rfl ?_));intro w6 hq6 hg6;replace q1 := q1.gr hg6 n1_2;replace q3 := q3.gr hg6 n2_3.symm;replace hbw := ZE hbw hg6 bhbw_2;replace q2 := hq6;clear hg6 hq6;refine EL.val (QD2 rfl) rfl (EL.store rfl rfl q2 sz_4 rfl rfl rfl rfl ?_);intro w7 hq7 hg7;replace q1 := q1.gr hg7 n1_2;replace q3 := q3.gr hg7 n2_3.symm;replace hbw := ZE hbw hg7 bhbw_2;replace q2 := hq7;clear hg7 hq7;refine EL.val (QDA rfl) rfl (EL.store rfl rfl q2 sz_3 rfl rfl rfl rfl ?_);intro w8 hq8 hg8;replace q1 := q1.gr hg8 n1_2;replace q3 := q3.gr hg8 n2_3.symm;replace hbw := ZE hbw hg8 bhbw_2;replace q2 := hq8;clear hg8 hq8;refine EL.nil (EX.seq (EC.seq (EC.region (EL.val (Ys rfl (q2.at (j := 0) rfl) (q2.at (j := 1) rfl) (q2.at (j := 2) rfl) (q2.at (j := 3) rfl) (q2.at (j := 4) rfl) (q2.at (j := 5) rfl) (q2.at (j := 6) rfl) (q2.at (j := 7) rfl) (q2.at (j := 8) rfl) (q2.at (j := 9) rfl) (q2.at (j := 10) rfl)) rfl (EL.store rfl rfl q3 YW rfl rfl rfl rfl ?_)))));intro w9 hq9 hg9;replace q1 := q1.gr hg9 n1_3;replace q2 := q2.gr hg9 n2_3;replace hbw := ZE hbw hg9 bhbw_3;replace q3 := hq9;clear hg9 hq9;refine EL.nil (EX.seq (EC.ret ?_))
 exact EX.done (QCO rfl rfl (QBz (q3.at (j := 0) rfl) (q3.at (j := 1) rfl) (q3.at (j := 2) rfl) (q3.at (j := 3) rfl) (q3.at (j := 4) rfl) (q3.at (j := 5) rfl) (q3.at (j := 6) rfl) (q3.at (j := 7) rfl) (q3.at (j := 8) rfl) (q3.at (j := 9) rfl) (q3.at (j := 10) rfl))) ⟨by rw [QLX rfl]; simp only [rsV, lkW, QAn]; rw [show up - fi + ba = up - (fi - ba) by omega], hbw⟩
theorem QHY {le cy tu fi sa up lo ch ba mv fr co M : Int} {hl : Bool} {t0 t1 : Nat} {Au Ad Ar : Option Addr} {nu cu nd cd nr cr : Nat} (hok : lkB ⟨le, cy, tu, fi, sa, true⟩ = true) (hB : WtB M ⟨⟨le, cy, tu, fi, sa, true⟩, up, lo, ch, ba, mv, fr, t0, t1, co⟩) (hM : M ≤ 1000000000000) (w : World) : Calls Try.prog 77 #[.agg #[.int .i64 le, .int .i64 cy, .int .i64 tu, .int .i64 fi, .int .i64 sa, .bool hl], .agg #[.slice Au nu cu, .slice Ad nd cd, .int .i64 fr, .bool true, .slice Ar nr cr, .int .i64 co, .int .i64 mv, .int .i64 up, .int .i64 lo, .int .i64 ch, .int .i64 ba]] w fun e w' => e = .returned (rsV (.slice Au nu cu) (.slice Ad nd cd) (.slice Ar nr cr) (mvS ⟨⟨le, cy, tu, fi, sa, true⟩, up, lo, ch, ba, mv, fr, t0, t1, co⟩)) ∧ Below w.heap.size w w' := by
 have k1 := QC6 hok;have k2 := QC7 hok;obtain ⟨_, _, _, k3, _⟩ := Y4 hok;have b1 := hB.up;have b2 := hB.lo;have b3 := hB.ch;have b4 := hB.mv;have b5 := hB.ba
 unfold QAn at k2 b5
 simp only at k1 k2 k3 b1 b2 b3 b4 b5
 clear hB;have hbw := Below.refl w.heap.size w;refine EC.enter 43 Try.func77 rfl rfl rfl (EC.seq (EC.region (EL.newP (QAQ rfl) rfl ?_)));intro g1 w1 q1 hb1 hg1 hl1;have bhbw_1 := Nat.le_trans hbw.size hg1;replace hbw := bo_ hbw hb1;clear hb1 hg1 hl1;refine EL.newP (QIn rfl) rfl ?_;intro g2 w2 q2 hb2 hg2 hl2;have n1_2 := q1.na hg2;have bhbw_2 := Nat.le_trans hbw.size hg2;replace q1 := q1.bl hb2;replace hbw := bo_ hbw hb2;clear hb2 hg2 hl2;refine EL.newP QBO rfl ?_;intro g3 w3 q3 hb3 hg3 hl3;have n1_3 := q1.na hg3;have n2_3 := q2.na hg3;have bhbw_3 := Nat.le_trans hbw.size hg3;replace q1 := q1.bl hb3;replace q2 := q2.bl hb3;replace hbw := bo_ hbw hb3;clear hb3 hg3 hl3;refine EL.nil (EX.seq (EC.seq (EC.region (EL.val (Ym rfl) rfl (EL.val (ld_3 rfl (q1.at (j := 3) rfl)) rfl (EL.val (QD4 rfl) rfl (EL.val (ld_3 rfl (q1.at (j := 4) rfl)) rfl ?_)))))));refine EL.val (QAU rfl rfl (by first | assumption | exact IntWalk.i64_in _ ⟨by omega, by omega⟩)) rfl ?_
 refine EL.val (QHx rfl rfl (by decide) (by first | assumption | exact IntWalk.i64_in _ ⟨by omega, by omega⟩)) rfl ?_
 refine EL.as rfl rfl (EL.nil (EX.seq (EC.seq (EC.region (EL.val (YG rfl) rfl (EL.val (QAH rfl) rfl (EL.val (ld_3 rfl (q2.at (j := 8) rfl)) rfl (EL.val (Ym rfl) rfl (EL.val (ld_3 rfl (q1.at (j := 3) rfl)) rfl ?_)))))))));refine EL.mv rfl rfl ?_;refine EL.val (Zu rfl rfl (by first | assumption | exact IntWalk.i64_in _ ⟨by omega, by omega⟩)) rfl ?_
 refine EL.val (ZR rfl rfl (by first | assumption | exact IntWalk.i64_in _ ⟨by omega, by omega⟩)) rfl ?_
 refine EL.val (YG rfl) rfl (EL.val (QAH rfl) rfl (EL.store rfl rfl q2 sz_3 rfl rfl rfl rfl ?_));intro w4 hq4 hg4;replace q1 := q1.gr hg4 n1_2;replace q3 := q3.gr hg4 n2_3.symm;replace hbw := ZE hbw hg4 bhbw_2;replace q2 := hq4;clear hg4 hq4;refine EL.nil (EX.seq (EC.seq (EC.region (EL.val (YG rfl) rfl (EL.val (QA2 rfl) rfl (EL.val (ld_3 rfl (q2.at (j := 9) rfl)) rfl (EL.val (Ym rfl) rfl (EL.val (ld_3 rfl (q1.at (j := 3) rfl)) rfl ?_))))))));refine EL.val (Zu rfl rfl (by first | assumption | exact IntWalk.i64_in _ ⟨by omega, by omega⟩)) rfl ?_
 refine EL.val (YG rfl) rfl (EL.val (QA2 rfl) rfl (EL.store rfl rfl q2 sz_3 rfl rfl rfl rfl ?_));intro w5 hq5 hg5;replace q1 := q1.gr hg5 n1_2;replace q3 := q3.gr hg5 n2_3.symm;replace hbw := ZE hbw hg5 bhbw_2;replace q2 := hq5;clear hg5 hq5;refine EL.nil (EX.seq (EC.seq (EC.region (EL.val (YG rfl) rfl (EL.val (QA1 rfl) rfl (EL.val (ld_3 rfl (q2.at (j := 10) rfl)) rfl (EL.mv rfl rfl ?_)))))));refine EL.val (ZR rfl rfl (by first | assumption | exact IntWalk.i64_in _ ⟨by omega, by omega⟩)) rfl ?_
 refine EL.val (QDA rfl) rfl (EL.val (ld_3 rfl (q2.at (j := 6) rfl)) rfl ?_);refine EL.val (ZR rfl rfl (by first | assumption | exact IntWalk.i64_in _ ⟨by omega, by omega⟩)) rfl ?_
 refine EL.val (YG rfl) rfl (EL.val (QA1 rfl) rfl (EL.store rfl rfl q2 sz_3 rfl rfl rfl rfl ?_));intro w6 hq6 hg6;replace q1 := q1.gr hg6 n1_2;replace q3 := q3.gr hg6 n2_3.symm;replace hbw := ZE hbw hg6 bhbw_2;replace q2 := hq6;clear hg6 hq6;refine EL.val (QD2 rfl) rfl (EL.store rfl rfl q2 sz_4 rfl rfl rfl rfl ?_);intro w7 hq7 hg7;replace q1 := q1.gr hg7 n1_2;replace q3 := q3.gr hg7 n2_3.symm;replace hbw := ZE hbw hg7 bhbw_2;replace q2 := hq7;clear hg7 hq7;refine EL.val (QDA rfl) rfl (EL.store rfl rfl q2 sz_3 rfl rfl rfl rfl ?_);intro w8 hq8 hg8;replace q1 := q1.gr hg8 n1_2;replace q3 := q3.gr hg8 n2_3.symm;replace hbw := ZE hbw hg8 bhbw_2;replace q2 := hq8;clear hg8 hq8;refine EL.nil (EX.seq (EC.seq (EC.region (EL.val (Ys rfl (q2.at (j := 0) rfl) (q2.at (j := 1) rfl) (q2.at (j := 2) rfl) (q2.at (j := 3) rfl) (q2.at (j := 4) rfl) (q2.at (j := 5) rfl) (q2.at (j := 6) rfl) (q2.at (j := 7) rfl) (q2.at (j := 8) rfl) (q2.at (j := 9) rfl) (q2.at (j := 10) rfl)) rfl (EL.store rfl rfl q3 YW rfl rfl rfl rfl ?_)))));intro w9 hq9 hg9;replace q1 := q1.gr hg9 n1_3;replace q2 := q2.gr hg9 n2_3;replace hbw := ZE hbw hg9 bhbw_3;replace q3 := hq9;clear hg9 hq9;refine EL.nil (EX.seq (EC.ret ?_))
 exact EX.done (QCO rfl rfl (QBz (q3.at (j := 0) rfl) (q3.at (j := 1) rfl) (q3.at (j := 2) rfl) (q3.at (j := 3) rfl) (q3.at (j := 4) rfl) (q3.at (j := 5) rfl) (q3.at (j := 6) rfl) (q3.at (j := 7) rfl) (q3.at (j := 8) rfl) (q3.at (j := 9) rfl) (q3.at (j := 10) rfl))) ⟨by rw [QKB rfl]; simp only [rsV, lkW, QAn]; rw [show lo + fi - (fi * sa).tdiv 100 = lo + (fi - (fi * sa).tdiv 100) by omega], hbw⟩
theorem QLJ {le cy tu fi sa up lo ch ba mv fr co M : Int} {hl hi : Bool} {t0 t1 : Nat} {Au Ad Ar : Option Addr} {nu cu nd cd nr cr : Nat} (hok : lkB ⟨le, cy, tu, fi, sa, hi⟩ = true) (hB : WtB M ⟨⟨le, cy, tu, fi, sa, hi⟩, up, lo, ch, ba, mv, fr, t0, t1, co⟩) (hM : M ≤ 1000000000000) (w : World) : Calls Try.prog 58 #[.agg #[.int .i64 le, .int .i64 cy, .int .i64 tu, .int .i64 fi, .int .i64 sa, .bool hl], .agg #[.slice Au nu cu, .slice Ad nd cd, .int .i64 fr, .bool hi, .slice Ar nr cr, .int .i64 co, .int .i64 mv, .int .i64 up, .int .i64 lo, .int .i64 ch, .int .i64 ba]] w fun e w' => e = .returned (rsV (.slice Au nu cu) (.slice Ad nd cd) (.slice Ar nr cr) (mvS ⟨⟨le, cy, tu, fi, sa, hi⟩, up, lo, ch, ba, mv, fr, t0, t1, co⟩)) ∧ Below w.heap.size w w' := by
 have hbw := Below.refl w.heap.size w;refine EC.enter 13 Try.func58 rfl rfl rfl (EC.seq (EC.region (EL.newP (QAQ rfl) rfl ?_)));intro g1 w1 q1 hb1 hg1 hl1;have bhbw_1 := Nat.le_trans hbw.size hg1;replace hbw := bo_ hbw hb1;clear hb1 hg1 hl1;refine EL.newP (QIn rfl) rfl ?_;intro g2 w2 q2 hb2 hg2 hl2;have n1_2 := q1.na hg2;have bhbw_2 := Nat.le_trans hbw.size hg2;replace q1 := q1.bl hb2;replace hbw := bo_ hbw hb2;clear hb2 hg2 hl2;refine EL.newP QBO rfl ?_;intro g3 w3 q3 hb3 hg3 hl3;have n1_3 := q1.na hg3;have n2_3 := q2.na hg3;have bhbw_3 := Nat.le_trans hbw.size hg3;replace q1 := q1.bl hb3;replace q2 := q2.bl hb3;replace hbw := bo_ hbw hb3;clear hb3 hg3 hl3;refine EL.nil (EX.seq (EC.seq (EC.seq (EC.region (EL.val (QD2 rfl) rfl (EL.val (ld_4 rfl (q2.at (j := 3) rfl)) rfl (EL.nil (EX.seq ?_))))))))
 cases hi
 ·
  refine EC.no rfl (EC.skip (EX.seq (EC.seq (EC.region (EL.val (YC rfl (q1.at (j := 0) rfl) (q1.at (j := 1) rfl) (q1.at (j := 2) rfl) (q1.at (j := 3) rfl) (q1.at (j := 4) rfl) (q1.at (j := 5) rfl)) rfl (EL.val (Ys rfl (q2.at (j := 0) rfl) (q2.at (j := 1) rfl) (q2.at (j := 2) rfl) (q2.at (j := 3) rfl) (q2.at (j := 4) rfl) (q2.at (j := 5) rfl) (q2.at (j := 6) rfl) (q2.at (j := 7) rfl) (q2.at (j := 8) rfl) (q2.at (j := 9) rfl) (q2.at (j := 10) rfl)) rfl (EL.call (cA2 cF78 rfl rfl) rfl (QI7 hok hB hM _) ?_)))))))
  rintro e w4 ⟨rfl, hc4⟩
  refine ⟨_, rfl, ?_⟩;replace q1 := q1.bl hc4;replace q2 := q2.bl hc4;replace q3 := q3.bl hc4;replace hbw := bo_ hbw hc4;clear hc4;refine EL.store rfl rfl q3 YW rfl rfl rfl rfl ?_;intro w5 hq5 hg5;replace q1 := q1.gr hg5 n1_3;replace q2 := q2.gr hg5 n2_3;replace hbw := ZE hbw hg5 bhbw_3;replace q3 := hq5;clear hg5 hq5;refine EL.nil (EX.seq (EC.ret ?_))
  exact EX.done (QCO rfl rfl (QBz (q3.at (j := 0) rfl) (q3.at (j := 1) rfl) (q3.at (j := 2) rfl) (q3.at (j := 3) rfl) (q3.at (j := 4) rfl) (q3.at (j := 5) rfl) (q3.at (j := 6) rfl) (q3.at (j := 7) rfl) (q3.at (j := 8) rfl) (q3.at (j := 9) rfl) (q3.at (j := 10) rfl))) ⟨rfl, hbw⟩
 ·
  refine EC.yes rfl (EC.seq (EC.region (EL.val (YC rfl (q1.at (j := 0) rfl) (q1.at (j := 1) rfl) (q1.at (j := 2) rfl) (q1.at (j := 3) rfl) (q1.at (j := 4) rfl) (q1.at (j := 5) rfl)) rfl (EL.val (Ys rfl (q2.at (j := 0) rfl) (q2.at (j := 1) rfl) (q2.at (j := 2) rfl) (q2.at (j := 3) rfl) (q2.at (j := 4) rfl) (q2.at (j := 5) rfl) (q2.at (j := 6) rfl) (q2.at (j := 7) rfl) (q2.at (j := 8) rfl) (q2.at (j := 9) rfl) (q2.at (j := 10) rfl)) rfl (EL.call (cA2 cF77 rfl rfl) rfl (QHY hok hB hM _) ?_)))))
  rintro e w6 ⟨rfl, hc6⟩
  refine ⟨_, rfl, ?_⟩;replace q1 := q1.bl hc6;replace q2 := q2.bl hc6;replace q3 := q3.bl hc6;replace hbw := bo_ hbw hc6;clear hc6;refine EL.store rfl rfl q3 YW rfl rfl rfl rfl ?_;intro w7 hq7 hg7;replace q1 := q1.gr hg7 n1_3;replace q2 := q2.gr hg7 n2_3;replace hbw := ZE hbw hg7 bhbw_3;replace q3 := hq7;clear hg7 hq7;refine EL.nil (EX.seq (EC.ret (EX.seq_ret ?_)))
  exact EX.done (QCO rfl rfl (QBz (q3.at (j := 0) rfl) (q3.at (j := 1) rfl) (q3.at (j := 2) rfl) (q3.at (j := 3) rfl) (q3.at (j := 4) rfl) (q3.at (j := 5) rfl) (q3.at (j := 6) rfl) (q3.at (j := 7) rfl) (q3.at (j := 8) rfl) (q3.at (j := 9) rfl) (q3.at (j := 10) rfl))) ⟨rfl, hbw⟩
section
variable {n : Nat} {σ : Sg} {w : World} {dst : Option Tmp} {ty : TypeId} {pos : String} {af : Array Edge} {g : Option (Nat × Bool)} {x y z : Operand} {at' : Array TypeId}
theorem QIp (a : Act) (_ : Env n σ a) : (execOp a.eval ⟨dst, .buildSlice 24 0 #[], ty, pos, af, g⟩).run Try.prog w = .ok (.value (.slice (some ⟨w.heap.size, 0, none⟩) 0 0)) (w.alloc (.cells #[] 39)) := by
 simp only [execOp]
 go_simp
end
theorem QFl {n : Nat} {σ : Sg} {w : World} {dst : Option Tmp} {ty : TypeId} {pos : String} {af : Array Edge} {g : Option (Nat × Bool)} {x y : Operand} {a b r : Bool} (hx : evS σ x = some (.bool a)) (hy : evS σ y = some (.bool b)) (hc : decide (a ≠ b) = r) : ZL Try.prog n σ w ⟨dst, .binOp .neq 4 x y 4, ty, pos, af, g⟩ (.bool r) := fun _ ha => by
 simp only [execOp, ha.eval hx, ha.eval hy]
 subst hc
 cases a <;> cases b <;> simp [go_sem]
section
variable {P : Program} {n : Nat} {L : List Oper} {Q : Exit → Act → World → Prop} {cls : List (List Nat)} {alc : List Nat} {w1 : World} {Φ : Nat → (Nat → Bool) → (Nat → Value) → World → Prop} {i : Nat} {val : Nat → Value} {a : Act} {σ : Sg} {fl : Nat → Bool}
theorem QH7 {d ty t e size bytes base B mm k : Nat} {s x : Operand} {pos : String} {af : Array Edge} {A : Option Addr} (E : Elem P t e size bytes) {src : Value} {xs news : List Value} (ha : Env n σ a) (ho : nthO L i = some ⟨some d, .call { callee := .builtin .append, args := #[s, x], argTypes := #[t, t] }, ty, pos, af, none⟩) (hs : evS σ s = some (.slice A k k)) (hx : evS σ x = some src)
  (hown : w1.ownsRow base e size (.slice A k k) k xs) (hr : Rd w1 B size src mm news) (h1 : ∀ u ∈ news, u.oneCell' = true) (hm : k + mm ≤ 1048576) (hby : Nat.ble bytes 1048576 = true) (hbase : base ≤ w1.heap.size) (halc : memB alc i = false)
  (hΦ : ∀ v' w', w'.ownsRow base e size v' (k + mm) (xs ++ news) → Φ i fl (res (upd val i v') i (clsAt cls i)) w') : wpOp P L.toArray Q i (SK fl L cls alc Φ i val a w1) a w1 := by
 obtain ⟨v', w', h2, h3, h4, _⟩ := QJu (P := P) (ty := ty) E hown hr h1 hm (by simpa [Nat.ble_eq] using hby) hbase
 exact QFs ho rfl (Z4 rfl (ha.eval hs) (ha.eval hx) h2) h4 (hΦ v' w' h3) fun h => by rw [ZA.2 h] at halc; cases halc
end
/-- the first k elements of a row of one's own -/
theorem QEV {w : World} {base e size n k g c : Nat} {xs : List Value} (h : w.ownsRow base e size (.slice (some ⟨g, 0, none⟩) n c) n xs) (hk : k ≤ n) : w.ownsRow base e size (.slice (some ⟨g, 0, none⟩) k c) k (xs.take (k * size)) := by
 have hm := Nat.mul_le_mul_right size hk;obtain ⟨hl, ⟨h0, _⟩ | ⟨g2, cap, cur, hv, hb, hg, h1, h2, h3, h4⟩⟩ := h
 ·cases h0
 ·injection hv with hv _ hc
  injection hv with hv
  injection hv with hv _
  subst hv;subst hc;refine ⟨by rw [List.length_take]; omega, .inr ⟨g, c, cur, rfl, hb, hg, by omega, h2, h3, ?_⟩⟩
  rw [← h4, List.take_take]
  congr 1
  omega
theorem QEw (x : TW) (l : List TW) : ∀ u ∈ [.bool x.up, .int .i64 x.arrive, .int .i64 x.length, .int .i64 x.weight, .int .i64 x.push] ++ twsC l, u.oneCell' = true := twsC_one (x :: l)
/-- the queue of a direction, of the first k tows -/
def qk (ts : List TW) (u : Bool) (k : Nat) : List TW := Yg (fU u (ts.take k))
theorem QFO (ts : List TW) (u : Bool) (k : Nat) : ArrT (qk ts u k) := QCo _
theorem QMV {ts : List TW} {u : Bool} : qk ts u ts.length = qL ts u := by unfold qk; rw [List.take_length]; rfl
theorem QMU (ts : List TW) (u : Bool) (k : Nat) : (qk ts u k).length ≤ ts.length := by
 unfold qk
 rw [(QBS _).length_eq]
 exact Nat.le_trans (List.length_filter_le ..) (by rw [List.length_take]; omega)
theorem QLN {ts : List TW} {u : Bool} {k : Nat} (h : k < ts.length) : qk ts u (k + 1) = if (ts.getD k tw0).up = u then insT (ts.getD k tw0) (qk ts u k) else qk ts u k := by
 unfold qk fU
 rw [Z1 (d := tw0) h, List.filter_append]
 by_cases e : (ts.getD k tw0).up = u
 ·rw [if_pos e, List.filter_cons_of_pos (p := fun t : TW => t.up == u) (beq_iff_eq.2 e), List.filter_nil, QEI]
 ·rw [if_neg e, List.filter_cons_of_neg (p := fun t : TW => t.up == u) (fun h => e (beq_iff_eq.1 h)), List.filter_nil, List.append_nil]
theorem QHq (j : Nat) (p : Nat → Prop) : j = 0 ∨ (∃ i, j = i + 1 ∧ p i) ∨ ∃ i, j = i + 1 ∧ ¬p i := by
 rcases j with _ | i
 ·exact .inl rfl
 ·by_cases h : p i
  ·exact .inr (.inl ⟨i, rfl, h⟩)
  ·exact .inr (.inr ⟨i, rfl, h⟩)
theorem QJT {p : Nat → Prop} {i n : Nat} (h : ∀ a, i + 1 ≤ a → a < n → p a) (hi : p i) : ∀ a, i ≤ a → a < n → p a := fun a h1 h2 => by
 rcases Nat.lt_or_eq_of_le h1 with h3 | rfl
 ·exact h a h3 h2
 ·exact hi
/-- where a tow is put into a queue -/
theorem QKX {x : TW} {l : List TW} {k : Nat} (hs : ArrT l) (hk : k ≤ l.length) (hb : ∀ i, k ≤ i → i < l.length → x.arrive < (l.getD i tw0).arrive) (hl : k = 0 ∨ ¬x.arrive < (l.getD (k - 1) tw0).arrive) : insT x l = l.take k ++ x :: l.drop k := by
 have h1 : ∀ q ∈ l.drop k, x.arrive < q.arrive := fun q hq => by
  obtain ⟨i, hi, rfl⟩ := List.getElem_of_mem hq;rw [List.length_drop] at hi;have := hb (k + i) (by omega) (by omega)
  rw [Zm (by omega)] at this
  rwa [List.getElem_drop]
 have h2 : ∀ p ∈ l.take k, ¬x.arrive < p.arrive := fun p hp => by
  rcases hl with rfl | hl
  ·simp at hp
  ·rcases Nat.eq_zero_or_pos k with rfl | h0
   ·simp at hp
   ·have e : l.take k = l.take (k - 1) ++ [l.getD (k - 1) tw0] := by rw [← Z1 (by omega), Nat.sub_add_cancel h0]
    rw [e] at hp;have hs2 : ArrT ((l.take (k - 1) ++ [l.getD (k - 1) tw0]) ++ l.drop k) := by rw [← e, List.take_append_drop]; exact hs
    exact QHG hs2 hl p hp
 have h3 := QBb h2 h1;rw [List.take_append_drop] at h3
 exact h3
set_option maxRecDepth 100000 in
theorem QBX {ts : List TW} {u : Bool} {v : Value} {w : World} {B : Nat} (hr : Rd w B 5 v ts.length (twsC ts)) (hB : B ≤ w.heap.size) (hn : ts.length ≤ 1000000) :
  Calls Try.prog 42 #[v, .bool u] w fun e w' => (∃ v', e = .returned v' ∧ w'.ownsRow w.heap.size 39 5 v' (qL ts u).length (twsC (qL ts u))) ∧ Below w.heap.size w w' := by
 obtain ⟨At, ct, rfl, _⟩ := hr.shape;have hbw := Below.refl w.heap.size w;refine EC.enter 56 Try.func42 rfl rfl rfl (EC.seq (EC.region (EL.as rfl rfl (EL.nil (EX.seq (EC.seq (EC.region ?_)))))));have hsz := hbw.size;refine EL.newS QIp rfl ?_;intro g1 w1 q1 hb1 hg1 hl1;have bhbw_1 := Nat.le_trans hbw.size hg1;replace hbw := bo_ hbw hb1;clear hb1 hl1;refine EL.as rfl rfl (EL.nil (EX.seq (EC.seq (EC.seq (EC.region (EL.as rfl rfl (EL.nil (EX.seq (EC.block ?_)))))))));refine EC.loopD [5, 6, 7, 9, 10, 11, 12, 13, 14, 15, 16, 17, 18, 19, 20, 21, 22, 23, 24, 25, 26, 27, 28, 29, 30, 31, 32, 33, 34, 35, 36, 37, 38, 39, 40, 41, 42, 43, 44, 45, 46, 47, 48, 49, 50, 51, 52, 53, 54] (fun i : Nat × Nat × Nat × Nat => [(6, .int .i64 (i.1 : Nat)), (5, .slice (some ⟨i.2.1, 0, none⟩) i.2.2.1 i.2.2.2)]) (fun i W => i.1 ≤ ts.length ∧ W.ownsRow w.heap.size 39 5 (.slice (some ⟨i.2.1, 0, none⟩) i.2.2.1 i.2.2.2) i.2.2.1 (twsC (qk ts u i.1)) ∧ Below w.heap.size w W) (fun i => ts.length - i.1) (0, g1, 0, 0) ⟨Nat.zero_le _, QFP 5 q1 (Nat.le_trans hsz hg1), hbw⟩ ⟨rfl, rfl, trivial⟩ ?_
 clear q1 hbw
 rintro ⟨k, g, n, c⟩ wk ⟨hkn, hout, hbw⟩
 simp only at hkn hout
 change wk.ownsRow w.heap.size 39 5 (.slice (some ⟨g, 0, none⟩) n c) n (twsC (qk ts u k)) at hout;have hnl : n = (qk ts u k).length := by have := hout.1; rw [QAh] at this; omega
 have hql := QMU ts u k
 by_cases hltk : k < ts.length
 ·
  obtain ⟨b, o, rfl, _, cc⟩ := Zt ts k hltk w B _ _ _ hr;have hstep := QLN (u := u) hltk
  generalize hx : ts.getD k tw0 = x at cc hstep
  refine EC.seq (EC.seq (EC.region (EL.mv rfl rfl (EL.mv rfl rfl (EL.val (Zx rfl) rfl ?_)))));refine EL.val (ZQ (r := true) rfl rfl (decide_eq_true (by omega))) rfl ?_
  refine EL.nil (EX.seq (EC.yes rfl (EC.skip (EX.seq (EC.seq (EC.block (EC.seq (EC.seq (EC.region ?_)))))))));refine EL.mv rfl rfl (EL.mv rfl rfl (EL.val (YI rfl rfl hltk) rfl (EL.val (QIh rfl) rfl (EL.val (ld_4 rfl (ZB hbw cc.c0)) rfl (EL.mv rfl rfl ?_)))))
  by_cases hxu : x.up = u
  ·
   refine EL.val (QFl (r := false) rfl rfl (by simp [hxu])) rfl ?_
   refine EL.nil (EX.seq (EC.no rfl (EC.skip (EX.seq (EC.seq (EC.region (EL.mv rfl rfl (EL.val (Zx rfl) rfl (EL.as rfl rfl ?_)))))))));refine EL.nil (EX.seq (EC.seq (EC.block ?_)));rw [if_pos hxu] at hstep;refine EC.loopD [7, 24, 25, 26, 27, 28, 29, 30, 31, 32, 33, 34, 35, 36, 37, 38, 39, 40, 41] (fun j : Nat => [(7, .int .i64 (j : Nat))]) (fun j W => j ≤ n ∧ (∀ i, j ≤ i → i < n → x.arrive < ((qk ts u k).getD i tw0).arrive) ∧ W.ownsRow w.heap.size 39 5 (.slice (some ⟨g, 0, none⟩) n c) n (twsC (qk ts u k)) ∧ Below w.heap.size w W) (fun j => j) n ⟨Nat.le_refl _, (fun i h1 h2 => absurd h1 (by omega)), hout, hbw⟩ ⟨rfl, trivial⟩ ?_
   clear hout hbw
   rintro j wj ⟨hjn, hbig, hout, hbw⟩
   rcases QHq j (fun i => x.arrive < ((qk ts u k).getD i tw0).arrive) with rfl | ⟨i, rfl, hlt⟩ | ⟨i, rfl, hlt⟩
   ·
    have hins := QKX (x := x) (k := 0) (QFO ts u k) (by omega) (fun i h1 h2 => hbig i h1 (by omega)) (.inl rfl)
    refine EC.seq (EC.seq ?_);refine EC.regionQ (by kernel_rfl) (by kernel_rfl) ?_
    refine EQ.mv rfl rfl ?_;refine EQ.val (fun _ hw => (Zq (r := false) rfl rfl (decide_eq_false (by omega)))) rfl ?_
    refine EQ.mv rfl rfl (EQ.skip rfl rfl rfl rfl (EQ.skip rfl rfl rfl rfl (EQ.skip rfl rfl rfl rfl (EQ.skip rfl rfl rfl rfl (EQ.skip rfl rfl rfl rfl (EQ.skip rfl rfl rfl rfl (EQ.skip rfl rfl rfl rfl (EQ.skip rfl rfl rfl rfl (EQ.skip rfl rfl rfl rfl ?_)))))))));refine EQ.skip rfl rfl rfl rfl (EQ.skip rfl rfl rfl rfl (EQ.skip rfl rfl rfl rfl ?_));refine EQ.val (fun _ hw => (QAJ rfl rfl)) rfl ?_
    refine EQ.fin (fun w2 hw_ => ?_)
    replace hout := ZC hout hw_ (Nat.le_refl _);replace hbw := bo_ hbw hw_;clear hw_;refine EX.seq (EC.no rfl (EC.exit (EX.seq_exit (EX.seq_exit (EX.blk_here (EX.seq ?_))))));have hW := ZI hout (w1 := w2) ⟨rfl, rfl, rfl, Nat.le_refl _, fun _ _ _ => rfl⟩ hbw.size
    clear hW;refine EC.regionS [[], [], [0, 1], [], [], [3, 4], [3, 4, 5], [3, 4, 5, 6], [], [], [8, 9], [3, 4, 5, 6, 7, 8, 9, 10], [0, 1, 2, 3, 4, 5, 6, 7, 8, 9, 10, 11], [0, 1, 2, 3, 4, 5, 6, 7, 8, 9, 10, 11, 12]] 13 [] [12] (fun fl w_ => w2.grownBy w_ ((.slice (some ⟨g, 0, none⟩) n c) : Value).ownBlock ∧ (fl 12 = false → w_.ownsRow w.heap.size 39 5 (.slice (some ⟨g, 0, none⟩) n c) n (twsC (qk ts u k)))) (phiS (fun i_ r => match i_ with | 0 => r 0 = .slice (some ⟨g, 0, none⟩) n c | 1 => r 1 = .int .i64 (0 : Nat) | 2 => r 2 = .slice (some ⟨g, 0, none⟩) 0 c | 3 => r 3 = .slice (some ⟨b, o, none⟩) ts.length ct | 4 => r 4 = .int .i64 (k : Nat) | 5 => r 5 = .pointer (some ⟨b, o + k * 5, none⟩) | 6 => r 6 = .agg #[.bool x.up, .int .i64 x.arrive, .int .i64 x.length, .int .i64 x.weight, .int .i64 x.push] | 8 => r 8 = .slice (some ⟨g, 0, none⟩) n c | 9 => r 9 = .int .i64 (0 : Nat) | 10 => r 10 = .slice (YS (some ⟨g, 0, none⟩) c 0) (n - 0) (c - 0) | _ => True) [(7, fun _ r w_ => ∃ g_, r 7 = .slice (some ⟨g_, 0, none⟩) 1 1 ∧ Blk w_ g_ 39 #[.bool x.up, .int .i64 x.arrive, .int .i64 x.length, .int .i64 x.weight, .int .i64 x.push] ∧ w2.heap.size ≤ g_), (11, fun fl r w_ => fl 12 = false → (∃ A c_, r 11 = .slice A (1 + (n - 0)) c_ ∧ w_.ownsRow w2.heap.size 39 5 (.slice A (1 + (n - 0)) c_) (1 + (n - 0)) ([.bool x.up, .int .i64 x.arrive, .int .i64 x.length, .int .i64 x.weight, .int .i64 x.push] ++ twsC ((qk ts u k).drop 0)))), (12, fun _ r w_ => w_.ownsRow w.heap.size 39 5 (r 12) (0 + (1 + (n - 0))) ((twsC (qk ts u k)).take (0 * 5) ++ ([.bool x.up, .int .i64 x.arrive, .int .i64 x.length, .int .i64 x.weight, .int .i64 x.push] ++ twsC ((qk ts u k).drop 0))) ∧ ∀ b, (r 12).ownBlock = some b → ((.slice (some ⟨g, 0, none⟩) n c) : Value).ownBlock = some b ∨ w2.heap.size ≤ b)]) (by kernel_rfl) rfl rfl (by intro i hi; simp at hi; subst hi; exact ⟨by simp, by omega⟩) (QAs hout) (ZH QGu (ZH (YH (QAc (f := fun A c => .slice A (1 + (n - 0)) c))) (ZH (QAA (e := 12) (C := fun u_ => ∀ b, u_.ownBlock = some b → ((.slice (some ⟨g, 0, none⟩) n c) : Value).ownBlock = some b ∨ w2.heap.size ≤ b)) (ZZ)))) (fun i_ hi_ hs_ => ?_) (fun i_ hi_ => ?_) ?_
    ·match i_, hi_ with
     | 0, _ =>
      intro val fl w1 a hb ha hd hfl;obtain ⟨hgb, hg0⟩ := hb;have hb := ZI hout hgb hbw.size;have ha := ha.s0 (d := 5) rfl
      exact ZD ha rfl rfl (x_move rfl) rfl rfl
     | 1, _ =>
      intro val fl w1 a hb ha hd hfl;obtain ⟨hgb, hg0⟩ := hb;have hb := ZI hout hgb hbw.size;have ha := ha.s0 (d := 7) rfl
      exact ZD ha rfl rfl (x_move rfl) rfl rfl
     | 2, _ =>
      intro val fl w1 a hb ha hd hfl;obtain ⟨hgb, hg0⟩ := hb;have hb := ZI hout hgb hbw.size;have e0 : val 0 = _ := hd 0 (ZA.1 rfl);have e1 : val 1 = _ := hd 1 (ZA.1 rfl);have ha := ha.s2 (d := 43) (e := 42) rfl e1 rfl e0
      exact ZD ha rfl rfl (QCW (hi := 0) rfl rfl (Nat.le_trans (Nat.zero_le _) (QBY hout))) rfl rfl
     | 3, _ =>
      intro val fl w1 a hb ha hd hfl;obtain ⟨hgb, hg0⟩ := hb;have hb := ZI hout hgb hbw.size;have ha := ha.s0 (d := 0) rfl
      exact ZD ha rfl rfl (x_move rfl) rfl rfl
     | 4, _ =>
      intro val fl w1 a hb ha hd hfl;obtain ⟨hgb, hg0⟩ := hb;have hb := ZI hout hgb hbw.size;have ha := ha.s0 (d := 6) rfl
      exact ZD ha rfl rfl (x_move rfl) rfl rfl
     | 5, _ =>
      intro val fl w1 a hb ha hd hfl;obtain ⟨hgb, hg0⟩ := hb;have hb := ZI hout hgb hbw.size;have e3 : val 3 = _ := hd 3 (ZA.1 rfl);have e4 : val 4 = _ := hd 4 (ZA.1 rfl);have ha := ha.s2 (d := 46) (e := 45) rfl e4 rfl e3
      exact ZD ha rfl rfl (YI rfl rfl hltk) rfl rfl
     | 6, _ =>
      intro val fl w1 a hb ha hd hfl;obtain ⟨hgb, hg0⟩ := hb;have hb := ZI hout hgb hbw.size;have e5 : val 5 = _ := hd 5 (ZA.1 rfl);have ha := ha.s1 (d := 47) rfl e5
      exact ZD ha rfl rfl (Y7 rfl (ZB (hbw.trans hb) cc.c0) (ZB (hbw.trans hb) cc.c1) (ZB (hbw.trans hb) cc.c2) (ZB (hbw.trans hb) cc.c3) (ZB (hbw.trans hb) cc.c4)) rfl rfl
     | 7, _ =>
      intro val fl w1 a hb ha hd hfl;obtain ⟨hgb, hg0⟩ := hb;have hb := ZI hout hgb hbw.size;have e6 : val 6 = _ := hd 6 (ZA.1 rfl);have ha := ha.s1 (d := 48) rfl e6
      exact QAX ha rfl rfl (QD8 rfl) rfl (fun g w' hq _ hge => ⟨g, rfl, hq, Nat.le_trans hgb.size hge⟩)
     | 8, _ =>
      intro val fl w1 a hb ha hd hfl;obtain ⟨hgb, hg0⟩ := hb;have hb := ZI hout hgb hbw.size;have ha := ha.s0 (d := 5) rfl
      exact ZD ha rfl rfl (x_move rfl) rfl rfl
     | 9, _ =>
      intro val fl w1 a hb ha hd hfl;obtain ⟨hgb, hg0⟩ := hb;have hb := ZI hout hgb hbw.size;have ha := ha.s0 (d := 7) rfl
      exact ZD ha rfl rfl (x_move rfl) rfl rfl
     | 10, _ =>
      intro val fl w1 a hb ha hd hfl;obtain ⟨hgb, hg0⟩ := hb;have hb := ZI hout hgb hbw.size;have e8 : val 8 = _ := hd 8 (ZA.1 rfl);have e9 : val 9 = _ := hd 9 (ZA.1 rfl);have ha := ha.s2 (d := 51) (e := 50) rfl e9 rfl e8
      exact ZD ha rfl rfl ((QAR hout (lo := 0) hjn rfl rfl).1 rfl rfl) rfl rfl
     | 11, _ =>
      intro val fl w1 a hb ha hd hfl;obtain ⟨hgb, hg0⟩ := hb;have hb := ZI hout hgb hbw.size;obtain ⟨g7_, e7, q7_, h7_⟩ := hd 7 (ZA.1 rfl);change val 7 = _ at e7;have e10 : val 10 = _ := hd 10 (ZA.1 rfl);have ha := ha.s2 (d := 52) (e := 49) rfl e10 rfl e7;refine QH7 QAi ha rfl rfl rfl (QFQ (k := 1) (l := [.bool x.up, .int .i64 x.arrive, .int .i64 x.length, .int .i64 x.weight, .int .i64 x.push]) q7_ rfl (by omega) h7_) (QAR (hg0 (hfl 12 (by simp) (ZA.1 rfl))) (lo := 0) hjn rfl rfl).2.1 (twsC_one _) (by omega) rfl hgb.size rfl ?_
      intro v' w' ho2;obtain ⟨A2, c2, rfl, _⟩ := (Rd.of_own ho2).shape
      exact fun _ => ⟨A2, c2, rfl, ho2⟩
     | 12, _ =>
      exact absurd (by simp) hs_
     | k + 13, h => exact absurd h (by omega)
    ·simp only [List.mem_singleton] at hi_; subst hi_
     intro val fl w1 a hb hfi ha hd hfl;obtain ⟨hgb, hg0⟩ := hb;have hb := ZI hout hgb hbw.size;have e2 : val 2 = _ := hd 2 (ZA.1 rfl);obtain ⟨A11_, c11_, e11, ho11_⟩ := hd 11 (ZA.1 rfl) hfi;change val 11 = _ at e11;have ha := ha.s2 (d := 53) (e := 44) rfl e11 rfl e2;refine QAv QAi ha rfl rfl rfl (QEV (hg0 hfi) hjn) (Rd.of_own ho11_) (QEw _ _) (by omega) rfl (Nat.le_trans hbw.size hgb.size) ?_
     intro v' w' ho' hgr hat;refine ⟨v', rfl, hgr.size, ⟨Zj hgb hgr, fun h => by rw [ZS] at h; cases h⟩, ⟨ho', fun b hb' => ?_⟩, fun j _ hj hn hA => ?_⟩
     ·rcases hat with h | h
      ·exact .inl (h ▸ hb')
      ·refine .inr ?_
       change v'.ownBlock = some b at hb';rw [h] at hb'
       injection hb' with hb'
       have := hgb.size
       omega
     ·exact ZF (C := fun j => j ≠ 12 ∧ 12 ∉ clsAt [[], [], [0, 1], [], [], [3, 4], [3, 4, 5], [3, 4, 5, 6], [], [], [8, 9], [3, 4, 5, 6, 7, 8, 9, 10], [0, 1, 2, 3, 4, 5, 6, 7, 8, 9, 10, 11], [0, 1, 2, 3, 4, 5, 6, 7, 8, 9, 10, 11, 12]] j) (fun _ ⟨g, h1, h2, h3⟩ => ⟨g, h1, h2.grown hgr (fun h => by have := (hout.lt _ h.symm).2; omega), h3⟩) (ZF (fun _ _ h => by rw [ZS] at h; cases h) (ZF (fun hc => absurd rfl hc.1) (fun _ _ h => h))) j ⟨hj, hn⟩
    ·intro val fl w' hfl hb halc hd
     obtain ⟨hgb, _⟩ := hb;have hb := ZI hout hgb hbw.size;have e0 : val 0 = _ := hd 0 (by omega)
     have e1 : val 1 = _ := hd 1 (by omega)
     have e2 : val 2 = _ := hd 2 (by omega)
     have e3 : val 3 = _ := hd 3 (by omega)
     have e4 : val 4 = _ := hd 4 (by omega)
     have e5 : val 5 = _ := hd 5 (by omega)
     have e6 : val 6 = _ := hd 6 (by omega)
     obtain ⟨ga7, e7, qa7, hga7⟩ := hd 7 (by omega)
     change val 7 = _ at e7;have e8 : val 8 = _ := hd 8 (by omega)
     have e9 : val 9 = _ := hd 9 (by omega)
     have e10 : val 10 = _ := hd 10 (by omega)
     obtain ⟨ho12, hn12⟩ := hd 12 (by omega)
     change w'.ownsRow _ _ _ (val 12) _ _ at ho12;refine EL.ends (cs := [_, _, _, _, _, _, _, _, _, _, _, val 11, val 12]) ⟨e0, e1, e2, e3, e4, e5, e6, e7, e8, e9, e10, rfl, rfl, trivial⟩ rfl ?_;have bhbw_3 := Nat.le_trans hbw.size hga7;replace hbw := hbw.trans (hb.mono (Nat.le_refl _));obtain ⟨g2, c2, e12_⟩ := Z7 ho12 (by omega)
     rw [e12_] at ho12 ⊢

     replace ho12 : w'.ownsRow w.heap.size 39 5 (.slice (some ⟨g2, 0, none⟩) (1 + n) c2) (1 + n) (twsC (qk ts u (k + 1))) := by rw [hstep, hins, QCk, YJ]; have e : 0 + (1 + (n - 0)) = 1 + n := (by omega); rw [e] at ho12; exact ho12
     rw [show 0 + (1 + (n - 0)) = 1 + n by omega]
     have hnew := ho12;clear ho12;refine EL.as rfl rfl (EL.nil (EX.blk (EX.seq (EC.region (EL.mv rfl rfl ?_)))));refine EL.val (ZR rfl rfl (c := ((k + 1 : Nat) : Int)) ((IntWalk.i64_in _ ⟨by first | omega | (simp only; omega), by first | omega | (simp only; omega)⟩).trans (by first | omega | (simp only; omega)))) rfl ?_
     refine EL.as rfl rfl (EL.nil ?_);refine EX.roundD (k + 1, g2, 1 + n, c2) ⟨rfl, rfl, trivial⟩ (by repeat first | with_reducible exact .refl _ | refine sp_ rfl ?_ | exact .refl _ | refine sd_ rfl ?_ | refine sn_ ?_) ⟨hltk, hnew, hbw⟩ (show ts.length - (k + 1) < ts.length - k by omega)
   ·
    obtain ⟨b2, o2, eb_, _, cq⟩ := Zt (qk ts u k) i (by omega) _ _ _ _ _ (Rd.of_own hout)
    injection eb_ with eb_
    injection eb_ with eb1_ eb2_
    subst eb1_ eb2_;refine EC.seq (EC.seq ?_);refine EC.regionQ (by kernel_rfl) (by kernel_rfl) ?_
    refine EQ.mv rfl rfl ?_;refine EQ.val (fun _ hw => (Zq (r := true) rfl rfl (decide_eq_true (by omega)))) rfl ?_
    refine EQ.mv rfl rfl (EQ.mg rfl rfl rfl rfl (EQ.mg rfl rfl rfl rfl ?_));refine EQ.valg rfl rfl (fun _ hw => (YI rfl rfl hltk)) rfl ?_
    refine EQ.valg rfl rfl (fun _ hw => (Ye rfl)) rfl ?_
    refine EQ.valg rfl rfl (fun _ hw => (ld_3 rfl (ZB hw (ZB hbw cc.c1)))) rfl ?_
    refine EQ.mg rfl rfl rfl rfl (EQ.mg rfl rfl rfl rfl ?_);refine EQ.valg rfl rfl (fun _ hw => (Zu rfl rfl (c := ((i : Nat) : Int)) ((IntWalk.i64_in _ ⟨by omega, by omega⟩).trans (by omega)))) rfl ?_
    refine EQ.valg rfl rfl (fun _ hw => (YI rfl rfl (show i < n from hjn))) rfl ?_
    refine EQ.valg rfl rfl (fun _ hw => (Ye rfl)) rfl ?_
    refine EQ.valg rfl rfl (fun _ hw => (ld_3 rfl (ZB hw cq.c1))) rfl ?_
    refine EQ.valg rfl rfl (fun _ hw => (ZQ (r := true) rfl rfl (decide_eq_true hlt))) rfl ?_
    refine EQ.val (fun _ hw => (Ya rfl rfl)) rfl ?_
    refine EQ.fin (fun w4 hw_ => ?_)
    replace hout := ZC hout hw_ (Nat.le_refl _);replace hbw := bo_ hbw hw_;clear hw_;refine EX.seq (EC.yes rfl (EC.skip (EX.seq (EC.block (EC.region (EL.mv rfl rfl ?_))))));refine EL.val (Zu rfl rfl (c := ((i : Nat) : Int)) ((IntWalk.i64_in _ ⟨by omega, by omega⟩).trans (by omega))) rfl ?_
    refine EL.as rfl rfl (EL.nil (EX.blk ?_));refine EX.roundD i ⟨rfl, trivial⟩ (by repeat first | with_reducible exact .refl _ | refine sp_ rfl ?_ | exact .refl _ | refine sd_ rfl ?_ | refine sn_ ?_) ⟨by omega, QJT hbig hlt, hout, hbw⟩ (by omega)
   ·
    obtain ⟨b2, o2, eb_, _, cq⟩ := Zt (qk ts u k) i (by omega) _ _ _ _ _ (Rd.of_own hout)
    injection eb_ with eb_
    injection eb_ with eb1_ eb2_
    subst eb1_ eb2_;have hins := QKX (x := x) (k := (i + 1)) (QFO ts u k) (by omega) (fun i h1 h2 => hbig i h1 (by omega)) (.inr hlt)
    refine EC.seq (EC.seq ?_);refine EC.regionQ (by kernel_rfl) (by kernel_rfl) ?_
    refine EQ.mv rfl rfl ?_;refine EQ.val (fun _ hw => (Zq (r := true) rfl rfl (decide_eq_true (by omega)))) rfl ?_
    refine EQ.mv rfl rfl (EQ.mg rfl rfl rfl rfl (EQ.mg rfl rfl rfl rfl ?_));refine EQ.valg rfl rfl (fun _ hw => (YI rfl rfl hltk)) rfl ?_
    refine EQ.valg rfl rfl (fun _ hw => (Ye rfl)) rfl ?_
    refine EQ.valg rfl rfl (fun _ hw => (ld_3 rfl (ZB hw (ZB hbw cc.c1)))) rfl ?_
    refine EQ.mg rfl rfl rfl rfl (EQ.mg rfl rfl rfl rfl ?_);refine EQ.valg rfl rfl (fun _ hw => (Zu rfl rfl (c := ((i : Nat) : Int)) ((IntWalk.i64_in _ ⟨by omega, by omega⟩).trans (by omega)))) rfl ?_
    refine EQ.valg rfl rfl (fun _ hw => (YI rfl rfl (show i < n from hjn))) rfl ?_
    refine EQ.valg rfl rfl (fun _ hw => (Ye rfl)) rfl ?_
    refine EQ.valg rfl rfl (fun _ hw => (ld_3 rfl (ZB hw cq.c1))) rfl ?_
    refine EQ.valg rfl rfl (fun _ hw => (ZQ (r := false) rfl rfl (decide_eq_false hlt))) rfl ?_
    refine EQ.val (fun _ hw => (Ya rfl rfl)) rfl ?_
    refine EQ.fin (fun w5 hw_ => ?_)
    replace hout := ZC hout hw_ (Nat.le_refl _);replace hbw := bo_ hbw hw_;clear hw_;refine EX.seq (EC.no rfl (EC.exit (EX.seq_exit (EX.seq_exit (EX.blk_here (EX.seq ?_))))));have hW := ZI hout (w1 := w5) ⟨rfl, rfl, rfl, Nat.le_refl _, fun _ _ _ => rfl⟩ hbw.size
    clear hW;refine EC.regionS [[], [], [0, 1], [], [], [3, 4], [3, 4, 5], [3, 4, 5, 6], [], [], [8, 9], [3, 4, 5, 6, 7, 8, 9, 10], [0, 1, 2, 3, 4, 5, 6, 7, 8, 9, 10, 11], [0, 1, 2, 3, 4, 5, 6, 7, 8, 9, 10, 11, 12]] 13 [] [12] (fun fl w_ => w5.grownBy w_ ((.slice (some ⟨g, 0, none⟩) n c) : Value).ownBlock ∧ (fl 12 = false → w_.ownsRow w.heap.size 39 5 (.slice (some ⟨g, 0, none⟩) n c) n (twsC (qk ts u k)))) (phiS (fun i_ r => match i_ with | 0 => r 0 = .slice (some ⟨g, 0, none⟩) n c | 1 => r 1 = .int .i64 ((i + 1) : Nat) | 2 => r 2 = .slice (some ⟨g, 0, none⟩) (i + 1) c | 3 => r 3 = .slice (some ⟨b, o, none⟩) ts.length ct | 4 => r 4 = .int .i64 (k : Nat) | 5 => r 5 = .pointer (some ⟨b, o + k * 5, none⟩) | 6 => r 6 = .agg #[.bool x.up, .int .i64 x.arrive, .int .i64 x.length, .int .i64 x.weight, .int .i64 x.push] | 8 => r 8 = .slice (some ⟨g, 0, none⟩) n c | 9 => r 9 = .int .i64 ((i + 1) : Nat) | 10 => r 10 = .slice (YS (some ⟨g, 0, none⟩) c (i + 1)) (n - (i + 1)) (c - (i + 1)) | _ => True) [(7, fun _ r w_ => ∃ g_, r 7 = .slice (some ⟨g_, 0, none⟩) 1 1 ∧ Blk w_ g_ 39 #[.bool x.up, .int .i64 x.arrive, .int .i64 x.length, .int .i64 x.weight, .int .i64 x.push] ∧ w5.heap.size ≤ g_), (11, fun fl r w_ => fl 12 = false → (∃ A c_, r 11 = .slice A (1 + (n - (i + 1))) c_ ∧ w_.ownsRow w5.heap.size 39 5 (.slice A (1 + (n - (i + 1))) c_) (1 + (n - (i + 1))) ([.bool x.up, .int .i64 x.arrive, .int .i64 x.length, .int .i64 x.weight, .int .i64 x.push] ++ twsC ((qk ts u k).drop (i + 1))))), (12, fun _ r w_ => w_.ownsRow w.heap.size 39 5 (r 12) ((i + 1) + (1 + (n - (i + 1)))) ((twsC (qk ts u k)).take ((i + 1) * 5) ++ ([.bool x.up, .int .i64 x.arrive, .int .i64 x.length, .int .i64 x.weight, .int .i64 x.push] ++ twsC ((qk ts u k).drop (i + 1)))) ∧ ∀ b, (r 12).ownBlock = some b → ((.slice (some ⟨g, 0, none⟩) n c) : Value).ownBlock = some b ∨ w5.heap.size ≤ b)]) (by kernel_rfl) rfl rfl (by intro i hi; simp at hi; subst hi; exact ⟨by simp, by omega⟩) (QAs hout) (ZH QGu (ZH (YH (QAc (f := fun A c => .slice A (1 + (n - (i + 1))) c))) (ZH (QAA (e := 12) (C := fun u_ => ∀ b, u_.ownBlock = some b → ((.slice (some ⟨g, 0, none⟩) n c) : Value).ownBlock = some b ∨ w5.heap.size ≤ b)) (ZZ)))) (fun i_ hi_ hs_ => ?_) (fun i_ hi_ => ?_) ?_
    ·match i_, hi_ with
     | 0, _ =>
      intro val fl w1 a hb ha hd hfl;obtain ⟨hgb, hg0⟩ := hb;have hb := ZI hout hgb hbw.size;have ha := ha.s0 (d := 5) rfl
      exact ZD ha rfl rfl (x_move rfl) rfl rfl
     | 1, _ =>
      intro val fl w1 a hb ha hd hfl;obtain ⟨hgb, hg0⟩ := hb;have hb := ZI hout hgb hbw.size;have ha := ha.s0 (d := 7) rfl
      exact ZD ha rfl rfl (x_move rfl) rfl rfl
     | 2, _ =>
      intro val fl w1 a hb ha hd hfl;obtain ⟨hgb, hg0⟩ := hb;have hb := ZI hout hgb hbw.size;have e0 : val 0 = _ := hd 0 (ZA.1 rfl);have e1 : val 1 = _ := hd 1 (ZA.1 rfl);have ha := ha.s2 (d := 43) (e := 42) rfl e1 rfl e0
      exact ZD ha rfl rfl (QCW (hi := (i + 1)) rfl rfl (Nat.le_trans hjn (QBY hout))) rfl rfl
     | 3, _ =>
      intro val fl w1 a hb ha hd hfl;obtain ⟨hgb, hg0⟩ := hb;have hb := ZI hout hgb hbw.size;have ha := ha.s0 (d := 0) rfl
      exact ZD ha rfl rfl (x_move rfl) rfl rfl
     | 4, _ =>
      intro val fl w1 a hb ha hd hfl;obtain ⟨hgb, hg0⟩ := hb;have hb := ZI hout hgb hbw.size;have ha := ha.s0 (d := 6) rfl
      exact ZD ha rfl rfl (x_move rfl) rfl rfl
     | 5, _ =>
      intro val fl w1 a hb ha hd hfl;obtain ⟨hgb, hg0⟩ := hb;have hb := ZI hout hgb hbw.size;have e3 : val 3 = _ := hd 3 (ZA.1 rfl);have e4 : val 4 = _ := hd 4 (ZA.1 rfl);have ha := ha.s2 (d := 46) (e := 45) rfl e4 rfl e3
      exact ZD ha rfl rfl (YI rfl rfl hltk) rfl rfl
     | 6, _ =>
      intro val fl w1 a hb ha hd hfl;obtain ⟨hgb, hg0⟩ := hb;have hb := ZI hout hgb hbw.size;have e5 : val 5 = _ := hd 5 (ZA.1 rfl);have ha := ha.s1 (d := 47) rfl e5
      exact ZD ha rfl rfl (Y7 rfl (ZB (hbw.trans hb) cc.c0) (ZB (hbw.trans hb) cc.c1) (ZB (hbw.trans hb) cc.c2) (ZB (hbw.trans hb) cc.c3) (ZB (hbw.trans hb) cc.c4)) rfl rfl
     | 7, _ =>
      intro val fl w1 a hb ha hd hfl;obtain ⟨hgb, hg0⟩ := hb;have hb := ZI hout hgb hbw.size;have e6 : val 6 = _ := hd 6 (ZA.1 rfl);have ha := ha.s1 (d := 48) rfl e6
      exact QAX ha rfl rfl (QD8 rfl) rfl (fun g w' hq _ hge => ⟨g, rfl, hq, Nat.le_trans hgb.size hge⟩)
     | 8, _ =>
      intro val fl w1 a hb ha hd hfl;obtain ⟨hgb, hg0⟩ := hb;have hb := ZI hout hgb hbw.size;have ha := ha.s0 (d := 5) rfl
      exact ZD ha rfl rfl (x_move rfl) rfl rfl
     | 9, _ =>
      intro val fl w1 a hb ha hd hfl;obtain ⟨hgb, hg0⟩ := hb;have hb := ZI hout hgb hbw.size;have ha := ha.s0 (d := 7) rfl
      exact ZD ha rfl rfl (x_move rfl) rfl rfl
     | 10, _ =>
      intro val fl w1 a hb ha hd hfl;obtain ⟨hgb, hg0⟩ := hb;have hb := ZI hout hgb hbw.size;have e8 : val 8 = _ := hd 8 (ZA.1 rfl);have e9 : val 9 = _ := hd 9 (ZA.1 rfl);have ha := ha.s2 (d := 51) (e := 50) rfl e9 rfl e8
      exact ZD ha rfl rfl ((QAR hout (lo := (i + 1)) hjn rfl rfl).1 rfl rfl) rfl rfl
     | 11, _ =>
      intro val fl w1 a hb ha hd hfl;obtain ⟨hgb, hg0⟩ := hb;have hb := ZI hout hgb hbw.size;obtain ⟨g7_, e7, q7_, h7_⟩ := hd 7 (ZA.1 rfl);change val 7 = _ at e7;have e10 : val 10 = _ := hd 10 (ZA.1 rfl);have ha := ha.s2 (d := 52) (e := 49) rfl e10 rfl e7;refine QH7 QAi ha rfl rfl rfl (QFQ (k := 1) (l := [.bool x.up, .int .i64 x.arrive, .int .i64 x.length, .int .i64 x.weight, .int .i64 x.push]) q7_ rfl (by omega) h7_) (QAR (hg0 (hfl 12 (by simp) (ZA.1 rfl))) (lo := (i + 1)) hjn rfl rfl).2.1 (twsC_one _) (by omega) rfl hgb.size rfl ?_
      intro v' w' ho2;obtain ⟨A2, c2, rfl, _⟩ := (Rd.of_own ho2).shape
      exact fun _ => ⟨A2, c2, rfl, ho2⟩
     | 12, _ =>
      exact absurd (by simp) hs_
     | k + 13, h => exact absurd h (by omega)
    ·simp only [List.mem_singleton] at hi_; subst hi_
     intro val fl w1 a hb hfi ha hd hfl;obtain ⟨hgb, hg0⟩ := hb;have hb := ZI hout hgb hbw.size;have e2 : val 2 = _ := hd 2 (ZA.1 rfl);obtain ⟨A11_, c11_, e11, ho11_⟩ := hd 11 (ZA.1 rfl) hfi;change val 11 = _ at e11;have ha := ha.s2 (d := 53) (e := 44) rfl e11 rfl e2;refine QAv QAi ha rfl rfl rfl (QEV (hg0 hfi) hjn) (Rd.of_own ho11_) (QEw _ _) (by omega) rfl (Nat.le_trans hbw.size hgb.size) ?_
     intro v' w' ho' hgr hat;refine ⟨v', rfl, hgr.size, ⟨Zj hgb hgr, fun h => by rw [ZS] at h; cases h⟩, ⟨ho', fun b hb' => ?_⟩, fun j _ hj hn hA => ?_⟩
     ·rcases hat with h | h
      ·exact .inl (h ▸ hb')
      ·refine .inr ?_
       change v'.ownBlock = some b at hb';rw [h] at hb'
       injection hb' with hb'
       have := hgb.size
       omega
     ·exact ZF (C := fun j => j ≠ 12 ∧ 12 ∉ clsAt [[], [], [0, 1], [], [], [3, 4], [3, 4, 5], [3, 4, 5, 6], [], [], [8, 9], [3, 4, 5, 6, 7, 8, 9, 10], [0, 1, 2, 3, 4, 5, 6, 7, 8, 9, 10, 11], [0, 1, 2, 3, 4, 5, 6, 7, 8, 9, 10, 11, 12]] j) (fun _ ⟨g, h1, h2, h3⟩ => ⟨g, h1, h2.grown hgr (fun h => by have := (hout.lt _ h.symm).2; omega), h3⟩) (ZF (fun _ _ h => by rw [ZS] at h; cases h) (ZF (fun hc => absurd rfl hc.1) (fun _ _ h => h))) j ⟨hj, hn⟩
    ·intro val fl w' hfl hb halc hd
     obtain ⟨hgb, _⟩ := hb;have hb := ZI hout hgb hbw.size;have e0 : val 0 = _ := hd 0 (by omega)
     have e1 : val 1 = _ := hd 1 (by omega)
     have e2 : val 2 = _ := hd 2 (by omega)
     have e3 : val 3 = _ := hd 3 (by omega)
     have e4 : val 4 = _ := hd 4 (by omega)
     have e5 : val 5 = _ := hd 5 (by omega)
     have e6 : val 6 = _ := hd 6 (by omega)
     obtain ⟨ga7, e7, qa7, hga7⟩ := hd 7 (by omega)
     change val 7 = _ at e7;have e8 : val 8 = _ := hd 8 (by omega)
     have e9 : val 9 = _ := hd 9 (by omega)
     have e10 : val 10 = _ := hd 10 (by omega)
     obtain ⟨ho12, hn12⟩ := hd 12 (by omega)
     change w'.ownsRow _ _ _ (val 12) _ _ at ho12;refine EL.ends (cs := [_, _, _, _, _, _, _, _, _, _, _, val 11, val 12]) ⟨e0, e1, e2, e3, e4, e5, e6, e7, e8, e9, e10, rfl, rfl, trivial⟩ rfl ?_;have bhbw_6 := Nat.le_trans hbw.size hga7;replace hbw := hbw.trans (hb.mono (Nat.le_refl _));obtain ⟨g2, c2, e12_⟩ := Z7 ho12 (by omega)
     rw [e12_] at ho12 ⊢

     replace ho12 : w'.ownsRow w.heap.size 39 5 (.slice (some ⟨g2, 0, none⟩) (1 + n) c2) (1 + n) (twsC (qk ts u (k + 1))) := by rw [hstep, hins, QCk, YJ]; have e : (i + 1) + (1 + (n - (i + 1))) = 1 + n := (by omega); rw [e] at ho12; exact ho12
     rw [show (i + 1) + (1 + (n - (i + 1))) = 1 + n by omega]
     have hnew := ho12;clear ho12;refine EL.as rfl rfl (EL.nil (EX.blk (EX.seq (EC.region (EL.mv rfl rfl ?_)))));refine EL.val (ZR rfl rfl (c := ((k + 1 : Nat) : Int)) ((IntWalk.i64_in _ ⟨by first | omega | (simp only; omega), by first | omega | (simp only; omega)⟩).trans (by first | omega | (simp only; omega)))) rfl ?_
     refine EL.as rfl rfl (EL.nil ?_);refine EX.roundD (k + 1, g2, 1 + n, c2) ⟨rfl, rfl, trivial⟩ (by repeat first | with_reducible exact .refl _ | refine sp_ rfl ?_ | exact .refl _ | refine sd_ rfl ?_ | refine sn_ ?_) ⟨hltk, hnew, hbw⟩ (show ts.length - (k + 1) < ts.length - k by omega)
  ·
   refine EL.val (QFl (r := true) rfl rfl (by simp [hxu])) rfl ?_
   refine EL.nil (EX.seq (EC.yes rfl (EC.exit (EX.seq_exit (EX.blk_here (EX.seq (EC.region (EL.mv rfl rfl ?_))))))));refine EL.val (ZR rfl rfl (c := ((k + 1 : Nat) : Int)) ((IntWalk.i64_in _ ⟨by first | omega | (simp only; omega), by first | omega | (simp only; omega)⟩).trans (by first | omega | (simp only; omega)))) rfl ?_
   refine EL.as rfl rfl (EL.nil ?_);rw [if_neg hxu] at hstep;refine EX.roundD (k + 1, g, n, c) ⟨rfl, rfl, trivial⟩ (by repeat first | with_reducible exact .refl _ | refine sp_ rfl ?_ | exact .refl _ | refine sd_ rfl ?_ | refine sn_ ?_) ⟨hltk, hstep ▸ hout, hbw⟩ (show ts.length - (k + 1) < ts.length - k by omega)
 ·
  obtain rfl : k = ts.length := by omega
  refine EC.seq (EC.seq (EC.region (EL.mv rfl rfl (EL.mv rfl rfl (EL.val (Zx rfl) rfl ?_)))));refine EL.val (ZQ (r := false) rfl rfl (decide_eq_false (by omega))) rfl ?_
  refine EL.nil (EX.seq (EC.no rfl (EC.exit (EX.seq_exit (EX.seq_exit (EX.blk_here (EX.seq (EC.seq (EC.region ?_)))))))));refine EL.mv rfl rfl (EL.as rfl rfl (EL.nil (EX.seq (EC.ret ?_))))
  exact EX.done (res1 rfl rfl) ⟨⟨_, rfl, by subst hnl; rw [← QMV]; exact hout⟩, hbw⟩
section
variable {n : Nat} {σ : Sg} {w : World} {dst : Option Tmp} {ty : TypeId} {pos : String} {af : Array Edge} {g : Option (Nat × Bool)} {x y z : Operand} {at' : Array TypeId}
theorem cF42 : cF 42 := fun _ _ => by simp [go_sem]
theorem QHE {x0 x1 x2 : Operand} {A0 : Option Addr} {m0 : Nat} {c0 : Nat} {A1 : Option Addr} {m1 : Nat} {c1 : Nat} {b2 : Bool} (h0 : evS σ x0 = some (.slice A0 m0 c0)) (h1 : evS σ x1 = some (.slice A1 m1 c1)) (h2 : evS σ x2 = some (.bool b2)) : ZL Try.prog n σ w ⟨dst, .build 45 #[(0, x0), (1, x1), (3, x2)], ty, pos, af, g⟩ (.agg #[.slice A0 m0 c0, .slice A1 m1 c1, .int .i64 0, .bool b2, .slice none 0 0, .int .i64 0, .int .i64 0, .int .i64 0, .int .i64 0, .int .i64 0, .int .i64 0]) := fun a ha => by
 simp only [execOp, List.map_toArray, List.map_cons, List.map_nil, ha.eval h0, ha.eval h1, ha.eval h2]
 go_simp
end
theorem QKM (q : QS) (u : Bool) (p : List SP) : (((q u).length : Nat) : Int) = Zc q u (p.take 0) := by
 unfold Zc
 rw [List.take_zero, QBE]
 omega
theorem QLh (ts : List TW) (p : List SP) (h : ∀ u, 0 ≤ sumU u p) (u : Bool) : Zc (qL ts) u p ≤ (ts.length : Int) := by
 have h1 := h u;have h2 := QHa ts
 unfold Zc
 cases u <;> omega
theorem QFY {p : List SP} {k : Nat} (q : QS) (u : Bool) (h : k < p.length) : Zc q u (p.take (k + 1)) = if (p.getD k sp0).up = u then Zc q u (p.take k) - (p.getD k sp0).tows else Zc q u (p.take k) := by
 unfold Zc
 rw [Yc u h]
 split <;> omega
theorem QDS {q : QS} {p : List SP} {k : Nat} (hk : k < p.length) (h : okAt q p k = false) : okC q p = false := QAe (QBw hk h)
set_option maxRecDepth 100000 in
theorem QFC {ts : List TW} {p : List SP} {v vp : Value} {w : World} {B : Nat} (hr : Rd w B 5 v ts.length (twsC ts)) (hp : Rd w B 2 vp p.length (spsC p)) (hB : B ≤ w.heap.size) (hn : ts.length ≤ 1000000) (hpn : p.length ≤ 1000000) :
  Calls Try.prog 21 #[v, vp] w fun e w' => e = .returned (.bool (okC (qL ts) p)) ∧ Below w.heap.size w w' := by
 obtain ⟨At, ct_, rfl, _⟩ := hr.shape;obtain ⟨Ap, cp, rfl, _⟩ := hp.shape;have hbw := Below.refl w.heap.size w;have hlq := QHa ts;refine EC.enter 67 Try.func21 rfl rfl rfl (EC.seq (EC.region (EL.as rfl rfl (EL.nil (EX.seq (EC.seq (EC.region (EL.mv rfl rfl (EL.call (cA2 cF42 rfl rfl) rfl (QBX (u := true) (hr.below (hbw.mono hB)) (Nat.le_trans hB hbw.size) hn) ?_)))))))))
 rintro e w1 ⟨⟨v1, rfl, hq1⟩, hc1⟩
 refine ⟨_, rfl, ?_⟩;obtain ⟨Aq1, cq1, rfl, _⟩ := (Rd.of_own hq1).shape;replace hbw := bo_ hbw hc1;clear hc1 hq1;refine EL.val (Zx rfl) rfl (EL.mv rfl rfl (EL.call (cA2 cF42 rfl rfl) rfl (QBX (u := false) (hr.below (hbw.mono hB)) (Nat.le_trans hB hbw.size) hn) ?_))
 rintro e w2 ⟨⟨v2, rfl, hq2⟩, hc2⟩
 refine ⟨_, rfl, ?_⟩;obtain ⟨Aq2, cq2, rfl, _⟩ := (Rd.of_own hq2).shape;replace hbw := bo_ hbw hc2;clear hc2 hq2;refine EL.val (Zx rfl) rfl (EL.as rfl rfl (EL.as rfl rfl (EL.nil (EX.seq (EC.seq (EC.seq (EC.region (EL.as rfl rfl (EL.nil ?_)))))))));refine EX.seq (EC.block ?_);refine EC.loopD [4, 5, 6, 7, 14, 15, 16, 17, 18, 19, 20, 21, 22, 23, 24, 25, 26, 27, 28, 29, 30, 31, 32, 33, 34, 35, 36, 37, 38, 39, 40, 41, 42, 43, 44, 45, 46, 47, 48, 49, 50, 51, 52, 53, 54, 55, 56, 57, 58, 59, 60] (fun i : Nat × Int × Int => [(7, .int .i64 (i.1 : Nat)), (5, .int .i64 i.2.1), (6, .int .i64 i.2.2)]) (fun i W => i.1 ≤ p.length ∧ (∀ j, j < i.1 → okAt (qL ts) p j = true) ∧ i.2.1 = Zc (qL ts) true (p.take i.1) ∧ i.2.2 = Zc (qL ts) false (p.take i.1) ∧ Below w.heap.size w W) (fun i => p.length - i.1) (0, (((qL ts) true).length : Nat), (((qL ts) false).length : Nat)) ⟨Nat.zero_le _, (fun j hj => absurd hj (Nat.not_lt_zero j)), QKM _ _ _, QKM _ _ _, hbw⟩ ⟨rfl, rfl, rfl, trivial⟩ ?_
 clear hbw
 rintro ⟨k, a, b⟩ wk ⟨hkp, hok, ha, hb_, hbw⟩
 simp only at hkp hok ha hb_
 have hlf := QIX hkp hok;have hmx := QLh ts (p.take k) (fun u => (hlf u).1)
 have hq1 := (hlf true).2;have hq2 := (hlf false).2;have hm1 := hmx true;have hm2 := hmx false;rw [← ha] at hq1 hm1;rw [← hb_] at hq2 hm2
 by_cases hltk : k < p.length
 ·
  obtain ⟨bp, op, rfl, _, cc⟩ := Yq p k hltk w B _ _ _ hp;have hok1 : ∀ e, okAt (qL ts) p k = e → okAt (qL ts) p k = e := fun _ h => h
  have hs1 := QFY (qL ts) true hltk;have hs2 := QFY (qL ts) false hltk;have hoe : okAt (qL ts) p k = inB 1 (Zc (qL ts) (p.getD k sp0).up (p.take k)) (p.getD k sp0).tows := rfl
  generalize p.getD k sp0 = c at cc hs1 hs2 hoe
  obtain ⟨cu, ct⟩ := c
  simp only at hs1 hs2 hoe
  clear hok1;have hmu := hmx cu;refine EC.seq (EC.seq (EC.region (EL.mv rfl rfl (EL.mv rfl rfl (EL.val (Y3 rfl) rfl ?_)))));refine EL.val (ZQ (r := true) rfl rfl (decide_eq_true (by omega))) rfl ?_
  refine EL.nil (EX.seq (EC.yes rfl (EC.skip (EX.seq (EC.seq (EC.block (EC.seq (EC.seq (EC.region ?_)))))))));refine EL.mv rfl rfl (EL.mv rfl rfl (EL.val (QAM rfl rfl hltk) rfl (EL.val (YE rfl) rfl (EL.val (ld_3 rfl (ZB hbw cc.c1)) rfl ?_))))
  by_cases h1 : ct < 1
  ·
   refine EL.val (ZQ (r := true) rfl rfl (decide_eq_true h1)) rfl (EL.mv rfl rfl (EL.skip rfl rfl rfl rfl (EL.skip rfl rfl rfl rfl (EL.skip rfl rfl rfl rfl (EL.skip rfl rfl rfl rfl (EL.skip rfl rfl rfl rfl (EL.skip rfl rfl rfl rfl (EL.skip rfl rfl rfl rfl (EL.skip rfl rfl rfl rfl ?_)))))))));refine EL.pt rfl rfl rfl (EL.nil (EX.seq (EC.yes rfl (EC.seq (EC.region (EL.as rfl rfl (EL.nil (EX.seq (EC.ret ?_)))))))));refine EX.seq_ret (EX.blk_ret (EX.seq_ret (EX.seq_ret (EX.blk_ret (EX.seq_ret ?_)))))
   exact EX.done (res1 rfl rfl) ⟨by rw [show okC (qL ts) p = _ from QDS hltk (QAe (fun e => by rw [hoe] at e; have hib := QAD e; omega))], hbw⟩
  ·
   refine EL.val (ZQ (r := false) rfl rfl (decide_eq_false h1)) rfl (EL.mv rfl rfl (EL.mg rfl rfl rfl rfl (EL.mg rfl rfl rfl rfl (EL.valg rfl rfl (QAM rfl rfl hltk) rfl (EL.valg rfl rfl (YE rfl) rfl (EL.valg rfl rfl (ld_3 rfl (ZB hbw cc.c1)) rfl (EL.mg rfl rfl rfl rfl (EL.valg rfl rfl (Zx rfl) rfl ?_))))))))
   by_cases h2 : (ts.length : Int) < ct
   ·
    refine EL.valg rfl rfl (Zq (r := true) rfl rfl (decide_eq_true h2)) rfl (EL.pf rfl rfl rfl (EL.nil (EX.seq (EC.yes rfl (EC.seq (EC.region (EL.as rfl rfl (EL.nil (EX.seq ?_)))))))));refine EC.ret (EX.seq_ret (EX.blk_ret (EX.seq_ret (EX.seq_ret (EX.blk_ret (EX.seq_ret ?_))))))
    exact EX.done (res1 rfl rfl) ⟨by rw [show okC (qL ts) p = _ from QDS hltk (QAe (fun e => by rw [hoe] at e; have hib := QAD e; omega))], hbw⟩
   ·
    refine EL.valg rfl rfl (Zq (r := false) rfl rfl (decide_eq_false h2)) rfl (EL.pf rfl rfl rfl (EL.nil (EX.seq (EC.no rfl (EC.skip (EX.seq (EC.seq (EC.seq (EC.region ?_)))))))));refine EL.mv rfl rfl (EL.mv rfl rfl (EL.val (QAM rfl rfl hltk) rfl (EL.val (QAd rfl) rfl (EL.val (ld_4 rfl (ZB hbw cc.c0)) rfl (EL.nil (EX.seq ?_))))))
    cases cu
    ·
     rw [if_neg (by decide)] at hs1
     rw [if_pos rfl] at hs2;rw [← ha] at hs1;rw [← hb_] at hs2 hoe;refine EC.no rfl (EC.region (EL.mv rfl rfl (EL.mv rfl rfl (EL.mv rfl rfl (EL.val (QAM rfl rfl hltk) rfl (EL.val (YE rfl) rfl (EL.val (ld_3 rfl (ZB hbw cc.c1)) rfl ?_)))))));refine EL.val (Zu rfl rfl (c := b - ct) (IntWalk.i64_in (b - ct) ⟨by omega, by omega⟩)) rfl ?_
     refine EL.as rfl rfl (EL.nil (EX.seq (EC.seq (EC.region (EL.mv rfl rfl ?_)))))
     by_cases h3 : a < 0
     ·
      refine EL.val (ZQ (r := true) rfl rfl (decide_eq_true h3)) rfl (EL.mv rfl rfl (EL.skip rfl rfl rfl rfl (EL.skip rfl rfl rfl rfl (EL.pt rfl rfl rfl (EL.nil (EX.seq (EC.yes rfl (EC.seq (EC.region ?_)))))))));refine EL.as rfl rfl (EL.nil (EX.seq (EC.ret (EX.blk_ret (EX.seq_ret (EX.seq_ret (EX.blk_ret (EX.seq_ret ?_))))))))
      exact EX.done (res1 rfl rfl) ⟨by rw [show okC (qL ts) p = _ from QDS hltk (QAe (fun e => by rw [hoe] at e; have hib := QAD e; omega))], hbw⟩
     ·
      refine EL.val (ZQ (r := false) rfl rfl (decide_eq_false h3)) rfl (EL.mv rfl rfl (EL.mg rfl rfl rfl rfl ?_))
      by_cases h4 : (b - ct) < 0
      ·
       refine EL.valg rfl rfl (ZQ (r := true) rfl rfl (decide_eq_true h4)) rfl (EL.pf rfl rfl rfl (EL.nil (EX.seq (EC.yes rfl (EC.seq (EC.region (EL.as rfl rfl (EL.nil (EX.seq ?_)))))))));refine EC.ret (EX.blk_ret (EX.seq_ret (EX.seq_ret (EX.blk_ret (EX.seq_ret ?_)))))
       exact EX.done (res1 rfl rfl) ⟨by rw [show okC (qL ts) p = _ from QDS hltk (QAe (fun e => by rw [hoe] at e; have hib := QAD e; omega))], hbw⟩
      ·
       refine EL.valg rfl rfl (ZQ (r := false) rfl rfl (decide_eq_false h4)) rfl (EL.pf rfl rfl rfl (EL.nil (EX.seq (EC.no rfl (EC.skip (EX.blk (EX.seq (EC.region (EL.mv rfl rfl ?_)))))))));refine EL.val (ZR rfl rfl (c := ((k + 1 : Nat) : Int)) ((IntWalk.i64_in _ ⟨by first | omega | (simp only; omega), by first | omega | (simp only; omega)⟩).trans (by first | omega | (simp only; omega)))) rfl ?_
       refine EL.as rfl rfl (EL.nil ?_);refine EX.roundD (k + 1, a, (b - ct)) ⟨rfl, rfl, rfl, trivial⟩ (by repeat first | with_reducible exact .refl _ | refine sp_ rfl ?_ | exact .refl _ | refine sd_ rfl ?_ | refine sn_ ?_) ⟨hltk, QAa hok (hoe.trans ((YR ..).2 ⟨by omega, by omega⟩)), hs1.symm, hs2.symm, hbw⟩ (show p.length - (k + 1) < p.length - k by omega)
    ·
     rw [if_pos rfl] at hs1;rw [if_neg (by decide)] at hs2
     rw [← ha] at hs1 hoe;rw [← hb_] at hs2;refine EC.yes rfl (EC.region (EL.mv rfl rfl (EL.mv rfl rfl (EL.mv rfl rfl (EL.val (QAM rfl rfl hltk) rfl (EL.val (YE rfl) rfl (EL.val (ld_3 rfl (ZB hbw cc.c1)) rfl ?_)))))));refine EL.val (Zu rfl rfl (c := a - ct) (IntWalk.i64_in (a - ct) ⟨by omega, by omega⟩)) rfl ?_
     refine EL.as rfl rfl (EL.nil (EX.seq (EC.seq (EC.region (EL.mv rfl rfl ?_)))))
     by_cases h3 : (a - ct) < 0
     ·
      refine EL.val (ZQ (r := true) rfl rfl (decide_eq_true h3)) rfl (EL.mv rfl rfl (EL.skip rfl rfl rfl rfl (EL.skip rfl rfl rfl rfl (EL.pt rfl rfl rfl (EL.nil (EX.seq (EC.yes rfl (EC.seq (EC.region ?_)))))))));refine EL.as rfl rfl (EL.nil (EX.seq (EC.ret (EX.blk_ret (EX.seq_ret (EX.seq_ret (EX.blk_ret (EX.seq_ret ?_))))))))
      exact EX.done (res1 rfl rfl) ⟨by rw [show okC (qL ts) p = _ from QDS hltk (QAe (fun e => by rw [hoe] at e; have hib := QAD e; omega))], hbw⟩
     ·
      refine EL.val (ZQ (r := false) rfl rfl (decide_eq_false h3)) rfl (EL.mv rfl rfl (EL.mg rfl rfl rfl rfl ?_))
      by_cases h4 : b < 0
      ·
       refine EL.valg rfl rfl (ZQ (r := true) rfl rfl (decide_eq_true h4)) rfl (EL.pf rfl rfl rfl (EL.nil (EX.seq (EC.yes rfl (EC.seq (EC.region (EL.as rfl rfl (EL.nil (EX.seq ?_)))))))));refine EC.ret (EX.blk_ret (EX.seq_ret (EX.seq_ret (EX.blk_ret (EX.seq_ret ?_)))))
       exact EX.done (res1 rfl rfl) ⟨by rw [show okC (qL ts) p = _ from QDS hltk (QAe (fun e => by rw [hoe] at e; have hib := QAD e; omega))], hbw⟩
      ·
       refine EL.valg rfl rfl (ZQ (r := false) rfl rfl (decide_eq_false h4)) rfl (EL.pf rfl rfl rfl (EL.nil (EX.seq (EC.no rfl (EC.skip (EX.blk (EX.seq (EC.region (EL.mv rfl rfl ?_)))))))));refine EL.val (ZR rfl rfl (c := ((k + 1 : Nat) : Int)) ((IntWalk.i64_in _ ⟨by first | omega | (simp only; omega), by first | omega | (simp only; omega)⟩).trans (by first | omega | (simp only; omega)))) rfl ?_
       refine EL.as rfl rfl (EL.nil ?_);refine EX.roundD (k + 1, (a - ct), b) ⟨rfl, rfl, rfl, trivial⟩ (by repeat first | with_reducible exact .refl _ | refine sp_ rfl ?_ | exact .refl _ | refine sd_ rfl ?_ | refine sn_ ?_) ⟨hltk, QAa hok (hoe.trans ((YR ..).2 ⟨by omega, by omega⟩)), hs1.symm, hs2.symm, hbw⟩ (show p.length - (k + 1) < p.length - k by omega)
 ·
  obtain rfl : k = p.length := by omega
  rw [List.take_length] at ha hb_;refine EC.seq (EC.seq (EC.region (EL.mv rfl rfl (EL.mv rfl rfl (EL.val (Y3 rfl) rfl ?_)))));refine EL.val (ZQ (r := false) rfl rfl (decide_eq_false (by omega))) rfl ?_
  refine EL.nil (EX.seq (EC.no rfl (EC.exit (EX.seq_exit (EX.seq_exit (EX.blk_here (EX.seq (EC.seq (EC.region ?_)))))))));refine EL.mv rfl rfl ?_
  by_cases h5 : a = 0
  ·
   refine EL.val (Zv (r := true) rfl rfl (decide_eq_true h5)) rfl (EL.mv rfl rfl (EL.mg rfl rfl rfl rfl ?_))
   by_cases h6 : b = 0
   ·
    refine EL.valg rfl rfl (Zv (r := true) rfl rfl (decide_eq_true h6)) rfl (EL.pt rfl rfl rfl (EL.as rfl rfl (EL.nil (EX.seq (EC.ret ?_)))))
    exact EX.done (res1 rfl rfl) ⟨by rw [show okC (qL ts) p = _ from QJ7 hok (by omega) (by omega)], hbw⟩
   ·
    refine EL.valg rfl rfl (Zv (r := false) rfl rfl (decide_eq_false h6)) rfl (EL.pt rfl rfl rfl (EL.as rfl rfl (EL.nil (EX.seq (EC.ret ?_)))))
    exact EX.done (res1 rfl rfl) ⟨by rw [show okC (qL ts) p = _ from QAe (QCx (by omega))], hbw⟩
  ·
   refine EL.val (Zv (r := false) rfl rfl (decide_eq_false h5)) rfl (EL.mv rfl rfl (EL.skip rfl rfl rfl rfl (EL.skip rfl rfl rfl rfl (EL.pf rfl rfl rfl (EL.as rfl rfl (EL.nil (EX.seq (EC.ret ?_))))))))
   exact EX.done (res1 rfl rfl) ⟨by rw [show okC (qL ts) p = _ from QAe (QCx (by omega))], hbw⟩
set_option maxRecDepth 100000 in
theorem QHZ {l : LK} {ts : List TW} {v : Value} {w : World} {B : Nat} (hr : Rd w B 5 v ts.length (twsC ts)) (hB : B ≤ w.heap.size) (hn : ts.length ≤ 1000000) :
  Calls Try.prog 43 #[.agg #[.int .i64 l.length, .int .i64 l.cycle, .int .i64 l.turn, .int .i64 l.fill, .int .i64 l.save, .bool l.high], v] w fun e w' => (∃ Au cu Ad cd, e = .returned (rsV (.slice Au ((qL ts) true).length cu) (.slice Ad ((qL ts) false).length cd) (.slice none 0 0) (stL l)) ∧ w'.ownsRow w.heap.size 39 5 (.slice Au ((qL ts) true).length cu) ((qL ts) true).length (twsC ((qL ts) true)) ∧ w'.ownsRow w.heap.size 39 5 (.slice Ad ((qL ts) false).length cd) ((qL ts) false).length (twsC ((qL ts) false))) ∧ Below w.heap.size w w' := by
 obtain ⟨At, ct, rfl, _⟩ := hr.shape;have hbw := Below.refl w.heap.size w;refine EC.enter 12 Try.func43 rfl rfl rfl (EC.seq (EC.region (EL.newP (QAQ rfl) rfl ?_)));intro g1 w1 q1 hb1 hg1 hl1;have bhbw_1 := Nat.le_trans hbw.size hg1;replace hbw := bo_ hbw hb1;clear hb1 hg1 hl1;refine EL.newP QBO rfl ?_;intro g2 w2 q2 hb2 hg2 hl2;have n1_2 := q1.na hg2;have bhbw_2 := Nat.le_trans hbw.size hg2;replace q1 := q1.bl hb2;replace hbw := bo_ hbw hb2;clear hb2 hg2 hl2;refine EL.nil (EX.seq (EC.seq ?_));have hsz0 := hbw.size;have lt_1 := q1.lt;have lt_2 := q2.lt;refine EC.regionP [[], [0], [], [0, 1, 2], [], [4], [0, 1, 2, 3, 4, 5], [0, 1, 2, 3, 4, 5, 6]] 7 [] (phi (fun i_ r => match i_ with | 0 => r 0 = .slice At ts.length ct | 2 => r 2 = .slice At ts.length ct | 4 => r 4 = .pointer (some ⟨g1, 5, none⟩) | 5 => r 5 = .bool l.high | _ => True) [(1, fun r w_ => ∃ A_ c_, r 1 = .slice A_ ((qL ts) true).length c_ ∧ w_.ownsRow w2.heap.size 39 5 (.slice A_ ((qL ts) true).length c_) ((qL ts) true).length (twsC ((qL ts) true))), (3, fun r w_ => ∃ A_ c_, r 3 = .slice A_ ((qL ts) false).length c_ ∧ w_.ownsRow w2.heap.size 39 5 (.slice A_ ((qL ts) false).length c_) ((qL ts) false).length (twsC ((qL ts) false))), (6, fun r w_ => ∃ A_ c_ A2_ c2_, r 6 = .agg #[.slice A_ ((qL ts) true).length c_, .slice A2_ ((qL ts) false).length c2_, .int .i64 0, .bool l.high, .slice none 0 0, .int .i64 0, .int .i64 0, .int .i64 0, .int .i64 0, .int .i64 0, .int .i64 0] ∧ w_.ownsRow w2.heap.size 39 5 (.slice A_ ((qL ts) true).length c_) ((qL ts) true).length (twsC ((qL ts) true)) ∧ w_.ownsRow w2.heap.size 39 5 (.slice A2_ ((qL ts) false).length c2_) ((qL ts) false).length (twsC ((qL ts) false)))]) (by kernel_rfl) rfl rfl (YK (QAc (f := fun A c => .slice A ((qL ts) true).length c)) (YK (QAc (f := fun A c => .slice A ((qL ts) false).length c)) (YK (fun _ _ _ hb ⟨A1, c1, A2, c2, h1, h2, h3⟩ => ⟨A1, c1, A2, c2, h1, ZC h2 hb (Nat.le_refl _), ZC h3 hb (Nat.le_refl _)⟩) (Yd)))) (fun i_ hi_ => ?_) ?_
 ·match i_, hi_ with
  | 0, _ =>
   intro val w1 a hb ha hd;have ha := ha.s0 (d := 1) rfl
   exact ZJ ha rfl rfl (x_move rfl) rfl rfl
  | 1, _ =>
   intro val w1 a hb ha hd;have e0 : val 0 = _ := hd 0 (ZA.1 rfl);have ha := ha.s1 (d := 5) rfl e0;refine QAG ha rfl rfl (cA2 cF42 rfl rfl) (QBX (u := true) (hr.below ((hbw.trans (hb.mono hbw.size)).mono hB)) (Nat.le_trans hB (Nat.le_trans hbw.size hb.size)) hn) rfl ?_
   rintro e w' ⟨⟨v', rfl, ho⟩, hb'⟩
   obtain ⟨A, c9, rfl, _⟩ := (Rd.of_own ho).shape
   exact ⟨_, rfl, hb', A, c9, rfl, YB ho hb.size⟩
  | 2, _ =>
   intro val w1 a hb ha hd;have ha := ha.s0 (d := 1) rfl
   exact ZJ ha rfl rfl (x_move rfl) rfl rfl
  | 3, _ =>
   intro val w1 a hb ha hd;have e2 : val 2 = _ := hd 2 (ZA.1 rfl);have ha := ha.s1 (d := 7) rfl e2;refine QAG ha rfl rfl (cA2 cF42 rfl rfl) (QBX (u := false) (hr.below ((hbw.trans (hb.mono hbw.size)).mono hB)) (Nat.le_trans hB (Nat.le_trans hbw.size hb.size)) hn) rfl ?_
   rintro e w' ⟨⟨v', rfl, ho⟩, hb'⟩
   obtain ⟨A, c9, rfl, _⟩ := (Rd.of_own ho).shape
   exact ⟨_, rfl, hb', A, c9, rfl, YB ho hb.size⟩
  | 4, _ =>
   intro val w1 a hb ha hd;have ha := ha.s0 (d := 2) rfl
   exact ZJ ha rfl rfl (QA3 rfl) rfl rfl
  | 5, _ =>
   intro val w1 a hb ha hd;have e4 : val 4 = _ := hd 4 (ZA.1 rfl);have ha := ha.s1 (d := 9) rfl e4
   exact ZJ ha rfl rfl (ld_4 rfl ((q1.below hb q1.lt).at (j := 5) rfl)) rfl rfl
  | 6, _ =>
   intro val w1 a hb ha hd;obtain ⟨A1_, c1_, e1, o1_⟩ := hd 1 (ZA.1 rfl);obtain ⟨A3_, c3_, e3, o3_⟩ := hd 3 (ZA.1 rfl);have e5 : val 5 = _ := hd 5 (ZA.1 rfl);have ha := ha.sub (Sub.ins (d := 10) (Sub.ins (d := 8) (Sub.ins (d := 6) (Sub.nil _) (ZN rfl e1)) (ZN rfl e3)) (ZN rfl e5))
   exact ZJ ha rfl rfl (QHE rfl rfl rfl) ⟨A1_, c1_, A3_, c3_, rfl, o1_, o3_⟩ rfl
  | k + 7, h => exact absurd h (by omega)
 ·intro val wR1 hb halc hd
  have e0 : val 0 = _ := hd 0 (by omega)
  obtain ⟨A1_, c1_, e1, o1_⟩ := hd 1 (by omega)
  have e2 : val 2 = _ := hd 2 (by omega)
  obtain ⟨A3_, c3_, e3, o3_⟩ := hd 3 (by omega)
  have e4 : val 4 = _ := hd 4 (by omega)
  have e5 : val 5 = _ := hd 5 (by omega)
  obtain ⟨A6_, c6_, B6_, d6_, e6, o6_, p6_⟩ := hd 6 (by omega)
  refine EL.ends (cs := [_, _, _, _, _, _, _]) ⟨e0, e1, e2, e3, e4, e5, e6, trivial⟩ rfl ?_;replace q1 := q1.bl hb;replace q2 := q2.bl hb;replace hbw := bo_ hbw hb;clear hb;replace o6_ := YB o6_ hsz0;replace p6_ := YB p6_ hsz0;refine EL.store rfl rfl q2 YW rfl rfl rfl rfl ?_;intro w3 hq3 hg3;replace q1 := q1.gr hg3 n1_2;replace o6_ := ZG o6_ q2 rfl hg3;replace p6_ := ZG p6_ q2 rfl hg3;replace hbw := ZE hbw hg3 bhbw_2;replace q2 := hq3;clear hg3 hq3;refine EL.nil (EX.seq (EC.ret ?_))
  exact EX.done (QCO rfl rfl (QBz (q2.at (j := 0) rfl) (q2.at (j := 1) rfl) (q2.at (j := 2) rfl) (q2.at (j := 3) rfl) (q2.at (j := 4) rfl) (q2.at (j := 5) rfl) (q2.at (j := 6) rfl) (q2.at (j := 7) rfl) (q2.at (j := 8) rfl) (q2.at (j := 9) rfl) (q2.at (j := 10) rfl))) ⟨⟨_, _, _, _, rfl, o6_, p6_⟩, hbw⟩
section
variable {n : Nat} {σ : Sg} {w : World} {dst : Option Tmp} {ty : TypeId} {pos : String} {af : Array Edge} {g : Option (Nat × Bool)} {x y z : Operand} {at' : Array TypeId}
theorem QGD {b o : Nat} (hx : evS σ x = some (.pointer (some ⟨b, o, none⟩))) : ZL Try.prog n σ w ⟨dst, .fieldAddr 45 x 1, ty, pos, af, g⟩ (.pointer (some ⟨b, o + 1, none⟩)) := fun a ha => by
 simp only [execOp, ha.eval hx]
 simp [go_sem]
theorem QGE {b o : Nat} (hx : evS σ x = some (.pointer (some ⟨b, o, none⟩))) : ZL Try.prog n σ w ⟨dst, .fieldAddr 45 x 0, ty, pos, af, g⟩ (.pointer (some ⟨b, o, none⟩)) := fun a ha => by
 simp only [execOp, ha.eval hx]
 simp [go_sem]
theorem QIg {b o : Nat} (hx : evS σ x = some (.pointer (some ⟨b, o, none⟩))) : ZL Try.prog n σ w ⟨dst, .fieldAddr 45 x 2, ty, pos, af, g⟩ (.pointer (some ⟨b, o + 2, none⟩)) := fun a ha => by
 simp only [execOp, ha.eval hx]
 simp [go_sem]
theorem cF58 : cF 58 := fun _ _ => by simp [go_sem]
theorem QL4 {x0 : Operand} {z0 : Int} (h0 : evS σ x0 = some (.int .i64 z0)) : ZL Try.prog n σ w ⟨dst, .build 49 #[(0, x0)], ty, pos, af, g⟩ (.agg #[.int .i64 z0, .int .i64 0]) := fun a ha => by
 simp only [execOp, List.map_toArray, List.map_cons, List.map_nil, ha.eval h0]
 go_simp
theorem QGC {b o : Nat} (hx : evS σ x = some (.pointer (some ⟨b, o, none⟩))) : ZL Try.prog n σ w ⟨dst, .fieldAddr 45 x 5, ty, pos, af, g⟩ (.pointer (some ⟨b, o + 5, none⟩)) := fun a ha => by
 simp only [execOp, ha.eval hx]
 simp [go_sem]
theorem QLw (a : Act) (_ : Env n σ a) : (execOp a.eval ⟨dst, .buildSlice 31 0 #[], ty, pos, af, g⟩).run Try.prog w = .ok (.value (.slice (some ⟨w.heap.size, 0, none⟩) 0 0)) (w.alloc (.cells #[] 49)) := by
 simp only [execOp]
 go_simp
theorem QD1 {b o : Nat} (hx : evS σ x = some (.pointer (some ⟨b, o, none⟩))) : ZL Try.prog n σ w ⟨dst, .fieldAddr 45 x 4, ty, pos, af, g⟩ (.pointer (some ⟨b, o + 4, none⟩)) := fun a ha => by
 simp only [execOp, ha.eval hx]
 simp [go_sem]
theorem QKP {b o : Nat} {v0 : Value} (hx : evS σ x = some (.pointer (some ⟨b, o, none⟩))) (c0 : w.cell? ⟨b, o, none⟩ = some v0) : ZL Try.prog n σ w ⟨dst, .load 31 x, ty, pos, af, g⟩ (v0) := fun a ha => by
 simp only [execOp, ha.eval hx]
 simp [go_sem, c0]
theorem QMw : (Try.prog.info? 31).map (·.size) = some 1 := by kernel_rfl
end
theorem QBV {l : LK} {s : ST} {f M : Int} {Au Ad Ar : Option Addr} {nu cu nd cd nr cr : Nat} (hl : ∃ hi, s.lk = lkW l hi) (hok : lkB l = true) (hB : WtB M s) (hM : M ≤ 1000000000000) (w : World) :
  Calls Try.prog 58 #[.agg #[.int .i64 l.length, .int .i64 l.cycle, .int .i64 l.turn, .int .i64 l.fill, .int .i64 l.save, .bool l.high], .agg #[.slice Au nu cu, .slice Ad nd cd, .int .i64 f, .bool s.lk.high, .slice Ar nr cr, .int .i64 s.cost, .int .i64 s.mv, .int .i64 s.up, .int .i64 s.lo, .int .i64 s.ch, .int .i64 s.ba]] w fun e w' => e = .returned (.agg #[.slice Au nu cu, .slice Ad nd cd, .int .i64 f, .bool (mvS s).lk.high, .slice Ar nr cr, .int .i64 (mvS s).cost, .int .i64 (mvS s).mv, .int .i64 (mvS s).up, .int .i64 (mvS s).lo, .int .i64 (mvS s).ch, .int .i64 (mvS s).ba]) ∧ Below w.heap.size w w' := by
 obtain ⟨hi, hl⟩ := hl;obtain ⟨lk, up, lo, ch, ba, mv, fr, t0, t1, co⟩ := s
 simp only at hl
 subst hl;refine (QLJ (hi := hi) (hl := l.high) (le := l.length) (fr := f) (t0 := t0) (t1 := t1) hok ⟨hB.up, hB.lo, hB.ch, hB.mv, hB.ba, hB.hb⟩ hM w).mono fun e w' ⟨he, hb⟩ => ⟨?_, hb⟩
 rw [he]
 cases hi <;> rfl
theorem QM1 {l : LK} {s : ST} (h : ∃ hi, s.lk = lkW l hi) : ∃ hi, (mvS s).lk = lkW l hi := by
 obtain ⟨hi, h⟩ := h
 exact ⟨_, by rw [QCZ, h, QIU]⟩
theorem QM3 {l : LK} {s : ST} (h : ∃ hi, s.lk = lkW l hi) (hok : lkB l = true) : lkB s.lk = true := by
 obtain ⟨hi, h⟩ := h;rw [h]
 exact hok
theorem QLY {l : LK} {s : ST} {n : Nat} (h : ∃ hi, s.lk = lkW l hi) : ∃ hi, (mvN n s).lk = lkW l hi := by
 obtain ⟨hi, h⟩ := h;obtain ⟨hv, he⟩ := QEb n s
 exact ⟨hv, by rw [he, h, QIU]⟩
theorem QJA {long L : Int} (hL : 0 < L) (h : 0 ≤ long) : (long + L - 1).tdiv L = ((partsN long L : Nat) : Int) := by
 unfold partsN
 rw [Int.tdiv_eq_ediv_of_nonneg (by omega), Int.toNat_of_nonneg (Int.ediv_nonneg (by omega) (by omega))]
set_option maxHeartbeats 1000000 in
set_option maxRecDepth 100000 in
theorem QCC {l : LK} {s : ST} {u : Bool} {ts ls lu ld : List TW} {rs : List RN} {As Au Ad Ar : Option Addr} {cs cu cd cr : Nat} {w : World} {B : Nat} (h : StOk l s) (htw : ∀ t ∈ ts, twB l t = true) (h8 : s.t0 + s.t1 + ts.length ≤ 8) (h0 : 1 ≤ ts.length) (hn : ts.length ≤ ls.length) (hpre : ls.take ts.length = ts) (hrs : rs.length ≤ 1000)
  (hus : u = true → (Au, lu, cu) = (As, ls, cs)) (hds : u = false → (Ad, ld, cd) = (As, ls, cs)) (hr : Rd w B 5 (.slice As ls.length cs) ls.length (twsC ls)) (hrr : Rd w B 2 (.slice Ar rs.length cr) rs.length (rnsC rs)) (hB : B ≤ w.heap.size) :
  Calls Try.prog 44 #[.agg #[.int .i64 l.length, .int .i64 l.cycle, .int .i64 l.turn, .int .i64 l.fill, .int .i64 l.save, .bool l.high], .agg #[.slice Au lu.length cu, .slice Ad ld.length cd, .int .i64 s.fr, .bool s.lk.high, .slice Ar rs.length cr, .int .i64 s.cost, .int .i64 s.mv, .int .i64 s.up, .int .i64 s.lo, .int .i64 s.ch, .int .i64 s.ba], .agg #[.bool u, .int .i64 (ts.length : Nat)]] w fun e w' => ((fitB l.length ts = true → ∃ Ar' cr', e = .returned (.tuple #[rsV (if u = true then .slice (YS As cs ts.length) (ls.length - ts.length) (cs - ts.length) else .slice Au lu.length cu) (if u = true then .slice Ad ld.length cd else .slice (YS As cs ts.length) (ls.length - ts.length) (cs - ts.length)) (.slice Ar' (rs.length + 1) cr') (tkS s ts u), .bool true]) ∧ w'.ownsRow w.heap.size 49 2 (.slice Ar' (rs.length + 1) cr') (rs.length + 1) (rnsC rs ++ [.int .i64 (runT s ts u).start, .int .i64 (runT s ts u).stop])) ∧
   (fitB l.length ts = false → e = .returned (.tuple #[.agg #[.slice Au lu.length cu, .slice Ad ld.length cd, .int .i64 s.fr, .bool s.lk.high, .slice Ar rs.length cr, .int .i64 s.cost, .int .i64 s.mv, .int .i64 s.up, .int .i64 s.lo, .int .i64 s.ch, .int .i64 s.ba], .bool false]))) ∧ Below w.heap.size w w' := by
 obtain ⟨bA, oA, rfl, _⟩ := hr.at_ (by omega)
 have hcs : ls.length ≤ cs := by
  obtain ⟨_, _, e, he⟩ := hr.shape
  injection e with _ _ e
  omega
 have hrt : Rd w B 5 (.slice (some ⟨bA, oA, none⟩) ts.length cs) ts.length (twsC ts) := by
  have := Y0 hr hn;rw [← YJ, hpre] at this
  exact this
 have h8n : ts.length ≤ 8 := by omega
 have hbw := Below.refl w.heap.size w;refine EC.enter 185 Try.func44 rfl rfl rfl (EC.seq (EC.region (EL.newP (QAQ rfl) rfl ?_)));intro g1 w1 q1 hb1 hg1 hl1;have bhbw_1 := Nat.le_trans hbw.size hg1;replace hbw := bo_ hbw hb1;clear hb1 hg1 hl1;refine EL.newP (QIn rfl) rfl ?_;intro g2 w2 q2 hb2 hg2 hl2;have n1_2 := q1.na hg2;have bhbw_2 := Nat.le_trans hbw.size hg2;replace q1 := q1.bl hb2;replace hbw := bo_ hbw hb2;clear hb2 hg2 hl2;refine EL.newP (QKu rfl) rfl ?_;intro g3 w3 q3 hb3 hg3 hl3;have n1_3 := q1.na hg3;have n2_3 := q2.na hg3;have bhbw_3 := Nat.le_trans hbw.size hg3;replace q1 := q1.bl hb3;replace q2 := q2.bl hb3;replace hbw := bo_ hbw hb3;clear hb3 hg3 hl3;refine EL.newP QBO rfl ?_;intro g4 w4 q4 hb4 hg4 hl4;have n1_4 := q1.na hg4;have n2_4 := q2.na hg4;have n3_4 := q3.na hg4;have bhbw_4 := Nat.le_trans hbw.size hg4;replace q1 := q1.bl hb4;replace q2 := q2.bl hb4;replace q3 := q3.bl hb4;replace hbw := bo_ hbw hb4;clear hb4 hg4 hl4;refine EL.as rfl rfl (EL.nil (EX.seq (EC.seq (EC.region (EL.val (QGD rfl) rfl (EL.val (Yt rfl (q2.at (j := 1) rfl)) rfl (EL.as rfl rfl (EL.nil (EX.seq ?_)))))))));refine EC.cutD [8, 20, 21, 22, 23] (fun _ : Unit => [(8, .slice (some ⟨bA, oA, none⟩) ls.length cs)]) (fun _ W => Blk W g1 23 #[.int .i64 l.length, .int .i64 l.cycle, .int .i64 l.turn, .int .i64 l.fill, .int .i64 l.save, .bool l.high] ∧ Blk W g2 45 #[.slice Au lu.length cu, .slice Ad ld.length cd, .int .i64 s.fr, .bool s.lk.high, .slice Ar rs.length cr, .int .i64 s.cost, .int .i64 s.mv, .int .i64 s.up, .int .i64 s.lo, .int .i64 s.ch, .int .i64 s.ba] ∧ Blk W g3 87 #[.bool u, .int .i64 (ts.length : Nat)] ∧ Blk W g4 45 #[.slice none 0 0, .slice none 0 0, .int .i64 0, .bool false, .slice none 0 0, .int .i64 0, .int .i64 0, .int .i64 0, .int .i64 0, .int .i64 0, .int .i64 0] ∧ Below w.heap.size w W) ?_ ?_
 ·
  refine EC.seq (EC.region (EL.val (QAd rfl) rfl (EL.val (ld_4 rfl (q3.at (j := 0) rfl)) rfl (EL.nil (EX.seq ?_)))))
  cases u
  ·
   have esel := hds rfl
   simp only [Prod.mk.injEq] at esel
   obtain ⟨rfl, rfl, rfl⟩ := esel;refine EC.no rfl (EC.skip ?_)
   exact EX.cutE () ⟨rfl, trivial⟩ (by repeat first | with_reducible exact (Sub.refl _).del _ | refine sp_ rfl ?_ | exact (Sub.refl _).del _ | refine sd_ rfl ?_ | refine sn_ ?_) ⟨q1, q2, q3, q4, hbw⟩
  ·
   have esel := hus rfl
   simp only [Prod.mk.injEq] at esel
   obtain ⟨rfl, rfl, rfl⟩ := esel;refine EC.yes rfl (EC.region (EL.val (QGE rfl) rfl (EL.val (Yt rfl (q2.at (j := 0) rfl)) rfl (EL.as rfl rfl (EL.nil ?_)))))
   exact EX.cutE () ⟨rfl, trivial⟩ (by repeat first | with_reducible exact (Sub.refl _).del _ | refine sp_ rfl ?_ | exact (Sub.refl _).del _ | refine sd_ rfl ?_ | refine sn_ ?_) ⟨q1, q2, q3, q4, hbw⟩
 ·
  clear q1 q2 q3 q4 hbw
  rintro ⟨⟩ W1 ⟨q1, q2, q3, q4, hbw⟩
  refine EC.seq (EC.region (EL.mv rfl rfl (EL.val (YE rfl) rfl (EL.val (ld_3 rfl (q3.at (j := 1) rfl)) rfl (EL.val (QCW (hi := ts.length) rfl rfl (Nat.le_trans hn hcs)) rfl (EL.as rfl rfl (EL.nil (EX.seq (EC.seq ?_)))))))));refine EC.region (EL.as rfl rfl (EL.as rfl rfl (EL.nil (EX.seq (EC.seq (EC.seq (EC.region (EL.as rfl rfl (EL.nil ?_)))))))));refine EX.seq (EC.block ?_);refine EC.loopD [9, 10, 11, 28, 29, 30, 31, 32, 33, 34, 35, 36, 37, 38, 39, 40, 41, 42, 43, 44, 45, 46, 47] (fun k : Nat => [(11, .int .i64 (k : Nat)), (9, .int .i64 (Zg (ts.take k))), (10, .int .i64 (arrT (ts.take k)))]) (fun k W => k ≤ ts.length ∧ Blk W g1 23 #[.int .i64 l.length, .int .i64 l.cycle, .int .i64 l.turn, .int .i64 l.fill, .int .i64 l.save, .bool l.high] ∧ Blk W g2 45 #[.slice Au lu.length cu, .slice Ad ld.length cd, .int .i64 s.fr, .bool s.lk.high, .slice Ar rs.length cr, .int .i64 s.cost, .int .i64 s.mv, .int .i64 s.up, .int .i64 s.lo, .int .i64 s.ch, .int .i64 s.ba] ∧ Blk W g3 87 #[.bool u, .int .i64 (ts.length : Nat)] ∧ Blk W g4 45 #[.slice none 0 0, .slice none 0 0, .int .i64 0, .bool false, .slice none 0 0, .int .i64 0, .int .i64 0, .int .i64 0, .int .i64 0, .int .i64 0, .int .i64 0] ∧ Below w.heap.size w W) (fun k => ts.length - k) 0 ⟨Nat.zero_le _, q1, q2, q3, q4, hbw⟩ ⟨rfl, rfl, rfl, trivial⟩ ?_
  clear q1 q2 q3 q4 hbw
  rintro k wk ⟨hk, q1, q2, q3, q4, hbw⟩
  by_cases hltk : k < ts.length
  ·
   obtain ⟨b, o, eb_, _, cc⟩ := Zt ts k hltk w B _ _ _ hrt
   injection eb_ with eb_
   injection eb_ with eb1_ eb2_
   subst eb1_ eb2_;have hy := htw _ (Z0 hltk tw0);have hs1 : Zg (ts.take (k + 1)) = Zg (ts.take k) + (ts.getD k tw0).length := QFL (f := (·.length)) hltk;have hs2 := QFg hltk
   generalize ts.getD k tw0 = y at cc hy hs1 hs2
   obtain ⟨y1, y2, _, _⟩ := QAt hy;have hlb0 := Y4 h.ok;have hk2 := QFz htw h8n h.ok k;refine EC.seq (EC.seq (EC.region (EL.mv rfl rfl (EL.mv rfl rfl (EL.val (Zx rfl) rfl ?_)))));refine EL.val (ZQ (r := true) rfl rfl (decide_eq_true (by omega))) rfl ?_
   refine EL.nil (EX.seq (EC.yes rfl (EC.skip (EX.seq (EC.seq (EC.block ?_))))));refine EC.regionQ (by kernel_rfl) (by kernel_rfl) ?_
   refine EQ.mv rfl rfl (EQ.mv rfl rfl (EQ.mv rfl rfl ?_));refine EQ.val (fun _ hw => (YI rfl rfl hltk)) rfl ?_
   refine EQ.val (fun _ hw => (QD3 rfl)) rfl ?_
   refine EQ.val (fun _ hw => (ld_3 rfl (ZB hw (ZB hbw cc.c2)))) rfl ?_
   refine EQ.val (fun _ hw => (ZR rfl rfl (c := Zg (ts.take (k + 1))) ((IntWalk.i64_in _ ⟨by omega, by omega⟩).trans hs1.symm))) rfl ?_
   refine EQ.mv rfl rfl (EQ.mv rfl rfl (EQ.mv rfl rfl ?_));refine EQ.val (fun _ hw => (YI rfl rfl hltk)) rfl ?_
   refine EQ.val (fun _ hw => (Ye rfl)) rfl ?_
   refine EQ.val (fun _ hw => (ld_3 rfl (ZB hw (ZB hbw cc.c1)))) rfl ?_
   refine EQ.val (fun _ hw => (QEd rfl rfl hs2.symm)) rfl ?_
   refine EQ.val (fun _ hw => (Ze rfl)) rfl ?_
   refine EQ.val (fun _ hw => (Ze rfl)) rfl ?_
   refine EQ.fin (fun w5 hw_ => ?_)
   replace q1 := q1.bl hw_;replace q2 := q2.bl hw_;replace q3 := q3.bl hw_;replace q4 := q4.bl hw_;replace hbw := bo_ hbw hw_;clear hw_;refine EX.blk (EX.seq (EC.region (EL.mv rfl rfl ?_)));refine EL.val (ZR rfl rfl (c := ((k + 1 : Nat) : Int)) ((IntWalk.i64_in _ ⟨by first | omega | (simp only; omega), by first | omega | (simp only; omega)⟩).trans (by first | omega | (simp only; omega)))) rfl ?_
   refine EL.as rfl rfl (EL.nil ?_);refine EX.roundD (k + 1) ⟨rfl, rfl, rfl, trivial⟩ (by repeat first | with_reducible exact .refl _ | refine sp_ rfl ?_ | exact .refl _ | refine sd_ rfl ?_ | refine sn_ ?_) ⟨hltk, q1, q2, q3, q4, hbw⟩ (by omega)
  ·
   obtain rfl : k = ts.length := by omega
   rw [List.take_length];have hlg := QFz htw h8n h.ok ts.length;rw [List.take_length] at hlg;refine EC.seq (EC.seq (EC.region (EL.mv rfl rfl (EL.mv rfl rfl (EL.val (Zx rfl) rfl ?_)))));refine EL.val (ZQ (r := false) rfl rfl (decide_eq_false (by omega))) rfl ?_
   refine EL.nil (EX.seq (EC.no rfl (EC.exit (EX.seq_exit (EX.seq_exit (EX.blk_here (EX.seq ?_)))))));refine EC.cutD [7, 48, 49, 50, 51, 52, 53, 54, 55, 56, 57] (fun _ : Unit => []) (fun _ W => fitB l.length ts = true ∧ Blk W g1 23 #[.int .i64 l.length, .int .i64 l.cycle, .int .i64 l.turn, .int .i64 l.fill, .int .i64 l.save, .bool l.high] ∧ Blk W g2 45 #[.slice Au lu.length cu, .slice Ad ld.length cd, .int .i64 s.fr, .bool s.lk.high, .slice Ar rs.length cr, .int .i64 s.cost, .int .i64 s.mv, .int .i64 s.up, .int .i64 s.lo, .int .i64 s.ch, .int .i64 s.ba] ∧ Blk W g3 87 #[.bool u, .int .i64 (ts.length : Nat)] ∧ Blk W g4 45 #[.slice none 0 0, .slice none 0 0, .int .i64 0, .bool false, .slice none 0 0, .int .i64 0, .int .i64 0, .int .i64 0, .int .i64 0, .int .i64 0, .int .i64 0] ∧ Below w.heap.size w W) ?_ ?_
   ·
    refine EC.seq (EC.region (EL.mv rfl rfl (EL.val (Zx rfl) rfl ?_)))
    by_cases h1 : 1 < ts.length
    ·
     refine EL.val (Zq (r := true) rfl rfl (decide_eq_true (by omega))) rfl ?_
     refine EL.mv rfl rfl (EL.mg rfl rfl rfl rfl (EL.valg rfl rfl (Yo rfl) rfl (EL.valg rfl rfl (ld_3 rfl (q1.at (j := 0) rfl)) rfl ?_)))
     by_cases h2 : l.length < Zg ts
     ·
      refine EL.valg rfl rfl (Zq (r := true) rfl rfl (decide_eq_true h2)) rfl (EL.pt rfl rfl rfl (EL.nil (EX.seq (EC.yes rfl (EC.seq (EC.region (EL.val (Ys rfl (q2.at (j := 0) rfl) (q2.at (j := 1) rfl) (q2.at (j := 2) rfl) (q2.at (j := 3) rfl) (q2.at (j := 4) rfl) (q2.at (j := 5) rfl) (q2.at (j := 6) rfl) (q2.at (j := 7) rfl) (q2.at (j := 8) rfl) (q2.at (j := 9) rfl) (q2.at (j := 10) rfl)) rfl (EL.store rfl rfl q4 YW rfl rfl rfl rfl ?_))))))));intro w6 hq6 hg6;replace q1 := q1.gr hg6 n1_4;replace q2 := q2.gr hg6 n2_4;replace q3 := q3.gr hg6 n3_4;replace hbw := ZE hbw hg6 bhbw_4;replace q4 := hq6;clear hg6 hq6;refine EL.as rfl rfl (EL.nil (EX.seq (EC.ret (EX.seq_ret ?_))))
      exact EX.done (QDZ rfl rfl rfl (QBz (q4.at (j := 0) rfl) (q4.at (j := 1) rfl) (q4.at (j := 2) rfl) (q4.at (j := 3) rfl) (q4.at (j := 4) rfl) (q4.at (j := 5) rfl) (q4.at (j := 6) rfl) (q4.at (j := 7) rfl) (q4.at (j := 8) rfl) (q4.at (j := 9) rfl) (q4.at (j := 10) rfl))) ⟨⟨fun hf => absurd hf (by unfold fitB; simp [h1, h2]), fun _ => rfl⟩, hbw⟩
     ·
      refine EL.valg rfl rfl (Zq (r := false) rfl rfl (decide_eq_false h2)) rfl (EL.pt rfl rfl rfl (EL.nil (EX.seq (EC.no rfl (EC.skip ?_)))));refine EX.cutE () trivial (by repeat first | with_reducible exact (Sub.refl _).del _ | refine sp_ rfl ?_ | exact (Sub.refl _).del _ | refine sd_ rfl ?_ | refine sn_ ?_) ⟨by unfold fitB; simp [h2], q1, q2, q3, q4, hbw⟩
    ·
     refine EL.val (Zq (r := false) rfl rfl (decide_eq_false (by omega))) rfl ?_
     refine EL.mv rfl rfl (EL.skip rfl rfl rfl rfl (EL.skip rfl rfl rfl rfl (EL.skip rfl rfl rfl rfl (EL.skip rfl rfl rfl rfl (EL.pf rfl rfl rfl (EL.nil (EX.seq (EC.no rfl (EC.skip ?_)))))))));refine EX.cutE () trivial (by repeat first | with_reducible exact (Sub.refl _).del _ | refine sp_ rfl ?_ | exact (Sub.refl _).del _ | refine sd_ rfl ?_ | refine sn_ ?_) ⟨by unfold fitB; simp [h1], q1, q2, q3, q4, hbw⟩
   ·
    clear q1 q2 q3 q4 hbw
    rintro ⟨⟩ W4 ⟨hfit, q1, q2, q3, q4, hbw⟩
    refine EC.seq ?_;obtain ⟨hr1, hr2, hr3, hr4, hr5, hr6⟩ := QEN (u := u) h htw hfit h8;have hlb := Y4 h.ok;have hp3 := QBv htw h.ok hfit;have hlw := QDy htw h8n h.ok;have hpq := QJA (long := Zg ts) (L := l.length) (by omega) (by omega)
    have hp0 := QDQ (long := Zg ts) (L := l.length) (by omega) (by omega)
    obtain ⟨p, hp⟩ : ∃ p, p = partsN (Zg ts) l.length := ⟨_, rfl⟩;rw [← hp] at hp3 hpq hp0;have hfr := h.fr;refine EC.regionQ (by kernel_rfl) (by kernel_rfl) ?_
    refine EQ.mv rfl rfl ?_;refine EQ.val (fun _ hw => (Yo rfl)) rfl ?_
    refine EQ.val (fun _ hw => (ld_3 rfl (ZB hw (q1.at (j := 0) rfl)))) rfl ?_
    refine EQ.val (fun _ hw => (ZR rfl rfl (c := Zg ts + l.length) (IntWalk.i64_in (Zg ts + l.length) ⟨by omega, by omega⟩))) rfl ?_
    refine EQ.val (fun _ hw => (Zu rfl rfl (c := Zg ts + l.length - 1) (IntWalk.i64_in (Zg ts + l.length - 1) ⟨by omega, by omega⟩))) rfl ?_
    refine EQ.val (fun _ hw => (Yo rfl)) rfl ?_
    refine EQ.val (fun _ hw => (ld_3 rfl (ZB hw (q1.at (j := 0) rfl)))) rfl ?_
    refine EQ.val (fun _ hw => (QHx rfl rfl (by omega) (c := ((p : Nat) : Int)) (by rw [hpq]; exact IntWalk.i64_in _ ⟨by omega, by omega⟩))) rfl ?_
    refine EQ.val (fun _ hw => (QIg rfl)) rfl ?_
    refine EQ.val (fun _ hw => (ld_3 rfl (ZB hw (q2.at (j := 2) rfl)))) rfl ?_
    refine EQ.val (fun _ hw => (Ze rfl)) rfl ?_
    refine EQ.val (fun _ hw => (Ze rfl)) rfl ?_
    refine EQ.fin (fun w7 hw_ => ?_)
    replace q1 := q1.bl hw_;replace q2 := q2.bl hw_;replace q3 := q3.bl hw_;replace q4 := q4.bl hw_;replace hbw := bo_ hbw hw_;clear hw_;refine EX.seq ?_;have hlt : s.lk.turn = l.turn ∧ s.lk.cycle = l.cycle ∧ s.lk.length = l.length := by rw [h.lk]; exact ⟨rfl, rfl, rfl⟩
    refine EC.cutD [13, 68, 69, 70, 71, 72, 73, 74, 75, 76, 77, 78, 79] (fun _ : Unit => [(13, .int .i64 (Zh s u).fr)]) (fun _ W => Blk W g1 23 #[.int .i64 l.length, .int .i64 l.cycle, .int .i64 l.turn, .int .i64 l.fill, .int .i64 l.save, .bool l.high] ∧ Blk W g2 45 #[.slice Au lu.length cu, .slice Ad ld.length cd, .int .i64 s.fr, .bool (Zh s u).lk.high, .slice Ar rs.length cr, .int .i64 (Zh s u).cost, .int .i64 (Zh s u).mv, .int .i64 (Zh s u).up, .int .i64 (Zh s u).lo, .int .i64 (Zh s u).ch, .int .i64 (Zh s u).ba] ∧ Blk W g3 87 #[.bool u, .int .i64 (ts.length : Nat)] ∧ Blk W g4 45 #[.slice none 0 0, .slice none 0 0, .int .i64 0, .bool false, .slice none 0 0, .int .i64 0, .int .i64 0, .int .i64 0, .int .i64 0, .int .i64 0, .int .i64 0] ∧ Below w.heap.size w W) ?_ ?_
    ·
     refine EC.seq (EC.region (EL.val (QD2 rfl) rfl (EL.val (ld_4 rfl (q2.at (j := 3) rfl)) rfl (EL.val (QAd rfl) rfl (EL.val (ld_4 rfl (q3.at (j := 0) rfl)) rfl ?_)))))
     by_cases hh : s.lk.high = u
     ·
      refine EL.val (QDO (r := true) rfl rfl (decide_eq_true hh)) rfl (EL.nil (EX.seq (EC.yes rfl ?_)));have lt_1 := q1.lt;have lt_2 := q2.lt;have lt_3 := q3.lt;have lt_4 := q4.lt;refine EC.regionS [[], [], [0, 1], [], [], [4], [3, 4, 5], [0, 1, 2], [0, 1, 2, 3, 4, 5, 6, 7]] 8 [] [7] (fun fl w_ => w7.grownBy w_ (some g2) ∧ (fl 7 = false → Blk w_ g2 45 _)) (phiS (fun i_ r => match i_ with | 0 => r 0 = .agg #[.int .i64 l.length, .int .i64 l.cycle, .int .i64 l.turn, .int .i64 l.fill, .int .i64 l.save, .bool l.high] | 1 => r 1 = .agg #[.slice Au lu.length cu, .slice Ad ld.length cd, .int .i64 s.fr, .bool s.lk.high, .slice Ar rs.length cr, .int .i64 s.cost, .int .i64 s.mv, .int .i64 s.up, .int .i64 s.lo, .int .i64 s.ch, .int .i64 s.ba] | 2 => r 2 = .agg #[.slice Au lu.length cu, .slice Ad ld.length cd, .int .i64 s.fr, .bool (mvS s).lk.high, .slice Ar rs.length cr, .int .i64 (mvS s).cost, .int .i64 (mvS s).mv, .int .i64 (mvS s).up, .int .i64 (mvS s).lo, .int .i64 (mvS s).ch, .int .i64 (mvS s).ba] | 3 => r 3 = .int .i64 s.fr | 4 => r 4 = .pointer (some ⟨g1, 2, none⟩) | 5 => r 5 = .int .i64 l.turn | 6 => r 6 = .int .i64 (s.fr + l.turn) | _ => True) [(7, fun _ r w_ => Blk w_ g2 45 #[.slice Au lu.length cu, .slice Ad ld.length cd, .int .i64 s.fr, .bool (mvS s).lk.high, .slice Ar rs.length cr, .int .i64 (mvS s).cost, .int .i64 (mvS s).mv, .int .i64 (mvS s).up, .int .i64 (mvS s).lo, .int .i64 (mvS s).ch, .int .i64 (mvS s).ba])]) (by kernel_rfl) rfl rfl (by intro i hi; simp at hi; first | (subst hi; exact ⟨by simp, by omega⟩) | (rcases hi with rfl | rfl | rfl <;> exact ⟨by simp, by omega⟩) | (rcases hi with rfl | rfl <;> exact ⟨by simp, by omega⟩)) (Y5 q2) (ZH QAB (ZZ)) (fun i_ hi_ hs_ => ?_) (fun i_ hi_ => ?_) ?_
      ·match i_, hi_ with
       | 0, _ =>
        intro val fl w1 a hb ha hd hfl;obtain ⟨hb, hg0⟩ := hb;have ha := ha.s0 (d := 3) rfl
        exact ZD ha rfl rfl (YC rfl ((q1.grown hb (fun h => n1_2 (Option.some.inj h))).at (j := 0) rfl) ((q1.grown hb (fun h => n1_2 (Option.some.inj h))).at (j := 1) rfl) ((q1.grown hb (fun h => n1_2 (Option.some.inj h))).at (j := 2) rfl) ((q1.grown hb (fun h => n1_2 (Option.some.inj h))).at (j := 3) rfl) ((q1.grown hb (fun h => n1_2 (Option.some.inj h))).at (j := 4) rfl) ((q1.grown hb (fun h => n1_2 (Option.some.inj h))).at (j := 5) rfl)) rfl rfl
       | 1, _ =>
        intro val fl w1 a hb ha hd hfl;obtain ⟨hb, hg0⟩ := hb;have ha := ha.s0 (d := 4) rfl
        exact ZD ha rfl rfl (Ys rfl ((hg0 (hfl 7 (by simp) (ZA.1 rfl))).at (j := 0) rfl) ((hg0 (hfl 7 (by simp) (ZA.1 rfl))).at (j := 1) rfl) ((hg0 (hfl 7 (by simp) (ZA.1 rfl))).at (j := 2) rfl) ((hg0 (hfl 7 (by simp) (ZA.1 rfl))).at (j := 3) rfl) ((hg0 (hfl 7 (by simp) (ZA.1 rfl))).at (j := 4) rfl) ((hg0 (hfl 7 (by simp) (ZA.1 rfl))).at (j := 5) rfl) ((hg0 (hfl 7 (by simp) (ZA.1 rfl))).at (j := 6) rfl) ((hg0 (hfl 7 (by simp) (ZA.1 rfl))).at (j := 7) rfl) ((hg0 (hfl 7 (by simp) (ZA.1 rfl))).at (j := 8) rfl) ((hg0 (hfl 7 (by simp) (ZA.1 rfl))).at (j := 9) rfl) ((hg0 (hfl 7 (by simp) (ZA.1 rfl))).at (j := 10) rfl)) rfl rfl
       | 2, _ =>
        intro val fl w1 a hb ha hd hfl;obtain ⟨hb, hg0⟩ := hb;have e0 : val 0 = _ := hd 0 (ZA.1 rfl);have e1 : val 1 = _ := hd 1 (ZA.1 rfl);have ha := ha.s2 (d := 74) (e := 73) rfl e1 rfl e0;refine YA ha rfl rfl (cA2 cF58 rfl rfl) (QBV (s := s) (f := s.fr) ⟨_, h.lk⟩ h.ok h.wt (by omega) _) rfl ?_
        rintro e w' ⟨rfl, hb'⟩
        exact ⟨_, rfl, hb', rfl⟩
       | 3, _ =>
        intro val fl w1 a hb ha hd hfl;obtain ⟨hb, hg0⟩ := hb;have ha := ha.s0 (d := 13) rfl
        exact ZD ha rfl rfl (x_move rfl) rfl rfl
       | 4, _ =>
        intro val fl w1 a hb ha hd hfl;obtain ⟨hb, hg0⟩ := hb;have ha := ha.s0 (d := 3) rfl
        exact ZD ha rfl rfl (Yn rfl) rfl rfl
       | 5, _ =>
        intro val fl w1 a hb ha hd hfl;obtain ⟨hb, hg0⟩ := hb;have e4 : val 4 = _ := hd 4 (ZA.1 rfl);have ha := ha.s1 (d := 77) rfl e4
        exact ZD ha rfl rfl (ld_3 rfl ((q1.grown hb (fun h => n1_2 (Option.some.inj h))).at (j := 2) rfl)) rfl rfl
       | 6, _ =>
        intro val fl w1 a hb ha hd hfl;obtain ⟨hb, hg0⟩ := hb;have e3 : val 3 = _ := hd 3 (ZA.1 rfl);have e5 : val 5 = _ := hd 5 (ZA.1 rfl);have ha := ha.s2 (d := 78) (e := 76) rfl e5 rfl e3
        exact ZD ha rfl rfl (ZR rfl rfl (c := s.fr + l.turn) (IntWalk.i64_in (s.fr + l.turn) ⟨by omega, by omega⟩)) rfl rfl
       | 7, _ =>
        exact absurd (by simp) hs_
       | k + 8, h => exact absurd h (by omega)
      ·simp only [List.mem_singleton] at hi_; subst hi_
       intro val fl w1 a hb hfi ha hd hfl;obtain ⟨hb, hg0⟩ := hb;have e2 : val 2 = _ := hd 2 (ZA.1 rfl);have ha := ha.sub (Sub.ins (d := 75) (Sub.ins (d := 4) (Sub.nil _) rfl) (ZN rfl e2));refine ZY ha rfl rfl rfl (hg0 hfi) YW rfl rfl rfl rfl ?_;intro w' hq hgr;refine ⟨undef, rfl, hgr.size, ⟨YN hb hgr, fun h => by rw [ZS] at h; cases h⟩, hq, fun j _ hj hn hA => ?_⟩
       exact ZF (C := fun j => j ≠ 7 ∧ 7 ∉ clsAt [[], [], [0, 1], [], [], [4], [3, 4, 5], [0, 1, 2], [0, 1, 2, 3, 4, 5, 6, 7]] j ∧ ∀ p ∈ [], (p = j ∨ p ∈ clsAt [[], [], [0, 1], [], [], [4], [3, 4, 5], [0, 1, 2], [0, 1, 2, 3, 4, 5, 6, 7]] j) → ∀ q ∈ [], (q = 7 ∨ q ∈ clsAt [[], [], [0, 1], [], [], [4], [3, 4, 5], [0, 1, 2], [0, 1, 2, 3, 4, 5, 6, 7]] 7) → p ≠ q → val p ≠ val q) (fun hc => absurd rfl hc.1) (fun _ _ h => h) j ⟨hj, hn, hA⟩
      ·intro val fl wR14 hfl hb halc hd
       obtain ⟨hb, _⟩ := hb;have e0 : val 0 = _ := hd 0 (by omega)
       have e1 : val 1 = _ := hd 1 (by omega)
       have e2 : val 2 = _ := hd 2 (by omega)
       have e3 : val 3 = _ := hd 3 (by omega)
       have e4 : val 4 = _ := hd 4 (by omega)
       have e5 : val 5 = _ := hd 5 (by omega)
       have e6 : val 6 = _ := hd 6 (by omega)
       refine EL.ends (cs := [_, _, _, _, _, _, _, val 7]) ⟨e0, e1, e2, e3, e4, e5, e6, rfl, trivial⟩ rfl ?_;replace q1 := q1.gr hb n1_2;have q2 : Blk wR14 g2 45 #[.slice Au lu.length cu, .slice Ad ld.length cd, .int .i64 s.fr, .bool (mvS s).lk.high, .slice Ar rs.length cr, .int .i64 (mvS s).cost, .int .i64 (mvS s).mv, .int .i64 (mvS s).up, .int .i64 (mvS s).lo, .int .i64 (mvS s).ch, .int .i64 (mvS s).ba] := hd 7 (by omega)
       replace q3 := q3.gr hb n2_3.symm;replace q4 := q4.gr hb n2_4.symm;replace hbw := ZE hbw hb bhbw_2;refine EL.as rfl rfl (EL.nil ?_)
       exact EX.cutE () ⟨QCL (by rw [QEE, if_pos hh, hlt.1]) rfl, trivial⟩ (by repeat first | with_reducible exact (Sub.refl _).del _ | refine sp_ rfl ?_ | exact (Sub.refl _).del _ | refine sd_ rfl ?_ | refine sn_ ?_) ⟨q1, by unfold Zh; rw [if_pos hh]; exact q2, q3, q4, hbw⟩
     ·
      refine EL.val (QDO (r := false) rfl rfl (decide_eq_false hh)) rfl (EL.nil (EX.seq (EC.no rfl (EC.skip ?_))))
      exact EX.cutE () ⟨QCL (by rw [QEE, if_neg hh]) rfl, trivial⟩ (by repeat first | with_reducible exact (Sub.refl _).del _ | refine sp_ rfl ?_ | exact (Sub.refl _).del _ | refine sd_ rfl ?_ | refine sn_ ?_) ⟨q1, by unfold Zh; rw [if_neg hh]; exact q2, q3, q4, hbw⟩
    ·
     clear q1 q2 q3 q4 hbw
     rintro ⟨⟩ W2 ⟨q1, q2, q3, q4, hbw⟩
     have hSk : ∃ hi, (Zh s u).lk = lkW l hi := ⟨!u, by rw [QBC, h.lk]; rfl⟩
     have hSL : lkB (Zh s u).lk = true := by rw [QBC]; exact h.okL
     have hSW := QDp (u := u) h.wt h.okL;have hSr := QBR s u;have hSc := h.cost;have hrd : runT s ts u = ⟨max (Zh s u).fr (arrT ts), max (Zh s u).fr (arrT ts) - s.lk.turn + partsN (Zg ts) s.lk.length * (s.lk.turn + s.lk.cycle)⟩ := rfl;have hmd : midS s ts u = mvN (2 * partsN (Zg ts) s.lk.length - 1) (Zh s u) := rfl;have htk : tkS s ts u = endS (outS (midS s ts u) ts u (runT s ts u).stop) ts.length u (runT s ts u).stop := rfl;rw [hlt.1, hlt.2.1, hlt.2.2, ← hp] at hrd;rw [hlt.2.2, ← hp] at hmd
     generalize Zh s u = S at *
     have hpc : 0 ≤ (p : Int) * l.cycle ∧ (p : Int) * l.cycle ≤ 3 * 500 := ⟨Int.mul_nonneg (by omega) (by omega), Int.mul_le_mul (by omega) (by omega) (by omega) (by omega)⟩
     have hpt : 0 ≤ ((p : Int) - 1) * l.turn ∧ ((p : Int) - 1) * l.turn ≤ 3 * 500 := ⟨Int.mul_nonneg (by omega) (by omega), Int.mul_le_mul (by omega) (by omega) (by omega) (by omega)⟩
     have hstop : max S.fr (arrT ts) + (p : Int) * l.cycle + ((p : Int) - 1) * l.turn = (runT s ts u).stop := by rw [hrd, Int.sub_mul, Int.one_mul, Int.mul_add]; simp only; omega
     refine EC.seq (EC.region (EL.mv rfl rfl (EL.mv rfl rfl ?_)));refine EL.val (QEd rfl rfl (show max S.fr (arrT ts) = max S.fr (arrT ts) from rfl)) rfl ?_;refine EL.val (QL4 rfl) rfl (EL.newP QCT rfl ?_);intro g8 w8 q8 hb8 hg8 hl8;have n1_8 := q1.na hg8;have n2_8 := q2.na hg8;have n3_8 := q3.na hg8;have n4_8 := q4.na hg8;have bhbw_8 := Nat.le_trans hbw.size hg8;replace q1 := q1.bl hb8;replace q2 := q2.bl hb8;replace q3 := q3.bl hb8;replace q4 := q4.bl hb8;replace hbw := bo_ hbw hb8;clear hb8 hg8 hl8;refine EL.store rfl rfl q8 QAw rfl rfl rfl rfl ?_;intro w9 hq9 hg9;replace q1 := q1.gr hg9 n1_8;replace q2 := q2.gr hg9 n2_8;replace q3 := q3.gr hg9 n3_8;replace q4 := q4.gr hg9 n4_8;replace hbw := ZE hbw hg9 bhbw_8;replace q8 := hq9;clear hg9 hq9;refine EL.nil (EX.seq (EC.seq (EC.region (EL.val (QC_ rfl) rfl (EL.val (ld_3 rfl (q8.at (j := 0) rfl)) rfl (EL.mv rfl rfl (EL.val (QBe rfl) rfl (EL.val (ld_3 rfl (q1.at (j := 1) rfl)) rfl ?_))))))));refine EL.val (QAU rfl rfl (c := (p : Int) * l.cycle) (IntWalk.i64_in ((p : Int) * l.cycle) ⟨by omega, by omega⟩)) rfl ?_
     refine EL.val (ZR rfl rfl (c := max S.fr (arrT ts) + (p : Int) * l.cycle) (IntWalk.i64_in (max S.fr (arrT ts) + (p : Int) * l.cycle) ⟨by omega, by omega⟩)) rfl ?_
     refine EL.mv rfl rfl ?_;refine EL.val (Zu rfl rfl (c := (p : Int) - 1) (IntWalk.i64_in ((p : Int) - 1) ⟨by omega, by omega⟩)) rfl ?_
     refine EL.val (Yn rfl) rfl (EL.val (ld_3 rfl (q1.at (j := 2) rfl)) rfl ?_);refine EL.val (QAU rfl rfl (c := ((p : Int) - 1) * l.turn) (IntWalk.i64_in (((p : Int) - 1) * l.turn) ⟨by omega, by omega⟩)) rfl ?_
     refine EL.val (ZR rfl rfl (c := (runT s ts u).stop) ((IntWalk.i64_in _ ⟨by omega, by omega⟩).trans hstop)) rfl ?_
     refine EL.val (YF rfl) rfl (EL.store rfl rfl q8 sz_3 rfl rfl rfl rfl ?_);intro w10 hq10 hg10;replace q1 := q1.gr hg10 n1_8;replace q2 := q2.gr hg10 n2_8;replace q3 := q3.gr hg10 n3_8;replace q4 := q4.gr hg10 n4_8;replace hbw := ZE hbw hg10 bhbw_8;replace q8 := hq10;clear hg10 hq10;refine EL.nil (EX.seq (EC.seq (EC.seq (EC.region (EL.as rfl rfl (EL.nil (EX.seq (EC.block ?_))))))));refine EC.loopD [15, 98, 99, 100, 101, 102, 103, 104, 105, 106, 107, 108, 109, 110] (fun j : Nat => [(15, .int .i64 (j : Nat))]) (fun j W => j ≤ p ∧ Blk W g1 23 #[.int .i64 l.length, .int .i64 l.cycle, .int .i64 l.turn, .int .i64 l.fill, .int .i64 l.save, .bool l.high] ∧ Blk W g2 45 #[.slice Au lu.length cu, .slice Ad ld.length cd, .int .i64 s.fr, .bool (mvN (2 * j - 1) S).lk.high, .slice Ar rs.length cr, .int .i64 (mvN (2 * j - 1) S).cost, .int .i64 (mvN (2 * j - 1) S).mv, .int .i64 (mvN (2 * j - 1) S).up, .int .i64 (mvN (2 * j - 1) S).lo, .int .i64 (mvN (2 * j - 1) S).ch, .int .i64 (mvN (2 * j - 1) S).ba] ∧ Blk W g3 87 #[.bool u, .int .i64 (ts.length : Nat)] ∧ Blk W g4 45 #[.slice none 0 0, .slice none 0 0, .int .i64 0, .bool false, .slice none 0 0, .int .i64 0, .int .i64 0, .int .i64 0, .int .i64 0, .int .i64 0, .int .i64 0] ∧ Blk W g8 49 #[.int .i64 (max S.fr (arrT ts)), .int .i64 (runT s ts u).stop] ∧ Below w.heap.size w W) (fun j => p - j) 0 ⟨Nat.zero_le _, q1, q2, q3, q4, q8, hbw⟩ ⟨rfl, trivial⟩ ?_
     clear q1 q2 q3 q4 q8 hbw
     rintro j wj ⟨hj, q1, q2, q3, q4, q8, hbw⟩
     by_cases hltj : j < p
     ·
      have hXk := QLY (n := 2 * j - 1) hSk;have hXW := QEc hSW hSL (2 * j - 1);refine EC.seq (EC.seq (EC.region (EL.mv rfl rfl (EL.mv rfl rfl ?_))));refine EL.val (ZQ (r := true) rfl rfl (decide_eq_true (by omega))) rfl ?_
      refine EL.nil (EX.seq (EC.yes rfl (EC.skip (EX.seq (EC.seq (EC.block (EC.seq (EC.seq (EC.region ?_)))))))));refine EL.mv rfl rfl ?_
      by_cases hj0 : 0 < j
      ·
       have hXe : (mvS (mvS (mvN (2 * j - 1) S))) = (mvN (2 * (j + 1) - 1) S) := by rw [show 2 * (j + 1) - 1 = (2 * j - 1) + 1 + 1 by omega]; rfl
       refine EL.val (Zq (r := true) rfl rfl (decide_eq_true (by omega))) rfl ?_
       refine EL.nil (EX.seq (EC.yes rfl (EC.region (EL.val (YC rfl (q1.at (j := 0) rfl) (q1.at (j := 1) rfl) (q1.at (j := 2) rfl) (q1.at (j := 3) rfl) (q1.at (j := 4) rfl) (q1.at (j := 5) rfl)) rfl (EL.val (Ys rfl (q2.at (j := 0) rfl) (q2.at (j := 1) rfl) (q2.at (j := 2) rfl) (q2.at (j := 3) rfl) (q2.at (j := 4) rfl) (q2.at (j := 5) rfl) (q2.at (j := 6) rfl) (q2.at (j := 7) rfl) (q2.at (j := 8) rfl) (q2.at (j := 9) rfl) (q2.at (j := 10) rfl)) rfl ?_)))));refine EL.call (cA2 cF58 rfl rfl) rfl (QBV (s := (mvN (2 * j - 1) S)) (f := s.fr) hXk h.ok hXW (by omega) _) ?_
       rintro e w11 ⟨rfl, hc11⟩
       refine ⟨_, rfl, ?_⟩;replace q1 := q1.bl hc11;replace q2 := q2.bl hc11;replace q3 := q3.bl hc11;replace q4 := q4.bl hc11;replace q8 := q8.bl hc11;replace hbw := bo_ hbw hc11;clear hc11;refine EL.store rfl rfl q2 YW rfl rfl rfl rfl ?_;intro w12 hq12 hg12;replace q1 := q1.gr hg12 n1_2;replace q3 := q3.gr hg12 n2_3.symm;replace q4 := q4.gr hg12 n2_4.symm;replace q8 := q8.gr hg12 n2_8.symm;replace hbw := ZE hbw hg12 bhbw_2;replace q2 := hq12;clear hg12 hq12;refine EL.nil (EX.seq (EC.region (EL.val (YC rfl (q1.at (j := 0) rfl) (q1.at (j := 1) rfl) (q1.at (j := 2) rfl) (q1.at (j := 3) rfl) (q1.at (j := 4) rfl) (q1.at (j := 5) rfl)) rfl (EL.val (Ys rfl (q2.at (j := 0) rfl) (q2.at (j := 1) rfl) (q2.at (j := 2) rfl) (q2.at (j := 3) rfl) (q2.at (j := 4) rfl) (q2.at (j := 5) rfl) (q2.at (j := 6) rfl) (q2.at (j := 7) rfl) (q2.at (j := 8) rfl) (q2.at (j := 9) rfl) (q2.at (j := 10) rfl)) rfl ?_))));refine EL.call (cA2 cF58 rfl rfl) rfl (QBV (s := (mvS (mvN (2 * j - 1) S))) (f := s.fr) (QM1 hXk) h.ok (QGt hXW (QM3 hXk h.ok)) (by omega) _) ?_
       rintro e w13 ⟨rfl, hc13⟩
       refine ⟨_, rfl, ?_⟩;replace q1 := q1.bl hc13;replace q2 := q2.bl hc13;replace q3 := q3.bl hc13;replace q4 := q4.bl hc13;replace q8 := q8.bl hc13;replace hbw := bo_ hbw hc13;clear hc13;refine EL.store rfl rfl q2 YW rfl rfl rfl rfl ?_;intro w14 hq14 hg14;replace q1 := q1.gr hg14 n1_2;replace q3 := q3.gr hg14 n2_3.symm;replace q4 := q4.gr hg14 n2_4.symm;replace q8 := q8.gr hg14 n2_8.symm;replace hbw := ZE hbw hg14 bhbw_2;replace q2 := hq14;clear hg14 hq14;refine EL.nil (EX.blk (EX.seq (EC.region (EL.mv rfl rfl ?_))));refine EL.val (ZR rfl rfl (c := ((j + 1 : Nat) : Int)) ((IntWalk.i64_in _ ⟨by first | omega | (simp only; omega), by first | omega | (simp only; omega)⟩).trans (by first | omega | (simp only; omega)))) rfl ?_
       refine EL.as rfl rfl (EL.nil ?_);refine EX.roundD (j + 1) ⟨rfl, trivial⟩ (by repeat first | with_reducible exact .refl _ | refine sp_ rfl ?_ | exact .refl _ | refine sd_ rfl ?_ | refine sn_ ?_) ⟨hltj, q1, (by rw [← hXe]; exact q2), q3, q4, q8, hbw⟩ (by omega)
      ·
       have hXe : (mvS (mvN (2 * j - 1) S)) = (mvN (2 * (j + 1) - 1) S) := by rw [show j = 0 by omega]; rfl
       refine EL.val (Zq (r := false) rfl rfl (decide_eq_false (by omega))) rfl ?_
       refine EL.nil (EX.seq (EC.no rfl (EC.skip (EX.seq (EC.region (EL.val (YC rfl (q1.at (j := 0) rfl) (q1.at (j := 1) rfl) (q1.at (j := 2) rfl) (q1.at (j := 3) rfl) (q1.at (j := 4) rfl) (q1.at (j := 5) rfl)) rfl (EL.val (Ys rfl (q2.at (j := 0) rfl) (q2.at (j := 1) rfl) (q2.at (j := 2) rfl) (q2.at (j := 3) rfl) (q2.at (j := 4) rfl) (q2.at (j := 5) rfl) (q2.at (j := 6) rfl) (q2.at (j := 7) rfl) (q2.at (j := 8) rfl) (q2.at (j := 9) rfl) (q2.at (j := 10) rfl)) rfl ?_)))))));refine EL.call (cA2 cF58 rfl rfl) rfl (QBV (s := (mvN (2 * j - 1) S)) (f := s.fr) hXk h.ok hXW (by omega) _) ?_
       rintro e w15 ⟨rfl, hc15⟩
       refine ⟨_, rfl, ?_⟩;replace q1 := q1.bl hc15;replace q2 := q2.bl hc15;replace q3 := q3.bl hc15;replace q4 := q4.bl hc15;replace q8 := q8.bl hc15;replace hbw := bo_ hbw hc15;clear hc15;refine EL.store rfl rfl q2 YW rfl rfl rfl rfl ?_;intro w16 hq16 hg16;replace q1 := q1.gr hg16 n1_2;replace q3 := q3.gr hg16 n2_3.symm;replace q4 := q4.gr hg16 n2_4.symm;replace q8 := q8.gr hg16 n2_8.symm;replace hbw := ZE hbw hg16 bhbw_2;replace q2 := hq16;clear hg16 hq16;refine EL.nil (EX.blk (EX.seq (EC.region (EL.mv rfl rfl ?_))));refine EL.val (ZR rfl rfl (c := ((j + 1 : Nat) : Int)) ((IntWalk.i64_in _ ⟨by first | omega | (simp only; omega), by first | omega | (simp only; omega)⟩).trans (by first | omega | (simp only; omega)))) rfl ?_
       refine EL.as rfl rfl (EL.nil ?_);refine EX.roundD (j + 1) ⟨rfl, trivial⟩ (by repeat first | with_reducible exact .refl _ | refine sp_ rfl ?_ | exact .refl _ | refine sd_ rfl ?_ | refine sn_ ?_) ⟨hltj, q1, (by rw [← hXe]; exact q2), q3, q4, q8, hbw⟩ (by omega)
     ·
      obtain rfl : j = p := by omega
      rw [← hmd] at q2;have hMB := QEc hSW hSL (2 * j - 1);have hMr := QC0 (2 * j - 1) S;rw [← hmd] at hMB hMr;have hRs : max S.fr (arrT ts) = (runT s ts u).start := by rw [hrd]
      rw [hRs] at q8;clear hrd hstop
      generalize runT s ts u = Rn at *
      generalize midS s ts u = M at *
      have hMB2 := hMB.mono (M := 100000000) (by omega)
      refine EC.seq (EC.seq (EC.region (EL.mv rfl rfl (EL.mv rfl rfl ?_))));refine EL.val (ZQ (r := false) rfl rfl (decide_eq_false (by omega))) rfl ?_
      refine EL.nil (EX.seq (EC.no rfl (EC.exit (EX.seq_exit (EX.seq_exit (EX.blk_here (EX.seq (EC.seq (EC.seq ?_)))))))));refine EC.region (EL.as rfl rfl (EL.nil (EX.seq (EC.block ?_))));have hO0 : outS M (ts.take 0) u Rn.stop = M := QEW M u Rn.stop;rw [← hO0] at q2;refine EC.loopD [16, 17, 111, 112, 113, 114, 115, 116, 117, 118, 119, 120, 121, 122, 123, 124, 125, 126, 127, 128, 129, 130, 131, 132, 133, 134, 135, 136, 137, 138, 139, 140, 141, 142, 143, 144, 145, 146, 147, 148, 149, 150, 151, 152, 153, 154, 155, 156, 157, 158] (fun k : Nat => [(16, .int .i64 (k : Nat))]) (fun k W => k ≤ ts.length ∧ Blk W g1 23 #[.int .i64 l.length, .int .i64 l.cycle, .int .i64 l.turn, .int .i64 l.fill, .int .i64 l.save, .bool l.high] ∧ Blk W g2 45 #[.slice Au lu.length cu, .slice Ad ld.length cd, .int .i64 s.fr, .bool (outS M (ts.take k) u Rn.stop).lk.high, .slice Ar rs.length cr, .int .i64 (outS M (ts.take k) u Rn.stop).cost, .int .i64 (outS M (ts.take k) u Rn.stop).mv, .int .i64 (outS M (ts.take k) u Rn.stop).up, .int .i64 (outS M (ts.take k) u Rn.stop).lo, .int .i64 (outS M (ts.take k) u Rn.stop).ch, .int .i64 (outS M (ts.take k) u Rn.stop).ba] ∧ Blk W g3 87 #[.bool u, .int .i64 (ts.length : Nat)] ∧ Blk W g4 45 #[.slice none 0 0, .slice none 0 0, .int .i64 0, .bool false, .slice none 0 0, .int .i64 0, .int .i64 0, .int .i64 0, .int .i64 0, .int .i64 0, .int .i64 0] ∧ Blk W g8 49 #[.int .i64 Rn.start, .int .i64 Rn.stop] ∧ Below w.heap.size w W) (fun k => ts.length - k) 0 ⟨Nat.zero_le _, q1, q2, q3, q4, q8, hbw⟩ ⟨rfl, trivial⟩ ?_
      clear q1 q2 q3 q4 q8 hbw
      rintro k wk ⟨hk, q1, q2, q3, q4, q8, hbw⟩
      by_cases hltk : k < ts.length
      ·
       obtain ⟨b, o, eb_, _, cc⟩ := Zt ts k hltk w B _ _ _ hrt
       injection eb_ with eb_
       injection eb_ with eb1_ eb2_
       subst eb1_ eb2_;have hy := htw _ (Z0 hltk tw0);have hos := QDR M (ts.take k) (ts.getD k tw0) u Rn.stop;rw [← Z1 hltk] at hos;obtain ⟨ob1, ob2, ob3⟩ := QHc (e := Rn.stop) u hMB2 htw h8n ⟨by omega, by omega⟩ k
       generalize ts.getD k tw0 = y at cc hy hos
       obtain ⟨y1, y2, y3, y4⟩ := QAt hy;have hcb := QD6 (e := Rn.stop) hy ⟨by omega, by omega⟩
       have hpb := QFy u hy;refine EC.seq (EC.seq (EC.region (EL.mv rfl rfl (EL.mv rfl rfl (EL.val (Zx rfl) rfl ?_)))));refine EL.val (ZQ (r := true) rfl rfl (decide_eq_true (by omega))) rfl ?_
       refine EL.nil (EX.seq (EC.yes rfl (EC.skip (EX.seq (EC.seq (EC.block (EC.seq ?_)))))));have lt_1 := q1.lt;have lt_2 := q2.lt;have lt_3 := q3.lt;have lt_4 := q4.lt;have lt_8 := q8.lt;refine EC.regionP [[], [0], [], [], [2, 3], [2, 3, 4], [2, 3, 4, 5], [], [7], [], [], [9, 10], [9, 10, 11], [9, 10, 11, 12], [7, 8, 9, 10, 11, 12, 13], [2, 3, 4, 5, 6, 7, 8, 9, 10, 11, 12, 13, 14], [0, 1, 2, 3, 4, 5, 6, 7, 8, 9, 10, 11, 12, 13, 14, 15], [0, 1, 2, 3, 4, 5, 6, 7, 8, 9, 10, 11, 12, 13, 14, 15, 16], [0, 1, 2, 3, 4, 5, 6, 7, 8, 9, 10, 11, 12, 13, 14, 15, 16, 17]] 18 [] (phi (fun i_ r => match i_ with | 0 => r 0 = .pointer (some ⟨g2, 5, none⟩) | 1 => r 1 = .int .i64 (outS M (ts.take k) u Rn.stop).cost | 2 => r 2 = .slice (some ⟨bA, oA, none⟩) ts.length cs | 3 => r 3 = .int .i64 (k : Nat) | 4 => r 4 = .pointer (some ⟨bA, oA + k * 5, none⟩) | 5 => r 5 = .pointer (some ⟨bA, oA + k * 5 + 3, none⟩) | 6 => r 6 = .int .i64 y.weight | 7 => r 7 = .pointer (some ⟨g8, 1, none⟩) | 8 => r 8 = .int .i64 Rn.stop | 9 => r 9 = .slice (some ⟨bA, oA, none⟩) ts.length cs | 10 => r 10 = .int .i64 (k : Nat) | 11 => r 11 = .pointer (some ⟨bA, oA + k * 5, none⟩) | 12 => r 12 = .pointer (some ⟨bA, oA + k * 5 + 1, none⟩) | 13 => r 13 = .int .i64 y.arrive | 14 => r 14 = .int .i64 (Rn.stop - y.arrive) | 15 => r 15 = .int .i64 (y.weight * (Rn.stop - y.arrive)) | 16 => r 16 = .int .i64 ((outS M (ts.take k) u Rn.stop).cost + y.weight * (Rn.stop - y.arrive)) | 17 => r 17 = .pointer (some ⟨g2, 5, none⟩) | _ => True) []) (by kernel_rfl) rfl rfl (Yd) (fun i_ hi_ => ?_) ?_
       ·match i_, hi_ with
        | 0, _ =>
         intro val w1 a hb ha hd;have ha := ha.s0 (d := 4) rfl
         exact ZJ ha rfl rfl (QGC rfl) rfl rfl
        | 1, _ =>
         intro val w1 a hb ha hd;have e0 : val 0 = _ := hd 0 (ZA.1 rfl);have ha := ha.s1 (d := 117) rfl e0
         exact ZJ ha rfl rfl (ld_3 rfl ((q2.below hb q2.lt).at (j := 5) rfl)) rfl rfl
        | 2, _ =>
         intro val w1 a hb ha hd;have ha := ha.s0 (d := 8) rfl
         exact ZJ ha rfl rfl (x_move rfl) rfl rfl
        | 3, _ =>
         intro val w1 a hb ha hd;have ha := ha.s0 (d := 16) rfl
         exact ZJ ha rfl rfl (x_move rfl) rfl rfl
        | 4, _ =>
         intro val w1 a hb ha hd;have e2 : val 2 = _ := hd 2 (ZA.1 rfl);have e3 : val 3 = _ := hd 3 (ZA.1 rfl);have ha := ha.s2 (d := 120) (e := 119) rfl e3 rfl e2
         exact ZJ ha rfl rfl (YI rfl rfl hltk) rfl rfl
        | 5, _ =>
         intro val w1 a hb ha hd;have e4 : val 4 = _ := hd 4 (ZA.1 rfl);have ha := ha.s1 (d := 121) rfl e4
         exact ZJ ha rfl rfl (QDC rfl) rfl rfl
        | 6, _ =>
         intro val w1 a hb ha hd;have e5 : val 5 = _ := hd 5 (ZA.1 rfl);have ha := ha.s1 (d := 122) rfl e5
         exact ZJ ha rfl rfl (ld_3 rfl (ZB (hbw.trans (hb.mono hbw.size)) cc.c3)) rfl rfl
        | 7, _ =>
         intro val w1 a hb ha hd;have ha := ha.s0 (d := 14) rfl
         exact ZJ ha rfl rfl (YF rfl) rfl rfl
        | 8, _ =>
         intro val w1 a hb ha hd;have e7 : val 7 = _ := hd 7 (ZA.1 rfl);have ha := ha.s1 (d := 124) rfl e7
         exact ZJ ha rfl rfl (ld_3 rfl ((q8.below hb q8.lt).at (j := 1) rfl)) rfl rfl
        | 9, _ =>
         intro val w1 a hb ha hd;have ha := ha.s0 (d := 8) rfl
         exact ZJ ha rfl rfl (x_move rfl) rfl rfl
        | 10, _ =>
         intro val w1 a hb ha hd;have ha := ha.s0 (d := 16) rfl
         exact ZJ ha rfl rfl (x_move rfl) rfl rfl
        | 11, _ =>
         intro val w1 a hb ha hd;have e9 : val 9 = _ := hd 9 (ZA.1 rfl);have e10 : val 10 = _ := hd 10 (ZA.1 rfl);have ha := ha.s2 (d := 127) (e := 126) rfl e10 rfl e9
         exact ZJ ha rfl rfl (YI rfl rfl hltk) rfl rfl
        | 12, _ =>
         intro val w1 a hb ha hd;have e11 : val 11 = _ := hd 11 (ZA.1 rfl);have ha := ha.s1 (d := 128) rfl e11
         exact ZJ ha rfl rfl (Ye rfl) rfl rfl
        | 13, _ =>
         intro val w1 a hb ha hd;have e12 : val 12 = _ := hd 12 (ZA.1 rfl);have ha := ha.s1 (d := 129) rfl e12
         exact ZJ ha rfl rfl (ld_3 rfl (ZB (hbw.trans (hb.mono hbw.size)) cc.c1)) rfl rfl
        | 14, _ =>
         intro val w1 a hb ha hd;have e8 : val 8 = _ := hd 8 (ZA.1 rfl);have e13 : val 13 = _ := hd 13 (ZA.1 rfl);have ha := ha.s2 (d := 130) (e := 125) rfl e13 rfl e8
         exact ZJ ha rfl rfl (Zu rfl rfl (c := Rn.stop - y.arrive) (IntWalk.i64_in (Rn.stop - y.arrive) ⟨by omega, by omega⟩)) rfl rfl
        | 15, _ =>
         intro val w1 a hb ha hd;have e6 : val 6 = _ := hd 6 (ZA.1 rfl);have e14 : val 14 = _ := hd 14 (ZA.1 rfl);have ha := ha.s2 (d := 131) (e := 123) rfl e14 rfl e6
         exact ZJ ha rfl rfl (QAU rfl rfl (c := y.weight * (Rn.stop - y.arrive)) (IntWalk.i64_in (y.weight * (Rn.stop - y.arrive)) ⟨by omega, by omega⟩)) rfl rfl
        | 16, _ =>
         intro val w1 a hb ha hd;have e1 : val 1 = _ := hd 1 (ZA.1 rfl);have e15 : val 15 = _ := hd 15 (ZA.1 rfl);have ha := ha.s2 (d := 132) (e := 118) rfl e15 rfl e1
         exact ZJ ha rfl rfl (ZR rfl rfl (c := (outS M (ts.take k) u Rn.stop).cost + y.weight * (Rn.stop - y.arrive)) (IntWalk.i64_in ((outS M (ts.take k) u Rn.stop).cost + y.weight * (Rn.stop - y.arrive)) ⟨by omega, by omega⟩)) rfl rfl
        | 17, _ =>
         intro val w1 a hb ha hd;have ha := ha.s0 (d := 4) rfl
         exact ZJ ha rfl rfl (QGC rfl) rfl rfl
        | k + 18, h => exact absurd h (by omega)
       ·intro val wR26 hb halc hd
        have e0 : val 0 = _ := hd 0 (by omega)
        have e1 : val 1 = _ := hd 1 (by omega)
        have e2 : val 2 = _ := hd 2 (by omega)
        have e3 : val 3 = _ := hd 3 (by omega)
        have e4 : val 4 = _ := hd 4 (by omega)
        have e5 : val 5 = _ := hd 5 (by omega)
        have e6 : val 6 = _ := hd 6 (by omega)
        have e7 : val 7 = _ := hd 7 (by omega)
        have e8 : val 8 = _ := hd 8 (by omega)
        have e9 : val 9 = _ := hd 9 (by omega)
        have e10 : val 10 = _ := hd 10 (by omega)
        have e11 : val 11 = _ := hd 11 (by omega)
        have e12 : val 12 = _ := hd 12 (by omega)
        have e13 : val 13 = _ := hd 13 (by omega)
        have e14 : val 14 = _ := hd 14 (by omega)
        have e15 : val 15 = _ := hd 15 (by omega)
        have e16 : val 16 = _ := hd 16 (by omega)
        have e17 : val 17 = _ := hd 17 (by omega)
        refine EL.ends (cs := [_, _, _, _, _, _, _, _, _, _, _, _, _, _, _, _, _, _]) ⟨e0, e1, e2, e3, e4, e5, e6, e7, e8, e9, e10, e11, e12, e13, e14, e15, e16, e17, trivial⟩ rfl ?_;replace q1 := q1.bl hb;replace q2 := q2.bl hb;replace q3 := q3.bl hb;replace q4 := q4.bl hb;replace q8 := q8.bl hb;replace hbw := bo_ hbw hb;clear hb;refine EL.store rfl rfl q2 sz_3 rfl rfl rfl rfl ?_;intro w17 hq17 hg17;replace q1 := q1.gr hg17 n1_2;replace q3 := q3.gr hg17 n2_3.symm;replace q4 := q4.gr hg17 n2_4.symm;replace q8 := q8.gr hg17 n2_8.symm;replace hbw := ZE hbw hg17 bhbw_2;replace q2 := hq17;clear hg17 hq17;refine EL.nil (EX.seq (EC.seq (EC.region (EL.mv rfl rfl (EL.mv rfl rfl (EL.val (YI rfl rfl hltk) rfl (EL.val (QDB rfl) rfl (EL.val (ld_3 rfl (ZB hbw cc.c4)) rfl (EL.as rfl rfl ?_)))))))));refine EL.nil (EX.seq ?_);refine EC.cutD [17, 140, 141, 142, 143, 144] (fun _ : Unit => [(17, .int .i64 (y.push * (2 * wyB u - 1)))]) (fun _ W => Blk W g1 23 #[.int .i64 l.length, .int .i64 l.cycle, .int .i64 l.turn, .int .i64 l.fill, .int .i64 l.save, .bool l.high] ∧ Blk W g2 45 #[.slice Au lu.length cu, .slice Ad ld.length cd, .int .i64 s.fr, .bool (outS M (ts.take k) u Rn.stop).lk.high, .slice Ar rs.length cr, .int .i64 ((outS M (ts.take k) u Rn.stop).cost + y.weight * (Rn.stop - y.arrive)), .int .i64 (outS M (ts.take k) u Rn.stop).mv, .int .i64 (outS M (ts.take k) u Rn.stop).up, .int .i64 (outS M (ts.take k) u Rn.stop).lo, .int .i64 (outS M (ts.take k) u Rn.stop).ch, .int .i64 (outS M (ts.take k) u Rn.stop).ba] ∧ Blk W g3 87 #[.bool u, .int .i64 (ts.length : Nat)] ∧ Blk W g4 45 #[.slice none 0 0, .slice none 0 0, .int .i64 0, .bool false, .slice none 0 0, .int .i64 0, .int .i64 0, .int .i64 0, .int .i64 0, .int .i64 0, .int .i64 0] ∧ Blk W g8 49 #[.int .i64 Rn.start, .int .i64 Rn.stop] ∧ Below w.heap.size w W) ?_ ?_
        ·
         refine EC.seq (EC.region (EL.val (QAd rfl) rfl (EL.val (ld_4 rfl (q3.at (j := 0) rfl)) rfl (EL.val (ZT rfl) rfl (EL.nil (EX.seq ?_))))))
         cases u
         ·
          refine EC.yes rfl (EC.region (EL.mv rfl rfl ?_));refine EL.val (QJY rfl (by first | assumption | exact IntWalk.i64_in _ ⟨by omega, by omega⟩)) rfl ?_
          refine EL.as rfl rfl (EL.nil ?_)
          exact EX.cutE () ⟨QCL (by show _ = y.push * (2 * 0 - 1); omega) rfl, trivial⟩ (by repeat first | with_reducible exact (Sub.refl _).del _ | refine sp_ rfl ?_ | exact (Sub.refl _).del _ | refine sd_ rfl ?_ | refine sn_ ?_) ⟨q1, q2, q3, q4, q8, hbw⟩
         ·
          refine EC.no rfl (EC.skip ?_)
          exact EX.cutE () ⟨QCL (by show _ = y.push * (2 * 1 - 1); omega) rfl, trivial⟩ (by repeat first | with_reducible exact (Sub.refl _).del _ | refine sp_ rfl ?_ | exact (Sub.refl _).del _ | refine sd_ rfl ?_ | refine sn_ ?_) ⟨q1, q2, q3, q4, q8, hbw⟩
        ·
         clear q1 q2 q3 q4 q8 hbw
         rintro ⟨⟩ W3 ⟨q1, q2, q3, q4, q8, hbw⟩
         refine EC.region (EL.val (YG rfl) rfl (EL.val (YZ rfl) rfl (EL.val (ld_3 rfl (q2.at (j := 7) rfl)) rfl (EL.mv rfl rfl ?_))));refine EL.val (Zu rfl rfl (by first | assumption | exact IntWalk.i64_in _ ⟨by omega, by omega⟩)) rfl ?_
         refine EL.val (YG rfl) rfl (EL.val (QAH rfl) rfl (EL.val (ld_3 rfl (q2.at (j := 8) rfl)) rfl (EL.mv rfl rfl ?_)));refine EL.val (ZR rfl rfl (by first | assumption | exact IntWalk.i64_in _ ⟨by omega, by omega⟩)) rfl ?_
         refine EL.val (YG rfl) rfl (EL.val (YZ rfl) rfl (EL.store rfl rfl q2 sz_3 rfl rfl rfl rfl ?_));intro w18 hq18 hg18;replace q1 := q1.gr hg18 n1_2;replace q3 := q3.gr hg18 n2_3.symm;replace q4 := q4.gr hg18 n2_4.symm;replace q8 := q8.gr hg18 n2_8.symm;replace hbw := ZE hbw hg18 bhbw_2;replace q2 := hq18;clear hg18 hq18;refine EL.val (YG rfl) rfl (EL.val (QAH rfl) rfl (EL.store rfl rfl q2 sz_3 rfl rfl rfl rfl ?_));intro w19 hq19 hg19;replace q1 := q1.gr hg19 n1_2;replace q3 := q3.gr hg19 n2_3.symm;replace q4 := q4.gr hg19 n2_4.symm;replace q8 := q8.gr hg19 n2_8.symm;replace hbw := ZE hbw hg19 bhbw_2;replace q2 := hq19;clear hg19 hq19;refine EL.nil (EX.blk (EX.seq (EC.region (EL.mv rfl rfl ?_))));refine EL.val (ZR rfl rfl (c := ((k + 1 : Nat) : Int)) ((IntWalk.i64_in _ ⟨by first | omega | (simp only; omega), by first | omega | (simp only; omega)⟩).trans (by first | omega | (simp only; omega)))) rfl ?_
         refine EL.as rfl rfl (EL.nil ?_);refine EX.roundD (k + 1) ⟨rfl, trivial⟩ (by repeat first | with_reducible exact .refl _ | refine sp_ rfl ?_ | exact .refl _ | refine sd_ rfl ?_ | refine sn_ ?_) ⟨hltk, q1, (by rw [hos]; exact q2), q3, q4, q8, hbw⟩ (by omega)
      ·
       obtain rfl : k = ts.length := by omega
       rw [List.take_length] at q2;refine EC.seq (EC.seq (EC.region (EL.mv rfl rfl (EL.mv rfl rfl (EL.val (Zx rfl) rfl ?_)))));refine EL.val (ZQ (r := false) rfl rfl (decide_eq_false (by omega))) rfl ?_
       refine EL.nil (EX.seq (EC.no rfl (EC.exit (EX.seq_exit (EX.seq_exit (EX.blk_here (EX.seq (EC.seq ?_))))))));have hszR := hbw.size;have lt_1 := q1.lt;have lt_2 := q2.lt;have lt_3 := q3.lt;have lt_4 := q4.lt;have lt_8 := q8.lt;refine EC.regionS [[], [0], [], [], [3], [2, 3, 4], [], [6], [2, 3, 4, 5, 6, 7], [0, 1, 3, 4], [0, 1, 2, 3, 4, 5, 6, 7, 8, 9], [0, 1, 2, 3, 4, 5, 6, 7, 8, 9, 10], [0, 1, 2, 3, 4, 5, 6, 7, 8, 9, 10, 11]] 10 [] [8] (fun _ w_ => Below wk.heap.size wk w_) (phiS (fun i_ r => match i_ with | 0 => r 0 = .pointer (some ⟨g8, 1, none⟩) | 1 => r 1 = .int .i64 Rn.stop | 3 => r 3 = .pointer (some ⟨g2, 4, none⟩) | 4 => r 4 = .slice Ar rs.length cr | 6 => r 6 = .agg #[.int .i64 Rn.start, .int .i64 Rn.stop] | 9 => r 9 = .pointer (some ⟨g2, 2, none⟩) | _ => True) [(2, fun fl r w_ => fl 8 = false → (∃ g_, r 2 = .slice (some ⟨g_, 0, none⟩) 0 0 ∧ Blk w_ g_ 49 #[] ∧ wk.heap.size ≤ g_)), (5, fun fl r w_ => fl 8 = false → (∃ A_ c_, r 5 = .slice A_ rs.length c_ ∧ w_.ownsRow wk.heap.size 49 2 (.slice A_ rs.length c_) rs.length (rnsC rs))), (7, fun fl r w_ => fl 8 = false → (∃ g_, r 7 = .slice (some ⟨g_, 0, none⟩) 1 1 ∧ Blk w_ g_ 49 #[.int .i64 Rn.start, .int .i64 Rn.stop] ∧ wk.heap.size ≤ g_)), (8, fun _ r w_ => ∃ A_ c_, r 8 = .slice A_ (rs.length + 1) c_ ∧ w_.ownsRow wk.heap.size 49 2 (.slice A_ (rs.length + 1) c_) (rs.length + 1) (rnsC rs ++ [.int .i64 Rn.start, .int .i64 Rn.stop]))]) (by kernel_rfl) rfl rfl (by intro i hi; simp at hi; subst hi; exact ⟨by simp, by omega⟩) (Zz wk) (ZH (YH Y2) (ZH (YH QAc) (ZH (YH Y2) (ZH QKC (ZZ))))) (fun i_ hi_ hs_ => ?_) (fun i_ hi_ => ?_) ?_
       ·match i_, hi_ with
        | 0, _ =>
         intro val fl w1 a hb ha hd hfl;have ha := ha.s0 (d := 14) rfl
         exact ZD ha rfl rfl (YF rfl) rfl rfl
        | 1, _ =>
         intro val fl w1 a hb ha hd hfl;have e0 : val 0 = _ := hd 0 (ZA.1 rfl);have ha := ha.s1 (d := 159) rfl e0
         exact ZD ha rfl rfl (ld_3 rfl ((q8.below hb q8.lt).at (j := 1) rfl)) rfl rfl
        | 2, _ =>
         intro val fl w1 a hb ha hd hfl;have ha := ha.sub (Sub.nil _)
         exact QAX ha rfl rfl (QLw) rfl (fun g w' hq _ hge => fun _ => ⟨g, rfl, hq, Nat.le_trans hb.size hge⟩)
        | 3, _ =>
         intro val fl w1 a hb ha hd hfl;have ha := ha.s0 (d := 4) rfl
         exact ZD ha rfl rfl (QD1 rfl) rfl rfl
        | 4, _ =>
         intro val fl w1 a hb ha hd hfl;have e3 : val 3 = _ := hd 3 (ZA.1 rfl);have ha := ha.s1 (d := 162) rfl e3
         exact ZD ha rfl rfl (QKP rfl ((q2.below hb q2.lt).at (j := 4) rfl)) rfl rfl
        | 5, _ =>
         intro val fl w1 a hb ha hd hfl;obtain ⟨g2_, e2, q2_, h2_⟩ := hd 2 (ZA.1 rfl) (hfl 8 (by simp) (ZA.1 rfl))
         change val 2 = _ at e2;have e4 : val 4 = _ := hd 4 (ZA.1 rfl);have ha := ha.s2 (d := 163) (e := 161) rfl e4 rfl e2;refine QLD QDu ha rfl rfl rfl q2_ h2_ (hrr.below ((hbw.trans (hb.mono hbw.size)).mono hB)) (rnsC_one _) (by omega) rfl hb.size rfl (fun v' w' ho => fun _ => ?_)
         obtain ⟨A, c9, rfl, _⟩ := (Rd.of_own ho).shape
         exact ⟨A, c9, rfl, ho⟩
        | 6, _ =>
         intro val fl w1 a hb ha hd hfl;have ha := ha.s0 (d := 14) rfl
         exact ZD ha rfl rfl (QB0 rfl ((q8.below hb q8.lt).at (j := 0) rfl) ((q8.below hb q8.lt).at (j := 1) rfl)) rfl rfl
        | 7, _ =>
         intro val fl w1 a hb ha hd hfl;have e6 : val 6 = _ := hd 6 (ZA.1 rfl);have ha := ha.s1 (d := 165) rfl e6
         exact QAX ha rfl rfl (QGR rfl) rfl (fun g w' hq _ hge => fun _ => ⟨g, rfl, hq, Nat.le_trans hb.size hge⟩)
        | 8, _ =>
         exact absurd (by simp) hs_
        | 9, _ =>
         intro val fl w1 a hb ha hd hfl;have ha := ha.s0 (d := 4) rfl
         exact ZD ha rfl rfl (QIg rfl) rfl rfl
        | k + 10, h => exact absurd h (by omega)
       ·simp only [List.mem_singleton] at hi_; subst hi_
        intro val fl w1 a hb hfi ha hd hfl;obtain ⟨A5_, c5_, e5, o5_⟩ := hd 5 (ZA.1 rfl) hfi;change val 5 = _ at e5;obtain ⟨g7_, e7, q7_, h7_⟩ := hd 7 (ZA.1 rfl) hfi;change val 7 = _ at e7;have ha := ha.s2 (d := 166) (e := 164) rfl e7 rfl e5;refine QAv QDu ha rfl rfl rfl o5_ (QBW (l := [.int .i64 Rn.start, .int .i64 Rn.stop]) q7_ rfl) (by intro u hu; simp only [List.mem_cons, List.not_mem_nil, or_false] at hu; rcases hu with rfl | rfl <;> rfl) (by omega) rfl hb.size ?_
        intro v' w' ho' hgr hat;obtain ⟨A9, c9, rfl, _⟩ := (Rd.of_own ho').shape;refine ⟨_, rfl, hgr.size, hb.trans (ZI (YB o5_ (Nat.le_refl _)) hgr hb.size), ⟨A9, c9, rfl, ho'⟩, fun j _ hj hn hA => ?_⟩
        exact ZF (C := fun j => j ≠ 8 ∧ 8 ∉ clsAt [[], [0], [], [], [3], [2, 3, 4], [], [6], [2, 3, 4, 5, 6, 7], [0, 1, 3, 4], [0, 1, 2, 3, 4, 5, 6, 7, 8, 9], [0, 1, 2, 3, 4, 5, 6, 7, 8, 9, 10], [0, 1, 2, 3, 4, 5, 6, 7, 8, 9, 10, 11]] j) (fun _ _ h => by rw [ZS] at h; cases h) (ZF (fun _ _ h => by rw [ZS] at h; cases h) (ZF (fun _ _ h => by rw [ZS] at h; cases h) (ZF (fun hc => absurd rfl hc.1) (fun _ _ h => h)))) j ⟨hj, hn⟩
       ·intro val fl wR31 hfl hb halc hd
        have e0 : val 0 = _ := hd 0 (by omega)
        have e1 : val 1 = _ := hd 1 (by omega)
        have e3 : val 3 = _ := hd 3 (by omega)
        have e4 : val 4 = _ := hd 4 (by omega)
        have e6 : val 6 = _ := hd 6 (by omega)
        obtain ⟨A8_, c8_, e8, o8_⟩ := hd 8 (by omega)
        change val 8 = _ at e8;have e9 : val 9 = _ := hd 9 (by omega)
        refine EL.ends (cs := [_, _, val 2, _, _, val 5, _, val 7, _, _]) ⟨e0, e1, rfl, e3, e4, rfl, e6, rfl, e8, e9, trivial⟩ rfl ?_;replace q1 := q1.bl hb;replace q2 := q2.bl hb;replace q3 := q3.bl hb;replace q4 := q4.bl hb;replace q8 := q8.bl hb;replace hbw := bo_ hbw hb;clear hb;replace o8_ := YB o8_ hszR;refine EL.store rfl rfl q2 sz_3 rfl rfl rfl rfl ?_;intro w20 hq20 hg20;replace q1 := q1.gr hg20 n1_2;replace q3 := q3.gr hg20 n2_3.symm;replace q4 := q4.gr hg20 n2_4.symm;replace q8 := q8.gr hg20 n2_8.symm;replace o8_ := ZG o8_ q2 rfl hg20;replace hbw := ZE hbw hg20 bhbw_2;replace q2 := hq20;clear hg20 hq20;refine EL.val (QD1 rfl) rfl (EL.store rfl rfl q2 QMw rfl rfl rfl rfl ?_);intro w21 hq21 hg21;replace q1 := q1.gr hg21 n1_2;replace q3 := q3.gr hg21 n2_3.symm;replace q4 := q4.gr hg21 n2_4.symm;replace q8 := q8.gr hg21 n2_8.symm;replace o8_ := ZG o8_ q2 rfl hg21;replace hbw := ZE hbw hg21 bhbw_2;replace q2 := hq21;clear hg21 hq21;refine EL.nil (EX.seq (EC.seq (EC.seq (EC.region (EL.val (QAd rfl) rfl (EL.val (ld_4 rfl (q3.at (j := 0) rfl)) rfl (EL.nil (EX.seq ?_))))))))
        cases u
        ·
         have esel := hds rfl
         simp only [Prod.mk.injEq] at esel
         obtain ⟨rfl, rfl, rfl⟩ := esel;refine EC.no rfl (EC.region (EL.val (QGD rfl) rfl (EL.val (Yt rfl (q2.at (j := 1) rfl)) rfl (EL.val (YE rfl) rfl (EL.val (ld_3 rfl (q3.at (j := 1) rfl)) rfl (EL.val (QHU (lo := ts.length) rfl rfl hn rfl) rfl (EL.val (QGD rfl) rfl (EL.store rfl rfl q2 QH5 rfl rfl rfl rfl ?_))))))));intro w22 hq22 hg22;replace q1 := q1.gr hg22 n1_2;replace q3 := q3.gr hg22 n2_3.symm;replace q4 := q4.gr hg22 n2_4.symm;replace q8 := q8.gr hg22 n2_8.symm;replace o8_ := ZG o8_ q2 rfl hg22;replace hbw := ZE hbw hg22 bhbw_2;replace q2 := hq22;clear hg22 hq22;refine EL.nil (EX.seq (EC.seq (EC.region (EL.val (Ys rfl (q2.at (j := 0) rfl) (q2.at (j := 1) rfl) (q2.at (j := 2) rfl) (q2.at (j := 3) rfl) (q2.at (j := 4) rfl) (q2.at (j := 5) rfl) (q2.at (j := 6) rfl) (q2.at (j := 7) rfl) (q2.at (j := 8) rfl) (q2.at (j := 9) rfl) (q2.at (j := 10) rfl)) rfl (EL.store rfl rfl q4 YW rfl rfl rfl rfl ?_)))));intro w23 hq23 hg23;replace q1 := q1.gr hg23 n1_4;replace q2 := q2.gr hg23 n2_4;replace q3 := q3.gr hg23 n3_4;replace q8 := q8.gr hg23 n4_8.symm;replace o8_ := ZG o8_ q4 rfl hg23;replace hbw := ZE hbw hg23 bhbw_4;replace q4 := hq23;clear hg23 hq23;refine EL.as rfl rfl (EL.nil (EX.seq (EC.ret ?_)))
         exact EX.done (QDZ rfl rfl rfl (QBz (q4.at (j := 0) rfl) (q4.at (j := 1) rfl) (q4.at (j := 2) rfl) (q4.at (j := 3) rfl) (q4.at (j := 4) rfl) (q4.at (j := 5) rfl) (q4.at (j := 6) rfl) (q4.at (j := 7) rfl) (q4.at (j := 8) rfl) (q4.at (j := 9) rfl) (q4.at (j := 10) rfl))) ⟨⟨fun _ => ⟨A8_, c8_, by rw [htk]; rfl, o8_⟩, fun hf => absurd (hfit.symm.trans hf) (by decide)⟩, hbw⟩
        ·
         have esel := hus rfl
         simp only [Prod.mk.injEq] at esel
         obtain ⟨rfl, rfl, rfl⟩ := esel;refine EC.yes rfl (EC.region (EL.val (QGE rfl) rfl (EL.val (Yt rfl (q2.at (j := 0) rfl)) rfl (EL.val (YE rfl) rfl (EL.val (ld_3 rfl (q3.at (j := 1) rfl)) rfl (EL.val (QHU (lo := ts.length) rfl rfl hn rfl) rfl (EL.val (QGE rfl) rfl (EL.store rfl rfl q2 QH5 rfl rfl rfl rfl ?_))))))));intro w24 hq24 hg24;replace q1 := q1.gr hg24 n1_2;replace q3 := q3.gr hg24 n2_3.symm;replace q4 := q4.gr hg24 n2_4.symm;replace q8 := q8.gr hg24 n2_8.symm;replace o8_ := ZG o8_ q2 rfl hg24;replace hbw := ZE hbw hg24 bhbw_2;replace q2 := hq24;clear hg24 hq24;refine EL.nil (EX.seq (EC.seq (EC.region (EL.val (Ys rfl (q2.at (j := 0) rfl) (q2.at (j := 1) rfl) (q2.at (j := 2) rfl) (q2.at (j := 3) rfl) (q2.at (j := 4) rfl) (q2.at (j := 5) rfl) (q2.at (j := 6) rfl) (q2.at (j := 7) rfl) (q2.at (j := 8) rfl) (q2.at (j := 9) rfl) (q2.at (j := 10) rfl)) rfl (EL.store rfl rfl q4 YW rfl rfl rfl rfl ?_)))));intro w25 hq25 hg25;replace q1 := q1.gr hg25 n1_4;replace q2 := q2.gr hg25 n2_4;replace q3 := q3.gr hg25 n3_4;replace q8 := q8.gr hg25 n4_8.symm;replace o8_ := ZG o8_ q4 rfl hg25;replace hbw := ZE hbw hg25 bhbw_4;replace q4 := hq25;clear hg25 hq25;refine EL.as rfl rfl (EL.nil (EX.seq (EC.ret ?_)))
         exact EX.done (QDZ rfl rfl rfl (QBz (q4.at (j := 0) rfl) (q4.at (j := 1) rfl) (q4.at (j := 2) rfl) (q4.at (j := 3) rfl) (q4.at (j := 4) rfl) (q4.at (j := 5) rfl) (q4.at (j := 6) rfl) (q4.at (j := 7) rfl) (q4.at (j := 8) rfl) (q4.at (j := 9) rfl) (q4.at (j := 10) rfl))) ⟨⟨fun _ => ⟨A8_, c8_, by rw [htk]; rfl, o8_⟩, fun hf => absurd (hfit.symm.trans hf) (by decide)⟩, hbw⟩
section
variable {n : Nat} {σ : Sg} {w : World} {dst : Option Tmp} {ty : TypeId} {pos : String} {af : Array Edge} {g : Option (Nat × Bool)} {x y z : Operand} {at' : Array TypeId}
theorem cF43 : cF 43 := fun _ _ => by simp [go_sem]
theorem cF44 : cF 44 := fun _ _ => by simp [go_sem]
end
end Go.Proofs.Ytlbfnimilcnihaa
