/- X16, LkKnown, ExX17, X17, ExX18, X18, ExX19, ExX20, X20, LkRef, ExX21, X21, ExX22, X22, ExX23, ExX24, ExX25, ExX26, X26, LkTry, X23, X24, LkFound, ExX27, X28, ExX29: what LockThriftsProof needs of them (merged by trimpack.py). -/
import Derived.Test.YtlbfnimilcnihaaThriftsT5
set_option linter.unusedVariables false
set_option linter.unusedSimpArgs false
namespace Go.Proofs.Ytlbfnimilcnihaa
open Go Go.RowKit
theorem QKV (x : List LR) (y : List LT) : QAa x y 0 0 := ⟨fun e i h1 h2 => by omega, fun i h => by omega⟩
theorem QLw {x : List LR} {y : List LT} {d k : Nat} (h : QAa x y d k) (hs : QAY x y (d + 1) k = false) : QAa x y d (k + 1) := ⟨h.1, fun i hi => by
 rcases Nat.lt_or_ge i k with h1 | h1
 ·exact h.2 i h1
 ·rw [show i = k by omega]; exact hs⟩
theorem QNA {x : List LR} {y : List LT} {d : Nat} (h : QAa x y d x.length) : QAa x y (d + 1) 0 := ⟨fun e i h1 h2 hi => by
 rcases Nat.lt_or_ge e (d + 1) with h3 | h3
 ·exact h.1 e i h1 (by omega) hi
 ·rw [show e = d + 1 by omega]; exact h.2 i hi, fun i hi => by omega⟩
/-- the first day and reach on which there can be too little water -/
def QI_ (x : List LR) (y : List LT) (N : Nat) (day reach : Int) (sure : Bool) : Prop :=
 (∃ d i : Nat, d < N ∧ i < x.length ∧ QAa x y d i ∧ QAY x y (d + 1) i = true ∧ day = ((d + 1 : Nat) : Int) ∧ reach = ((i : Nat) : Int) ∧ sure = decide ((volD x y i (d + 1)).hi < (x.getD i lr0).least)) ∨ (QAa x y N 0 ∧ day = 0 ∧ reach = 0 ∧ sure = false)
theorem QJp {x : List LR} {y : List LT} {vx vy : Value} {days : Int} {w : World} {B : Nat} (hx : Rd w B 4 vx x.length (lrsC x)) (hy : Rd w B 3 vy y.length (ltsC y)) (hB : B ≤ w.heap.size) (hyn : y.length ≤ 9223372036854775806) :
  Calls Try.prog 27 #[vx, vy, .int .i64 days] w fun e w' => ∃ day reach sure, e = .returned (.tuple #[.int .i64 day, .int .i64 reach, .bool sure, .int .i64 (chE x y days)]) ∧ (chE x y days = 0 → QI_ x y days.toNat day reach sure) ∧ (chE x y days ≠ 0 → day = 0 ∧ reach = 0 ∧ sure = false) ∧ Below w.heap.size w w' := by
 obtain ⟨Ax, cx, rfl, _⟩ := hx.shape;obtain ⟨Ay, cy, rfl, _⟩ := hy.shape;have hbw := Below.refl w.heap.size w;refine EC.enter 58 Try.func27 rfl rfl rfl (EC.seq (EC.region (EL.as rfl rfl (EL.as rfl rfl (EL.as rfl rfl (EL.as rfl rfl (EL.nil (EX.seq (EC.seq ?_)))))))));refine EC.region (EL.mv rfl rfl (EL.mv rfl rfl (EL.mv rfl rfl (EL.call (cA3 cF26 rfl rfl rfl) rfl (QHd (hx.below (hbw.mono hB)) (hy.below (hbw.mono hB)) (Nat.le_trans hB hbw.size) hyn) ?_))))
 rintro e w1 ⟨sl, us, rfl, hout, hsl, hc1⟩
 refine ⟨_, rfl, ?_⟩;replace hbw := bo_ hbw hc1;clear hc1;refine EL.mv rfl rfl (EL.val (ZR (v := sl) rfl rfl) rfl (EL.val (ZR (v := .int .i64 (chE x y days)) rfl rfl) rfl (EL.as rfl rfl (EL.as rfl rfl (EL.nil (EX.seq (EC.seq (EC.seq (EC.region ?_)))))))));refine EL.mv rfl rfl ?_
 by_cases he : chE x y days = 0
 ·
  replace hout := hout he;have hch := QHO he;obtain ⟨N, rfl⟩ : ∃ N : Nat, days = N := ⟨days.toNat, (Int.toNat_of_nonneg hch.days.1).symm⟩;have hN := hch.days.2;have hxn := hch.n10;have hyl := hch.yl;change OwnLL _ _ sl us (QA6 x y N) at hout;have hrd0 := hout.rd;rw [Yo] at hrd0;obtain ⟨As, cs, rfl, _⟩ := (Rd.of_own hrd0).shape;clear hrd0;refine EL.val (Zp (r := false) rfl rfl (decide_eq_false (by omega))) rfl ?_
  refine EL.nil (EX.seq (EC.no rfl (EC.skip (EX.seq (EC.seq (EC.seq (EC.region (EL.mv rfl rfl (EL.val (QMm rfl) rfl ?_)))))))));refine EL.mv rfl rfl (EL.nil (EX.seq (EC.block ?_)));refine EC.loopD [6, 7, 8, 9, 11, 12, 13, 14, 15, 28, 29, 30, 31, 32, 33, 34, 35, 36, 37, 38, 39, 40, 41, 42, 43, 44, 45, 46, 47, 48, 49, 50, 51, 52, 53, 54, 55, 56, 57] (fun dd : Nat => [(28, .int .i64 (dd : Nat))]) (fun dd W => dd ≤ N ∧ QAa x y dd 0 ∧ OwnLL W w.heap.size (.slice As N cs) us (QA6 x y N) ∧ Below w.heap.size w W) (fun dd => N - dd) 0 ⟨Nat.zero_le _, QKV x y, hout, hbw⟩ ⟨rfl, trivial⟩ ?_
  clear hout hbw
  rintro dd wdd ⟨hk, hns, hout, hbw⟩
  by_cases hltdd : dd < N
  ·
   have hlD := Yo x y N;obtain ⟨bq, oq, eq_, _, cq⟩ := QKJ (Rd.of_own (hlD ▸ hout.rd)) (k := dd) (by rw [hout.len, hlD]; exact hltdd)
   subst eq_;have hrow := hout.row dd (by rw [hlD]; exact hltdd)
   rw [QB1 hltdd, QBi] at hrow;obtain ⟨gr, cr, er⟩ := Z_ hrow (by omega)
   rw [er] at cq;clear hrow;refine EC.seq (EC.region ?_);refine EL.val (ZS (r := true) rfl rfl (decide_eq_true (by omega))) rfl ?_
   refine EL.nil (EX.seq (EC.seq (EC.yes rfl (EC.skip (EX.seq (EC.seq (EC.block (EC.seq (EC.region ?_)))))))));refine EL.mv rfl rfl (EL.val (QHC rfl rfl hltdd) rfl (EL.val (QHB rfl cq) rfl (EL.as rfl rfl (EL.as rfl rfl (EL.nil (EX.seq (EC.seq (EC.region (EL.mv rfl rfl ?_)))))))));refine EL.val (QKf rfl) rfl (EL.mv rfl rfl (EL.nil (EX.seq (EC.block ?_))));refine EC.loopD [6, 7, 8, 9, 13, 14, 15, 35, 36, 37, 38, 39, 40, 41, 42, 43, 44, 45, 46, 47, 48, 49, 50, 51, 52, 53, 54, 55, 56] (fun k : Nat => [(35, .int .i64 (k : Nat))]) (fun k W => k ≤ x.length ∧ QAa x y dd k ∧ OwnLL W w.heap.size (.slice (some ⟨bq, oq, none⟩) N cs) us (QA6 x y N) ∧ Below w.heap.size w W) (fun k => x.length - k) 0 ⟨Nat.zero_le _, hns, hout, hbw⟩ ⟨rfl, trivial⟩ ?_
   clear hns hout hbw
   rintro k wk ⟨hkx, hns, hout, hbw⟩
   by_cases hltk : k < x.length
   ·
    have hrow := hout.row dd (by rw [Yo]; exact hltdd)
    rw [QB1 hltdd, QBi, er] at hrow;obtain ⟨bn, on, eb_, _, cn⟩ := QAd _ k (by rw [QBi]; exact hltk) _ _ _ _ _ (Rd.of_own hrow)
    injection eb_ with eb_
    injection eb_ with eb1_ eb2_
    subst eb1_ eb2_;rw [show (volL x y (dd + 1)).getD k bd0 = volD x y k (dd + 1) from QCn _ hltk] at cn;obtain ⟨b, o, rfl, _, cc⟩ := QCD x k hltk w B _ _ _ hx;clear hrow;refine EC.seq (EC.region ?_);refine EL.val (ZS (r := true) rfl rfl (decide_eq_true (by omega))) rfl ?_
    refine EL.nil (EX.seq (EC.seq (EC.yes rfl (EC.skip (EX.seq (EC.seq (EC.block (EC.seq (EC.region ?_)))))))));refine EL.mv rfl rfl (EL.val (QCN rfl rfl hltk) rfl (EL.val (QC1 rfl cn.c0 cn.c1) rfl (EL.newP QI8 rfl ?_)));intro g2 w2 q2 hb2 hg2 hl2;have bhbw_2 := Nat.le_trans hbw.size hg2;have hap2 := hout.apart hg2;replace hout := hout.below hb2;replace hbw := bo_ hbw hb2;clear hb2 hg2 hl2;refine EL.as rfl rfl (EL.store rfl rfl q2 QDd rfl rfl rfl rfl ?_);intro w3 hq3 hg3;replace hout := hout.kept hg3 hap2;replace hbw := ZD hbw hg3 bhbw_2;replace q2 := hq3;clear hg3 hq3;refine EL.nil (EX.seq (EC.seq (EC.region (EL.mv rfl rfl (EL.mv rfl rfl (EL.val (QIo rfl rfl hltk) rfl (EL.val (QIu rfl) rfl (EL.val (ld_3 rfl (ZB hbw cc.c1)) rfl (EL.as rfl rfl ?_)))))))));refine EL.nil (EX.seq (EC.seq (EC.region (EL.val (QBb rfl) rfl (EL.val (ld_3 rfl (q2.at (j := 0) rfl)) rfl (EL.mv rfl rfl ?_))))))
    by_cases hsh : (volD x y k (dd + 1)).lo < (x.getD k lr0).least
    ·
     have hst : QAY x y (dd + 1) k = true := decide_eq_true hsh;refine EL.val (ZS (r := true) rfl rfl (decide_eq_true (by omega))) rfl ?_
     refine EL.nil (EX.seq (EC.yes rfl (EC.seq ?_)));refine EC.regionQ (by kernel_rfl) (by kernel_rfl) ?_
     refine EQ.mv rfl rfl ?_;refine EQ.val (fun _ hw => (ZP rfl rfl (c := ((dd + 1 : Nat) : Int)) ((IntWalk.i64_in _ ⟨by first | omega | (simp only; omega), by first | omega | (simp only; omega)⟩).trans (by first | omega | (simp only; omega))))) rfl ?_
     refine EQ.mv rfl rfl ?_;refine EQ.val (fun _ hw => (QBa rfl)) rfl ?_
     refine EQ.val (fun _ hw => (ld_3 rfl (ZB hw (q2.at (j := 1) rfl)))) rfl ?_
     refine EQ.mv rfl rfl ?_;refine EQ.val (fun _ hw => (ZS rfl rfl rfl)) rfl ?_
     refine EQ.val (fun _ hw => (ZZ rfl)) rfl ?_
     refine EQ.val (fun _ hw => (ZZ rfl)) rfl ?_
     refine EQ.val (fun _ hw => (ZZ rfl)) rfl ?_
     refine EQ.val (fun _ hw => (ZZ rfl)) rfl ?_
     refine EQ.fin (fun w4 hw_ => ?_)
     replace q2 := q2.bl hw_;replace hout := hout.below hw_;replace hbw := bo_ hbw hw_;clear hw_;refine EX.seq (EC.ret (EX.blk_ret (EX.seq_ret (EX.seq_ret (EX.blk_ret (EX.blk_ret (EX.seq_ret (EX.seq_ret (EX.blk_ret ?_)))))))));refine EX.seq_ret ?_
     exact EX.done (res4 rfl rfl rfl rfl rfl) ⟨_, _, _, by rw [he], fun _ => .inl ⟨dd, k, hltdd, hltk, hns, hst, rfl, rfl, rfl⟩, fun h => absurd he h, hbw⟩
    ·
     have hst : QAY x y (dd + 1) k = false := decide_eq_false hsh;refine EL.val (ZS (r := false) rfl rfl (decide_eq_false (by omega))) rfl ?_
     refine EL.nil (EX.seq (EC.no rfl (EC.skip (EX.blk (EX.seq (EC.region ?_))))));refine EL.val (ZP rfl rfl (c := ((k + 1 : Nat) : Int)) ((IntWalk.i64_in _ ⟨by first | omega | (simp only; omega), by first | omega | (simp only; omega)⟩).trans (by first | omega | (simp only; omega)))) rfl ?_
     refine EL.mv rfl rfl (EL.nil ?_);refine EX.roundD (k + 1) ⟨rfl, trivial⟩ (by repeat first | with_reducible exact .refl _ | refine sp_ rfl ?_ | exact .refl _ | refine sd_ rfl ?_ | refine sn_ ?_) ⟨hltk, QLw hns hst, hout, hbw⟩ (by omega)
   ·
    obtain rfl : k = x.length := by omega
    replace hns := QNA hns;refine EC.seq (EC.region ?_);refine EL.val (ZS (r := false) rfl rfl (decide_eq_false (by omega))) rfl ?_
    refine EL.nil (EX.seq (EC.seq (EC.no rfl (EC.exit (EX.seq_exit (EX.seq_exit (EX.blk_here (EX.blk (EX.seq ?_)))))))));refine EC.region ?_;refine EL.val (ZP rfl rfl (c := ((dd + 1 : Nat) : Int)) ((IntWalk.i64_in _ ⟨by first | omega | (simp only; omega), by first | omega | (simp only; omega)⟩).trans (by first | omega | (simp only; omega)))) rfl ?_
    refine EL.mv rfl rfl (EL.nil ?_);refine EX.roundD (dd + 1) ⟨rfl, trivial⟩ (by repeat first | with_reducible exact .refl _ | refine sp_ rfl ?_ | exact .refl _ | refine sd_ rfl ?_ | refine sn_ ?_) ⟨hltdd, hns, hout, hbw⟩ (by omega)
  ·
   obtain rfl : dd = N := by omega
   refine EC.seq (EC.region ?_);refine EL.val (ZS (r := false) rfl rfl (decide_eq_false (by omega))) rfl ?_
   refine EL.nil (EX.seq (EC.seq (EC.no rfl (EC.exit (EX.seq_exit (EX.seq_exit (EX.blk_here (EX.seq (EC.seq ?_)))))))));refine EC.region (EL.as rfl rfl (EL.as rfl rfl (EL.as rfl rfl (EL.as rfl rfl (EL.nil (EX.seq (EC.ret ?_)))))))
   exact EX.done (res4 rfl rfl rfl rfl rfl) ⟨0, 0, false, by rw [he], fun _ => .inr ⟨hns, rfl, rfl, rfl⟩, fun h => absurd he h, hbw⟩
 ·
  clear hout;refine EL.val (Zp (r := true) rfl rfl (decide_eq_true (by omega))) rfl ?_
  refine EL.nil (EX.seq (EC.yes rfl (EC.seq (EC.region (EL.mv rfl rfl (EL.as rfl rfl (EL.as rfl rfl (EL.as rfl rfl (EL.as rfl rfl ?_)))))))));refine EL.nil (EX.seq (EC.ret (EX.seq_ret ?_)))
  exact EX.done (res4 rfl rfl rfl rfl rfl) ⟨_, _, _, rfl, fun h => absurd h he, fun _ => ⟨rfl, rfl, rfl⟩, hbw⟩
def oneK : LK := ⟨100, 20, 10, 1000, 40, false⟩
def YC : List TW := [⟨true, 0, 60, 1, 500⟩, ⟨false, 5, 80, 2, 300⟩, ⟨true, 10, 30, 1, 0⟩]
def QAy : List SP := [⟨true, 1⟩, ⟨false, 1⟩, ⟨true, 1⟩]
def xK : List LR := [⟨10000, 8000, ⟨500, 600⟩⟩, ⟨5000, 0, ⟨0, 0⟩⟩]
def yK : List LT := [⟨1000, ⟨1, 2⟩⟩]
theorem QH_ : QCO oneK YC = ([⟨true, 2⟩, ⟨false, 1⟩], 140, 0) := by kernel_rfl
theorem QFs : Yb oneK YC 140 = ([⟨true, 2⟩, ⟨false, 1⟩], 140, 0) := by kernel_rfl
theorem QDo : Z2 oneK YC QAy = 0 := by kernel_rfl
theorem QFf : (endP oneK YC QAy).up = -1800 ∧ (endP oneK YC QAy).lo = 800 ∧ (endP oneK YC QAy).ch = 1000 ∧ (endP oneK YC QAy).ba = 0 ∧ (endP oneK YC QAy).cost = 140 ∧ (endP oneK YC QAy).mv = 3 := ⟨by kernel_rfl, by kernel_rfl, by kernel_rfl, by kernel_rfl, by kernel_rfl, by kernel_rfl⟩
theorem QHo : QGn oneK YC QAy = [⟨0, 20⟩, ⟨20, 40⟩, ⟨40, 60⟩] := by kernel_rfl
theorem QDM : chE xK yK 2 = 0 := by kernel_rfl
theorem QFJ : volL xK yK 1 = [⟨8500, 9600⟩, ⟨6000, 7000⟩] ∧ volL xK yK 2 = [⟨7000, 9200⟩, ⟨7000, 9000⟩] := ⟨by kernel_rfl, by kernel_rfl⟩
theorem QGl {day reach : Int} {sure : Bool} (h : QI_ xK yK 2 day reach sure) : day = 2 ∧ reach = 0 ∧ sure = false := by
 have h1 : QAY xK yK 1 0 = false := by kernel_rfl
 have h2 : QAY xK yK 1 1 = false := by kernel_rfl
 have h3 : QAY xK yK 2 0 = true := by kernel_rfl
 have h4 : decide ((volD xK yK 0 2).hi < (xK.getD 0 lr0).least) = false := by kernel_rfl
 rcases h with ⟨d, i, hd, hi, hn, hs, rfl, rfl, rfl⟩ | ⟨hn, _⟩
 ·have hi2 : i < 2 := hi
  have hd2 : d = 0 ∨ d = 1 := by omega
  have hi3 : i = 0 ∨ i = 1 := by omega
  rcases hd2 with rfl | rfl
  ·rcases hi3 with rfl | rfl
   ·rw [h1] at hs; cases hs
   ·rw [h2] at hs; cases hs
  ·rcases hi3 with rfl | rfl
   ·exact ⟨rfl, rfl, h4⟩
   ·have := hn.2 0 (by omega)
    rw [h3] at this
    cases this
 ·have := hn.1 2 0 (by omega) (by omega) (by decide)
  rw [h3] at this
  cases this
section
variable {n : Nat} {σ : Sg} {w : World} {dst : Option Tmp} {ty : TypeId} {pos : String} {af : Array Edge} {g : Option (Nat × Bool)} {x y z : Operand} {at' : Array TypeId}
theorem QN1 (a : Act) (_ : Env n σ a) : (execOp a.eval ⟨dst, .alloc 23, ty, pos, af, g⟩).run Try.prog w = .ok (.value (.pointer (some ⟨w.heap.size, 0, none⟩))) (w.alloc (.cells #[.int .i64 0, .int .i64 0, .int .i64 0, .int .i64 0, .int .i64 0, .bool false] 23)) := by
 simp only [execOp]
 simp [go_sem]
theorem QDt {x0 x1 x2 x3 x4 : Operand} {z0 : Int} {z1 : Int} {z2 : Int} {z3 : Int} {z4 : Int} (h0 : evS σ x0 = some (.int .i64 z0)) (h1 : evS σ x1 = some (.int .i64 z1)) (h2 : evS σ x2 = some (.int .i64 z2)) (h3 : evS σ x3 = some (.int .i64 z3)) (h4 : evS σ x4 = some (.int .i64 z4)) : ZJ Try.prog n σ w ⟨dst, .build 23 #[(0, x0), (1, x1), (2, x2), (3, x3), (4, x4)], ty, pos, af, g⟩ (.agg #[.int .i64 z0, .int .i64 z1, .int .i64 z2, .int .i64 z3, .int .i64 z4, .bool false]) := fun a ha => by
 simp only [execOp, List.map_toArray, List.map_cons, List.map_nil, ha.eval h0, ha.eval h1, ha.eval h2, ha.eval h3, ha.eval h4]
 go_simp
theorem QNi {b o : Nat} {v0 v1 v2 v3 v4 v5 : Value} (c0 : w.cell? ⟨b, o, none⟩ = some v0) (c1 : w.cell? ⟨b, o + 1, none⟩ = some v1) (c2 : w.cell? ⟨b, o + 2, none⟩ = some v2) (c3 : w.cell? ⟨b, o + 3, none⟩ = some v3) (c4 : w.cell? ⟨b, o + 4, none⟩ = some v4) (c5 : w.cell? ⟨b, o + 5, none⟩ = some v5) : (loadVar 23 ⟨b, o, none⟩).run Try.prog w = .ok (.agg #[v0, v1, v2, v3, v4, v5]) w := by
 simp [go_sem, loadVar, c0, c1, c2, c3, c4, c5]
theorem QFH {x0 x1 x2 x3 : Operand} {b0 : Bool} {z1 : Int} {z2 : Int} {z3 : Int} (h0 : evS σ x0 = some (.bool b0)) (h1 : evS σ x1 = some (.int .i64 z1)) (h2 : evS σ x2 = some (.int .i64 z2)) (h3 : evS σ x3 = some (.int .i64 z3)) : ZJ Try.prog n σ w ⟨dst, .build 39 #[(0, x0), (2, x1), (3, x2), (4, x3)], ty, pos, af, g⟩ (.agg #[.bool b0, .int .i64 0, .int .i64 z1, .int .i64 z2, .int .i64 z3]) := fun a ha => by
 simp only [execOp, List.map_toArray, List.map_cons, List.map_nil, ha.eval h0, ha.eval h1, ha.eval h2, ha.eval h3]
 go_simp
theorem QFG {x0 x1 x2 x3 : Operand} {z0 : Int} {z1 : Int} {z2 : Int} {z3 : Int} (h0 : evS σ x0 = some (.int .i64 z0)) (h1 : evS σ x1 = some (.int .i64 z1)) (h2 : evS σ x2 = some (.int .i64 z2)) (h3 : evS σ x3 = some (.int .i64 z3)) : ZJ Try.prog n σ w ⟨dst, .build 39 #[(1, x0), (2, x1), (3, x2), (4, x3)], ty, pos, af, g⟩ (.agg #[.bool false, .int .i64 z0, .int .i64 z1, .int .i64 z2, .int .i64 z3]) := fun a ha => by
 simp only [execOp, List.map_toArray, List.map_cons, List.map_nil, ha.eval h0, ha.eval h1, ha.eval h2, ha.eval h3]
 go_simp
theorem QFI {x0 x1 x2 x3 : Operand} {b0 : Bool} {z1 : Int} {z2 : Int} {z3 : Int} (h0 : evS σ x0 = some (.bool b0)) (h1 : evS σ x1 = some (.int .i64 z1)) (h2 : evS σ x2 = some (.int .i64 z2)) (h3 : evS σ x3 = some (.int .i64 z3)) : ZJ Try.prog n σ w ⟨dst, .build 39 #[(0, x0), (1, x1), (2, x2), (3, x3)], ty, pos, af, g⟩ (.agg #[.bool b0, .int .i64 z1, .int .i64 z2, .int .i64 z3, .int .i64 0]) := fun a ha => by
 simp only [execOp, List.map_toArray, List.map_cons, List.map_nil, ha.eval h0, ha.eval h1, ha.eval h2, ha.eval h3]
 go_simp
theorem QMT {x0 x1 x2 : Operand} {v0_0 v0_1 v0_2 v0_3 v0_4 v1_0 v1_1 v1_2 v1_3 v1_4 v2_0 v2_1 v2_2 v2_3 v2_4 : Value} (h0 : evS σ x0 = some (.agg #[v0_0, v0_1, v0_2, v0_3, v0_4])) (h1 : evS σ x1 = some (.agg #[v1_0, v1_1, v1_2, v1_3, v1_4])) (h2 : evS σ x2 = some (.agg #[v2_0, v2_1, v2_2, v2_3, v2_4]))  (a : Act) (ha : Env n σ a) : (execOp a.eval ⟨dst, .buildSlice 24 3 #[(0, x0), (1, x1), (2, x2)], ty, pos, af, g⟩).run Try.prog w = .ok (.value (.slice (some ⟨w.heap.size, 0, none⟩) 3 3)) (w.alloc (.cells #[v0_0, v0_1, v0_2, v0_3, v0_4, v1_0, v1_1, v1_2, v1_3, v1_4, v2_0, v2_1, v2_2, v2_3, v2_4] 39)) := by
 simp only [execOp, List.map_toArray, List.map_cons, List.map_nil, ha.eval h0, ha.eval h1, ha.eval h2]
 go_simp
theorem QHT {x0 x1 x2 : Operand} {z0 : Int} {z1 : Int} {v2_0 : Value} {v2_1 : Value} (h0 : evS σ x0 = some (.int .i64 z0)) (h1 : evS σ x1 = some (.int .i64 z1)) (h2 : evS σ x2 = some (.agg #[v2_0, v2_1])) : ZJ Try.prog n σ w ⟨dst, .build 69 #[(0, x0), (1, x1), (2, x2)], ty, pos, af, g⟩ (.agg #[.int .i64 z0, .int .i64 z1, v2_0, v2_1]) := fun a ha => by
 simp only [execOp, List.map_toArray, List.map_cons, List.map_nil, ha.eval h0, ha.eval h1, ha.eval h2]
 go_simp
theorem QMY {x0 : Operand} {z0 : Int} (h0 : evS σ x0 = some (.int .i64 z0)) : ZJ Try.prog n σ w ⟨dst, .build 69 #[(0, x0)], ty, pos, af, g⟩ (.agg #[.int .i64 z0, .int .i64 0, .int .i64 0, .int .i64 0]) := fun a ha => by
 simp only [execOp, List.map_toArray, List.map_cons, List.map_nil, ha.eval h0]
 go_simp
theorem QMP {x0 x1 : Operand} {v0_0 v0_1 v0_2 v0_3 v1_0 v1_1 v1_2 v1_3 : Value} (h0 : evS σ x0 = some (.agg #[v0_0, v0_1, v0_2, v0_3])) (h1 : evS σ x1 = some (.agg #[v1_0, v1_1, v1_2, v1_3]))  (a : Act) (ha : Env n σ a) : (execOp a.eval ⟨dst, .buildSlice 59 2 #[(0, x0), (1, x1)], ty, pos, af, g⟩).run Try.prog w = .ok (.value (.slice (some ⟨w.heap.size, 0, none⟩) 2 2)) (w.alloc (.cells #[v0_0, v0_1, v0_2, v0_3, v1_0, v1_1, v1_2, v1_3] 69)) := by
 simp only [execOp, List.map_toArray, List.map_cons, List.map_nil, ha.eval h0, ha.eval h1]
 go_simp
theorem QJg {x0 x1 : Operand} {z0 : Int} {v1_0 : Value} {v1_1 : Value} (h0 : evS σ x0 = some (.int .i64 z0)) (h1 : evS σ x1 = some (.agg #[v1_0, v1_1])) : ZJ Try.prog n σ w ⟨dst, .build 71 #[(0, x0), (1, x1)], ty, pos, af, g⟩ (.agg #[.int .i64 z0, v1_0, v1_1]) := fun a ha => by
 simp only [execOp, List.map_toArray, List.map_cons, List.map_nil, ha.eval h0, ha.eval h1]
 go_simp
theorem QMO {x0 : Operand} {v0_0 v0_1 v0_2 : Value} (h0 : evS σ x0 = some (.agg #[v0_0, v0_1, v0_2]))  (a : Act) (ha : Env n σ a) : (execOp a.eval ⟨dst, .buildSlice 60 1 #[(0, x0)], ty, pos, af, g⟩).run Try.prog w = .ok (.value (.slice (some ⟨w.heap.size, 0, none⟩) 1 1)) (w.alloc (.cells #[v0_0, v0_1, v0_2] 71)) := by
 simp only [execOp, List.map_toArray, List.map_cons, List.map_nil, ha.eval h0]
 go_simp
theorem QNN {a0 a1 a2 a3 b0 b1 b2 b3 : Int} {r : Bool} (hx : evS σ x = some (.agg #[.int .i64 a0, .int .i64 a1, .int .i64 a2, .int .i64 a3])) (hy : evS σ y = some (.agg #[.int .i64 b0, .int .i64 b1, .int .i64 b2, .int .i64 b3])) (hc : decide (a0 = b0 ∧ a1 = b1 ∧ a2 = b2 ∧ a3 = b3) = r) : ZJ Try.prog n σ w ⟨dst, .binOp .eql 35 x y 35, ty, pos, af, g⟩ (.bool r) := fun a ha => by
 subst hc
 simp only [execOp, ha.eval hx, ha.eval hy]
 go_simp
 repeat' split
 all_goals simp_all
theorem QNp {b o m c k : Nat} (hx : evS σ x = some (.slice (some ⟨b, o, none⟩) m c)) (hy : evS σ y = some (.int .i64 (k : Int))) (hk : k < m) : ZJ Try.prog n σ w ⟨dst, .indexAddr 31 x y, ty, pos, af, g⟩ (.pointer (some ⟨b, o + k * 2, none⟩)) := fun a ha => by
 have k0 : (0 : Int) ≤ (k : Int) := Int.natCast_nonneg _;have k1 : (k : Int) < (m : Int) := by omega
 simp only [execOp, ha.eval hx, ha.eval hy]
 simp [go_sem, k0, k1]
theorem QNM {a0 a1 b0 b1 : Int} {r : Bool} (hx : evS σ x = some (.agg #[.int .i64 a0, .int .i64 a1])) (hy : evS σ y = some (.agg #[.int .i64 b0, .int .i64 b1])) (hc : decide (a0 = b0 ∧ a1 = b1) = r) : ZJ Try.prog n σ w ⟨dst, .binOp .eql 49 x y 49, ty, pos, af, g⟩ (.bool r) := fun a ha => by
 subst hc
 simp only [execOp, ha.eval hx, ha.eval hy]
 go_simp
 repeat' split
 all_goals simp_all
theorem QK4 {a0 a1 b0 b1 : Int} {r : Bool} (hx : evS σ x = some (.agg #[.int .i64 a0, .int .i64 a1])) (hy : evS σ y = some (.agg #[.int .i64 b0, .int .i64 b1])) (hc : decide (a0 = b0 ∧ a1 = b1) = r) : ZJ Try.prog n σ w ⟨dst, .binOp .eql 67 x y 67, ty, pos, af, g⟩ (.bool r) := fun a ha => by
 subst hc
 simp only [execOp, ha.eval hx, ha.eval hy]
 go_simp
 repeat' split
 all_goals simp_all
theorem cA0 {F : FuncId} (hF : cF F)  (a : Act) (_ : Env n σ a) : (execOp a.eval ⟨dst, .call { callee := .value (.func F), args := #[], argTypes := at' }, ty, pos, af, g⟩).run Try.prog w = .ok (.enter F #[]) w := by
 simp only [execOp, resolve, List.map_toArray, List.map_nil]
 simp [go_sem, Act.eval, hF _ _]
theorem cF36 : cF 36 := fun _ _ => by simp [go_sem]
theorem cF37 : cF 37 := fun _ _ => by simp [go_sem]
theorem cF23 : cF 23 := fun _ _ => by simp [go_sem]
theorem QI5 {x0 : Operand} {z0 : Int} (h0 : evS σ x0 = some (.int .i64 z0)) : ZJ Try.prog n σ w ⟨dst, .build 87 #[(1, x0)], ty, pos, af, g⟩ (.agg #[.bool false, .int .i64 z0]) := fun a ha => by
 simp only [execOp, List.map_toArray, List.map_cons, List.map_nil, ha.eval h0]
 go_simp
theorem QMR {x0 x1 x2 : Operand} {v0_0 v0_1 v1_0 v1_1 v2_0 v2_1 : Value} (h0 : evS σ x0 = some (.agg #[v0_0, v0_1])) (h1 : evS σ x1 = some (.agg #[v1_0, v1_1])) (h2 : evS σ x2 = some (.agg #[v2_0, v2_1]))  (a : Act) (ha : Env n σ a) : (execOp a.eval ⟨dst, .buildSlice 25 3 #[(0, x0), (1, x1), (2, x2)], ty, pos, af, g⟩).run Try.prog w = .ok (.value (.slice (some ⟨w.heap.size, 0, none⟩) 3 3)) (w.alloc (.cells #[v0_0, v0_1, v1_0, v1_1, v2_0, v2_1] 87)) := by
 simp only [execOp, List.map_toArray, List.map_cons, List.map_nil, ha.eval h0, ha.eval h1, ha.eval h2]
 go_simp
theorem cF17 : cF 17 := fun _ _ => by simp [go_sem]
theorem cF16 : cF 16 := fun _ _ => by simp [go_sem]
theorem cF25 : cF 25 := fun _ _ => by simp [go_sem]
theorem cF38 : cF 38 := fun _ _ => by simp [go_sem]
theorem cF27 : cF 27 := fun _ _ => by simp [go_sem]
theorem QNj {A : Option Addr} {m c : Nat} (hx : evS σ x = some (.slice A m c)) : ZJ Try.prog n σ w ⟨dst, .call { callee := .builtin .len, args := #[x], argTypes := #[31] }, ty, pos, af, g⟩ (.int .i64 (m : Int)) := fun a ha => by
 simp only [execOp, resolve, List.map_toArray, List.map_cons, List.map_nil, ha.eval hx]
 simp [go_sem]
theorem QHW {x0 x1 x2 : Operand} {z0 : Int} {z1 : Int} {z2 : Int} (h0 : evS σ x0 = some (.int .i64 z0)) (h1 : evS σ x1 = some (.int .i64 z1)) (h2 : evS σ x2 = some (.int .i64 z2)) : ZJ Try.prog n σ w ⟨dst, .build 35 #[(0, x0), (1, x1), (2, x2)], ty, pos, af, g⟩ (.agg #[.int .i64 z0, .int .i64 z1, .int .i64 z2, .int .i64 0]) := fun a ha => by
 simp only [execOp, List.map_toArray, List.map_cons, List.map_nil, ha.eval h0, ha.eval h1, ha.eval h2]
 go_simp
theorem QJh {x0 x1 : Operand} {z0 : Int} {z1 : Int} (h0 : evS σ x0 = some (.int .i64 z0)) (h1 : evS σ x1 = some (.int .i64 z1)) : ZJ Try.prog n σ w ⟨dst, .build 49 #[(0, x0), (1, x1)], ty, pos, af, g⟩ (.agg #[.int .i64 z0, .int .i64 z1]) := fun a ha => by
 simp only [execOp, List.map_toArray, List.map_cons, List.map_nil, ha.eval h0, ha.eval h1]
 go_simp
end
theorem QD2 (w : World) : Calls Try.prog 36 #[] w fun e w' => e = .returned (.agg #[.int .i64 100, .int .i64 20, .int .i64 10, .int .i64 1000, .int .i64 40, .bool false]) ∧ Below w.heap.size w w' := by
 have hbw := Below.refl w.heap.size w;refine EC.enter 2 Try.func36 rfl rfl rfl (EC.seq (EC.region (EL.newP QN1 rfl ?_)));intro g1 w1 q1 hb1 hg1 hl1;have bhbw_1 := Nat.le_trans hbw.size hg1;replace hbw := bo_ hbw hb1;clear hb1 hg1 hl1;refine EL.nil (EX.seq (EC.seq (EC.region (EL.val (QDt rfl rfl rfl rfl rfl) rfl (EL.store rfl rfl q1 QJ9 rfl rfl rfl rfl ?_)))));intro w2 hq2 hg2;replace hbw := ZD hbw hg2 bhbw_1;replace q1 := hq2;clear hg2 hq2;refine EL.nil (EX.seq (EC.ret ?_))
 exact EX.done (QBt rfl rfl (QNi (q1.at (j := 0) rfl) (q1.at (j := 1) rfl) (q1.at (j := 2) rfl) (q1.at (j := 3) rfl) (q1.at (j := 4) rfl) (q1.at (j := 5) rfl))) ⟨rfl, hbw⟩
theorem QB7 (w : World) : Calls Try.prog 37 #[] w fun e w' => (∃ g, e = .returned (.slice (some ⟨g, 0, none⟩) 3 3) ∧ Blk w' g 39 (twsC YC).toArray) ∧ Below w.heap.size w w' := by
 have hbw := Below.refl w.heap.size w;refine EC.enter 5 Try.func37 rfl rfl rfl (EC.seq (EC.region (EL.as rfl rfl (EL.nil (EX.seq (EC.seq (EC.region (EL.val (QFH rfl rfl rfl rfl) rfl (EL.val (QFG rfl rfl rfl rfl) rfl ?_)))))))));refine EL.val (QFI rfl rfl rfl rfl) rfl (EL.newS (QMT rfl rfl rfl) rfl ?_);intro g1 w1 q1 hb1 hg1 hl1;have bhbw_1 := Nat.le_trans hbw.size hg1;replace hbw := bo_ hbw hb1;clear hb1 hg1 hl1;refine EL.as rfl rfl (EL.nil (EX.seq (EC.ret ?_)))
 exact EX.done (res1 rfl rfl) ⟨⟨_, rfl, q1⟩, hbw⟩
theorem QJe (w : World) : Calls Try.prog 38 #[] w fun e w' => (∃ g h, e = .returned (.tuple #[.slice (some ⟨g, 0, none⟩) 2 2, .slice (some ⟨h, 0, none⟩) 1 1]) ∧ Blk w' g 69 (lrsC xK).toArray ∧ Blk w' h 71 (ltsC yK).toArray) ∧ Below w.heap.size w w' := by
 have hbw := Below.refl w.heap.size w;refine EC.enter 9 Try.func38 rfl rfl rfl (EC.seq (EC.region (EL.as rfl rfl (EL.as rfl rfl (EL.nil (EX.seq (EC.seq (EC.region (EL.val (Y3 rfl rfl) rfl ?_)))))))));refine EL.val (QHT rfl rfl rfl) rfl (EL.val (QMY rfl) rfl (EL.newS (QMP rfl rfl) rfl ?_));intro g1 w1 q1 hb1 hg1 hl1;have bhbw_1 := Nat.le_trans hbw.size hg1;replace hbw := bo_ hbw hb1;clear hb1 hg1 hl1;refine EL.val (Y3 rfl rfl) rfl (EL.val (QJg rfl rfl) rfl (EL.newS (QMO rfl) rfl ?_));intro g2 w2 q2 hb2 hg2 hl2;have n1_2 := q1.na hg2;have bhbw_2 := Nat.le_trans hbw.size hg2;replace q1 := q1.bl hb2;replace hbw := bo_ hbw hb2;clear hb2 hg2 hl2;refine EL.as rfl rfl (EL.as rfl rfl (EL.nil (EX.seq (EC.ret ?_))))
 exact EX.done (res2 rfl rfl rfl) ⟨⟨_, _, rfl, q1, q2⟩, hbw⟩
theorem QNS {v : Value} {w : World} {B : Nat} (hr : Rd w B 5 v 3 (twsC YC)) (hB : B ≤ w.heap.size) : Calls Try.prog 23 #[.agg #[.int .i64 100, .int .i64 20, .int .i64 10, .int .i64 1000, .int .i64 40, .bool false], v] w fun e w' => ∃ g c, e = .returned (.tuple #[.slice (some ⟨g, 0, none⟩) 2 c, .int .i64 140, .int .i64 0]) ∧ w'.ownsRow w.heap.size 87 2 (.slice (some ⟨g, 0, none⟩) 2 c) 2 (spsC [⟨true, 2⟩, ⟨false, 1⟩]) ∧ Below w.heap.size w w' :=
 (QLT (l := oneK) (ts := YC) hr hB).mono fun e w' ⟨sl, he, ho, hb⟩ => by
  rw [QH_] at he ho;obtain ⟨g, c, rfl⟩ := Z_ ho (by decide)
  exact ⟨g, c, he, ho, hb⟩
theorem QJz {v : Value} {w : World} {B : Nat} (hr : Rd w B 5 v 3 (twsC YC)) (hB : B ≤ w.heap.size) : Calls Try.prog 25 #[.agg #[.int .i64 100, .int .i64 20, .int .i64 10, .int .i64 1000, .int .i64 40, .bool false], v, .int .i64 140] w fun e w' => ∃ g c, e = .returned (.tuple #[.slice (some ⟨g, 0, none⟩) 2 c, .int .i64 140, .int .i64 0]) ∧ w'.ownsRow w.heap.size 87 2 (.slice (some ⟨g, 0, none⟩) 2 c) 2 (spsC [⟨true, 2⟩, ⟨false, 1⟩]) ∧ Below w.heap.size w w' :=
 (QFB (l := oneK) (ts := YC) hr hB).mono fun e w' ⟨sl, he, ho, hb⟩ => by
  rw [QFs] at he ho;obtain ⟨g, c, rfl⟩ := Z_ ho (by decide)
  exact ⟨g, c, he, ho, hb⟩
theorem QNb {v vp : Value} {w : World} {B : Nat} (hr : Rd w B 5 v 3 (twsC YC)) (hp : Rd w B 2 vp 3 (spsC QAy)) (hB : B ≤ w.heap.size) : Calls Try.prog 16 #[.agg #[.int .i64 100, .int .i64 20, .int .i64 10, .int .i64 1000, .int .i64 40, .bool false], v, vp] w fun e w' => ∃ g c, e = .returned (.tuple #[.slice (some ⟨g, 0, none⟩) 3 c, .int .i64 140, .int .i64 3, .int .i64 0]) ∧ w'.ownsRow w.heap.size 49 2 (.slice (some ⟨g, 0, none⟩) 3 c) 3 (rnsC [⟨0, 20⟩, ⟨20, 40⟩, ⟨40, 60⟩]) ∧ Below w.heap.size w w' :=
 (QMf (l := oneK) (ts := YC) (p := QAy) hr hp hB (by decide)).mono fun e w' ⟨sl, he, ho, hb⟩ => by
  obtain ⟨_, _, _, _, e5, e6⟩ := QFf;rw [QDo, e5, e6] at he;rw [QHo] at ho;obtain ⟨g, c, rfl⟩ := Z_ ho (by decide)
  exact ⟨g, c, he, ho, hb⟩
theorem QLW {v vp : Value} {w : World} {B : Nat} (hr : Rd w B 5 v 3 (twsC YC)) (hp : Rd w B 2 vp 3 (spsC QAy)) (hB : B ≤ w.heap.size) : Calls Try.prog 17 #[.agg #[.int .i64 100, .int .i64 20, .int .i64 10, .int .i64 1000, .int .i64 40, .bool false], v, vp] w fun e w' => e = .returned (.tuple #[.agg #[.int .i64 (-1800), .int .i64 800, .int .i64 1000, .int .i64 0], .int .i64 0]) ∧ Below w.heap.size w w' :=
 (QJn (l := oneK) (ts := YC) (p := QAy) hr hp hB (by decide)).mono fun e w' ⟨he, hb⟩ => by
  obtain ⟨e1, e2, e3, e4, _, _⟩ := QFf;rw [QDo, e1, e2, e3, e4] at he
  exact ⟨he, hb⟩
theorem QNP {vx vy : Value} {w : World} {B : Nat} (hx : Rd w B 4 vx 2 (lrsC xK)) (hy : Rd w B 3 vy 1 (ltsC yK)) (hB : B ≤ w.heap.size) : Calls Try.prog 26 #[vx, vy, .int .i64 2] w fun e w' => ∃ g c g0 c0 g1 c1, e = .returned (.tuple #[.slice (some ⟨g, 0, none⟩) 2 c, .int .i64 0]) ∧ w'.ownsRow w.heap.size 73 1 (.slice (some ⟨g, 0, none⟩) 2 c) 2 [.slice (some ⟨g0, 0, none⟩) 2 c0, .slice (some ⟨g1, 0, none⟩) 2 c1] ∧ w'.ownsRow w.heap.size 67 2 (.slice (some ⟨g0, 0, none⟩) 2 c0) 2 (bdsC [⟨8500, 9600⟩, ⟨6000, 7000⟩]) ∧ w'.ownsRow w.heap.size 67 2 (.slice (some ⟨g1, 0, none⟩) 2 c1) 2 (bdsC [⟨7000, 9200⟩, ⟨7000, 9000⟩]) ∧ Below w.heap.size w w' :=
 (QHd (x := xK) (y := yK) (days := 2) hx hy hB (by decide)).mono fun e w' ⟨sl, us, he, ho, _, hb⟩ => by
  rw [QDM] at he;have h := ho QDM;have h0 := h.row 0 (by decide)
  have h1 := h.row 1 (by decide)
  have hl := h.len;have hd := h.rd;rw [show (QA6 xK yK (2 : Int).toNat).getD 0 [] = volL xK yK 1 from rfl, QFJ.1] at h0;rw [show (QA6 xK yK (2 : Int).toNat).getD 1 [] = volL xK yK 2 from rfl, QFJ.2] at h1
  match us, hl with
  | [a, b], _ =>
   obtain ⟨g0, c0, e0⟩ := Z_ h0 (by decide)
   obtain ⟨g1, c1, e1⟩ := Z_ h1 (by decide)
   obtain ⟨g, c, rfl⟩ := Z_ hd (by decide)
   have ea : a = .slice (some ⟨g0, 0, none⟩) 2 c0 := e0;have eb : b = .slice (some ⟨g1, 0, none⟩) 2 c1 := e1;subst ea eb
   exact ⟨g, c, g0, c0, g1, c1, he, hd, h0, h1, hb⟩
theorem QLg {vx vy : Value} {w : World} {B : Nat} (hx : Rd w B 4 vx 2 (lrsC xK)) (hy : Rd w B 3 vy 1 (ltsC yK)) (hB : B ≤ w.heap.size) : Calls Try.prog 27 #[vx, vy, .int .i64 2] w fun e w' => e = .returned (.tuple #[.int .i64 2, .int .i64 0, .bool false, .int .i64 0]) ∧ Below w.heap.size w w' :=
 (QJp (x := xK) (y := yK) (days := 2) hx hy hB (by decide)).mono fun e w' ⟨day, reach, sure, he, hs, _, hb⟩ => by
  obtain ⟨rfl, rfl, rfl⟩ := QGl (hs QDM);rw [QDM] at he
  exact ⟨he, hb⟩
section
variable {n : Nat} {σ : Sg} {w : World} {dst : Option Tmp} {ty : TypeId} {pos : String} {af : Array Edge} {g : Option (Nat × Bool)} {x y : Operand}
theorem eqSP {a b : Bool} {m k : Int} {r : Bool} (hx : evS σ x = some (.agg #[.bool a, .int .i64 m])) (hy : evS σ y = some (.agg #[.bool b, .int .i64 k])) (hc : decide (a = b ∧ m = k) = r) : ZJ Try.prog n σ w ⟨dst, .binOp .eql 87 x y 87, ty, pos, af, g⟩ (.bool r) := fun _ ha => by
 subst hc
 simp only [execOp, ha.eval hx, ha.eval hy]
 go_simp
 repeat' split
 all_goals simp_all
end
theorem Ys {w : World} {base e z g m c : Nat} {xs : List Value} {j : Nat} {u : Value} (h : w.ownsRow base e z (.slice (some ⟨g, 0, none⟩) m c) m xs) (hj : xs[j]? = some u) : w.cell? ⟨g, 0 + j, none⟩ = some u := by
 obtain ⟨_, A, c2, e1, _, h1⟩ := Rd.of_own h
 injection e1 with e1 _ _
 subst e1;have hm : 0 < m := by
  rcases Nat.eq_zero_or_pos m with h0 | h0
  ·have := h.1
   rw [h0, Nat.zero_mul] at this;rw [List.eq_nil_of_length_eq_zero this] at hj
   cases hj
  ·exact h0
 obtain ⟨b, off, e2, _, h2⟩ := h1 hm
 injection e2 with e2
 injection e2 with e3 e4
 subst e3 e4
 exact h2 j u hj
set_option maxRecDepth 100000 in
theorem QAc (w : World) : Calls Try.prog 12 #[] w fun e w' => e = .returned (.bool true) ∧ Below w.heap.size w w' := by
 have hbw := Below.refl w.heap.size w;refine EC.enter 196 Try.func12 rfl rfl rfl (EC.seq (EC.region (EL.as rfl rfl (EL.nil (EX.seq (EC.seq (EC.region (EL.call (cA0 cF36) rfl (QD2 _) ?_))))))))
 rintro e w1 ⟨rfl, hc1⟩
 refine ⟨_, rfl, ?_⟩;replace hbw := bo_ hbw hc1;clear hc1;refine EL.call (cA0 cF37) rfl (QB7 _) ?_
 rintro e w2 ⟨⟨g3, rfl, q3⟩, hc2⟩
 refine ⟨_, rfl, ?_⟩;replace hbw := bo_ hbw hc2;clear hc2;refine EL.call (cA2 cF23 rfl rfl) rfl (QNS (Y8 (k := 3) (l := twsC YC) q3 rfl) (Nat.le_refl _)) ?_
 rintro e w3 ⟨gb, cb, rfl, hob, hc3⟩
 refine ⟨_, rfl, ?_⟩;replace hbw := bo_ hbw hc3;clear hc3;refine EL.mv rfl rfl (EL.xt rfl rfl rfl (EL.xt rfl rfl rfl (EL.xt rfl rfl rfl (EL.as rfl rfl (EL.as rfl rfl (EL.as rfl rfl (EL.nil (EX.seq (EC.seq ?_)))))))));refine EC.region (EL.val (QAe rfl rfl) rfl (EL.val (QI5 rfl) rfl (EL.val (QAe rfl rfl) rfl (EL.newS (QMR rfl rfl rfl) rfl ?_))));intro g4 w4 q4 hb4 hg4 hl4;have bhbw_4 := Nat.le_trans hbw.size hg4;replace hob := ZE hob hb4 (Nat.le_refl _);replace hbw := bo_ hbw hb4;clear hb4 hg4 hl4;refine EL.as rfl rfl (EL.nil (EX.seq (EC.seq (EC.region (EL.call (cA0 cF36) rfl (QD2 _) ?_)))))
 rintro e w5 ⟨rfl, hc5⟩
 refine ⟨_, rfl, ?_⟩;replace q4 := q4.bl hc5;replace hob := ZE hob hc5 (Nat.le_refl _);replace hbw := bo_ hbw hc5;clear hc5;refine EL.call (cA0 cF37) rfl (QB7 _) ?_
 rintro e w6 ⟨⟨g3, rfl, q3⟩, hc6⟩
 refine ⟨_, rfl, ?_⟩;replace q4 := q4.bl hc6;replace hob := ZE hob hc6 (Nat.le_refl _);replace hbw := bo_ hbw hc6;clear hc6;refine EL.mv rfl rfl (EL.call (cA3 cF17 rfl rfl rfl) rfl (QLW (Y8 (k := 3) (l := twsC YC) q3 rfl) (Y8 (k := 3) (l := spsC QAy) q4 rfl) (Nat.le_refl _)) ?_)
 rintro e w7 ⟨rfl, hc7⟩
 refine ⟨_, rfl, ?_⟩;replace q4 := q4.bl hc7;replace hob := ZE hob hc7 (Nat.le_refl _);replace hbw := bo_ hbw hc7;clear hc7;refine EL.mv rfl rfl (EL.xt rfl rfl rfl (EL.xt rfl rfl rfl (EL.newP QMt rfl ?_)));intro g8 w8 q8 hb8 hg8 hl8;have n4_8 := q4.na hg8;have bhbw_8 := Nat.le_trans hbw.size hg8;replace q4 := q4.bl hb8;replace hob := ZE hob hb8 (Nat.le_refl _);replace hbw := bo_ hbw hb8;clear hb8 hg8 hl8;refine EL.store rfl rfl q8 QJ6 rfl rfl rfl rfl ?_;intro w9 hq9 hg9;replace q4 := q4.gr hg9 n4_8;replace hob := ZL hob q8 rfl hg9;replace hbw := ZD hbw hg9 bhbw_8;replace q8 := hq9;clear hg9 hq9;refine EL.as rfl rfl (EL.nil (EX.seq (EC.seq (EC.region (EL.call (cA0 cF36) rfl (QD2 _) ?_)))))
 rintro e w10 ⟨rfl, hc10⟩
 refine ⟨_, rfl, ?_⟩;replace q4 := q4.bl hc10;replace q8 := q8.bl hc10;replace hob := ZE hob hc10 (Nat.le_refl _);replace hbw := bo_ hbw hc10;clear hc10;refine EL.call (cA0 cF37) rfl (QB7 _) ?_
 rintro e w11 ⟨⟨g3, rfl, q3⟩, hc11⟩
 refine ⟨_, rfl, ?_⟩;replace q4 := q4.bl hc11;replace q8 := q8.bl hc11;replace hob := ZE hob hc11 (Nat.le_refl _);replace hbw := bo_ hbw hc11;clear hc11;refine EL.mv rfl rfl (EL.call (cA3 cF16 rfl rfl rfl) rfl (QNb (Y8 (k := 3) (l := twsC YC) q3 rfl) (Y8 (k := 3) (l := spsC QAy) q4 rfl) (Nat.le_refl _)) ?_)
 rintro e w12 ⟨gr, cr, rfl, hor, hc12⟩
 refine ⟨_, rfl, ?_⟩;replace q4 := q4.bl hc12;replace q8 := q8.bl hc12;replace hob := ZE hob hc12 (Nat.le_refl _);replace hbw := bo_ hbw hc12;clear hc12;refine EL.mv rfl rfl (EL.xt rfl rfl rfl (EL.xt rfl rfl rfl (EL.xt rfl rfl rfl (EL.xt rfl rfl rfl (EL.as rfl rfl (EL.as rfl rfl (EL.as rfl rfl (EL.as rfl rfl (EL.nil ?_)))))))));refine EX.seq (EC.seq (EC.region (EL.call (cA0 cF36) rfl (QD2 _) ?_)))
 rintro e w13 ⟨rfl, hc13⟩
 refine ⟨_, rfl, ?_⟩;replace q4 := q4.bl hc13;replace q8 := q8.bl hc13;replace hob := ZE hob hc13 (Nat.le_refl _);replace hor := ZE hor hc13 (Nat.le_refl _);replace hbw := bo_ hbw hc13;clear hc13;refine EL.call (cA0 cF37) rfl (QB7 _) ?_
 rintro e w14 ⟨⟨g3, rfl, q3⟩, hc14⟩
 refine ⟨_, rfl, ?_⟩;replace q4 := q4.bl hc14;replace q8 := q8.bl hc14;replace hob := ZE hob hc14 (Nat.le_refl _);replace hor := ZE hor hc14 (Nat.le_refl _);replace hbw := bo_ hbw hc14;clear hc14;refine EL.call (cA3 cF25 rfl rfl rfl) rfl (QJz (Y8 (k := 3) (l := twsC YC) q3 rfl) (Nat.le_refl _)) ?_
 rintro e w15 ⟨gt, ct, rfl, hot, hc15⟩
 refine ⟨_, rfl, ?_⟩;replace q4 := q4.bl hc15;replace q8 := q8.bl hc15;replace hob := ZE hob hc15 (Nat.le_refl _);replace hor := ZE hor hc15 (Nat.le_refl _);replace hbw := bo_ hbw hc15;clear hc15;refine EL.mv rfl rfl (EL.xt rfl rfl rfl (EL.xt rfl rfl rfl (EL.xt rfl rfl rfl (EL.as rfl rfl (EL.as rfl rfl (EL.as rfl rfl (EL.nil (EX.seq (EC.seq ?_)))))))));refine EC.region (EL.call (cA0 cF38) rfl (QJe _) ?_)
 rintro e w16 ⟨⟨gx, gy, rfl, qx, qy⟩, hc16⟩
 refine ⟨_, rfl, ?_⟩;replace q4 := q4.bl hc16;replace q8 := q8.bl hc16;replace hob := ZE hob hc16 (Nat.le_refl _);replace hor := ZE hor hc16 (Nat.le_refl _);replace hot := ZE hot hc16 (Nat.le_refl _);replace hbw := bo_ hbw hc16;clear hc16;refine EL.mv rfl rfl (EL.xt rfl rfl rfl (EL.xt rfl rfl rfl (EL.as rfl rfl (EL.as rfl rfl (EL.nil (EX.seq (EC.seq (EC.region (EL.mv rfl rfl ?_)))))))));refine EL.mv rfl rfl (EL.call (cA3 cF26 rfl rfl rfl) rfl (QNP (Y8 (k := 2) (l := lrsC xK) qx rfl) (Y8 (k := 1) (l := ltsC yK) qy rfl) (Nat.le_refl _)) ?_)
 rintro e w19 ⟨gd, cd, gd0, cd0, gd1, cd1, rfl, hod, hod0, hod1, hc19⟩
 refine ⟨_, rfl, ?_⟩;replace q4 := q4.bl hc19;replace q8 := q8.bl hc19;replace qx := qx.bl hc19;replace qy := qy.bl hc19;replace hob := ZE hob hc19 (Nat.le_refl _);replace hor := ZE hor hc19 (Nat.le_refl _);replace hot := ZE hot hc19 (Nat.le_refl _);replace hbw := bo_ hbw hc19;clear hc19;refine EL.mv rfl rfl (EL.xt rfl rfl rfl (EL.xt rfl rfl rfl (EL.as rfl rfl (EL.as rfl rfl (EL.nil (EX.seq (EC.seq (EC.region (EL.mv rfl rfl ?_)))))))));refine EL.mv rfl rfl (EL.call (cA3 cF27 rfl rfl rfl) rfl (QLg (Y8 (k := 2) (l := lrsC xK) qx rfl) (Y8 (k := 1) (l := ltsC yK) qy rfl) (Nat.le_refl _)) ?_)
 rintro e w20 ⟨rfl, hc20⟩
 refine ⟨_, rfl, ?_⟩;replace q4 := q4.bl hc20;replace q8 := q8.bl hc20;replace qx := qx.bl hc20;replace qy := qy.bl hc20;replace hob := ZE hob hc20 (Nat.le_refl _);replace hor := ZE hor hc20 (Nat.le_refl _);replace hot := ZE hot hc20 (Nat.le_refl _);replace hod := ZE hod hc20 (Nat.le_refl _);replace hod0 := ZE hod0 hc20 (Nat.le_refl _);replace hod1 := ZE hod1 hc20 (Nat.le_refl _);replace hbw := bo_ hbw hc20;clear hc20;refine EL.mv rfl rfl (EL.xt rfl rfl rfl (EL.xt rfl rfl rfl (EL.xt rfl rfl rfl (EL.xt rfl rfl rfl (EL.as rfl rfl (EL.as rfl rfl (EL.as rfl rfl (EL.as rfl rfl (EL.nil ?_)))))))));refine EX.seq (EC.seq (EC.seq (EC.region (EL.mv rfl rfl ?_))));refine EL.val (Zp (r := false) rfl rfl (by decide)) rfl ?_
 refine EL.mv rfl rfl (EL.mg rfl rfl rfl rfl ?_);refine EL.valg rfl rfl (Zp (r := false) rfl rfl (by decide)) rfl ?_
 refine EL.pf rfl rfl rfl (EL.mv rfl rfl (EL.mg rfl rfl rfl rfl ?_));refine EL.valg rfl rfl (Zp (r := false) rfl rfl (by decide)) rfl ?_
 refine EL.pf rfl rfl rfl (EL.mv rfl rfl (EL.mg rfl rfl rfl rfl ?_));refine EL.valg rfl rfl (Zp (r := false) rfl rfl (by decide)) rfl ?_
 refine EL.pf rfl rfl rfl (EL.mv rfl rfl (EL.mg rfl rfl rfl rfl ?_));refine EL.valg rfl rfl (Zp (r := false) rfl rfl (by decide)) rfl ?_
 refine EL.pf rfl rfl rfl (EL.mv rfl rfl (EL.mg rfl rfl rfl rfl ?_));refine EL.valg rfl rfl (Zp (r := false) rfl rfl (by decide)) rfl ?_
 refine EL.pf rfl rfl rfl (EL.mv rfl rfl (EL.mg rfl rfl rfl rfl (EL.valg rfl rfl (QAT rfl) rfl ?_)));refine EL.valg rfl rfl (Zp (r := false) rfl rfl (by decide)) rfl ?_
 refine EL.pf rfl rfl rfl (EL.mv rfl rfl (EL.mg rfl rfl rfl rfl (EL.valg rfl rfl (QAT rfl) rfl ?_)));refine EL.valg rfl rfl (Zp (r := false) rfl rfl (by decide)) rfl ?_
 refine EL.pf rfl rfl rfl (EL.mv rfl rfl (EL.mg rfl rfl rfl rfl (EL.valg rfl rfl (QNj rfl) rfl ?_)));refine EL.valg rfl rfl (Zp (r := false) rfl rfl (by decide)) rfl ?_
 refine EL.pf rfl rfl rfl (EL.mv rfl rfl (EL.mg rfl rfl rfl rfl (EL.valg rfl rfl (QMm rfl) rfl ?_)));refine EL.valg rfl rfl (Zp (r := false) rfl rfl (by decide)) rfl ?_
 refine EL.pf rfl rfl rfl (EL.mv rfl rfl (EL.mg rfl rfl rfl rfl ?_));refine EL.valg rfl rfl (QHC (k := 0) rfl rfl (by omega)) rfl ?_
 refine EL.valg rfl rfl (QHB rfl (QAZ hod (k := 0) (Nat.zero_lt_succ _))) rfl (EL.valg rfl rfl (QKf rfl) rfl ?_);refine EL.valg rfl rfl (Zp (r := false) rfl rfl (by decide)) rfl ?_
 refine EL.pf rfl rfl rfl (EL.mv rfl rfl (EL.mg rfl rfl rfl rfl ?_));refine EL.valg rfl rfl (QHC (k := 1) rfl rfl (by omega)) rfl ?_
 refine EL.valg rfl rfl (QHB rfl (QAZ hod (k := 1) (Nat.lt_succ_self _))) rfl (EL.valg rfl rfl (QKf rfl) rfl ?_);refine EL.valg rfl rfl (Zp (r := false) rfl rfl (by decide)) rfl ?_
 refine EL.pf rfl rfl rfl (EL.nil (EX.seq (EC.no rfl (EC.skip (EX.seq (EC.seq (EC.region (EL.mv rfl rfl ?_))))))));refine EL.val (QDh (k := 0) rfl rfl (by omega)) rfl ?_
 refine EL.val (QBg rfl (Ys hob (j := 0) rfl) (Ys hob (j := 1) rfl)) rfl (EL.val (QAe rfl rfl) rfl ?_);refine EL.val (eqSP (r := true) rfl rfl (by decide)) rfl ?_
 refine EL.mv rfl rfl (EL.mg rfl rfl rfl rfl ?_);refine EL.valg rfl rfl (YH (r := true) rfl rfl (by decide)) rfl ?_
 refine EL.pt rfl rfl rfl (EL.mv rfl rfl (EL.valg rfl rfl (QMn rfl (q8.at (j := 0) rfl) (q8.at (j := 1) rfl) (q8.at (j := 2) rfl) (q8.at (j := 3) rfl)) rfl (EL.valg rfl rfl (QHW rfl rfl rfl) rfl ?_)));refine EL.valg rfl rfl (QNN (r := true) rfl rfl (by decide)) rfl ?_
 refine EL.pt rfl rfl rfl (EL.mv rfl rfl (EL.mg rfl rfl rfl rfl ?_));refine EL.valg rfl rfl (QNp (k := 2) rfl rfl (by omega)) rfl ?_
 refine EL.valg rfl rfl (QC2 rfl (Ys hor (j := 4) rfl) (Ys hor (j := 5) rfl)) rfl (EL.valg rfl rfl (QJh rfl rfl) rfl ?_);refine EL.valg rfl rfl (QNM (r := true) rfl rfl (by decide)) rfl ?_
 refine EL.pt rfl rfl rfl (EL.mv rfl rfl (EL.mg rfl rfl rfl rfl ?_));refine EL.valg rfl rfl (YH (r := true) rfl rfl (by decide)) rfl ?_
 refine EL.pt rfl rfl rfl (EL.mv rfl rfl (EL.mg rfl rfl rfl rfl ?_));refine EL.valg rfl rfl (YH (r := true) rfl rfl (by decide)) rfl ?_
 refine EL.pt rfl rfl rfl (EL.mv rfl rfl (EL.mg rfl rfl rfl rfl ?_));refine EL.valg rfl rfl (QDh (k := 1) rfl rfl (by omega)) rfl ?_
 refine EL.valg rfl rfl (QBg rfl (Ys hot (j := 2) rfl) (Ys hot (j := 3) rfl)) rfl (EL.valg rfl rfl (QI5 rfl) rfl ?_);refine EL.valg rfl rfl (eqSP (r := true) rfl rfl (by decide)) rfl ?_
 refine EL.pt rfl rfl rfl (EL.mv rfl rfl (EL.mg rfl rfl rfl rfl ?_));refine EL.valg rfl rfl (QHC (k := 0) rfl rfl (by omega)) rfl ?_
 refine EL.valg rfl rfl (QHB rfl (QAZ hod (k := 0) (Nat.zero_lt_succ _))) rfl ?_;refine EL.valg rfl rfl (QCN (k := 1) rfl rfl (by omega)) rfl ?_
 refine EL.valg rfl rfl (QC1 rfl (Ys hod0 (j := 2) rfl) (Ys hod0 (j := 3) rfl)) rfl (EL.valg rfl rfl (Y3 rfl rfl) rfl ?_);refine EL.valg rfl rfl (QK4 (r := true) rfl rfl (by decide)) rfl ?_
 refine EL.pt rfl rfl rfl (EL.mv rfl rfl (EL.mg rfl rfl rfl rfl ?_));refine EL.valg rfl rfl (QHC (k := 1) rfl rfl (by omega)) rfl ?_
 refine EL.valg rfl rfl (QHB rfl (QAZ hod (k := 1) (Nat.lt_succ_self _))) rfl ?_;refine EL.valg rfl rfl (QCN (k := 0) rfl rfl (by omega)) rfl ?_
 refine EL.valg rfl rfl (QC1 rfl (Ys hod1 (j := 0) rfl) (Ys hod1 (j := 1) rfl)) rfl (EL.valg rfl rfl (Y3 rfl rfl) rfl ?_);refine EL.valg rfl rfl (QK4 (r := true) rfl rfl (by decide)) rfl ?_
 refine EL.pt rfl rfl rfl (EL.mv rfl rfl (EL.mg rfl rfl rfl rfl ?_));refine EL.valg rfl rfl (YH (r := true) rfl rfl (by decide)) rfl ?_
 refine EL.pt rfl rfl rfl (EL.mv rfl rfl (EL.mg rfl rfl rfl rfl ?_));refine EL.valg rfl rfl (YH (r := true) rfl rfl (by decide)) rfl ?_
 refine EL.pt rfl rfl rfl (EL.mv rfl rfl (EL.mg rfl rfl rfl rfl (EL.valg rfl rfl (ZT rfl) rfl (EL.pt rfl rfl rfl (EL.as rfl rfl (EL.nil (EX.seq (EC.ret ?_))))))))
 exact EX.done (res1 rfl rfl) ⟨rfl, hbw⟩
section
variable {n : Nat} {σ : Sg} {w : World} {dst : Option Tmp} {ty : TypeId} {pos : String} {af : Array Edge} {g : Option (Nat × Bool)} {x y z : Operand} {at' : Array TypeId}
theorem cF41 : cF 41 := fun _ _ => by simp [go_sem]
end
theorem QLm (n a b : Int) (w : World) : Calls Try.prog 41 #[.int .i64 n, .int .i64 a, .int .i64 b] w fun e w' => e = .returned (.bool (inB a b n)) ∧ Below w.heap.size w w' := by
 have hbw := Below.refl w.heap.size w;refine EC.enter 15 Try.func41 rfl rfl rfl (EC.seq (EC.region (EL.as rfl rfl (EL.nil (EX.seq (EC.seq (EC.region (EL.mv rfl rfl (EL.mv rfl rfl ?_)))))))))
 by_cases h1 : a ≤ n
 ·
  refine EL.val (QCK (r := true) rfl rfl (decide_eq_true (by omega))) rfl ?_
  refine EL.mv rfl rfl (EL.mg rfl rfl rfl rfl (EL.mg rfl rfl rfl rfl ?_))
  by_cases h2 : n ≤ b
  ·
   refine EL.valg rfl rfl (QBD (r := true) rfl rfl (decide_eq_true (by omega))) rfl ?_
   refine EL.pt rfl rfl rfl (EL.as rfl rfl (EL.nil (EX.seq (EC.ret ?_))))
   exact EX.done (res1 rfl rfl) ⟨by unfold inB; simp [*], hbw⟩
  ·
   refine EL.valg rfl rfl (QBD (r := false) rfl rfl (decide_eq_false (by omega))) rfl ?_
   refine EL.pt rfl rfl rfl (EL.as rfl rfl (EL.nil (EX.seq (EC.ret ?_))))
   exact EX.done (res1 rfl rfl) ⟨by unfold inB; simp [*], hbw⟩
 ·
  refine EL.val (QCK (r := false) rfl rfl (decide_eq_false (by omega))) rfl ?_
  refine EL.mv rfl rfl (EL.skip rfl rfl rfl rfl (EL.skip rfl rfl rfl rfl (EL.skip rfl rfl rfl rfl (EL.pf rfl rfl rfl (EL.as rfl rfl (EL.nil (EX.seq (EC.ret ?_))))))))
  exact EX.done (res1 rfl rfl) ⟨by unfold inB; simp [*], hbw⟩
theorem Ya {n a b : Int} {c : Bool} (h : inB a b n = c) (w : World) : Calls Try.prog 41 #[.int .i64 n, .int .i64 a, .int .i64 b] w fun e w' => e = .returned (.bool c) ∧ Below w.heap.size w w' := h ▸ QLm n a b w
section
variable {x : List LR} {y : List LT} {days : Int}
end
theorem QLO {α : Type} {l : List α} {p : α → Bool} {d : α} (h : ∀ i, i < l.length → p (l.getD i d) = true) : l.all p = true := List.all_eq_true.2 fun x hx => by
 obtain ⟨i, hi, e⟩ := List.getElem_of_mem hx;have := h i hi;rw [Zj hi, e] at this
 exact this
theorem QED {α : Type} {l : List α} {p : α → Bool} {d : α} {k : Nat} (hk : k < l.length) (h : p (l.getD k d) = false) : l.all p = false := by
 cases e : l.all p with
 | false => rfl
 | true => rw [List.all_eq_true.1 e _ (Z1 hk d)] at h; cases h
section
variable {n : Nat} {σ : Sg} {w : World} {dst : Option Tmp} {ty : TypeId} {pos : String} {af : Array Edge} {g : Option (Nat × Bool)} {x y z : Operand} {at' : Array TypeId}
theorem cF12 : cF 12 := fun _ _ => by simp [go_sem]
end
section
variable {n : Nat} {σ : Sg} {w : World} {dst : Option Tmp} {ty : TypeId} {pos : String} {af : Array Edge} {g : Option (Nat × Bool)} {x y z : Operand} {at' : Array TypeId}
theorem cF19 : cF 19 := fun _ _ => by simp [go_sem]
end
theorem QJK (l : LK) (w : World) : Calls Try.prog 19 #[.agg #[.int .i64 l.length, .int .i64 l.cycle, .int .i64 l.turn, .int .i64 l.fill, .int .i64 l.save, .bool l.high]] w fun e w' => e = .returned (.bool (lkB l)) ∧ Below w.heap.size w w' := by
 have hbw := Below.refl w.heap.size w;refine EC.enter 26 Try.func19 rfl rfl rfl (EC.seq (EC.region (EL.newP (QAD rfl) rfl ?_)));intro g1 w1 q1 hb1 hg1 hl1;have bhbw_1 := Nat.le_trans hbw.size hg1;replace hbw := bo_ hbw hb1;clear hb1 hg1 hl1;refine EL.as rfl rfl (EL.nil (EX.seq (EC.seq (EC.region (EL.val (Yx rfl) rfl (EL.val (ld_3 rfl (q1.at (j := 0) rfl)) rfl ?_))))))
 cases k1 : inB 1 500 l.length
 ·
  refine EL.call (cA3 cF41 rfl rfl rfl) rfl (Ya k1 _) ?_
  rintro e w2 ⟨rfl, hc2⟩
  refine ⟨_, rfl, ?_⟩;replace q1 := q1.bl hc2;replace hbw := bo_ hbw hc2;clear hc2;refine EL.mv rfl rfl (EL.skip rfl rfl rfl rfl (EL.skip rfl rfl rfl rfl (EL.skip rfl rfl rfl rfl (EL.pf rfl rfl rfl (EL.mv rfl rfl (EL.skip rfl rfl rfl rfl (EL.skip rfl rfl rfl rfl (EL.skip rfl rfl rfl rfl (EL.pf rfl rfl rfl ?_)))))))));refine EL.mv rfl rfl (EL.skip rfl rfl rfl rfl (EL.skip rfl rfl rfl rfl (EL.skip rfl rfl rfl rfl (EL.pf rfl rfl rfl (EL.mv rfl rfl (EL.skip rfl rfl rfl rfl (EL.skip rfl rfl rfl rfl (EL.skip rfl rfl rfl rfl (EL.pf rfl rfl rfl ?_)))))))));refine EL.as rfl rfl (EL.nil (EX.seq (EC.ret ?_)))
  exact EX.done (res1 rfl rfl) ⟨by simp [lkB, *], hbw⟩
 ·
  refine EL.call (cA3 cF41 rfl rfl rfl) rfl (Ya k1 _) ?_
  rintro e w3 ⟨rfl, hc3⟩
  refine ⟨_, rfl, ?_⟩;replace q1 := q1.bl hc3;replace hbw := bo_ hbw hc3;clear hc3;refine EL.mv rfl rfl (EL.valg rfl rfl (QBc rfl) rfl (EL.valg rfl rfl (ld_3 rfl (q1.at (j := 1) rfl)) rfl ?_))
  cases k2 : inB 1 500 l.cycle
  ·
   refine EL.callg rfl rfl (cA3 cF41 rfl rfl rfl) rfl (Ya k2 _) ?_
   rintro e w4 ⟨rfl, hc4⟩
   refine ⟨_, rfl, ?_⟩;replace q1 := q1.bl hc4;replace hbw := bo_ hbw hc4;clear hc4;refine EL.pt rfl rfl rfl (EL.mv rfl rfl (EL.skip rfl rfl rfl rfl (EL.skip rfl rfl rfl rfl (EL.skip rfl rfl rfl rfl (EL.pf rfl rfl rfl (EL.mv rfl rfl (EL.skip rfl rfl rfl rfl (EL.skip rfl rfl rfl rfl (EL.skip rfl rfl rfl rfl ?_)))))))));refine EL.pf rfl rfl rfl (EL.mv rfl rfl (EL.skip rfl rfl rfl rfl (EL.skip rfl rfl rfl rfl (EL.skip rfl rfl rfl rfl (EL.pf rfl rfl rfl (EL.as rfl rfl (EL.nil (EX.seq (EC.ret ?_)))))))))
   exact EX.done (res1 rfl rfl) ⟨by simp [lkB, *], hbw⟩
  ·
   refine EL.callg rfl rfl (cA3 cF41 rfl rfl rfl) rfl (Ya k2 _) ?_
   rintro e w5 ⟨rfl, hc5⟩
   refine ⟨_, rfl, ?_⟩;replace q1 := q1.bl hc5;replace hbw := bo_ hbw hc5;clear hc5;refine EL.pt rfl rfl rfl (EL.mv rfl rfl (EL.valg rfl rfl (Yw rfl) rfl (EL.valg rfl rfl (ld_3 rfl (q1.at (j := 2) rfl)) rfl ?_)))
   cases k3 : inB 0 500 l.turn
   ·
    refine EL.callg rfl rfl (cA3 cF41 rfl rfl rfl) rfl (Ya k3 _) ?_
    rintro e w6 ⟨rfl, hc6⟩
    refine ⟨_, rfl, ?_⟩;replace q1 := q1.bl hc6;replace hbw := bo_ hbw hc6;clear hc6;refine EL.pt rfl rfl rfl (EL.mv rfl rfl (EL.skip rfl rfl rfl rfl (EL.skip rfl rfl rfl rfl (EL.skip rfl rfl rfl rfl (EL.pf rfl rfl rfl (EL.mv rfl rfl (EL.skip rfl rfl rfl rfl (EL.skip rfl rfl rfl rfl (EL.skip rfl rfl rfl rfl ?_)))))))));refine EL.pf rfl rfl rfl (EL.as rfl rfl (EL.nil (EX.seq (EC.ret ?_))))
    exact EX.done (res1 rfl rfl) ⟨by simp [lkB, *], hbw⟩
   ·
    refine EL.callg rfl rfl (cA3 cF41 rfl rfl rfl) rfl (Ya k3 _) ?_
    rintro e w7 ⟨rfl, hc7⟩
    refine ⟨_, rfl, ?_⟩;replace q1 := q1.bl hc7;replace hbw := bo_ hbw hc7;clear hc7;refine EL.pt rfl rfl rfl (EL.mv rfl rfl (EL.valg rfl rfl (Yv rfl) rfl (EL.valg rfl rfl (ld_3 rfl (q1.at (j := 3) rfl)) rfl ?_)))
    cases k4 : inB 0 1000000 l.fill
    ·
     refine EL.callg rfl rfl (cA3 cF41 rfl rfl rfl) rfl (Ya k4 _) ?_
     rintro e w8 ⟨rfl, hc8⟩
     refine ⟨_, rfl, ?_⟩;replace q1 := q1.bl hc8;replace hbw := bo_ hbw hc8;clear hc8;refine EL.pt rfl rfl rfl (EL.mv rfl rfl (EL.skip rfl rfl rfl rfl (EL.skip rfl rfl rfl rfl (EL.skip rfl rfl rfl rfl (EL.pf rfl rfl rfl (EL.as rfl rfl (EL.nil (EX.seq (EC.ret ?_)))))))))
     exact EX.done (res1 rfl rfl) ⟨by simp [lkB, *], hbw⟩
    ·
     refine EL.callg rfl rfl (cA3 cF41 rfl rfl rfl) rfl (Ya k4 _) ?_
     rintro e w9 ⟨rfl, hc9⟩
     refine ⟨_, rfl, ?_⟩;replace q1 := q1.bl hc9;replace hbw := bo_ hbw hc9;clear hc9;refine EL.pt rfl rfl rfl (EL.mv rfl rfl (EL.valg rfl rfl (QD8 rfl) rfl (EL.valg rfl rfl (ld_3 rfl (q1.at (j := 4) rfl)) rfl ?_)))
     cases k5 : inB 0 90 l.save
     ·
      refine EL.callg rfl rfl (cA3 cF41 rfl rfl rfl) rfl (Ya k5 _) ?_
      rintro e w10 ⟨rfl, hc10⟩
      refine ⟨_, rfl, ?_⟩;replace q1 := q1.bl hc10;replace hbw := bo_ hbw hc10;clear hc10;refine EL.pt rfl rfl rfl (EL.as rfl rfl (EL.nil (EX.seq (EC.ret ?_))))
      exact EX.done (res1 rfl rfl) ⟨by simp [lkB, *], hbw⟩
     ·
      refine EL.callg rfl rfl (cA3 cF41 rfl rfl rfl) rfl (Ya k5 _) ?_
      rintro e w11 ⟨rfl, hc11⟩
      refine ⟨_, rfl, ?_⟩;replace q1 := q1.bl hc11;replace hbw := bo_ hbw hc11;clear hc11;refine EL.pt rfl rfl rfl (EL.as rfl rfl (EL.nil (EX.seq (EC.ret ?_))))
      exact EX.done (res1 rfl rfl) ⟨by simp [lkB, *], hbw⟩
theorem QGr {l : LK} {b : Bool} (h : lkB l = b) (w : World) : Calls Try.prog 19 #[.agg #[.int .i64 l.length, .int .i64 l.cycle, .int .i64 l.turn, .int .i64 l.fill, .int .i64 l.save, .bool l.high]] w fun e w' => e = .returned (.bool b) ∧ Below w.heap.size w w' := h ▸ QJK l w
section
variable {l : LK} {ts : List TW}
theorem QIM (h : lkB l = true) (h1 : ¬8 < ts.length) (h2 : ts.all (twB l) = false) : towE l ts = 2 := by unfold towE; rw [if_pos h, if_neg h1, h2]; rfl
theorem QNY (h : lkB l = true) (h1 : ¬8 < ts.length) (h2 : ts.all (twB l) = true) : towE l ts = 0 := by unfold towE; rw [if_pos h, if_neg h1, h2]; rfl
end
theorem QJI {l : LK} {ts : List TW} {v : Value} {w : World} {B : Nat} (hr : Rd w B 5 v ts.length (twsC ts)) (hB : B ≤ w.heap.size) (hn : ts.length ≤ 1000000) :
  Calls Try.prog 20 #[.agg #[.int .i64 l.length, .int .i64 l.cycle, .int .i64 l.turn, .int .i64 l.fill, .int .i64 l.save, .bool l.high], v] w fun e w' => e = .returned (.int .i64 (towE l ts)) ∧ Below w.heap.size w w' := by
 obtain ⟨At, ct, rfl, _⟩ := hr.shape;have hbw := Below.refl w.heap.size w;refine EC.enter 48 Try.func20 rfl rfl rfl (EC.seq (EC.region (EL.newP (QAD rfl) rfl ?_)));intro g1 w1 q1 hb1 hg1 hl1;have bhbw_1 := Nat.le_trans hbw.size hg1;replace hbw := bo_ hbw hb1;clear hb1 hg1 hl1;refine EL.as rfl rfl (EL.nil (EX.seq (EC.seq (EC.seq (EC.region (EL.val (YY rfl (q1.at (j := 0) rfl) (q1.at (j := 1) rfl) (q1.at (j := 2) rfl) (q1.at (j := 3) rfl) (q1.at (j := 4) rfl) (q1.at (j := 5) rfl)) rfl ?_))))))
 cases h0 : lkB l
 ·
  refine EL.call (cA1 cF19 rfl) rfl (QGr h0 _) ?_
  rintro e w2 ⟨rfl, hc2⟩
  refine ⟨_, rfl, ?_⟩;replace q1 := q1.bl hc2;replace hbw := bo_ hbw hc2;clear hc2;refine EL.val (ZT rfl) rfl (EL.nil (EX.seq (EC.yes rfl (EC.seq (EC.region (EL.as rfl rfl (EL.nil (EX.seq (EC.ret ?_)))))))));refine EX.seq_ret ?_
  exact EX.done (res1 rfl rfl) ⟨by simp [towE, *], hbw⟩
 ·
  have hll := QH0 h0;refine EL.call (cA1 cF19 rfl) rfl (QGr h0 _) ?_
  rintro e w3 ⟨rfl, hc3⟩
  refine ⟨_, rfl, ?_⟩;replace q1 := q1.bl hc3;replace hbw := bo_ hbw hc3;clear hc3;refine EL.val (ZT rfl) rfl (EL.nil (EX.seq (EC.no rfl (EC.skip (EX.seq (EC.seq (EC.seq (EC.region (EL.mv rfl rfl ?_)))))))));refine EL.val (Zs rfl) rfl ?_
  by_cases h1 : 8 < ts.length
  ·
   refine EL.val (Zm (r := true) rfl rfl (decide_eq_true (by omega))) rfl ?_
   refine EL.nil (EX.seq (EC.yes rfl (EC.seq (EC.region (EL.as rfl rfl (EL.nil (EX.seq (EC.ret (EX.seq_ret ?_)))))))))
   exact EX.done (res1 rfl rfl) ⟨by simp [towE, *], hbw⟩
  ·
   refine EL.val (Zm (r := false) rfl rfl (decide_eq_false (by omega))) rfl ?_
   refine EL.nil (EX.seq (EC.no rfl (EC.skip (EX.seq (EC.seq (EC.seq (EC.region (EL.as rfl rfl (EL.nil ?_)))))))));refine EX.seq (EC.block ?_);refine EC.loopD [4, 5, 6, 13, 14, 15, 16, 17, 18, 19, 20, 21, 22, 23, 24, 25, 26, 27, 28, 29, 30, 31, 32, 33, 34, 35, 36, 37, 38, 39, 40, 41, 42, 43, 44, 45, 46, 47] (fun k : Nat => [(5, .int .i64 (k : Nat))]) (fun k W => k ≤ ts.length ∧ (∀ i, i < k → twB l (ts.getD i tw0) = true) ∧ Blk W g1 23 #[.int .i64 l.length, .int .i64 l.cycle, .int .i64 l.turn, .int .i64 l.fill, .int .i64 l.save, .bool l.high] ∧ Below w.heap.size w W) (fun k => ts.length - k) 0 ⟨Nat.zero_le _, (fun i hi => absurd hi (Nat.not_lt_zero i)), q1, hbw⟩ ⟨rfl, trivial⟩ ?_
   clear q1 hbw
   rintro k wk ⟨hkn, hok, q1, hbw⟩
   by_cases hltk : k < ts.length
   ·
    obtain ⟨b, o, rfl, _, cc⟩ := Zy ts k hltk w B _ _ _ hr
    generalize hcx : ts.getD k tw0 = c at cc
    refine EC.seq (EC.seq (EC.region (EL.mv rfl rfl (EL.mv rfl rfl (EL.val (Zs rfl) rfl ?_)))));refine EL.val (ZS (r := true) rfl rfl (decide_eq_true (by omega))) rfl ?_
    refine EL.nil (EX.seq (EC.yes rfl (EC.skip (EX.seq (EC.seq (EC.block (EC.seq (EC.region (EL.mv rfl rfl ?_)))))))));refine EL.mv rfl rfl (EL.val (YR rfl rfl hltk) rfl (EL.val (QAU rfl (ZB hbw cc.c0) (ZB hbw cc.c1) (ZB hbw cc.c2) (ZB hbw cc.c3) (ZB hbw cc.c4)) rfl (EL.newP QHb rfl ?_)));intro g4 w4 q4 hb4 hg4 hl4;have n1_4 := q1.na hg4;have bhbw_4 := Nat.le_trans hbw.size hg4;replace q1 := q1.bl hb4;replace hbw := bo_ hbw hb4;clear hb4 hg4 hl4;refine EL.store rfl rfl q4 QEK rfl rfl rfl rfl ?_;intro w5 hq5 hg5;replace q1 := q1.gr hg5 n1_4;replace hbw := ZD hbw hg5 bhbw_4;replace q4 := hq5;clear hg5 hq5;refine EL.nil (EX.seq (EC.seq (EC.region (EL.val (Yn rfl) rfl (EL.val (ld_3 rfl (q4.at (j := 1) rfl)) rfl ?_)))))
    cases k1 : inB 0 100000 c.arrive
    ·
     refine EL.call (cA3 cF41 rfl rfl rfl) rfl (Ya k1 _) ?_
     rintro e w6 ⟨rfl, hc6⟩
     refine ⟨_, rfl, ?_⟩;replace q1 := q1.bl hc6;replace q4 := q4.bl hc6;replace hbw := bo_ hbw hc6;clear hc6;refine EL.val (ZT rfl) rfl (EL.mv rfl rfl (EL.skip rfl rfl rfl rfl (EL.skip rfl rfl rfl rfl (EL.skip rfl rfl rfl rfl (EL.skip rfl rfl rfl rfl (EL.skip rfl rfl rfl rfl (EL.skip rfl rfl rfl rfl (EL.skip rfl rfl rfl rfl (EL.pt rfl rfl rfl ?_)))))))));refine EL.mv rfl rfl (EL.skip rfl rfl rfl rfl (EL.skip rfl rfl rfl rfl (EL.skip rfl rfl rfl rfl (EL.skip rfl rfl rfl rfl (EL.pt rfl rfl rfl (EL.mv rfl rfl (EL.skip rfl rfl rfl rfl (EL.skip rfl rfl rfl rfl (EL.skip rfl rfl rfl rfl ?_)))))))));refine EL.skip rfl rfl rfl rfl (EL.pt rfl rfl rfl (EL.nil (EX.seq (EC.yes rfl (EC.seq (EC.region (EL.as rfl rfl (EL.nil (EX.seq ?_)))))))));refine EC.ret (EX.blk_ret (EX.seq_ret (EX.seq_ret (EX.blk_ret (EX.seq_ret ?_)))))
     exact EX.done (res1 rfl rfl) ⟨by rw [QIM h0 h1 (QED hltk (by rw [hcx]; simp only [twB, *, Bool.and_false, Bool.and_true, Bool.false_and, Bool.true_and]))], hbw⟩
    ·
     refine EL.call (cA3 cF41 rfl rfl rfl) rfl (Ya k1 _) ?_
     rintro e w7 ⟨rfl, hc7⟩
     refine ⟨_, rfl, ?_⟩;replace q1 := q1.bl hc7;replace q4 := q4.bl hc7;replace hbw := bo_ hbw hc7;clear hc7;refine EL.val (ZT rfl) rfl (EL.mv rfl rfl (EL.valg rfl rfl (QD7 rfl) rfl (EL.valg rfl rfl (ld_3 rfl (q4.at (j := 2) rfl)) rfl (EL.valg rfl rfl (Yx rfl) rfl (EL.valg rfl rfl (ld_3 rfl (q1.at (j := 0) rfl)) rfl ?_)))));refine EL.valg rfl rfl (QAR rfl rfl (IntWalk.i64_in _ ⟨by omega, by omega⟩)) rfl ?_
     cases k2 : inB 1 (3 * l.length) c.length
     ·
      refine EL.callg rfl rfl (cA3 cF41 rfl rfl rfl) rfl (Ya k2 _) ?_
      rintro e w8 ⟨rfl, hc8⟩
      refine ⟨_, rfl, ?_⟩;replace q1 := q1.bl hc8;replace q4 := q4.bl hc8;replace hbw := bo_ hbw hc8;clear hc8;refine EL.valg rfl rfl (ZT rfl) rfl (EL.pf rfl rfl rfl (EL.mv rfl rfl (EL.skip rfl rfl rfl rfl (EL.skip rfl rfl rfl rfl (EL.skip rfl rfl rfl rfl (EL.skip rfl rfl rfl rfl (EL.pt rfl rfl rfl (EL.mv rfl rfl (EL.skip rfl rfl rfl rfl ?_)))))))));refine EL.skip rfl rfl rfl rfl (EL.skip rfl rfl rfl rfl (EL.skip rfl rfl rfl rfl (EL.pt rfl rfl rfl (EL.nil (EX.seq (EC.yes rfl (EC.seq (EC.region (EL.as rfl rfl ?_)))))))));refine EL.nil (EX.seq (EC.ret (EX.blk_ret (EX.seq_ret (EX.seq_ret (EX.blk_ret (EX.seq_ret ?_)))))))
      exact EX.done (res1 rfl rfl) ⟨by rw [QIM h0 h1 (QED hltk (by rw [hcx]; simp only [twB, *, Bool.and_false, Bool.and_true, Bool.false_and, Bool.true_and]))], hbw⟩
     ·
      refine EL.callg rfl rfl (cA3 cF41 rfl rfl rfl) rfl (Ya k2 _) ?_
      rintro e w9 ⟨rfl, hc9⟩
      refine ⟨_, rfl, ?_⟩;replace q1 := q1.bl hc9;replace q4 := q4.bl hc9;replace hbw := bo_ hbw hc9;clear hc9;refine EL.valg rfl rfl (ZT rfl) rfl (EL.pf rfl rfl rfl (EL.mv rfl rfl (EL.valg rfl rfl (QDD rfl) rfl (EL.valg rfl rfl (ld_3 rfl (q4.at (j := 3) rfl)) rfl ?_))))
      cases k3 : inB 0 100 c.weight
      ·
       refine EL.callg rfl rfl (cA3 cF41 rfl rfl rfl) rfl (Ya k3 _) ?_
       rintro e w10 ⟨rfl, hc10⟩
       refine ⟨_, rfl, ?_⟩;replace q1 := q1.bl hc10;replace q4 := q4.bl hc10;replace hbw := bo_ hbw hc10;clear hc10;refine EL.valg rfl rfl (ZT rfl) rfl (EL.pf rfl rfl rfl (EL.mv rfl rfl (EL.skip rfl rfl rfl rfl (EL.skip rfl rfl rfl rfl (EL.skip rfl rfl rfl rfl (EL.skip rfl rfl rfl rfl (EL.pt rfl rfl rfl (EL.nil (EX.seq ?_)))))))));refine EC.yes rfl (EC.seq (EC.region (EL.as rfl rfl (EL.nil (EX.seq (EC.ret (EX.blk_ret (EX.seq_ret (EX.seq_ret ?_)))))))));refine EX.blk_ret (EX.seq_ret ?_)
       exact EX.done (res1 rfl rfl) ⟨by rw [QIM h0 h1 (QED hltk (by rw [hcx]; simp only [twB, *, Bool.and_false, Bool.and_true, Bool.false_and, Bool.true_and]))], hbw⟩
      ·
       refine EL.callg rfl rfl (cA3 cF41 rfl rfl rfl) rfl (Ya k3 _) ?_
       rintro e w11 ⟨rfl, hc11⟩
       refine ⟨_, rfl, ?_⟩;replace q1 := q1.bl hc11;replace q4 := q4.bl hc11;replace hbw := bo_ hbw hc11;clear hc11;refine EL.valg rfl rfl (ZT rfl) rfl (EL.pf rfl rfl rfl (EL.mv rfl rfl (EL.valg rfl rfl (QDC rfl) rfl (EL.valg rfl rfl (ld_3 rfl (q4.at (j := 4) rfl)) rfl ?_))))
       cases k4 : inB 0 100000 c.push
       ·
        refine EL.callg rfl rfl (cA3 cF41 rfl rfl rfl) rfl (Ya k4 _) ?_
        rintro e w12 ⟨rfl, hc12⟩
        refine ⟨_, rfl, ?_⟩;replace q1 := q1.bl hc12;replace q4 := q4.bl hc12;replace hbw := bo_ hbw hc12;clear hc12;refine EL.valg rfl rfl (ZT rfl) rfl (EL.pf rfl rfl rfl (EL.nil (EX.seq (EC.yes rfl (EC.seq (EC.region (EL.as rfl rfl (EL.nil (EX.seq ?_)))))))));refine EC.ret (EX.blk_ret (EX.seq_ret (EX.seq_ret (EX.blk_ret (EX.seq_ret ?_)))))
        exact EX.done (res1 rfl rfl) ⟨by rw [QIM h0 h1 (QED hltk (by rw [hcx]; simp only [twB, *, Bool.and_false, Bool.and_true, Bool.false_and, Bool.true_and]))], hbw⟩
       ·
        refine EL.callg rfl rfl (cA3 cF41 rfl rfl rfl) rfl (Ya k4 _) ?_
        rintro e w13 ⟨rfl, hc13⟩
        refine ⟨_, rfl, ?_⟩;replace q1 := q1.bl hc13;replace q4 := q4.bl hc13;replace hbw := bo_ hbw hc13;clear hc13;refine EL.valg rfl rfl (ZT rfl) rfl (EL.pf rfl rfl rfl (EL.nil (EX.seq (EC.no rfl (EC.skip (EX.blk (EX.seq (EC.region (EL.mv rfl rfl ?_)))))))));refine EL.val (ZP rfl rfl (c := ((k + 1 : Nat) : Int)) ((IntWalk.i64_in _ ⟨by first | omega | (simp only; omega), by first | omega | (simp only; omega)⟩).trans (by first | omega | (simp only; omega)))) rfl ?_
        refine EL.as rfl rfl (EL.nil ?_);refine EX.roundD (k + 1) ⟨rfl, trivial⟩ (by repeat first | with_reducible exact .refl _ | refine sp_ rfl ?_ | exact .refl _ | refine sd_ rfl ?_ | refine sn_ ?_) ⟨hltk, (QCs hok (by rw [hcx]; simp only [twB, k1, k2, k3, k4, Bool.and_true])), q1, hbw⟩ (by omega)
   ·
    obtain rfl : k = ts.length := by omega
    have hall := QLO hok;refine EC.seq (EC.seq (EC.region (EL.mv rfl rfl (EL.mv rfl rfl (EL.val (Zs rfl) rfl ?_)))));refine EL.val (ZS (r := false) rfl rfl (decide_eq_false (by omega))) rfl ?_
    refine EL.nil (EX.seq (EC.no rfl (EC.exit (EX.seq_exit (EX.seq_exit (EX.blk_here (EX.seq (EC.seq (EC.region ?_)))))))));refine EL.as rfl rfl (EL.nil (EX.seq (EC.ret ?_)))
    exact EX.done (res1 rfl rfl) ⟨by rw [QNY h0 h1 hall], hbw⟩
/-- a state of the reference: the tows that wait, the runs, and the numbers of a state of the program -/
def rsV (vu vd vr : Value) (s : ST) : Value := .agg #[vu, vd, .int .i64 s.fr, .bool s.lk.high, vr, .int .i64 s.cost, .int .i64 s.mv, .int .i64 s.up, .int .i64 s.lo, .int .i64 s.ch, .int .i64 s.ba]
theorem QLz {s : ST} (h : s.lk.high = false) : mvS s = ⟨lkW s.lk true, s.up - s.lk.fill + s.ba, s.lo, s.ch + s.lk.fill, 0, s.mv + 1, s.fr, s.t0, s.t1, s.cost⟩ := by
 unfold mvS
 rw [if_neg (by rw [h]; decide)]
theorem QKZ {s : ST} (h : s.lk.high = true) : mvS s = ⟨lkW s.lk false, s.up, s.lo + s.lk.fill - QAn s.lk, s.ch - s.lk.fill, s.ba + QAn s.lk, s.mv + 1, s.fr, s.t0, s.t1, s.cost⟩ := by
 unfold mvS
 rw [if_pos h]
section
variable {n : Nat} {σ : Sg} {w : World} {dst : Option Tmp} {ty : TypeId} {pos : String} {af : Array Edge} {g : Option (Nat × Bool)} {x y z : Operand} {at' : Array TypeId}
theorem QDO {v0 v1 v2 v3 v4 v5 v6 v7 v8 v9 v10 : Value} (hx : evS σ x = some (.agg #[v0, v1, v2, v3, v4, v5, v6, v7, v8, v9, v10])) (a : Act) (ha : Env n σ a) : (execOp a.eval ⟨dst, .box 45 x, ty, pos, af, g⟩).run Try.prog w = .ok (.value (.pointer (some ⟨w.heap.size, 0, none⟩))) (w.alloc (.cells #[v0, v1, v2, v3, v4, v5, v6, v7, v8, v9, v10] 45)) := by
 simp only [execOp, ha.eval hx]
 simp [go_sem]
theorem QE_ (a : Act) (_ : Env n σ a) : (execOp a.eval ⟨dst, .alloc 45, ty, pos, af, g⟩).run Try.prog w = .ok (.value (.pointer (some ⟨w.heap.size, 0, none⟩))) (w.alloc (.cells #[.slice none 0 0, .slice none 0 0, .int .i64 0, .bool false, .slice none 0 0, .int .i64 0, .int .i64 0, .int .i64 0, .int .i64 0, .int .i64 0, .int .i64 0] 45)) := by
 simp only [execOp]
 simp [go_sem]
theorem Z5 {b o : Nat} (hx : evS σ x = some (.pointer (some ⟨b, o, none⟩))) : ZJ Try.prog n σ w ⟨dst, .fieldAddr 45 x 7, ty, pos, af, g⟩ (.pointer (some ⟨b, o + 7, none⟩)) := fun a ha => by
 simp only [execOp, ha.eval hx]
 simp [go_sem]
theorem QA2 {b o : Nat} (hx : evS σ x = some (.pointer (some ⟨b, o, none⟩))) : ZJ Try.prog n σ w ⟨dst, .fieldAddr 45 x 6, ty, pos, af, g⟩ (.pointer (some ⟨b, o + 6, none⟩)) := fun a ha => by
 simp only [execOp, ha.eval hx]
 simp [go_sem]
theorem QD6 {b o : Nat} (hx : evS σ x = some (.pointer (some ⟨b, o, none⟩))) : ZJ Try.prog n σ w ⟨dst, .fieldAddr 45 x 3, ty, pos, af, g⟩ (.pointer (some ⟨b, o + 3, none⟩)) := fun a ha => by
 simp only [execOp, ha.eval hx]
 simp [go_sem]
theorem Yp {b o : Nat} {v0 v1 v2 v3 v4 v5 v6 v7 v8 v9 v10 : Value} (hx : evS σ x = some (.pointer (some ⟨b, o, none⟩))) (c0 : w.cell? ⟨b, o, none⟩ = some v0) (c1 : w.cell? ⟨b, o + 1, none⟩ = some v1) (c2 : w.cell? ⟨b, o + 2, none⟩ = some v2) (c3 : w.cell? ⟨b, o + 3, none⟩ = some v3) (c4 : w.cell? ⟨b, o + 4, none⟩ = some v4) (c5 : w.cell? ⟨b, o + 5, none⟩ = some v5) (c6 : w.cell? ⟨b, o + 6, none⟩ = some v6) (c7 : w.cell? ⟨b, o + 7, none⟩ = some v7) (c8 : w.cell? ⟨b, o + 8, none⟩ = some v8) (c9 : w.cell? ⟨b, o + 9, none⟩ = some v9) (c10 : w.cell? ⟨b, o + 10, none⟩ = some v10) : ZJ Try.prog n σ w ⟨dst, .load 45 x, ty, pos, af, g⟩ (.agg #[v0, v1, v2, v3, v4, v5, v6, v7, v8, v9, v10]) := fun a ha => by
 simp only [execOp, ha.eval hx]
 simp [go_sem, c0, c1, c2, c3, c4, c5, c6, c7, c8, c9, c10]
theorem QAx : (Try.prog.info? 45).map (·.size) = some 11 := by kernel_rfl
theorem QDe {b o : Nat} {v0 v1 v2 v3 v4 v5 v6 v7 v8 v9 v10 : Value} (c0 : w.cell? ⟨b, o, none⟩ = some v0) (c1 : w.cell? ⟨b, o + 1, none⟩ = some v1) (c2 : w.cell? ⟨b, o + 2, none⟩ = some v2) (c3 : w.cell? ⟨b, o + 3, none⟩ = some v3) (c4 : w.cell? ⟨b, o + 4, none⟩ = some v4) (c5 : w.cell? ⟨b, o + 5, none⟩ = some v5) (c6 : w.cell? ⟨b, o + 6, none⟩ = some v6) (c7 : w.cell? ⟨b, o + 7, none⟩ = some v7) (c8 : w.cell? ⟨b, o + 8, none⟩ = some v8) (c9 : w.cell? ⟨b, o + 9, none⟩ = some v9) (c10 : w.cell? ⟨b, o + 10, none⟩ = some v10) : (loadVar 45 ⟨b, o, none⟩).run Try.prog w = .ok (.agg #[v0, v1, v2, v3, v4, v5, v6, v7, v8, v9, v10]) w := by
 simp [go_sem, loadVar, c0, c1, c2, c3, c4, c5, c6, c7, c8, c9, c10]
theorem cF78 : cF 78 := fun _ _ => by simp [go_sem]
theorem cF77 : cF 77 := fun _ _ => by simp [go_sem]
end
theorem QJL {le cy tu fi sa up lo ch ba mv fr co M : Int} {hl : Bool} {t0 t1 : Nat} {Au Ad Ar : Option Addr} {nu cu nd cd nr cr : Nat} (hok : lkB ⟨le, cy, tu, fi, sa, false⟩ = true) (hB : WtB M ⟨⟨le, cy, tu, fi, sa, false⟩, up, lo, ch, ba, mv, fr, t0, t1, co⟩) (hM : M ≤ 1000000000000) (w : World) : Calls Try.prog 78 #[.agg #[.int .i64 le, .int .i64 cy, .int .i64 tu, .int .i64 fi, .int .i64 sa, .bool hl], .agg #[.slice Au nu cu, .slice Ad nd cd, .int .i64 fr, .bool false, .slice Ar nr cr, .int .i64 co, .int .i64 mv, .int .i64 up, .int .i64 lo, .int .i64 ch, .int .i64 ba]] w fun e w' => e = .returned (rsV (.slice Au nu cu) (.slice Ad nd cd) (.slice Ar nr cr) (mvS ⟨⟨le, cy, tu, fi, sa, false⟩, up, lo, ch, ba, mv, fr, t0, t1, co⟩)) ∧ Below w.heap.size w w' := by
 have k1 := QC3 hok;have k2 := QC4 hok;obtain ⟨_, _, _, k3, _⟩ := Y_ hok;have b1 := hB.up;have b2 := hB.lo;have b3 := hB.ch;have b4 := hB.mv;have b5 := hB.ba
 unfold QAn at k2 b5
 simp only at k1 k2 k3 b1 b2 b3 b4 b5
 clear hB;have hbw := Below.refl w.heap.size w;refine EC.enter 33 Try.func78 rfl rfl rfl (EC.seq (EC.region (EL.newP (QAD rfl) rfl ?_)));intro g1 w1 q1 hb1 hg1 hl1;have bhbw_1 := Nat.le_trans hbw.size hg1;replace hbw := bo_ hbw hb1;clear hb1 hg1 hl1;refine EL.newP (QDO rfl) rfl ?_;intro g2 w2 q2 hb2 hg2 hl2;have n1_2 := q1.na hg2;have bhbw_2 := Nat.le_trans hbw.size hg2;replace q1 := q1.bl hb2;replace hbw := bo_ hbw hb2;clear hb2 hg2 hl2;refine EL.newP QE_ rfl ?_;intro g3 w3 q3 hb3 hg3 hl3;have n1_3 := q1.na hg3;have n2_3 := q2.na hg3;have bhbw_3 := Nat.le_trans hbw.size hg3;replace q1 := q1.bl hb3;replace q2 := q2.bl hb3;replace hbw := bo_ hbw hb3;clear hb3 hg3 hl3;refine EL.nil (EX.seq (EC.seq (EC.region (EL.val (Z5 rfl) rfl (EL.val (YD rfl) rfl (EL.val (ld_3 rfl (q2.at (j := 7) rfl)) rfl (EL.val (Yv rfl) rfl (EL.val (ld_3 rfl (q1.at (j := 3) rfl)) rfl (EL.val (Z5 rfl) rfl ?_)))))))));refine EL.val (QA3 rfl) rfl (EL.val (ld_3 rfl (q2.at (j := 10) rfl)) rfl ?_);refine EL.val (Zv rfl rfl (by first | assumption | exact IntWalk.i64_in _ ⟨by omega, by omega⟩)) rfl ?_
 refine EL.val (Zv rfl rfl (by first | assumption | exact IntWalk.i64_in _ ⟨by omega, by omega⟩)) rfl ?_
 refine EL.val (Z5 rfl) rfl (EL.val (YD rfl) rfl (EL.store rfl rfl q2 sz_3 rfl rfl rfl rfl ?_));intro w4 hq4 hg4;replace q1 := q1.gr hg4 n1_2;replace q3 := q3.gr hg4 n2_3.symm;replace hbw := ZD hbw hg4 bhbw_2;replace q2 := hq4;clear hg4 hq4;refine EL.nil (EX.seq (EC.seq (EC.region (EL.val (Z5 rfl) rfl (EL.val (QA4 rfl) rfl (EL.val (ld_3 rfl (q2.at (j := 9) rfl)) rfl (EL.val (Yv rfl) rfl (EL.val (ld_3 rfl (q1.at (j := 3) rfl)) rfl ?_))))))));refine EL.val (ZP rfl rfl (by first | assumption | exact IntWalk.i64_in _ ⟨by omega, by omega⟩)) rfl ?_
 refine EL.val (Z5 rfl) rfl (EL.val (QA4 rfl) rfl (EL.store rfl rfl q2 sz_3 rfl rfl rfl rfl ?_));intro w5 hq5 hg5;replace q1 := q1.gr hg5 n1_2;replace q3 := q3.gr hg5 n2_3.symm;replace hbw := ZD hbw hg5 bhbw_2;replace q2 := hq5;clear hg5 hq5;refine EL.nil (EX.seq (EC.seq (EC.region (EL.val (QA2 rfl) rfl (EL.val (ld_3 rfl (q2.at (j := 6) rfl)) rfl ?_)))));refine EL.val (ZP rfl rfl (by first | assumption | exact IntWalk.i64_in _ ⟨by omega, by omega⟩)) rfl ?_
 refine EL.val (Z5 rfl) rfl (EL.val (QA3 rfl) rfl (EL.store rfl rfl q2 sz_3 rfl rfl rfl rfl ?_));intro w6 hq6 hg6;replace q1 := q1.gr hg6 n1_2;replace q3 := q3.gr hg6 n2_3.symm;replace hbw := ZD hbw hg6 bhbw_2;replace q2 := hq6;clear hg6 hq6;refine EL.val (QD6 rfl) rfl (EL.store rfl rfl q2 sz_4 rfl rfl rfl rfl ?_);intro w7 hq7 hg7;replace q1 := q1.gr hg7 n1_2;replace q3 := q3.gr hg7 n2_3.symm;replace hbw := ZD hbw hg7 bhbw_2;replace q2 := hq7;clear hg7 hq7;refine EL.val (QA2 rfl) rfl (EL.store rfl rfl q2 sz_3 rfl rfl rfl rfl ?_);intro w8 hq8 hg8;replace q1 := q1.gr hg8 n1_2;replace q3 := q3.gr hg8 n2_3.symm;replace hbw := ZD hbw hg8 bhbw_2;replace q2 := hq8;clear hg8 hq8;refine EL.nil (EX.seq (EC.seq (EC.region (EL.val (Yp rfl (q2.at (j := 0) rfl) (q2.at (j := 1) rfl) (q2.at (j := 2) rfl) (q2.at (j := 3) rfl) (q2.at (j := 4) rfl) (q2.at (j := 5) rfl) (q2.at (j := 6) rfl) (q2.at (j := 7) rfl) (q2.at (j := 8) rfl) (q2.at (j := 9) rfl) (q2.at (j := 10) rfl)) rfl (EL.store rfl rfl q3 QAx rfl rfl rfl rfl ?_)))));intro w9 hq9 hg9;replace q1 := q1.gr hg9 n1_3;replace q2 := q2.gr hg9 n2_3;replace hbw := ZD hbw hg9 bhbw_3;replace q3 := hq9;clear hg9 hq9;refine EL.nil (EX.seq (EC.ret ?_))
 exact EX.done (QBt rfl rfl (QDe (q3.at (j := 0) rfl) (q3.at (j := 1) rfl) (q3.at (j := 2) rfl) (q3.at (j := 3) rfl) (q3.at (j := 4) rfl) (q3.at (j := 5) rfl) (q3.at (j := 6) rfl) (q3.at (j := 7) rfl) (q3.at (j := 8) rfl) (q3.at (j := 9) rfl) (q3.at (j := 10) rfl))) ⟨by rw [QLz rfl]; simp only [rsV, lkW, QAn]; rw [show up - fi + ba = up - (fi - ba) by omega], hbw⟩
theorem QHq {le cy tu fi sa up lo ch ba mv fr co M : Int} {hl : Bool} {t0 t1 : Nat} {Au Ad Ar : Option Addr} {nu cu nd cd nr cr : Nat} (hok : lkB ⟨le, cy, tu, fi, sa, true⟩ = true) (hB : WtB M ⟨⟨le, cy, tu, fi, sa, true⟩, up, lo, ch, ba, mv, fr, t0, t1, co⟩) (hM : M ≤ 1000000000000) (w : World) : Calls Try.prog 77 #[.agg #[.int .i64 le, .int .i64 cy, .int .i64 tu, .int .i64 fi, .int .i64 sa, .bool hl], .agg #[.slice Au nu cu, .slice Ad nd cd, .int .i64 fr, .bool true, .slice Ar nr cr, .int .i64 co, .int .i64 mv, .int .i64 up, .int .i64 lo, .int .i64 ch, .int .i64 ba]] w fun e w' => e = .returned (rsV (.slice Au nu cu) (.slice Ad nd cd) (.slice Ar nr cr) (mvS ⟨⟨le, cy, tu, fi, sa, true⟩, up, lo, ch, ba, mv, fr, t0, t1, co⟩)) ∧ Below w.heap.size w w' := by
 have k1 := QC3 hok;have k2 := QC4 hok;obtain ⟨_, _, _, k3, _⟩ := Y_ hok;have b1 := hB.up;have b2 := hB.lo;have b3 := hB.ch;have b4 := hB.mv;have b5 := hB.ba
 unfold QAn at k2 b5
 simp only at k1 k2 k3 b1 b2 b3 b4 b5
 clear hB;have hbw := Below.refl w.heap.size w;refine EC.enter 43 Try.func77 rfl rfl rfl (EC.seq (EC.region (EL.newP (QAD rfl) rfl ?_)));intro g1 w1 q1 hb1 hg1 hl1;have bhbw_1 := Nat.le_trans hbw.size hg1;replace hbw := bo_ hbw hb1;clear hb1 hg1 hl1;refine EL.newP (QDO rfl) rfl ?_;intro g2 w2 q2 hb2 hg2 hl2;have n1_2 := q1.na hg2;have bhbw_2 := Nat.le_trans hbw.size hg2;replace q1 := q1.bl hb2;replace hbw := bo_ hbw hb2;clear hb2 hg2 hl2;refine EL.newP QE_ rfl ?_;intro g3 w3 q3 hb3 hg3 hl3;have n1_3 := q1.na hg3;have n2_3 := q2.na hg3;have bhbw_3 := Nat.le_trans hbw.size hg3;replace q1 := q1.bl hb3;replace q2 := q2.bl hb3;replace hbw := bo_ hbw hb3;clear hb3 hg3 hl3;refine EL.nil (EX.seq (EC.seq (EC.region (EL.val (Yv rfl) rfl (EL.val (ld_3 rfl (q1.at (j := 3) rfl)) rfl (EL.val (QD8 rfl) rfl (EL.val (ld_3 rfl (q1.at (j := 4) rfl)) rfl ?_)))))));refine EL.val (QAR rfl rfl (by first | assumption | exact IntWalk.i64_in _ ⟨by omega, by omega⟩)) rfl ?_
 refine EL.val (QII rfl rfl (by decide) (by first | assumption | exact IntWalk.i64_in _ ⟨by omega, by omega⟩)) rfl ?_
 refine EL.as rfl rfl (EL.nil (EX.seq (EC.seq (EC.region (EL.val (Z5 rfl) rfl (EL.val (QAI rfl) rfl (EL.val (ld_3 rfl (q2.at (j := 8) rfl)) rfl (EL.val (Yv rfl) rfl (EL.val (ld_3 rfl (q1.at (j := 3) rfl)) rfl ?_)))))))));refine EL.mv rfl rfl ?_;refine EL.val (Zv rfl rfl (by first | assumption | exact IntWalk.i64_in _ ⟨by omega, by omega⟩)) rfl ?_
 refine EL.val (ZP rfl rfl (by first | assumption | exact IntWalk.i64_in _ ⟨by omega, by omega⟩)) rfl ?_
 refine EL.val (Z5 rfl) rfl (EL.val (QAI rfl) rfl (EL.store rfl rfl q2 sz_3 rfl rfl rfl rfl ?_));intro w4 hq4 hg4;replace q1 := q1.gr hg4 n1_2;replace q3 := q3.gr hg4 n2_3.symm;replace hbw := ZD hbw hg4 bhbw_2;replace q2 := hq4;clear hg4 hq4;refine EL.nil (EX.seq (EC.seq (EC.region (EL.val (Z5 rfl) rfl (EL.val (QA4 rfl) rfl (EL.val (ld_3 rfl (q2.at (j := 9) rfl)) rfl (EL.val (Yv rfl) rfl (EL.val (ld_3 rfl (q1.at (j := 3) rfl)) rfl ?_))))))));refine EL.val (Zv rfl rfl (by first | assumption | exact IntWalk.i64_in _ ⟨by omega, by omega⟩)) rfl ?_
 refine EL.val (Z5 rfl) rfl (EL.val (QA4 rfl) rfl (EL.store rfl rfl q2 sz_3 rfl rfl rfl rfl ?_));intro w5 hq5 hg5;replace q1 := q1.gr hg5 n1_2;replace q3 := q3.gr hg5 n2_3.symm;replace hbw := ZD hbw hg5 bhbw_2;replace q2 := hq5;clear hg5 hq5;refine EL.nil (EX.seq (EC.seq (EC.region (EL.val (Z5 rfl) rfl (EL.val (QA3 rfl) rfl (EL.val (ld_3 rfl (q2.at (j := 10) rfl)) rfl (EL.mv rfl rfl ?_)))))));refine EL.val (ZP rfl rfl (by first | assumption | exact IntWalk.i64_in _ ⟨by omega, by omega⟩)) rfl ?_
 refine EL.val (QA2 rfl) rfl (EL.val (ld_3 rfl (q2.at (j := 6) rfl)) rfl ?_);refine EL.val (ZP rfl rfl (by first | assumption | exact IntWalk.i64_in _ ⟨by omega, by omega⟩)) rfl ?_
 refine EL.val (Z5 rfl) rfl (EL.val (QA3 rfl) rfl (EL.store rfl rfl q2 sz_3 rfl rfl rfl rfl ?_));intro w6 hq6 hg6;replace q1 := q1.gr hg6 n1_2;replace q3 := q3.gr hg6 n2_3.symm;replace hbw := ZD hbw hg6 bhbw_2;replace q2 := hq6;clear hg6 hq6;refine EL.val (QD6 rfl) rfl (EL.store rfl rfl q2 sz_4 rfl rfl rfl rfl ?_);intro w7 hq7 hg7;replace q1 := q1.gr hg7 n1_2;replace q3 := q3.gr hg7 n2_3.symm;replace hbw := ZD hbw hg7 bhbw_2;replace q2 := hq7;clear hg7 hq7;refine EL.val (QA2 rfl) rfl (EL.store rfl rfl q2 sz_3 rfl rfl rfl rfl ?_);intro w8 hq8 hg8;replace q1 := q1.gr hg8 n1_2;replace q3 := q3.gr hg8 n2_3.symm;replace hbw := ZD hbw hg8 bhbw_2;replace q2 := hq8;clear hg8 hq8;refine EL.nil (EX.seq (EC.seq (EC.region (EL.val (Yp rfl (q2.at (j := 0) rfl) (q2.at (j := 1) rfl) (q2.at (j := 2) rfl) (q2.at (j := 3) rfl) (q2.at (j := 4) rfl) (q2.at (j := 5) rfl) (q2.at (j := 6) rfl) (q2.at (j := 7) rfl) (q2.at (j := 8) rfl) (q2.at (j := 9) rfl) (q2.at (j := 10) rfl)) rfl (EL.store rfl rfl q3 QAx rfl rfl rfl rfl ?_)))));intro w9 hq9 hg9;replace q1 := q1.gr hg9 n1_3;replace q2 := q2.gr hg9 n2_3;replace hbw := ZD hbw hg9 bhbw_3;replace q3 := hq9;clear hg9 hq9;refine EL.nil (EX.seq (EC.ret ?_))
 exact EX.done (QBt rfl rfl (QDe (q3.at (j := 0) rfl) (q3.at (j := 1) rfl) (q3.at (j := 2) rfl) (q3.at (j := 3) rfl) (q3.at (j := 4) rfl) (q3.at (j := 5) rfl) (q3.at (j := 6) rfl) (q3.at (j := 7) rfl) (q3.at (j := 8) rfl) (q3.at (j := 9) rfl) (q3.at (j := 10) rfl))) ⟨by rw [QKZ rfl]; simp only [rsV, lkW, QAn]; rw [show lo + fi - (fi * sa).tdiv 100 = lo + (fi - (fi * sa).tdiv 100) by omega], hbw⟩
theorem QLl {le cy tu fi sa up lo ch ba mv fr co M : Int} {hl hi : Bool} {t0 t1 : Nat} {Au Ad Ar : Option Addr} {nu cu nd cd nr cr : Nat} (hok : lkB ⟨le, cy, tu, fi, sa, hi⟩ = true) (hB : WtB M ⟨⟨le, cy, tu, fi, sa, hi⟩, up, lo, ch, ba, mv, fr, t0, t1, co⟩) (hM : M ≤ 1000000000000) (w : World) : Calls Try.prog 58 #[.agg #[.int .i64 le, .int .i64 cy, .int .i64 tu, .int .i64 fi, .int .i64 sa, .bool hl], .agg #[.slice Au nu cu, .slice Ad nd cd, .int .i64 fr, .bool hi, .slice Ar nr cr, .int .i64 co, .int .i64 mv, .int .i64 up, .int .i64 lo, .int .i64 ch, .int .i64 ba]] w fun e w' => e = .returned (rsV (.slice Au nu cu) (.slice Ad nd cd) (.slice Ar nr cr) (mvS ⟨⟨le, cy, tu, fi, sa, hi⟩, up, lo, ch, ba, mv, fr, t0, t1, co⟩)) ∧ Below w.heap.size w w' := by
 have hbw := Below.refl w.heap.size w;refine EC.enter 13 Try.func58 rfl rfl rfl (EC.seq (EC.region (EL.newP (QAD rfl) rfl ?_)));intro g1 w1 q1 hb1 hg1 hl1;have bhbw_1 := Nat.le_trans hbw.size hg1;replace hbw := bo_ hbw hb1;clear hb1 hg1 hl1;refine EL.newP (QDO rfl) rfl ?_;intro g2 w2 q2 hb2 hg2 hl2;have n1_2 := q1.na hg2;have bhbw_2 := Nat.le_trans hbw.size hg2;replace q1 := q1.bl hb2;replace hbw := bo_ hbw hb2;clear hb2 hg2 hl2;refine EL.newP QE_ rfl ?_;intro g3 w3 q3 hb3 hg3 hl3;have n1_3 := q1.na hg3;have n2_3 := q2.na hg3;have bhbw_3 := Nat.le_trans hbw.size hg3;replace q1 := q1.bl hb3;replace q2 := q2.bl hb3;replace hbw := bo_ hbw hb3;clear hb3 hg3 hl3;refine EL.nil (EX.seq (EC.seq (EC.seq (EC.region (EL.val (QD6 rfl) rfl (EL.val (ld_4 rfl (q2.at (j := 3) rfl)) rfl (EL.nil (EX.seq ?_))))))))
 cases hi
 ·
  refine EC.no rfl (EC.skip (EX.seq (EC.seq (EC.region (EL.val (YY rfl (q1.at (j := 0) rfl) (q1.at (j := 1) rfl) (q1.at (j := 2) rfl) (q1.at (j := 3) rfl) (q1.at (j := 4) rfl) (q1.at (j := 5) rfl)) rfl (EL.val (Yp rfl (q2.at (j := 0) rfl) (q2.at (j := 1) rfl) (q2.at (j := 2) rfl) (q2.at (j := 3) rfl) (q2.at (j := 4) rfl) (q2.at (j := 5) rfl) (q2.at (j := 6) rfl) (q2.at (j := 7) rfl) (q2.at (j := 8) rfl) (q2.at (j := 9) rfl) (q2.at (j := 10) rfl)) rfl (EL.call (cA2 cF78 rfl rfl) rfl (QJL hok hB hM _) ?_)))))))
  rintro e w4 ⟨rfl, hc4⟩
  refine ⟨_, rfl, ?_⟩;replace q1 := q1.bl hc4;replace q2 := q2.bl hc4;replace q3 := q3.bl hc4;replace hbw := bo_ hbw hc4;clear hc4;refine EL.store rfl rfl q3 QAx rfl rfl rfl rfl ?_;intro w5 hq5 hg5;replace q1 := q1.gr hg5 n1_3;replace q2 := q2.gr hg5 n2_3;replace hbw := ZD hbw hg5 bhbw_3;replace q3 := hq5;clear hg5 hq5;refine EL.nil (EX.seq (EC.ret ?_))
  exact EX.done (QBt rfl rfl (QDe (q3.at (j := 0) rfl) (q3.at (j := 1) rfl) (q3.at (j := 2) rfl) (q3.at (j := 3) rfl) (q3.at (j := 4) rfl) (q3.at (j := 5) rfl) (q3.at (j := 6) rfl) (q3.at (j := 7) rfl) (q3.at (j := 8) rfl) (q3.at (j := 9) rfl) (q3.at (j := 10) rfl))) ⟨rfl, hbw⟩
 ·
  refine EC.yes rfl (EC.seq (EC.region (EL.val (YY rfl (q1.at (j := 0) rfl) (q1.at (j := 1) rfl) (q1.at (j := 2) rfl) (q1.at (j := 3) rfl) (q1.at (j := 4) rfl) (q1.at (j := 5) rfl)) rfl (EL.val (Yp rfl (q2.at (j := 0) rfl) (q2.at (j := 1) rfl) (q2.at (j := 2) rfl) (q2.at (j := 3) rfl) (q2.at (j := 4) rfl) (q2.at (j := 5) rfl) (q2.at (j := 6) rfl) (q2.at (j := 7) rfl) (q2.at (j := 8) rfl) (q2.at (j := 9) rfl) (q2.at (j := 10) rfl)) rfl (EL.call (cA2 cF77 rfl rfl) rfl (QHq hok hB hM _) ?_)))))
  rintro e w6 ⟨rfl, hc6⟩
  refine ⟨_, rfl, ?_⟩;replace q1 := q1.bl hc6;replace q2 := q2.bl hc6;replace q3 := q3.bl hc6;replace hbw := bo_ hbw hc6;clear hc6;refine EL.store rfl rfl q3 QAx rfl rfl rfl rfl ?_;intro w7 hq7 hg7;replace q1 := q1.gr hg7 n1_3;replace q2 := q2.gr hg7 n2_3;replace hbw := ZD hbw hg7 bhbw_3;replace q3 := hq7;clear hg7 hq7;refine EL.nil (EX.seq (EC.ret (EX.seq_ret ?_)))
  exact EX.done (QBt rfl rfl (QDe (q3.at (j := 0) rfl) (q3.at (j := 1) rfl) (q3.at (j := 2) rfl) (q3.at (j := 3) rfl) (q3.at (j := 4) rfl) (q3.at (j := 5) rfl) (q3.at (j := 6) rfl) (q3.at (j := 7) rfl) (q3.at (j := 8) rfl) (q3.at (j := 9) rfl) (q3.at (j := 10) rfl))) ⟨rfl, hbw⟩
section
variable {n : Nat} {σ : Sg} {w : World} {dst : Option Tmp} {ty : TypeId} {pos : String} {af : Array Edge} {g : Option (Nat × Bool)} {x y z : Operand} {at' : Array TypeId}
theorem QI3 (a : Act) (_ : Env n σ a) : (execOp a.eval ⟨dst, .buildSlice 24 0 #[], ty, pos, af, g⟩).run Try.prog w = .ok (.value (.slice (some ⟨w.heap.size, 0, none⟩) 0 0)) (w.alloc (.cells #[] 39)) := by
 simp only [execOp]
 go_simp
end
theorem QJr {n : Nat} {σ : Sg} {w : World} {dst : Option Tmp} {ty : TypeId} {pos : String} {af : Array Edge} {g : Option (Nat × Bool)} {x y : Operand} {a b r : Bool} (hx : evS σ x = some (.bool a)) (hy : evS σ y = some (.bool b)) (hc : decide (a ≠ b) = r) : ZJ Try.prog n σ w ⟨dst, .binOp .neq 4 x y 4, ty, pos, af, g⟩ (.bool r) := fun _ ha => by
 simp only [execOp, ha.eval hx, ha.eval hy]
 subst hc
 cases a <;> cases b <;> simp [go_sem]
section
variable {P : Program} {n : Nat} {L : List Oper} {Q : Exit → Act → World → Prop} {cls : List (List Nat)} {alc : List Nat} {w1 : World} {Φ : Nat → (Nat → Bool) → (Nat → Value) → World → Prop} {i : Nat} {val : Nat → Value} {a : Act} {σ : Sg} {fl : Nat → Bool}
theorem QIR {d ty t e size bytes base B mm k : Nat} {s x : Operand} {pos : String} {af : Array Edge} {A : Option Addr} (E : Elem P t e size bytes) {src : Value} {xs news : List Value} (ha : Env n σ a) (ho : nthO L i = some ⟨some d, .call { callee := .builtin .append, args := #[s, x], argTypes := #[t, t] }, ty, pos, af, none⟩) (hs : evS σ s = some (.slice A k k)) (hx : evS σ x = some src)
  (hown : w1.ownsRow base e size (.slice A k k) k xs) (hr : Rd w1 B size src mm news) (h1 : ∀ u ∈ news, u.oneCell' = true) (hm : k + mm ≤ 1048576) (hby : Nat.ble bytes 1048576 = true) (hbase : base ≤ w1.heap.size) (halc : memB alc i = false)
  (hΦ : ∀ v' w', w'.ownsRow base e size v' (k + mm) (xs ++ news) → Φ i fl (res (upd val i v') i (clsAt cls i)) w') : wpOp P L.toArray Q i (SK fl L cls alc Φ i val a w1) a w1 := by
 obtain ⟨v', w', h2, h3, h4, _⟩ := QKF (P := P) (ty := ty) E hown hr h1 hm (by simpa [Nat.ble_eq] using hby) hbase
 exact QFx ho rfl (Z6 rfl (ha.eval hs) (ha.eval hx) h2) h4 (hΦ v' w' h3) fun h => by rw [ZA.2 h] at halc; cases halc
end
/-- the first k elements of a row of one's own -/
theorem QEb {w : World} {base e size n k g c : Nat} {xs : List Value} (h : w.ownsRow base e size (.slice (some ⟨g, 0, none⟩) n c) n xs) (hk : k ≤ n) : w.ownsRow base e size (.slice (some ⟨g, 0, none⟩) k c) k (xs.take (k * size)) := by
 have hm := Nat.mul_le_mul_right size hk;obtain ⟨hl, ⟨h0, _⟩ | ⟨g2, cap, cur, hv, hb, hg, h1, h2, h3, h4⟩⟩ := h
 ·cases h0
 ·injection hv with hv _ hc
  injection hv with hv
  injection hv with hv _
  subst hv;subst hc;refine ⟨by rw [List.length_take]; omega, .inr ⟨g, c, cur, rfl, hb, hg, by omega, h2, h3, ?_⟩⟩
  rw [← h4, List.take_take]
  congr 1
  omega
theorem QE0 (x : TW) (l : List TW) : ∀ u ∈ [.bool x.up, .int .i64 x.arrive, .int .i64 x.length, .int .i64 x.weight, .int .i64 x.push] ++ twsC l, u.oneCell' = true := twsC_one (x :: l)
/-- the queue of a direction, of the first k tows -/
def qk (ts : List TW) (u : Bool) (k : Nat) : List TW := Yr (fU u (ts.take k))
theorem QFS (ts : List TW) (u : Bool) (k : Nat) : ArrT (qk ts u k) := QCk _
theorem QM6 {ts : List TW} {u : Bool} : qk ts u ts.length = qL ts u := by unfold qk; rw [List.take_length]; rfl
theorem QM5 (ts : List TW) (u : Bool) (k : Nat) : (qk ts u k).length ≤ ts.length := by
 unfold qk
 rw [(QBS _).length_eq]
 exact Nat.le_trans (List.length_filter_le ..) (by rw [List.length_take]; omega)
theorem QLp {ts : List TW} {u : Bool} {k : Nat} (h : k < ts.length) : qk ts u (k + 1) = if (ts.getD k tw0).up = u then insT (ts.getD k tw0) (qk ts u k) else qk ts u k := by
 unfold qk fU
 rw [Zz (d := tw0) h, List.filter_append]
 by_cases e : (ts.getD k tw0).up = u
 ·rw [if_pos e, List.filter_cons_of_pos (p := fun t : TW => t.up == u) (beq_iff_eq.2 e), List.filter_nil, QEN]
 ·rw [if_neg e, List.filter_cons_of_neg (p := fun t : TW => t.up == u) (fun h => e (beq_iff_eq.1 h)), List.filter_nil, List.append_nil]
theorem QIB (j : Nat) (p : Nat → Prop) : j = 0 ∨ (∃ i, j = i + 1 ∧ p i) ∨ ∃ i, j = i + 1 ∧ ¬p i := by
 rcases j with _ | i
 ·exact .inl rfl
 ·by_cases h : p i
  ·exact .inr (.inl ⟨i, rfl, h⟩)
  ·exact .inr (.inr ⟨i, rfl, h⟩)
theorem QJi {p : Nat → Prop} {i n : Nat} (h : ∀ a, i + 1 ≤ a → a < n → p a) (hi : p i) : ∀ a, i ≤ a → a < n → p a := fun a h1 h2 => by
 rcases Nat.lt_or_eq_of_le h1 with h3 | rfl
 ·exact h a h3 h2
 ·exact hi
/-- where a tow is put into a queue -/
theorem QKt {x : TW} {l : List TW} {k : Nat} (hs : ArrT l) (hk : k ≤ l.length) (hb : ∀ i, k ≤ i → i < l.length → x.arrive < (l.getD i tw0).arrive) (hl : k = 0 ∨ ¬x.arrive < (l.getD (k - 1) tw0).arrive) : insT x l = l.take k ++ x :: l.drop k := by
 have h1 : ∀ q ∈ l.drop k, x.arrive < q.arrive := fun q hq => by
  obtain ⟨i, hi, rfl⟩ := List.getElem_of_mem hq;rw [List.length_drop] at hi;have := hb (k + i) (by omega) (by omega)
  rw [Zj (by omega)] at this
  rwa [List.getElem_drop]
 have h2 : ∀ p ∈ l.take k, ¬x.arrive < p.arrive := fun p hp => by
  rcases hl with rfl | hl
  ·simp at hp
  ·rcases Nat.eq_zero_or_pos k with rfl | h0
   ·simp at hp
   ·have e : l.take k = l.take (k - 1) ++ [l.getD (k - 1) tw0] := by rw [← Zz (by omega), Nat.sub_add_cancel h0]
    rw [e] at hp;have hs2 : ArrT ((l.take (k - 1) ++ [l.getD (k - 1) tw0]) ++ l.drop k) := by rw [← e, List.take_append_drop]; exact hs
    exact QHX hs2 hl p hp
 have h3 := QBZ h2 h1;rw [List.take_append_drop] at h3
 exact h3
set_option maxRecDepth 100000 in
theorem QEW {ts : List TW} {u : Bool} {v : Value} {w : World} {B : Nat} (hr : Rd w B 5 v ts.length (twsC ts)) (hB : B ≤ w.heap.size) (hn : ts.length ≤ 1000000) :
  Calls Try.prog 42 #[v, .bool u] w fun e w' => (∃ v', e = .returned v' ∧ w'.ownsRow w.heap.size 39 5 v' (qL ts u).length (twsC (qL ts u))) ∧ Below w.heap.size w w' := by
 obtain ⟨At, ct, rfl, _⟩ := hr.shape;have hbw := Below.refl w.heap.size w;refine EC.enter 56 Try.func42 rfl rfl rfl (EC.seq (EC.region (EL.as rfl rfl (EL.nil (EX.seq (EC.seq (EC.region ?_)))))));have hsz := hbw.size;refine EL.newS QI3 rfl ?_;intro g1 w1 q1 hb1 hg1 hl1;have bhbw_1 := Nat.le_trans hbw.size hg1;replace hbw := bo_ hbw hb1;clear hb1 hl1;refine EL.as rfl rfl (EL.nil (EX.seq (EC.seq (EC.seq (EC.region (EL.as rfl rfl (EL.nil (EX.seq (EC.block ?_)))))))));refine EC.loopD [5, 6, 7, 9, 10, 11, 12, 13, 14, 15, 16, 17, 18, 19, 20, 21, 22, 23, 24, 25, 26, 27, 28, 29, 30, 31, 32, 33, 34, 35, 36, 37, 38, 39, 40, 41, 42, 43, 44, 45, 46, 47, 48, 49, 50, 51, 52, 53, 54] (fun i : Nat × Nat × Nat × Nat => [(6, .int .i64 (i.1 : Nat)), (5, .slice (some ⟨i.2.1, 0, none⟩) i.2.2.1 i.2.2.2)]) (fun i W => i.1 ≤ ts.length ∧ W.ownsRow w.heap.size 39 5 (.slice (some ⟨i.2.1, 0, none⟩) i.2.2.1 i.2.2.2) i.2.2.1 (twsC (qk ts u i.1)) ∧ Below w.heap.size w W) (fun i => ts.length - i.1) (0, g1, 0, 0) ⟨Nat.zero_le _, QFT 5 q1 (Nat.le_trans hsz hg1), hbw⟩ ⟨rfl, rfl, trivial⟩ ?_
 clear q1 hbw
 rintro ⟨k, g, n, c⟩ wk ⟨hkn, hout, hbw⟩
 simp only at hkn hout
 change wk.ownsRow w.heap.size 39 5 (.slice (some ⟨g, 0, none⟩) n c) n (twsC (qk ts u k)) at hout;have hnl : n = (qk ts u k).length := by have := hout.1; rw [QAf] at this; omega
 have hql := QM5 ts u k
 by_cases hltk : k < ts.length
 ·
  obtain ⟨b, o, rfl, _, cc⟩ := Zy ts k hltk w B _ _ _ hr;have hstep := QLp (u := u) hltk
  generalize hx : ts.getD k tw0 = x at cc hstep
  refine EC.seq (EC.seq (EC.region (EL.mv rfl rfl (EL.mv rfl rfl (EL.val (Zs rfl) rfl ?_)))));refine EL.val (ZS (r := true) rfl rfl (decide_eq_true (by omega))) rfl ?_
  refine EL.nil (EX.seq (EC.yes rfl (EC.skip (EX.seq (EC.seq (EC.block (EC.seq (EC.seq (EC.region ?_)))))))));refine EL.mv rfl rfl (EL.mv rfl rfl (EL.val (YR rfl rfl hltk) rfl (EL.val (QIx rfl) rfl (EL.val (ld_4 rfl (ZB hbw cc.c0)) rfl (EL.mv rfl rfl ?_)))))
  by_cases hxu : x.up = u
  ·
   refine EL.val (QJr (r := false) rfl rfl (by simp [hxu])) rfl ?_
   refine EL.nil (EX.seq (EC.no rfl (EC.skip (EX.seq (EC.seq (EC.region (EL.mv rfl rfl (EL.val (Zs rfl) rfl (EL.as rfl rfl ?_)))))))));refine EL.nil (EX.seq (EC.seq (EC.block ?_)));rw [if_pos hxu] at hstep;refine EC.loopD [7, 24, 25, 26, 27, 28, 29, 30, 31, 32, 33, 34, 35, 36, 37, 38, 39, 40, 41] (fun j : Nat => [(7, .int .i64 (j : Nat))]) (fun j W => j ≤ n ∧ (∀ i, j ≤ i → i < n → x.arrive < ((qk ts u k).getD i tw0).arrive) ∧ W.ownsRow w.heap.size 39 5 (.slice (some ⟨g, 0, none⟩) n c) n (twsC (qk ts u k)) ∧ Below w.heap.size w W) (fun j => j) n ⟨Nat.le_refl _, (fun i h1 h2 => absurd h1 (by omega)), hout, hbw⟩ ⟨rfl, trivial⟩ ?_
   clear hout hbw
   rintro j wj ⟨hjn, hbig, hout, hbw⟩
   rcases QIB j (fun i => x.arrive < ((qk ts u k).getD i tw0).arrive) with rfl | ⟨i, rfl, hlt⟩ | ⟨i, rfl, hlt⟩
   ·
    have hins := QKt (x := x) (k := 0) (QFS ts u k) (by omega) (fun i h1 h2 => hbig i h1 (by omega)) (.inl rfl)
    refine EC.seq (EC.seq ?_);refine EC.regionQ (by kernel_rfl) (by kernel_rfl) ?_
    refine EQ.mv rfl rfl ?_;refine EQ.val (fun _ hw => (Zm (r := false) rfl rfl (decide_eq_false (by omega)))) rfl ?_
    refine EQ.mv rfl rfl (EQ.skip rfl rfl rfl rfl (EQ.skip rfl rfl rfl rfl (EQ.skip rfl rfl rfl rfl (EQ.skip rfl rfl rfl rfl (EQ.skip rfl rfl rfl rfl (EQ.skip rfl rfl rfl rfl (EQ.skip rfl rfl rfl rfl (EQ.skip rfl rfl rfl rfl (EQ.skip rfl rfl rfl rfl ?_)))))))));refine EQ.skip rfl rfl rfl rfl (EQ.skip rfl rfl rfl rfl (EQ.skip rfl rfl rfl rfl ?_));refine EQ.val (fun _ hw => (Z7 rfl rfl)) rfl ?_
    refine EQ.fin (fun w2 hw_ => ?_)
    replace hout := ZE hout hw_ (Nat.le_refl _);replace hbw := bo_ hbw hw_;clear hw_;refine EX.seq (EC.no rfl (EC.exit (EX.seq_exit (EX.seq_exit (EX.blk_here (EX.seq ?_))))));have hW := ZI hout (w1 := w2) ⟨rfl, rfl, rfl, Nat.le_refl _, fun _ _ _ => rfl⟩ hbw.size
    clear hW;refine EC.regionS [[], [], [0, 1], [], [], [3, 4], [3, 4, 5], [3, 4, 5, 6], [], [], [8, 9], [3, 4, 5, 6, 7, 8, 9, 10], [0, 1, 2, 3, 4, 5, 6, 7, 8, 9, 10, 11], [0, 1, 2, 3, 4, 5, 6, 7, 8, 9, 10, 11, 12]] 13 [] [12] (fun fl w_ => w2.grownBy w_ ((.slice (some ⟨g, 0, none⟩) n c) : Value).ownBlock ∧ (fl 12 = false → w_.ownsRow w.heap.size 39 5 (.slice (some ⟨g, 0, none⟩) n c) n (twsC (qk ts u k)))) (phiS (fun i_ r => match i_ with | 0 => r 0 = .slice (some ⟨g, 0, none⟩) n c | 1 => r 1 = .int .i64 (0 : Nat) | 2 => r 2 = .slice (some ⟨g, 0, none⟩) 0 c | 3 => r 3 = .slice (some ⟨b, o, none⟩) ts.length ct | 4 => r 4 = .int .i64 (k : Nat) | 5 => r 5 = .pointer (some ⟨b, o + k * 5, none⟩) | 6 => r 6 = .agg #[.bool x.up, .int .i64 x.arrive, .int .i64 x.length, .int .i64 x.weight, .int .i64 x.push] | 8 => r 8 = .slice (some ⟨g, 0, none⟩) n c | 9 => r 9 = .int .i64 (0 : Nat) | 10 => r 10 = .slice (QBJ (some ⟨g, 0, none⟩) c 0) (n - 0) (c - 0) | _ => True) [(7, fun _ r w_ => ∃ g_, r 7 = .slice (some ⟨g_, 0, none⟩) 1 1 ∧ Blk w_ g_ 39 #[.bool x.up, .int .i64 x.arrive, .int .i64 x.length, .int .i64 x.weight, .int .i64 x.push] ∧ w2.heap.size ≤ g_), (11, fun fl r w_ => fl 12 = false → (∃ A c_, r 11 = .slice A (1 + (n - 0)) c_ ∧ w_.ownsRow w2.heap.size 39 5 (.slice A (1 + (n - 0)) c_) (1 + (n - 0)) ([.bool x.up, .int .i64 x.arrive, .int .i64 x.length, .int .i64 x.weight, .int .i64 x.push] ++ twsC ((qk ts u k).drop 0)))), (12, fun _ r w_ => w_.ownsRow w.heap.size 39 5 (r 12) (0 + (1 + (n - 0))) ((twsC (qk ts u k)).take (0 * 5) ++ ([.bool x.up, .int .i64 x.arrive, .int .i64 x.length, .int .i64 x.weight, .int .i64 x.push] ++ twsC ((qk ts u k).drop 0))) ∧ ∀ b, (r 12).ownBlock = some b → ((.slice (some ⟨g, 0, none⟩) n c) : Value).ownBlock = some b ∨ w2.heap.size ≤ b)]) (by kernel_rfl) rfl rfl (by intro i hi; simp at hi; subst hi; exact ⟨by simp, by omega⟩) (QAt hout) (ZK QG4 (ZK (Z0 (YU (f := fun A c => .slice A (1 + (n - 0)) c))) (ZK (QAG (e := 12) (C := fun u_ => ∀ b, u_.ownBlock = some b → ((.slice (some ⟨g, 0, none⟩) n c) : Value).ownBlock = some b ∨ w2.heap.size ≤ b)) (Zb)))) (fun i_ hi_ hs_ => ?_) (fun i_ hi_ => ?_) ?_
    ·match i_, hi_ with
     | 0, _ =>
      intro val fl w1 a hb ha hd hfl;obtain ⟨hgb, hg0⟩ := hb;have hb := ZI hout hgb hbw.size;have ha := ha.s0 (d := 5) rfl
      exact ZC ha rfl rfl (x_move rfl) rfl rfl
     | 1, _ =>
      intro val fl w1 a hb ha hd hfl;obtain ⟨hgb, hg0⟩ := hb;have hb := ZI hout hgb hbw.size;have ha := ha.s0 (d := 7) rfl
      exact ZC ha rfl rfl (x_move rfl) rfl rfl
     | 2, _ =>
      intro val fl w1 a hb ha hd hfl;obtain ⟨hgb, hg0⟩ := hb;have hb := ZI hout hgb hbw.size;have e0 : val 0 = _ := hd 0 (ZA.1 rfl);have e1 : val 1 = _ := hd 1 (ZA.1 rfl);have ha := ha.s2 (d := 43) (e := 42) rfl e1 rfl e0
      exact ZC ha rfl rfl (QCT (hi := 0) rfl rfl (Nat.le_trans (Nat.zero_le _) (QBV hout))) rfl rfl
     | 3, _ =>
      intro val fl w1 a hb ha hd hfl;obtain ⟨hgb, hg0⟩ := hb;have hb := ZI hout hgb hbw.size;have ha := ha.s0 (d := 0) rfl
      exact ZC ha rfl rfl (x_move rfl) rfl rfl
     | 4, _ =>
      intro val fl w1 a hb ha hd hfl;obtain ⟨hgb, hg0⟩ := hb;have hb := ZI hout hgb hbw.size;have ha := ha.s0 (d := 6) rfl
      exact ZC ha rfl rfl (x_move rfl) rfl rfl
     | 5, _ =>
      intro val fl w1 a hb ha hd hfl;obtain ⟨hgb, hg0⟩ := hb;have hb := ZI hout hgb hbw.size;have e3 : val 3 = _ := hd 3 (ZA.1 rfl);have e4 : val 4 = _ := hd 4 (ZA.1 rfl);have ha := ha.s2 (d := 46) (e := 45) rfl e4 rfl e3
      exact ZC ha rfl rfl (YR rfl rfl hltk) rfl rfl
     | 6, _ =>
      intro val fl w1 a hb ha hd hfl;obtain ⟨hgb, hg0⟩ := hb;have hb := ZI hout hgb hbw.size;have e5 : val 5 = _ := hd 5 (ZA.1 rfl);have ha := ha.s1 (d := 47) rfl e5
      exact ZC ha rfl rfl (QAU rfl (ZB (hbw.trans hb) cc.c0) (ZB (hbw.trans hb) cc.c1) (ZB (hbw.trans hb) cc.c2) (ZB (hbw.trans hb) cc.c3) (ZB (hbw.trans hb) cc.c4)) rfl rfl
     | 7, _ =>
      intro val fl w1 a hb ha hd hfl;obtain ⟨hgb, hg0⟩ := hb;have hb := ZI hout hgb hbw.size;have e6 : val 6 = _ := hd 6 (ZA.1 rfl);have ha := ha.s1 (d := 48) rfl e6
      exact Y4 ha rfl rfl (QEA rfl) rfl (fun g w' hq _ hge => ⟨g, rfl, hq, Nat.le_trans hgb.size hge⟩)
     | 8, _ =>
      intro val fl w1 a hb ha hd hfl;obtain ⟨hgb, hg0⟩ := hb;have hb := ZI hout hgb hbw.size;have ha := ha.s0 (d := 5) rfl
      exact ZC ha rfl rfl (x_move rfl) rfl rfl
     | 9, _ =>
      intro val fl w1 a hb ha hd hfl;obtain ⟨hgb, hg0⟩ := hb;have hb := ZI hout hgb hbw.size;have ha := ha.s0 (d := 7) rfl
      exact ZC ha rfl rfl (x_move rfl) rfl rfl
     | 10, _ =>
      intro val fl w1 a hb ha hd hfl;obtain ⟨hgb, hg0⟩ := hb;have hb := ZI hout hgb hbw.size;have e8 : val 8 = _ := hd 8 (ZA.1 rfl);have e9 : val 9 = _ := hd 9 (ZA.1 rfl);have ha := ha.s2 (d := 51) (e := 50) rfl e9 rfl e8
      exact ZC ha rfl rfl ((QAO hout (lo := 0) hjn rfl rfl).1 rfl rfl) rfl rfl
     | 11, _ =>
      intro val fl w1 a hb ha hd hfl;obtain ⟨hgb, hg0⟩ := hb;have hb := ZI hout hgb hbw.size;obtain ⟨g7_, e7, q7_, h7_⟩ := hd 7 (ZA.1 rfl);change val 7 = _ at e7;have e10 : val 10 = _ := hd 10 (ZA.1 rfl);have ha := ha.s2 (d := 52) (e := 49) rfl e10 rfl e7;refine QIR QAh ha rfl rfl rfl (QFU (k := 1) (l := [.bool x.up, .int .i64 x.arrive, .int .i64 x.length, .int .i64 x.weight, .int .i64 x.push]) q7_ rfl (by omega) h7_) (QAO (hg0 (hfl 12 (by simp) (ZA.1 rfl))) (lo := 0) hjn rfl rfl).2.1 (twsC_one _) (by omega) rfl hgb.size rfl ?_
      intro v' w' ho2;obtain ⟨A2, c2, rfl, _⟩ := (Rd.of_own ho2).shape
      exact fun _ => ⟨A2, c2, rfl, ho2⟩
     | 12, _ =>
      exact absurd (by simp) hs_
     | k + 13, h => exact absurd h (by omega)
    ·simp only [List.mem_singleton] at hi_; subst hi_
     intro val fl w1 a hb hfi ha hd hfl;obtain ⟨hgb, hg0⟩ := hb;have hb := ZI hout hgb hbw.size;have e2 : val 2 = _ := hd 2 (ZA.1 rfl);obtain ⟨A11_, c11_, e11, ho11_⟩ := hd 11 (ZA.1 rfl) hfi;change val 11 = _ at e11;have ha := ha.s2 (d := 53) (e := 44) rfl e11 rfl e2;refine QAW QAh ha rfl rfl rfl (QEb (hg0 hfi) hjn) (Rd.of_own ho11_) (QE0 _ _) (by omega) rfl (Nat.le_trans hbw.size hgb.size) ?_
     intro v' w' ho' hgr hat;refine ⟨v', rfl, hgr.size, ⟨Zg hgb hgr, fun h => by rw [ZQ] at h; cases h⟩, ⟨ho', fun b hb' => ?_⟩, fun j _ hj hn hA => ?_⟩
     ·rcases hat with h | h
      ·exact .inl (h ▸ hb')
      ·refine .inr ?_
       change v'.ownBlock = some b at hb';rw [h] at hb'
       injection hb' with hb'
       have := hgb.size
       omega
     ·exact ZF (C := fun j => j ≠ 12 ∧ 12 ∉ clsAt [[], [], [0, 1], [], [], [3, 4], [3, 4, 5], [3, 4, 5, 6], [], [], [8, 9], [3, 4, 5, 6, 7, 8, 9, 10], [0, 1, 2, 3, 4, 5, 6, 7, 8, 9, 10, 11], [0, 1, 2, 3, 4, 5, 6, 7, 8, 9, 10, 11, 12]] j) (fun _ ⟨g, h1, h2, h3⟩ => ⟨g, h1, h2.grown hgr (fun h => by have := (hout.lt _ h.symm).2; omega), h3⟩) (ZF (fun _ _ h => by rw [ZQ] at h; cases h) (ZF (fun hc => absurd rfl hc.1) (fun _ _ h => h))) j ⟨hj, hn⟩
    ·intro val fl w' hfl hb halc hd
     obtain ⟨hgb, _⟩ := hb;have hb := ZI hout hgb hbw.size;have e0 : val 0 = _ := hd 0 (by omega)
     have e1 : val 1 = _ := hd 1 (by omega)
     have e2 : val 2 = _ := hd 2 (by omega)
     have e3 : val 3 = _ := hd 3 (by omega)
     have e4 : val 4 = _ := hd 4 (by omega)
     have e5 : val 5 = _ := hd 5 (by omega)
     have e6 : val 6 = _ := hd 6 (by omega)
     obtain ⟨ga7, e7, qa7, hga7⟩ := hd 7 (by omega)
     change val 7 = _ at e7;have e8 : val 8 = _ := hd 8 (by omega)
     have e9 : val 9 = _ := hd 9 (by omega)
     have e10 : val 10 = _ := hd 10 (by omega)
     obtain ⟨ho12, hn12⟩ := hd 12 (by omega)
     change w'.ownsRow _ _ _ (val 12) _ _ at ho12;refine EL.ends (cs := [_, _, _, _, _, _, _, _, _, _, _, val 11, val 12]) ⟨e0, e1, e2, e3, e4, e5, e6, e7, e8, e9, e10, rfl, rfl, trivial⟩ rfl ?_;have bhbw_3 := Nat.le_trans hbw.size hga7;replace hbw := hbw.trans (hb.mono (Nat.le_refl _));obtain ⟨g2, c2, e12_⟩ := Z_ ho12 (by omega)
     rw [e12_] at ho12 ⊢

     replace ho12 : w'.ownsRow w.heap.size 39 5 (.slice (some ⟨g2, 0, none⟩) (1 + n) c2) (1 + n) (twsC (qk ts u (k + 1))) := by rw [hstep, hins, QCg, YM]; have e : 0 + (1 + (n - 0)) = 1 + n := (by omega); rw [e] at ho12; exact ho12
     rw [show 0 + (1 + (n - 0)) = 1 + n by omega]
     have hnew := ho12;clear ho12;refine EL.as rfl rfl (EL.nil (EX.blk (EX.seq (EC.region (EL.mv rfl rfl ?_)))));refine EL.val (ZP rfl rfl (c := ((k + 1 : Nat) : Int)) ((IntWalk.i64_in _ ⟨by first | omega | (simp only; omega), by first | omega | (simp only; omega)⟩).trans (by first | omega | (simp only; omega)))) rfl ?_
     refine EL.as rfl rfl (EL.nil ?_);refine EX.roundD (k + 1, g2, 1 + n, c2) ⟨rfl, rfl, trivial⟩ (by repeat first | with_reducible exact .refl _ | refine sp_ rfl ?_ | exact .refl _ | refine sd_ rfl ?_ | refine sn_ ?_) ⟨hltk, hnew, hbw⟩ (show ts.length - (k + 1) < ts.length - k by omega)
   ·
    obtain ⟨b2, o2, eb_, _, cq⟩ := Zy (qk ts u k) i (by omega) _ _ _ _ _ (Rd.of_own hout)
    injection eb_ with eb_
    injection eb_ with eb1_ eb2_
    subst eb1_ eb2_;refine EC.seq (EC.seq ?_);refine EC.regionQ (by kernel_rfl) (by kernel_rfl) ?_
    refine EQ.mv rfl rfl ?_;refine EQ.val (fun _ hw => (Zm (r := true) rfl rfl (decide_eq_true (by omega)))) rfl ?_
    refine EQ.mv rfl rfl (EQ.mg rfl rfl rfl rfl (EQ.mg rfl rfl rfl rfl ?_));refine EQ.valg rfl rfl (fun _ hw => (YR rfl rfl hltk)) rfl ?_
    refine EQ.valg rfl rfl (fun _ hw => (Yn rfl)) rfl ?_
    refine EQ.valg rfl rfl (fun _ hw => (ld_3 rfl (ZB hw (ZB hbw cc.c1)))) rfl ?_
    refine EQ.mg rfl rfl rfl rfl (EQ.mg rfl rfl rfl rfl ?_);refine EQ.valg rfl rfl (fun _ hw => (Zv rfl rfl (c := ((i : Nat) : Int)) ((IntWalk.i64_in _ ⟨by omega, by omega⟩).trans (by omega)))) rfl ?_
    refine EQ.valg rfl rfl (fun _ hw => (YR rfl rfl (show i < n from hjn))) rfl ?_
    refine EQ.valg rfl rfl (fun _ hw => (Yn rfl)) rfl ?_
    refine EQ.valg rfl rfl (fun _ hw => (ld_3 rfl (ZB hw cq.c1))) rfl ?_
    refine EQ.valg rfl rfl (fun _ hw => (ZS (r := true) rfl rfl (decide_eq_true hlt))) rfl ?_
    refine EQ.val (fun _ hw => (Zq rfl rfl)) rfl ?_
    refine EQ.fin (fun w4 hw_ => ?_)
    replace hout := ZE hout hw_ (Nat.le_refl _);replace hbw := bo_ hbw hw_;clear hw_;refine EX.seq (EC.yes rfl (EC.skip (EX.seq (EC.block (EC.region (EL.mv rfl rfl ?_))))));refine EL.val (Zv rfl rfl (c := ((i : Nat) : Int)) ((IntWalk.i64_in _ ⟨by omega, by omega⟩).trans (by omega))) rfl ?_
    refine EL.as rfl rfl (EL.nil (EX.blk ?_));refine EX.roundD i ⟨rfl, trivial⟩ (by repeat first | with_reducible exact .refl _ | refine sp_ rfl ?_ | exact .refl _ | refine sd_ rfl ?_ | refine sn_ ?_) ⟨by omega, QJi hbig hlt, hout, hbw⟩ (by omega)
   ·
    obtain ⟨b2, o2, eb_, _, cq⟩ := Zy (qk ts u k) i (by omega) _ _ _ _ _ (Rd.of_own hout)
    injection eb_ with eb_
    injection eb_ with eb1_ eb2_
    subst eb1_ eb2_;have hins := QKt (x := x) (k := (i + 1)) (QFS ts u k) (by omega) (fun i h1 h2 => hbig i h1 (by omega)) (.inr hlt)
    refine EC.seq (EC.seq ?_);refine EC.regionQ (by kernel_rfl) (by kernel_rfl) ?_
    refine EQ.mv rfl rfl ?_;refine EQ.val (fun _ hw => (Zm (r := true) rfl rfl (decide_eq_true (by omega)))) rfl ?_
    refine EQ.mv rfl rfl (EQ.mg rfl rfl rfl rfl (EQ.mg rfl rfl rfl rfl ?_));refine EQ.valg rfl rfl (fun _ hw => (YR rfl rfl hltk)) rfl ?_
    refine EQ.valg rfl rfl (fun _ hw => (Yn rfl)) rfl ?_
    refine EQ.valg rfl rfl (fun _ hw => (ld_3 rfl (ZB hw (ZB hbw cc.c1)))) rfl ?_
    refine EQ.mg rfl rfl rfl rfl (EQ.mg rfl rfl rfl rfl ?_);refine EQ.valg rfl rfl (fun _ hw => (Zv rfl rfl (c := ((i : Nat) : Int)) ((IntWalk.i64_in _ ⟨by omega, by omega⟩).trans (by omega)))) rfl ?_
    refine EQ.valg rfl rfl (fun _ hw => (YR rfl rfl (show i < n from hjn))) rfl ?_
    refine EQ.valg rfl rfl (fun _ hw => (Yn rfl)) rfl ?_
    refine EQ.valg rfl rfl (fun _ hw => (ld_3 rfl (ZB hw cq.c1))) rfl ?_
    refine EQ.valg rfl rfl (fun _ hw => (ZS (r := false) rfl rfl (decide_eq_false hlt))) rfl ?_
    refine EQ.val (fun _ hw => (Zq rfl rfl)) rfl ?_
    refine EQ.fin (fun w5 hw_ => ?_)
    replace hout := ZE hout hw_ (Nat.le_refl _);replace hbw := bo_ hbw hw_;clear hw_;refine EX.seq (EC.no rfl (EC.exit (EX.seq_exit (EX.seq_exit (EX.blk_here (EX.seq ?_))))));have hW := ZI hout (w1 := w5) ⟨rfl, rfl, rfl, Nat.le_refl _, fun _ _ _ => rfl⟩ hbw.size
    clear hW;refine EC.regionS [[], [], [0, 1], [], [], [3, 4], [3, 4, 5], [3, 4, 5, 6], [], [], [8, 9], [3, 4, 5, 6, 7, 8, 9, 10], [0, 1, 2, 3, 4, 5, 6, 7, 8, 9, 10, 11], [0, 1, 2, 3, 4, 5, 6, 7, 8, 9, 10, 11, 12]] 13 [] [12] (fun fl w_ => w5.grownBy w_ ((.slice (some ⟨g, 0, none⟩) n c) : Value).ownBlock ∧ (fl 12 = false → w_.ownsRow w.heap.size 39 5 (.slice (some ⟨g, 0, none⟩) n c) n (twsC (qk ts u k)))) (phiS (fun i_ r => match i_ with | 0 => r 0 = .slice (some ⟨g, 0, none⟩) n c | 1 => r 1 = .int .i64 ((i + 1) : Nat) | 2 => r 2 = .slice (some ⟨g, 0, none⟩) (i + 1) c | 3 => r 3 = .slice (some ⟨b, o, none⟩) ts.length ct | 4 => r 4 = .int .i64 (k : Nat) | 5 => r 5 = .pointer (some ⟨b, o + k * 5, none⟩) | 6 => r 6 = .agg #[.bool x.up, .int .i64 x.arrive, .int .i64 x.length, .int .i64 x.weight, .int .i64 x.push] | 8 => r 8 = .slice (some ⟨g, 0, none⟩) n c | 9 => r 9 = .int .i64 ((i + 1) : Nat) | 10 => r 10 = .slice (QBJ (some ⟨g, 0, none⟩) c (i + 1)) (n - (i + 1)) (c - (i + 1)) | _ => True) [(7, fun _ r w_ => ∃ g_, r 7 = .slice (some ⟨g_, 0, none⟩) 1 1 ∧ Blk w_ g_ 39 #[.bool x.up, .int .i64 x.arrive, .int .i64 x.length, .int .i64 x.weight, .int .i64 x.push] ∧ w5.heap.size ≤ g_), (11, fun fl r w_ => fl 12 = false → (∃ A c_, r 11 = .slice A (1 + (n - (i + 1))) c_ ∧ w_.ownsRow w5.heap.size 39 5 (.slice A (1 + (n - (i + 1))) c_) (1 + (n - (i + 1))) ([.bool x.up, .int .i64 x.arrive, .int .i64 x.length, .int .i64 x.weight, .int .i64 x.push] ++ twsC ((qk ts u k).drop (i + 1))))), (12, fun _ r w_ => w_.ownsRow w.heap.size 39 5 (r 12) ((i + 1) + (1 + (n - (i + 1)))) ((twsC (qk ts u k)).take ((i + 1) * 5) ++ ([.bool x.up, .int .i64 x.arrive, .int .i64 x.length, .int .i64 x.weight, .int .i64 x.push] ++ twsC ((qk ts u k).drop (i + 1)))) ∧ ∀ b, (r 12).ownBlock = some b → ((.slice (some ⟨g, 0, none⟩) n c) : Value).ownBlock = some b ∨ w5.heap.size ≤ b)]) (by kernel_rfl) rfl rfl (by intro i hi; simp at hi; subst hi; exact ⟨by simp, by omega⟩) (QAt hout) (ZK QG4 (ZK (Z0 (YU (f := fun A c => .slice A (1 + (n - (i + 1))) c))) (ZK (QAG (e := 12) (C := fun u_ => ∀ b, u_.ownBlock = some b → ((.slice (some ⟨g, 0, none⟩) n c) : Value).ownBlock = some b ∨ w5.heap.size ≤ b)) (Zb)))) (fun i_ hi_ hs_ => ?_) (fun i_ hi_ => ?_) ?_
    ·match i_, hi_ with
     | 0, _ =>
      intro val fl w1 a hb ha hd hfl;obtain ⟨hgb, hg0⟩ := hb;have hb := ZI hout hgb hbw.size;have ha := ha.s0 (d := 5) rfl
      exact ZC ha rfl rfl (x_move rfl) rfl rfl
     | 1, _ =>
      intro val fl w1 a hb ha hd hfl;obtain ⟨hgb, hg0⟩ := hb;have hb := ZI hout hgb hbw.size;have ha := ha.s0 (d := 7) rfl
      exact ZC ha rfl rfl (x_move rfl) rfl rfl
     | 2, _ =>
      intro val fl w1 a hb ha hd hfl;obtain ⟨hgb, hg0⟩ := hb;have hb := ZI hout hgb hbw.size;have e0 : val 0 = _ := hd 0 (ZA.1 rfl);have e1 : val 1 = _ := hd 1 (ZA.1 rfl);have ha := ha.s2 (d := 43) (e := 42) rfl e1 rfl e0
      exact ZC ha rfl rfl (QCT (hi := (i + 1)) rfl rfl (Nat.le_trans hjn (QBV hout))) rfl rfl
     | 3, _ =>
      intro val fl w1 a hb ha hd hfl;obtain ⟨hgb, hg0⟩ := hb;have hb := ZI hout hgb hbw.size;have ha := ha.s0 (d := 0) rfl
      exact ZC ha rfl rfl (x_move rfl) rfl rfl
     | 4, _ =>
      intro val fl w1 a hb ha hd hfl;obtain ⟨hgb, hg0⟩ := hb;have hb := ZI hout hgb hbw.size;have ha := ha.s0 (d := 6) rfl
      exact ZC ha rfl rfl (x_move rfl) rfl rfl
     | 5, _ =>
      intro val fl w1 a hb ha hd hfl;obtain ⟨hgb, hg0⟩ := hb;have hb := ZI hout hgb hbw.size;have e3 : val 3 = _ := hd 3 (ZA.1 rfl);have e4 : val 4 = _ := hd 4 (ZA.1 rfl);have ha := ha.s2 (d := 46) (e := 45) rfl e4 rfl e3
      exact ZC ha rfl rfl (YR rfl rfl hltk) rfl rfl
     | 6, _ =>
      intro val fl w1 a hb ha hd hfl;obtain ⟨hgb, hg0⟩ := hb;have hb := ZI hout hgb hbw.size;have e5 : val 5 = _ := hd 5 (ZA.1 rfl);have ha := ha.s1 (d := 47) rfl e5
      exact ZC ha rfl rfl (QAU rfl (ZB (hbw.trans hb) cc.c0) (ZB (hbw.trans hb) cc.c1) (ZB (hbw.trans hb) cc.c2) (ZB (hbw.trans hb) cc.c3) (ZB (hbw.trans hb) cc.c4)) rfl rfl
     | 7, _ =>
      intro val fl w1 a hb ha hd hfl;obtain ⟨hgb, hg0⟩ := hb;have hb := ZI hout hgb hbw.size;have e6 : val 6 = _ := hd 6 (ZA.1 rfl);have ha := ha.s1 (d := 48) rfl e6
      exact Y4 ha rfl rfl (QEA rfl) rfl (fun g w' hq _ hge => ⟨g, rfl, hq, Nat.le_trans hgb.size hge⟩)
     | 8, _ =>
      intro val fl w1 a hb ha hd hfl;obtain ⟨hgb, hg0⟩ := hb;have hb := ZI hout hgb hbw.size;have ha := ha.s0 (d := 5) rfl
      exact ZC ha rfl rfl (x_move rfl) rfl rfl
     | 9, _ =>
      intro val fl w1 a hb ha hd hfl;obtain ⟨hgb, hg0⟩ := hb;have hb := ZI hout hgb hbw.size;have ha := ha.s0 (d := 7) rfl
      exact ZC ha rfl rfl (x_move rfl) rfl rfl
     | 10, _ =>
      intro val fl w1 a hb ha hd hfl;obtain ⟨hgb, hg0⟩ := hb;have hb := ZI hout hgb hbw.size;have e8 : val 8 = _ := hd 8 (ZA.1 rfl);have e9 : val 9 = _ := hd 9 (ZA.1 rfl);have ha := ha.s2 (d := 51) (e := 50) rfl e9 rfl e8
      exact ZC ha rfl rfl ((QAO hout (lo := (i + 1)) hjn rfl rfl).1 rfl rfl) rfl rfl
     | 11, _ =>
      intro val fl w1 a hb ha hd hfl;obtain ⟨hgb, hg0⟩ := hb;have hb := ZI hout hgb hbw.size;obtain ⟨g7_, e7, q7_, h7_⟩ := hd 7 (ZA.1 rfl);change val 7 = _ at e7;have e10 : val 10 = _ := hd 10 (ZA.1 rfl);have ha := ha.s2 (d := 52) (e := 49) rfl e10 rfl e7;refine QIR QAh ha rfl rfl rfl (QFU (k := 1) (l := [.bool x.up, .int .i64 x.arrive, .int .i64 x.length, .int .i64 x.weight, .int .i64 x.push]) q7_ rfl (by omega) h7_) (QAO (hg0 (hfl 12 (by simp) (ZA.1 rfl))) (lo := (i + 1)) hjn rfl rfl).2.1 (twsC_one _) (by omega) rfl hgb.size rfl ?_
      intro v' w' ho2;obtain ⟨A2, c2, rfl, _⟩ := (Rd.of_own ho2).shape
      exact fun _ => ⟨A2, c2, rfl, ho2⟩
     | 12, _ =>
      exact absurd (by simp) hs_
     | k + 13, h => exact absurd h (by omega)
    ·simp only [List.mem_singleton] at hi_; subst hi_
     intro val fl w1 a hb hfi ha hd hfl;obtain ⟨hgb, hg0⟩ := hb;have hb := ZI hout hgb hbw.size;have e2 : val 2 = _ := hd 2 (ZA.1 rfl);obtain ⟨A11_, c11_, e11, ho11_⟩ := hd 11 (ZA.1 rfl) hfi;change val 11 = _ at e11;have ha := ha.s2 (d := 53) (e := 44) rfl e11 rfl e2;refine QAW QAh ha rfl rfl rfl (QEb (hg0 hfi) hjn) (Rd.of_own ho11_) (QE0 _ _) (by omega) rfl (Nat.le_trans hbw.size hgb.size) ?_
     intro v' w' ho' hgr hat;refine ⟨v', rfl, hgr.size, ⟨Zg hgb hgr, fun h => by rw [ZQ] at h; cases h⟩, ⟨ho', fun b hb' => ?_⟩, fun j _ hj hn hA => ?_⟩
     ·rcases hat with h | h
      ·exact .inl (h ▸ hb')
      ·refine .inr ?_
       change v'.ownBlock = some b at hb';rw [h] at hb'
       injection hb' with hb'
       have := hgb.size
       omega
     ·exact ZF (C := fun j => j ≠ 12 ∧ 12 ∉ clsAt [[], [], [0, 1], [], [], [3, 4], [3, 4, 5], [3, 4, 5, 6], [], [], [8, 9], [3, 4, 5, 6, 7, 8, 9, 10], [0, 1, 2, 3, 4, 5, 6, 7, 8, 9, 10, 11], [0, 1, 2, 3, 4, 5, 6, 7, 8, 9, 10, 11, 12]] j) (fun _ ⟨g, h1, h2, h3⟩ => ⟨g, h1, h2.grown hgr (fun h => by have := (hout.lt _ h.symm).2; omega), h3⟩) (ZF (fun _ _ h => by rw [ZQ] at h; cases h) (ZF (fun hc => absurd rfl hc.1) (fun _ _ h => h))) j ⟨hj, hn⟩
    ·intro val fl w' hfl hb halc hd
     obtain ⟨hgb, _⟩ := hb;have hb := ZI hout hgb hbw.size;have e0 : val 0 = _ := hd 0 (by omega)
     have e1 : val 1 = _ := hd 1 (by omega)
     have e2 : val 2 = _ := hd 2 (by omega)
     have e3 : val 3 = _ := hd 3 (by omega)
     have e4 : val 4 = _ := hd 4 (by omega)
     have e5 : val 5 = _ := hd 5 (by omega)
     have e6 : val 6 = _ := hd 6 (by omega)
     obtain ⟨ga7, e7, qa7, hga7⟩ := hd 7 (by omega)
     change val 7 = _ at e7;have e8 : val 8 = _ := hd 8 (by omega)
     have e9 : val 9 = _ := hd 9 (by omega)
     have e10 : val 10 = _ := hd 10 (by omega)
     obtain ⟨ho12, hn12⟩ := hd 12 (by omega)
     change w'.ownsRow _ _ _ (val 12) _ _ at ho12;refine EL.ends (cs := [_, _, _, _, _, _, _, _, _, _, _, val 11, val 12]) ⟨e0, e1, e2, e3, e4, e5, e6, e7, e8, e9, e10, rfl, rfl, trivial⟩ rfl ?_;have bhbw_6 := Nat.le_trans hbw.size hga7;replace hbw := hbw.trans (hb.mono (Nat.le_refl _));obtain ⟨g2, c2, e12_⟩ := Z_ ho12 (by omega)
     rw [e12_] at ho12 ⊢

     replace ho12 : w'.ownsRow w.heap.size 39 5 (.slice (some ⟨g2, 0, none⟩) (1 + n) c2) (1 + n) (twsC (qk ts u (k + 1))) := by rw [hstep, hins, QCg, YM]; have e : (i + 1) + (1 + (n - (i + 1))) = 1 + n := (by omega); rw [e] at ho12; exact ho12
     rw [show (i + 1) + (1 + (n - (i + 1))) = 1 + n by omega]
     have hnew := ho12;clear ho12;refine EL.as rfl rfl (EL.nil (EX.blk (EX.seq (EC.region (EL.mv rfl rfl ?_)))));refine EL.val (ZP rfl rfl (c := ((k + 1 : Nat) : Int)) ((IntWalk.i64_in _ ⟨by first | omega | (simp only; omega), by first | omega | (simp only; omega)⟩).trans (by first | omega | (simp only; omega)))) rfl ?_
     refine EL.as rfl rfl (EL.nil ?_);refine EX.roundD (k + 1, g2, 1 + n, c2) ⟨rfl, rfl, trivial⟩ (by repeat first | with_reducible exact .refl _ | refine sp_ rfl ?_ | exact .refl _ | refine sd_ rfl ?_ | refine sn_ ?_) ⟨hltk, hnew, hbw⟩ (show ts.length - (k + 1) < ts.length - k by omega)
  ·
   refine EL.val (QJr (r := true) rfl rfl (by simp [hxu])) rfl ?_
   refine EL.nil (EX.seq (EC.yes rfl (EC.exit (EX.seq_exit (EX.blk_here (EX.seq (EC.region (EL.mv rfl rfl ?_))))))));refine EL.val (ZP rfl rfl (c := ((k + 1 : Nat) : Int)) ((IntWalk.i64_in _ ⟨by first | omega | (simp only; omega), by first | omega | (simp only; omega)⟩).trans (by first | omega | (simp only; omega)))) rfl ?_
   refine EL.as rfl rfl (EL.nil ?_);rw [if_neg hxu] at hstep;refine EX.roundD (k + 1, g, n, c) ⟨rfl, rfl, trivial⟩ (by repeat first | with_reducible exact .refl _ | refine sp_ rfl ?_ | exact .refl _ | refine sd_ rfl ?_ | refine sn_ ?_) ⟨hltk, hstep ▸ hout, hbw⟩ (show ts.length - (k + 1) < ts.length - k by omega)
 ·
  obtain rfl : k = ts.length := by omega
  refine EC.seq (EC.seq (EC.region (EL.mv rfl rfl (EL.mv rfl rfl (EL.val (Zs rfl) rfl ?_)))));refine EL.val (ZS (r := false) rfl rfl (decide_eq_false (by omega))) rfl ?_
  refine EL.nil (EX.seq (EC.no rfl (EC.exit (EX.seq_exit (EX.seq_exit (EX.blk_here (EX.seq (EC.seq (EC.region ?_)))))))));refine EL.mv rfl rfl (EL.as rfl rfl (EL.nil (EX.seq (EC.ret ?_))))
  exact EX.done (res1 rfl rfl) ⟨⟨_, rfl, by subst hnl; rw [← QM6]; exact hout⟩, hbw⟩
section
variable {n : Nat} {σ : Sg} {w : World} {dst : Option Tmp} {ty : TypeId} {pos : String} {af : Array Edge} {g : Option (Nat × Bool)} {x y z : Operand} {at' : Array TypeId}
theorem cF42 : cF 42 := fun _ _ => by simp [go_sem]
theorem QHV {x0 x1 x2 : Operand} {A0 : Option Addr} {m0 : Nat} {c0 : Nat} {A1 : Option Addr} {m1 : Nat} {c1 : Nat} {b2 : Bool} (h0 : evS σ x0 = some (.slice A0 m0 c0)) (h1 : evS σ x1 = some (.slice A1 m1 c1)) (h2 : evS σ x2 = some (.bool b2)) : ZJ Try.prog n σ w ⟨dst, .build 45 #[(0, x0), (1, x1), (3, x2)], ty, pos, af, g⟩ (.agg #[.slice A0 m0 c0, .slice A1 m1 c1, .int .i64 0, .bool b2, .slice none 0 0, .int .i64 0, .int .i64 0, .int .i64 0, .int .i64 0, .int .i64 0, .int .i64 0]) := fun a ha => by
 simp only [execOp, List.map_toArray, List.map_cons, List.map_nil, ha.eval h0, ha.eval h1, ha.eval h2]
 go_simp
end
section
variable {n : Nat} {σ : Sg} {w : World} {dst : Option Tmp} {ty : TypeId} {pos : String} {af : Array Edge} {g : Option (Nat × Bool)} {x y z : Operand} {at' : Array TypeId}
theorem QDA {b o : Nat} (hx : evS σ x = some (.pointer (some ⟨b, o, none⟩))) : ZJ Try.prog n σ w ⟨dst, .fieldAddr 45 x 1, ty, pos, af, g⟩ (.pointer (some ⟨b, o + 1, none⟩)) := fun a ha => by
 simp only [execOp, ha.eval hx]
 simp [go_sem]
theorem QDB {b o : Nat} (hx : evS σ x = some (.pointer (some ⟨b, o, none⟩))) : ZJ Try.prog n σ w ⟨dst, .fieldAddr 45 x 0, ty, pos, af, g⟩ (.pointer (some ⟨b, o, none⟩)) := fun a ha => by
 simp only [execOp, ha.eval hx]
 simp [go_sem]
theorem QIw {b o : Nat} (hx : evS σ x = some (.pointer (some ⟨b, o, none⟩))) : ZJ Try.prog n σ w ⟨dst, .fieldAddr 45 x 2, ty, pos, af, g⟩ (.pointer (some ⟨b, o + 2, none⟩)) := fun a ha => by
 simp only [execOp, ha.eval hx]
 simp [go_sem]
theorem cF58 : cF 58 := fun _ _ => by simp [go_sem]
theorem QMZ {x0 : Operand} {z0 : Int} (h0 : evS σ x0 = some (.int .i64 z0)) : ZJ Try.prog n σ w ⟨dst, .build 49 #[(0, x0)], ty, pos, af, g⟩ (.agg #[.int .i64 z0, .int .i64 0]) := fun a ha => by
 simp only [execOp, List.map_toArray, List.map_cons, List.map_nil, ha.eval h0]
 go_simp
theorem YV {b o : Nat} (hx : evS σ x = some (.pointer (some ⟨b, o, none⟩))) : ZJ Try.prog n σ w ⟨dst, .fieldAddr 45 x 5, ty, pos, af, g⟩ (.pointer (some ⟨b, o + 5, none⟩)) := fun a ha => by
 simp only [execOp, ha.eval hx]
 simp [go_sem]
theorem QMQ (a : Act) (_ : Env n σ a) : (execOp a.eval ⟨dst, .buildSlice 31 0 #[], ty, pos, af, g⟩).run Try.prog w = .ok (.value (.slice (some ⟨w.heap.size, 0, none⟩) 0 0)) (w.alloc (.cells #[] 49)) := by
 simp only [execOp]
 go_simp
theorem QIv {b o : Nat} (hx : evS σ x = some (.pointer (some ⟨b, o, none⟩))) : ZJ Try.prog n σ w ⟨dst, .fieldAddr 45 x 4, ty, pos, af, g⟩ (.pointer (some ⟨b, o + 4, none⟩)) := fun a ha => by
 simp only [execOp, ha.eval hx]
 simp [go_sem]
theorem QNm {b o : Nat} {v0 : Value} (hx : evS σ x = some (.pointer (some ⟨b, o, none⟩))) (c0 : w.cell? ⟨b, o, none⟩ = some v0) : ZJ Try.prog n σ w ⟨dst, .load 31 x, ty, pos, af, g⟩ (v0) := fun a ha => by
 simp only [execOp, ha.eval hx]
 simp [go_sem, c0]
theorem QNa : (Try.prog.info? 31).map (·.size) = some 1 := by kernel_rfl
end
section
variable {n : Nat} {σ : Sg} {w : World} {dst : Option Tmp} {ty : TypeId} {pos : String} {af : Array Edge} {g : Option (Nat × Bool)} {x y z : Operand} {at' : Array TypeId}
theorem cF43 : cF 43 := fun _ _ => by simp [go_sem]
theorem cF44 : cF 44 := fun _ _ => by simp [go_sem]
end
section
variable {n : Nat} {σ : Sg} {w : World} {dst : Option Tmp} {ty : TypeId} {pos : String} {af : Array Edge} {g : Option (Nat × Bool)} {x y z : Operand} {at' : Array TypeId}
theorem QMS (a : Act) (_ : Env n σ a) : (execOp a.eval ⟨dst, .buildSlice 25 0 #[], ty, pos, af, g⟩).run Try.prog w = .ok (.value (.slice (some ⟨w.heap.size, 0, none⟩) 0 0)) (w.alloc (.cells #[] 87)) := by
 simp only [execOp]
 go_simp
end
theorem neSP {n : Nat} {σ : Sg} {w : World} {dst : Option Tmp} {ty : TypeId} {pos : String} {af : Array Edge} {g : Option (Nat × Bool)} {x y : Operand} {a0 : Bool} {a1 : Int} (hx : evS σ x = some (.agg #[.bool a0, .int .i64 a1])) (hy : evS σ y = some (.agg #[.bool a0, .int .i64 a1])) : ZJ Try.prog n σ w ⟨dst, .binOp .neq 87 x y 87, ty, pos, af, g⟩ (.bool false) := fun _ ha => by
 simp only [execOp, ha.eval hx, ha.eval hy]
 go_simp
theorem QJX {l : List TW} {v : Value} {w : World} {B : Nat} (hr : Rd w B 5 v l.length (twsC l)) (hB : B ≤ w.heap.size) (hn : l.length ≤ 1000000) : Calls Try.prog 13 #[v] w fun e w' => (∃ v', e = .returned v' ∧ w'.ownsRow w.heap.size 39 5 v' l.length (twsC l)) ∧ Below w.heap.size w w' := by
 obtain ⟨Al, cl, rfl, _⟩ := hr.shape;have hbw := Below.refl w.heap.size w;refine EC.enter 6 Try.func13 rfl rfl rfl (EC.seq (EC.region (EL.as rfl rfl (EL.nil (EX.seq (EC.seq (EC.region ?_)))))));have hsz := hbw.size;refine EL.newS QI3 rfl ?_;intro g1 w1 q1 hb1 hg1 hl1;have bhbw_1 := Nat.le_trans hbw.size hg1;replace hbw := bo_ hbw hb1;clear hb1 hl1;refine EL.mv rfl rfl ?_;refine EL.copy QAh rfl rfl (base := w.heap.size) q1 (Nat.le_trans hsz hg1) (hr.below (hbw.mono hB)) (twsC_one _) (by omega) (by omega) hbw.size rfl ?_
 intro v9 w9 hc9 hb9;replace hbw := bo_ hbw hb9;clear hb9;refine EL.as rfl rfl (EL.nil (EX.seq (EC.ret ?_)))
 exact EX.done (res1 rfl rfl) ⟨⟨_, rfl, hc9⟩, hbw⟩
theorem QLh {l : List SP} {vx vy : Value} {w : World} {B : Nat} (hx : Rd w B 2 vx l.length (spsC l)) (hy : Rd w B 2 vy l.length (spsC l)) (hn : l.length ≤ 1000000) : Calls Try.prog 18 #[vx, vy] w fun e w' => e = .returned (.bool true) ∧ Below w.heap.size w w' := by
 obtain ⟨Ax, cx, rfl, _⟩ := hx.shape;obtain ⟨Ay, cy, rfl, _⟩ := hy.shape;have hbw := Below.refl w.heap.size w;refine EC.enter 26 Try.func18 rfl rfl rfl (EC.seq (EC.region (EL.as rfl rfl (EL.nil (EX.seq (EC.seq (EC.seq (EC.region (EL.mv rfl rfl ?_)))))))));refine EL.val (QAT rfl) rfl (EL.mv rfl rfl (EL.val (QAT rfl) rfl ?_));refine EL.val (Zp (r := false) rfl rfl (decide_eq_false (by omega))) rfl ?_
 refine EL.nil (EX.seq (EC.no rfl (EC.skip (EX.seq (EC.seq (EC.seq (EC.region (EL.as rfl rfl (EL.nil ?_)))))))));refine EX.seq (EC.block ?_);refine EC.loopD [4, 5, 11, 12, 13, 14, 15, 16, 17, 18, 19, 20, 21, 22, 23, 24, 25] (fun k : Nat => [(5, .int .i64 (k : Nat))]) (fun k W => k ≤ l.length ∧ Below w.heap.size w W) (fun k => l.length - k) 0 ⟨Nat.zero_le _, hbw⟩ ⟨rfl, trivial⟩ ?_
 clear  hbw
 rintro k wk ⟨hk, hbw⟩
 by_cases hltk : k < l.length
 ·
  obtain ⟨b, o, eA_, _, cc⟩ := QAb l k hltk w B _ _ _ hx
  cases eA_
  obtain ⟨bo, oo, eB_, _, co⟩ := QAb l k hltk w B _ _ _ hy
  cases eB_
  refine EC.seq (EC.seq (EC.region (EL.mv rfl rfl (EL.mv rfl rfl (EL.val (QAT rfl) rfl ?_)))));refine EL.val (ZS (r := true) rfl rfl (decide_eq_true (by omega))) rfl ?_
  refine EL.nil (EX.seq (EC.yes rfl (EC.skip (EX.seq (EC.seq (EC.block (EC.seq ?_)))))));refine EC.regionQ (by kernel_rfl) (by kernel_rfl) ?_
  refine EQ.mv rfl rfl (EQ.mv rfl rfl ?_);refine EQ.val (fun _ hw => (QDh rfl rfl hltk)) rfl ?_
  refine EQ.val (fun _ hw => (QBg rfl (ZB hw (ZB hbw cc.c0)) (ZB hw (ZB hbw cc.c1)))) rfl ?_
  refine EQ.mv rfl rfl (EQ.mv rfl rfl ?_);refine EQ.val (fun _ hw => (QDh rfl rfl hltk)) rfl ?_
  refine EQ.val (fun _ hw => (QBg rfl (ZB hw (ZB hbw co.c0)) (ZB hw (ZB hbw co.c1)))) rfl ?_
  refine EQ.val (fun _ hw => (neSP rfl rfl)) rfl ?_
  refine EQ.fin (fun w1 hw_ => ?_)
  replace hbw := bo_ hbw hw_;clear hw_;refine EX.seq (EC.no rfl (EC.skip (EX.blk (EX.seq (EC.region (EL.mv rfl rfl ?_))))));refine EL.val (ZP rfl rfl (c := ((k + 1 : Nat) : Int)) ((IntWalk.i64_in _ ⟨by first | omega | (simp only; omega), by first | omega | (simp only; omega)⟩).trans (by first | omega | (simp only; omega)))) rfl ?_
  refine EL.as rfl rfl (EL.nil ?_);refine EX.roundD (k + 1) ⟨rfl, trivial⟩ (by repeat first | with_reducible exact .refl _ | refine sp_ rfl ?_ | exact .refl _ | refine sd_ rfl ?_ | refine sn_ ?_) ⟨hltk, hbw⟩ (by omega)
 ·
  obtain rfl : k = l.length := by omega
  refine EC.seq (EC.seq (EC.region (EL.mv rfl rfl (EL.mv rfl rfl (EL.val (QAT rfl) rfl ?_)))));refine EL.val (ZS (r := false) rfl rfl (decide_eq_false (by omega))) rfl ?_
  refine EL.nil (EX.seq (EC.no rfl (EC.exit (EX.seq_exit (EX.seq_exit (EX.blk_here (EX.seq (EC.seq (EC.region ?_)))))))));refine EL.as rfl rfl (EL.nil (EX.seq (EC.ret ?_)))
  exact EX.done (res1 rfl rfl) ⟨rfl, hbw⟩
def betR (th : Bool) (a b : ST) : Bool :=
 if th = true ∧ ¬a.up = b.up then decide (b.up < a.up) else if ¬a.cost = b.cost then decide (a.cost < b.cost) else decide (a.mv < b.mv)
def updG {α : Type} (bet : α → α → Bool) (f : Option α) (d : α) : Option α := match f with
 | none => some d
 | some e => if bet d e = true then some d else some e
def updR (th : Bool) (most : Int) (f : Option Dr) (d : Dr) : Option Dr :=
 if th = true ∧ most < d.s.cost then f else updG (fun a b => betR th a.s b.s) f d
def tryR (th : Bool) (most : Int) (q : QS) : Nat → Option Dr → Dr → Option Dr
 | 0, f, d => if YJ q d.s = true then updR th most f d else f
 | k + 1, f, d => if YJ q d.s = true then updR th most f d else (nextL q d).foldl (tryR th most q k) f
theorem QDV {l : LK} {q : QS} {th : Bool} {most : Int} (hq : QOk l q) : ∀ {k : Nat} {d : Dr} {f : Option Dr}, DrOk l q d → tryR th most q k f d = (YI q k d).foldl (updR th most) f
 | 0, d, f, h => by
  rw [tryR, YI]
  split <;> rfl
 | k + 1, d, f, h => by
  rw [tryR, YI]
  split
  ·rename_i hc
   rw [QCE ((QDH h).1 hc)]
   rfl
  ·rw [List.nil_append]
   have : ∀ (xs : List Dr) (f : Option Dr), (∀ x ∈ xs, DrOk l q x) → xs.foldl (tryR th most q k) f = (xs.flatMap (YI q k)).foldl (updR th most) f := by
    intro xs
    induction xs with
    | nil => intro f _; rfl
    | cons x xs ih =>
     intro f hx;rw [List.foldl_cons, List.flatMap_cons, List.foldl_append, QDV hq (hx x (List.mem_cons_self ..)), ih _ fun y hy => hx y (List.mem_cons_of_mem _ hy)]
   exact this _ _ fun x hx => (QBX hq h hx).1
/-! ### All plans, in the order in which they are tried -/
def lexD (a b : Dr) : Prop := cmpL a.plan b.plan ≤ 0
theorem QHN (p a b : List SP) : cmpL (p ++ a) (p ++ b) = cmpL a b := by
 induction p with
 | nil => rfl
 | cons x p ih =>
  show (if QAC x x = 0 then cmpL (p ++ a) (p ++ b) else _) = _
  rw [if_pos (QHM.self x), ih]
theorem QGz {q : QS} {d e : Dr} (h : e ∈ nextL q d) : ∃ u n, e.plan = d.plan ++ [⟨u, n⟩] := by
 unfold nextL YN at h
 rcases List.mem_append.1 h with h | h <;>
 ·obtain ⟨n, _, rfl⟩ := List.mem_map.1 h
  exact ⟨_, n, rfl⟩
theorem QDI {q : QS} : ∀ {k : Nat} {d e : Dr}, e ∈ YI q k d → ∃ r, e.plan = d.plan ++ r
 | 0, d, e, h => by
  rw [YI] at h
  split at h
  ·rw [List.mem_singleton.1 h]; exact ⟨[], by simp⟩
  ·cases h
 | k + 1, d, e, h => by
  rw [YI] at h
  rcases List.mem_append.1 h with h | h
  ·split at h
   ·rw [List.mem_singleton.1 h]; exact ⟨[], by simp⟩
   ·cases h
  ·obtain ⟨x, hx, h⟩ := List.mem_flatMap.1 h
   obtain ⟨u, n, e1⟩ := QGz hx;obtain ⟨r, e2⟩ := QDI h
   exact ⟨[⟨u, n⟩] ++ r, by rw [e2, e1, List.append_assoc]⟩
/-- the steps that follow a draft, in their order -/
def QMk (a b : Dr) (d : Dr) : Prop := ∃ x y, a.plan = d.plan ++ [x] ∧ b.plan = d.plan ++ [y] ∧ QAC x y < 0
theorem QGy (q : QS) (d : Dr) : (nextL q d).Pairwise fun a b => QMk a b d := by
 have hu : ∀ u, (YN q d u).Pairwise fun a b => QMk a b d := fun u => by
  unfold YN
  rw [List.pairwise_map];have h : (cntU q d.s u).Pairwise (· < ·) := by
   refine List.Pairwise.sublist (List.takeWhile_sublist _) ?_;rw [List.pairwise_map]
   exact List.Pairwise.imp (fun h => by omega) List.pairwise_lt_range
  refine h.imp fun {a b} hab => ⟨⟨u, a⟩, ⟨u, b⟩, rfl, rfl, ?_⟩
  unfold QAC
  rw [QKS];have e1 : cmpI (wyB u) (wyB u) = 0 := QDK.self _;have e2 : cmpI (a : Int) (b : Int) = -1 := by unfold cmpI; rw [if_pos (by omega)]
  show or3 (cmpI (wyB u) (wyB u)) (cmpI (a : Int) (b : Int)) < 0
  rw [e1, e2]
  decide
 unfold nextL
 refine List.pairwise_append.2 ⟨hu false, hu true, fun a ha b hb => ?_⟩
 unfold YN at ha hb
 obtain ⟨n, _, rfl⟩ := List.mem_map.1 ha;obtain ⟨m, _, rfl⟩ := List.mem_map.1 hb;refine ⟨⟨false, n⟩, ⟨true, m⟩, rfl, rfl, ?_⟩
 unfold QAC
 rw [QKS]
 show or3 (cmpI (wyB false) (wyB true)) (cmpI (n : Int) (m : Int)) < 0
 rw [show cmpI (wyB false) (wyB true) = -1 from rfl]
 exact (by decide : (-1 : Int) < 0)
theorem QHL (q : QS) : ∀ (k : Nat) (d : Dr), (YI q k d).Pairwise lexD
 | 0, d => by
  rw [YI]
  split
  ·exact List.pairwise_singleton ..
  ·exact .nil
 | k + 1, d => by
  rw [YI];refine List.pairwise_append.2 ⟨?_, ?_, fun a ha b hb => ?_⟩
  ·split
   ·exact List.pairwise_singleton ..
   ·exact .nil
  ·rw [List.pairwise_flatMap]
   refine ⟨fun x _ => QHL q k x, ?_⟩
   refine (QGy q d).imp fun {x y} h a ha b hb => ?_
   obtain ⟨sx, sy, e1, e2, hc⟩ := h;obtain ⟨ra, e3⟩ := QDI ha;obtain ⟨rb, e4⟩ := QDI hb
   unfold lexD
   rw [e3, e4, e1, e2, List.append_assoc, List.append_assoc, QHN]
   show (if QAC sx sy = 0 then _ else QAC sx sy) ≤ 0
   rw [if_neg (by omega)]
   omega
  ·split at ha
   ·rw [List.mem_singleton.1 ha]
    obtain ⟨x, hx, h⟩ := List.mem_flatMap.1 hb;obtain ⟨u, n, e1⟩ := QGz hx;obtain ⟨r, e2⟩ := QDI h
    unfold lexD
    have := QHN d.plan [] ([⟨u, n⟩] ++ r);rw [List.append_nil] at this;rw [e2, e1, List.append_assoc, this]
    show (-1 : Int) ≤ 0
    decide
   ·cases ha
/-! ### The first of the best -/
theorem QGF {α : Type} {bet : α → α → Bool} {le pre : α → α → Prop} (hr : ∀ a, le a a) (ht : ∀ a b c, le a b → le b c → le a c) (hy : ∀ a b, bet a b = true → le a b) (hn : ∀ a b, bet b a = false → pre a b → le a b) :
  ∀ (rest : List α) (r : α) (done : List α), (∀ x ∈ done, le r x) → r ∈ done → (∀ a ∈ done, ∀ b ∈ rest, pre a b) → rest.Pairwise pre → ∃ r', rest.foldl (updG bet) (some r) = some r' ∧ r' ∈ done ++ rest ∧ ∀ x ∈ done ++ rest, le r' x
 | [], r, done, h1, h2, _, _ => ⟨r, rfl, by simpa using h2, by simpa using h1⟩
 | d :: rest, r, done, h1, h2, h3, h4 => by
  obtain ⟨h5, h6⟩ := List.pairwise_cons.1 h4;have hp : ∀ a ∈ done ++ [d], ∀ b ∈ rest, pre a b := fun a ha b hb => by
   rcases List.mem_append.1 ha with ha | ha
   ·exact h3 a ha b (List.mem_cons_of_mem _ hb)
   ·rw [List.mem_singleton.1 ha]; exact h5 b hb
  rw [List.foldl_cons];have hz : ∀ x, x ∈ done ++ [d] ++ rest ↔ x ∈ done ++ d :: rest := fun x => by simp
  cases hb : bet d r with
  | true =>
   have e : updG bet (some r) d = some d := by simp [updG, hb]
   rw [e];obtain ⟨r', e1, e2, e3⟩ := QGF hr ht hy hn rest d (done ++ [d]) (fun x hx => by
    rcases List.mem_append.1 hx with hx | hx
    ·exact ht _ _ _ (hy _ _ hb) (h1 x hx)
    ·rw [List.mem_singleton.1 hx]; exact hr _) (by simp) hp h6
   exact ⟨r', e1, (hz _).1 e2, fun x hx => e3 x ((hz _).2 hx)⟩
  | false =>
   have e : updG bet (some r) d = some r := by simp [updG, hb]
   rw [e];obtain ⟨r', e1, e2, e3⟩ := QGF hr ht hy hn rest r (done ++ [d]) (fun x hx => by
    rcases List.mem_append.1 hx with hx | hx
    ·exact h1 x hx
    ·rw [List.mem_singleton.1 hx]; exact hn _ _ hb (h3 r h2 d (List.mem_cons_self ..))) (List.mem_append_left _ h2) hp h6
   exact ⟨r', e1, (hz _).1 e2, fun x hx => e3 x ((hz _).2 hx)⟩
theorem QEr {α : Type} {bet : α → α → Bool} {le pre : α → α → Prop} (hr : ∀ a, le a a) (ht : ∀ a b c, le a b → le b c → le a c) (hy : ∀ a b, bet a b = true → le a b) (hn : ∀ a b, bet b a = false → pre a b → le a b) {l : List α} (h : l.Pairwise pre) (h0 : l ≠ []) :
  ∃ r, l.foldl (updG bet) none = some r ∧ r ∈ l ∧ ∀ x ∈ l, le r x := by
 cases l with
 | nil => exact absurd rfl h0
 | cons d l =>
  obtain ⟨h1, h2⟩ := List.pairwise_cons.1 h;obtain ⟨r, e1, e2, e3⟩ := QGF hr ht hy hn l d [d] (fun x hx => by rw [List.mem_singleton.1 hx]; exact hr _) (by simp) (fun a ha b hb => by rw [List.mem_singleton.1 ha]; exact h1 b hb) h2
  exact ⟨r, e1, e2, e3⟩
theorem QHG {α : Type} (bet : α → α → Bool) : ∀ (l : List α) (f : Option α) {d : α}, l.foldl (updG bet) f = some d → True ∧ (f = some d ∨ d ∈ l)
 | [], f, d, h => ⟨trivial, .inl h⟩
 | x :: l, f, d, h => by
  rw [List.foldl_cons] at h;obtain ⟨_, h1 | h1⟩ := QHG bet l _ h
  ·refine ⟨trivial, ?_⟩
   cases f with
   | none => injection h1 with h1; exact .inr (h1 ▸ List.mem_cons_self ..)
   | some e =>
    unfold updG at h1
    simp only at h1
    split at h1
    ·injection h1 with h1; exact .inr (h1 ▸ List.mem_cons_self ..)
    ·exact .inl h1
  ·exact ⟨trivial, .inr (List.mem_cons_of_mem _ h1)⟩
theorem QBj {th : Bool} {most : Int} : ∀ (l : List Dr) (f : Option Dr), l.foldl (updR th most) f = (l.filter fun d => !(th && decide (most < d.s.cost))).foldl (updG fun a b => betR th a.s b.s) f
 | [], f => rfl
 | d :: l, f => by
  rw [List.foldl_cons, List.filter_cons, QBj l]
  by_cases h : th = true ∧ most < d.s.cost
  ·have e : updR th most f d = f := if_pos h
   rw [e, if_neg (by simp [h.1, h.2])]
  ·have e : updR th most f d = updG (fun a b => betR th a.s b.s) f d := if_neg h
   have h2 : (!(th && decide (most < d.s.cost))) = true := by
    cases th
    ·rfl
    ·simp at h ⊢; omega
   rw [e, if_pos h2, List.foldl_cons]
/-! ### The program's choice is the reference's -/
theorem QEw (a b : Int) : (a < b ∧ cmpI a b = -1) ∨ (a = b ∧ cmpI a b = 0) ∨ (b < a ∧ cmpI a b = 1) := by
 unfold cmpI
 by_cases h1 : a < b
 ·exact .inl ⟨h1, if_pos h1⟩
 ·by_cases h2 : b < a
  ·exact .inr (.inr ⟨h2, by rw [if_neg h1, if_pos h2]⟩)
  ·exact .inr (.inl ⟨by omega, by rw [if_neg h1, if_neg h2]⟩)
theorem QGC {a b : Dr} : leD a b ↔ a.s.cost < b.s.cost ∨ a.s.cost = b.s.cost ∧ (a.s.mv < b.s.mv ∨ a.s.mv = b.s.mv ∧ cmpL a.plan b.plan ≤ 0) := by
 unfold leD cmpD
 rw [QMj]
 unfold or3
 rcases QEw a.s.cost b.s.cost with ⟨h, e⟩ | ⟨h, e⟩ | ⟨h, e⟩ <;> rw [e]
 ·rw [if_neg (by decide)]; omega
 ·rw [if_pos rfl]
  rcases QEw a.s.mv b.s.mv with ⟨k, e⟩ | ⟨k, e⟩ | ⟨k, e⟩ <;> rw [e]
  ·rw [if_neg (by decide)]; omega
  ·rw [if_pos rfl]; omega
  ·rw [if_neg (by decide)]; omega
 ·rw [if_neg (by decide)]; omega
def leT (a b : Dr) : Prop := b.s.up < a.s.up ∨ a.s.up = b.s.up ∧ leD a b
theorem QHA (a : Dr) : leT a a := .inr ⟨rfl, QAm a⟩
theorem QFd (a b c : Dr) (h : leT a b) (k : leT b c) : leT a c := by
 rcases h with h | ⟨h, h2⟩ <;> rcases k with k | ⟨k, k2⟩
 ·exact .inl (by omega)
 ·exact .inl (by omega)
 ·exact .inl (by omega)
 ·exact .inr ⟨by omega, Y1 h2 k2⟩
theorem QMW (a b : Dr) (h : betR true a.s b.s = true) : leT a b := by
 unfold betR at h
 unfold leT
 rw [QGC]
 split at h
 ·exact .inl (of_decide_eq_true h)
 ·rename_i h1
  have h1 : a.s.up = b.s.up := by simpa using h1
  split at h <;> have := of_decide_eq_true h <;> omega
theorem QLH (a b : Dr) (h : betR true b.s a.s = false) (hl : lexD a b) : leT a b := by
 unfold betR at h
 unfold leT
 rw [QGC]
 unfold lexD at hl
 split at h
 ·have := of_decide_eq_false h
  omega
 ·rename_i h1
  have h1 : b.s.up = a.s.up := by simpa using h1
  split at h <;> have := of_decide_eq_false h <;> omega
def refB (l : LK) (ts : List TW) (th : Bool) (most : Int) : Option Dr := tryR th most (qL ts) 8 none ⟨stL l, []⟩
theorem QLL (l : LK) (q : QS) : (allD l q).Perm (YI q 8 ⟨stL l, []⟩) := Yg _
theorem QNJ {a b : Dr} (h : leT a b) (k : leT b a) : keyD a = keyD b := by
 rcases h with h | ⟨h, h2⟩ <;> rcases k with k | ⟨k, k2⟩
 ·omega
 ·omega
 ·omega
 ·exact QKl h2 k2
theorem QEJ {most : Int} : ∀ {l : List Dr}, l.Pairwise leD → thrL most l = l.filter fun d => !(true && decide (most < d.s.cost))
 | [], _ => rfl
 | d :: l, h => by
  obtain ⟨h1, h2⟩ := List.pairwise_cons.1 h;have ih := QEJ (most := most) h2
  unfold thrL at ih ⊢
  rw [List.takeWhile_cons, List.filter_cons]
  by_cases hc : d.s.cost ≤ most
  ·rw [if_pos (decide_eq_true hc), if_pos (by simpa using hc), ih]
  ·rw [if_neg (by simpa using hc), if_neg (by simpa using hc)]
   refine (List.filter_eq_nil_iff.2 fun x hx => ?_).symm
   have := QGC.1 (h1 x hx)
   simp
   omega
theorem QLZ (l : List Dr) : thrB l = l.foldl (updG fun a b => decide (b.s.up < a.s.up)) none := by
 unfold thrB
 congr 1
 funext b d
 cases b with
 | none => rfl
 | some e => simp [updB, updG]
theorem QEI {l : LK} {ts : List TW} {most : Int} (h : towE l ts = 0) : Yb l ts most = match refB l ts true most with | none => ([], 0, 7) | some d => (d.plan, d.s.cost, 0) := by
 have hq := QBu h;have h0 := QAr (q := qL ts) hq.lk;have hp := QLL l (qL ts);have hs := QID l (qL ts);have ef := QEJ (most := most) hs;obtain ⟨ok, hok⟩ : ∃ f : Dr → Bool, f = fun d => !(true && decide (most < d.s.cost)) := ⟨_, rfl⟩
 rw [← hok] at ef;have hpf : ((allD l (qL ts)).filter ok).Perm ((YI (qL ts) 8 ⟨stL l, []⟩).filter ok) := hp.filter _;have er : refB l ts true most = ((YI (qL ts) 8 ⟨stL l, []⟩).filter ok).foldl (updG fun a b => betR true a.s b.s) none := by
  unfold refB
  rw [QDV hq h0, QBj, hok]
 have et : thrB (thrL most (allD l (qL ts))) = refB l ts true most := by
  rw [er, ef, QLZ]
  by_cases hn : (allD l (qL ts)).filter ok = []
  ·rw [hn] at hpf ⊢
   rw [hpf.nil_eq.symm]
   rfl
  ·have hn2 : (YI (qL ts) 8 ⟨stL l, []⟩).filter ok ≠ [] := fun e => hn (by rw [e] at hpf; exact hpf.eq_nil)
   obtain ⟨a, a1, a2, a3⟩ := QEr (le := leT) (pre := leD) (bet := fun a b : Dr => decide (b.s.up < a.s.up)) QHA QFd (fun a b h => .inl (of_decide_eq_true h)) (fun a b h hl => by
    have := of_decide_eq_false h
    by_cases e : a.s.up = b.s.up
    ·exact .inr ⟨e, hl⟩
    ·exact .inl (by omega)) (hs.filter _) hn
   obtain ⟨b, b1, b2, b3⟩ := QEr (le := leT) (pre := lexD) (bet := fun a b : Dr => betR true a.s b.s) QHA QFd QMW QLH ((QHL (qL ts) 8 ⟨stL l, []⟩).filter _) hn2
   rw [a1, b1];have ha := hpf.mem_iff.1 a2;have hb := hpf.mem_iff.2 b2;rw [QIz (QLM hq (List.mem_filter.1 a2).1).1 (QLM hq (List.mem_filter.1 hb).1).1 (QNJ (a3 _ hb) (b3 _ ha))]
 unfold Yb
 rw [if_pos h, et]
 cases refB l ts true most <;> rfl
set_option maxRecDepth 100000 in
theorem QHt {l : LK} {ts : List TW} {v : Value} {w : World} {B : Nat} (hr : Rd w B 5 v ts.length (twsC ts)) (hB : B ≤ w.heap.size) (hn : ts.length ≤ 1000000) :
  Calls Try.prog 43 #[.agg #[.int .i64 l.length, .int .i64 l.cycle, .int .i64 l.turn, .int .i64 l.fill, .int .i64 l.save, .bool l.high], v] w fun e w' => (∃ Au cu Ad cd, e = .returned (rsV (.slice Au ((qL ts) true).length cu) (.slice Ad ((qL ts) false).length cd) (.slice none 0 0) (stL l)) ∧ w'.ownsRow w.heap.size 39 5 (.slice Au ((qL ts) true).length cu) ((qL ts) true).length (twsC ((qL ts) true)) ∧ w'.ownsRow w.heap.size 39 5 (.slice Ad ((qL ts) false).length cd) ((qL ts) false).length (twsC ((qL ts) false))) ∧ Below w.heap.size w w' := by
 obtain ⟨At, ct, rfl, _⟩ := hr.shape;have hbw := Below.refl w.heap.size w;refine EC.enter 12 Try.func43 rfl rfl rfl (EC.seq (EC.region (EL.newP (QAD rfl) rfl ?_)));intro g1 w1 q1 hb1 hg1 hl1;have bhbw_1 := Nat.le_trans hbw.size hg1;replace hbw := bo_ hbw hb1;clear hb1 hg1 hl1;refine EL.newP QE_ rfl ?_;intro g2 w2 q2 hb2 hg2 hl2;have n1_2 := q1.na hg2;have bhbw_2 := Nat.le_trans hbw.size hg2;replace q1 := q1.bl hb2;replace hbw := bo_ hbw hb2;clear hb2 hg2 hl2;refine EL.nil (EX.seq (EC.seq ?_));have hsz0 := hbw.size;have lt_1 := q1.lt;have lt_2 := q2.lt;refine EC.regionP [[], [0], [], [0, 1, 2], [], [4], [0, 1, 2, 3, 4, 5], [0, 1, 2, 3, 4, 5, 6]] 7 [] (phi (fun i_ r => match i_ with | 0 => r 0 = .slice At ts.length ct | 2 => r 2 = .slice At ts.length ct | 4 => r 4 = .pointer (some ⟨g1, 5, none⟩) | 5 => r 5 = .bool l.high | _ => True) [(1, fun r w_ => ∃ A_ c_, r 1 = .slice A_ ((qL ts) true).length c_ ∧ w_.ownsRow w2.heap.size 39 5 (.slice A_ ((qL ts) true).length c_) ((qL ts) true).length (twsC ((qL ts) true))), (3, fun r w_ => ∃ A_ c_, r 3 = .slice A_ ((qL ts) false).length c_ ∧ w_.ownsRow w2.heap.size 39 5 (.slice A_ ((qL ts) false).length c_) ((qL ts) false).length (twsC ((qL ts) false))), (6, fun r w_ => ∃ A_ c_ A2_ c2_, r 6 = .agg #[.slice A_ ((qL ts) true).length c_, .slice A2_ ((qL ts) false).length c2_, .int .i64 0, .bool l.high, .slice none 0 0, .int .i64 0, .int .i64 0, .int .i64 0, .int .i64 0, .int .i64 0, .int .i64 0] ∧ w_.ownsRow w2.heap.size 39 5 (.slice A_ ((qL ts) true).length c_) ((qL ts) true).length (twsC ((qL ts) true)) ∧ w_.ownsRow w2.heap.size 39 5 (.slice A2_ ((qL ts) false).length c2_) ((qL ts) false).length (twsC ((qL ts) false)))]) (by kernel_rfl) rfl rfl (Zt (YU (f := fun A c => .slice A ((qL ts) true).length c)) (Zt (YU (f := fun A c => .slice A ((qL ts) false).length c)) (Zt (fun _ _ _ hb ⟨A1, c1, A2, c2, h1, h2, h3⟩ => ⟨A1, c1, A2, c2, h1, ZE h2 hb (Nat.le_refl _), ZE h3 hb (Nat.le_refl _)⟩) (YT)))) (fun i_ hi_ => ?_) ?_
 ·match i_, hi_ with
  | 0, _ =>
   intro val w1 a hb ha hd;have ha := ha.s0 (d := 1) rfl
   exact ZH ha rfl rfl (x_move rfl) rfl rfl
  | 1, _ =>
   intro val w1 a hb ha hd;have e0 : val 0 = _ := hd 0 (ZA.1 rfl);have ha := ha.s1 (d := 5) rfl e0;refine Yl ha rfl rfl (cA2 cF42 rfl rfl) (QEW (u := true) (hr.below ((hbw.trans (hb.mono hbw.size)).mono hB)) (Nat.le_trans hB (Nat.le_trans hbw.size hb.size)) hn) rfl ?_
   rintro e w' ⟨⟨v', rfl, ho⟩, hb'⟩
   obtain ⟨A, c9, rfl, _⟩ := (Rd.of_own ho).shape
   exact ⟨_, rfl, hb', A, c9, rfl, YW ho hb.size⟩
  | 2, _ =>
   intro val w1 a hb ha hd;have ha := ha.s0 (d := 1) rfl
   exact ZH ha rfl rfl (x_move rfl) rfl rfl
  | 3, _ =>
   intro val w1 a hb ha hd;have e2 : val 2 = _ := hd 2 (ZA.1 rfl);have ha := ha.s1 (d := 7) rfl e2;refine Yl ha rfl rfl (cA2 cF42 rfl rfl) (QEW (u := false) (hr.below ((hbw.trans (hb.mono hbw.size)).mono hB)) (Nat.le_trans hB (Nat.le_trans hbw.size hb.size)) hn) rfl ?_
   rintro e w' ⟨⟨v', rfl, ho⟩, hb'⟩
   obtain ⟨A, c9, rfl, _⟩ := (Rd.of_own ho).shape
   exact ⟨_, rfl, hb', A, c9, rfl, YW ho hb.size⟩
  | 4, _ =>
   intro val w1 a hb ha hd;have ha := ha.s0 (d := 2) rfl
   exact ZH ha rfl rfl (QA5 rfl) rfl rfl
  | 5, _ =>
   intro val w1 a hb ha hd;have e4 : val 4 = _ := hd 4 (ZA.1 rfl);have ha := ha.s1 (d := 9) rfl e4
   exact ZH ha rfl rfl (ld_4 rfl ((q1.below hb q1.lt).at (j := 5) rfl)) rfl rfl
  | 6, _ =>
   intro val w1 a hb ha hd;obtain ⟨A1_, c1_, e1, o1_⟩ := hd 1 (ZA.1 rfl);obtain ⟨A3_, c3_, e3, o3_⟩ := hd 3 (ZA.1 rfl);have e5 : val 5 = _ := hd 5 (ZA.1 rfl);have ha := ha.sub (Sub.ins (d := 10) (Sub.ins (d := 8) (Sub.ins (d := 6) (Sub.nil _) (ZO rfl e1)) (ZO rfl e3)) (ZO rfl e5))
   exact ZH ha rfl rfl (QHV rfl rfl rfl) ⟨A1_, c1_, A3_, c3_, rfl, o1_, o3_⟩ rfl
  | k + 7, h => exact absurd h (by omega)
 ·intro val wR1 hb halc hd
  have e0 : val 0 = _ := hd 0 (by omega)
  obtain ⟨A1_, c1_, e1, o1_⟩ := hd 1 (by omega)
  have e2 : val 2 = _ := hd 2 (by omega)
  obtain ⟨A3_, c3_, e3, o3_⟩ := hd 3 (by omega)
  have e4 : val 4 = _ := hd 4 (by omega)
  have e5 : val 5 = _ := hd 5 (by omega)
  obtain ⟨A6_, c6_, B6_, d6_, e6, o6_, p6_⟩ := hd 6 (by omega)
  refine EL.ends (cs := [_, _, _, _, _, _, _]) ⟨e0, e1, e2, e3, e4, e5, e6, trivial⟩ rfl ?_;replace q1 := q1.bl hb;replace q2 := q2.bl hb;replace hbw := bo_ hbw hb;clear hb;replace o6_ := YW o6_ hsz0;replace p6_ := YW p6_ hsz0;refine EL.store rfl rfl q2 QAx rfl rfl rfl rfl ?_;intro w3 hq3 hg3;replace q1 := q1.gr hg3 n1_2;replace o6_ := ZL o6_ q2 rfl hg3;replace p6_ := ZL p6_ q2 rfl hg3;replace hbw := ZD hbw hg3 bhbw_2;replace q2 := hq3;clear hg3 hq3;refine EL.nil (EX.seq (EC.ret ?_))
  exact EX.done (QBt rfl rfl (QDe (q2.at (j := 0) rfl) (q2.at (j := 1) rfl) (q2.at (j := 2) rfl) (q2.at (j := 3) rfl) (q2.at (j := 4) rfl) (q2.at (j := 5) rfl) (q2.at (j := 6) rfl) (q2.at (j := 7) rfl) (q2.at (j := 8) rfl) (q2.at (j := 9) rfl) (q2.at (j := 10) rfl))) ⟨⟨_, _, _, _, rfl, o6_, p6_⟩, hbw⟩
theorem QBU {l : LK} {s : ST} {f M : Int} {Au Ad Ar : Option Addr} {nu cu nd cd nr cr : Nat} (hl : ∃ hi, s.lk = lkW l hi) (hok : lkB l = true) (hB : WtB M s) (hM : M ≤ 1000000000000) (w : World) :
  Calls Try.prog 58 #[.agg #[.int .i64 l.length, .int .i64 l.cycle, .int .i64 l.turn, .int .i64 l.fill, .int .i64 l.save, .bool l.high], .agg #[.slice Au nu cu, .slice Ad nd cd, .int .i64 f, .bool s.lk.high, .slice Ar nr cr, .int .i64 s.cost, .int .i64 s.mv, .int .i64 s.up, .int .i64 s.lo, .int .i64 s.ch, .int .i64 s.ba]] w fun e w' => e = .returned (.agg #[.slice Au nu cu, .slice Ad nd cd, .int .i64 f, .bool (mvS s).lk.high, .slice Ar nr cr, .int .i64 (mvS s).cost, .int .i64 (mvS s).mv, .int .i64 (mvS s).up, .int .i64 (mvS s).lo, .int .i64 (mvS s).ch, .int .i64 (mvS s).ba]) ∧ Below w.heap.size w w' := by
 obtain ⟨hi, hl⟩ := hl;obtain ⟨lk, up, lo, ch, ba, mv, fr, t0, t1, co⟩ := s
 simp only at hl
 subst hl;refine (QLl (hi := hi) (hl := l.high) (le := l.length) (fr := f) (t0 := t0) (t1 := t1) hok ⟨hB.up, hB.lo, hB.ch, hB.mv, hB.ba, hB.hb⟩ hM w).mono fun e w' ⟨he, hb⟩ => ⟨?_, hb⟩
 rw [he]
 cases hi <;> rfl
theorem QNg {l : LK} {s : ST} (h : ∃ hi, s.lk = lkW l hi) : ∃ hi, (mvS s).lk = lkW l hi := by
 obtain ⟨hi, h⟩ := h
 exact ⟨_, by rw [QCV, h, QIk]⟩
theorem QNk {l : LK} {s : ST} (h : ∃ hi, s.lk = lkW l hi) (hok : lkB l = true) : lkB s.lk = true := by
 obtain ⟨hi, h⟩ := h;rw [h]
 exact hok
theorem QL0 {l : LK} {s : ST} {n : Nat} (h : ∃ hi, s.lk = lkW l hi) : ∃ hi, (mvN n s).lk = lkW l hi := by
 obtain ⟨hi, h⟩ := h;obtain ⟨hv, he⟩ := QEg n s
 exact ⟨hv, by rw [he, h, QIk]⟩
theorem QJP {long L : Int} (hL : 0 < L) (h : 0 ≤ long) : (long + L - 1).tdiv L = ((partsN long L : Nat) : Int) := by
 unfold partsN
 rw [Int.tdiv_eq_ediv_of_nonneg (by omega), Int.toNat_of_nonneg (Int.ediv_nonneg (by omega) (by omega))]
set_option maxHeartbeats 1000000 in
set_option maxRecDepth 100000 in
theorem QB_ {l : LK} {s : ST} {u : Bool} {ts ls lu ld : List TW} {rs : List RN} {As Au Ad Ar : Option Addr} {cs cu cd cr : Nat} {w : World} {B : Nat} (h : StOk l s) (htw : ∀ t ∈ ts, twB l t = true) (h8 : s.t0 + s.t1 + ts.length ≤ 8) (h0 : 1 ≤ ts.length) (hn : ts.length ≤ ls.length) (hpre : ls.take ts.length = ts) (hrs : rs.length ≤ 1000)
  (hus : u = true → (Au, lu, cu) = (As, ls, cs)) (hds : u = false → (Ad, ld, cd) = (As, ls, cs)) (hr : Rd w B 5 (.slice As ls.length cs) ls.length (twsC ls)) (hrr : Rd w B 2 (.slice Ar rs.length cr) rs.length (rnsC rs)) (hB : B ≤ w.heap.size) :
  Calls Try.prog 44 #[.agg #[.int .i64 l.length, .int .i64 l.cycle, .int .i64 l.turn, .int .i64 l.fill, .int .i64 l.save, .bool l.high], .agg #[.slice Au lu.length cu, .slice Ad ld.length cd, .int .i64 s.fr, .bool s.lk.high, .slice Ar rs.length cr, .int .i64 s.cost, .int .i64 s.mv, .int .i64 s.up, .int .i64 s.lo, .int .i64 s.ch, .int .i64 s.ba], .agg #[.bool u, .int .i64 (ts.length : Nat)]] w fun e w' => ((fitB l.length ts = true → ∃ Ar' cr', e = .returned (.tuple #[rsV (if u = true then .slice (QBJ As cs ts.length) (ls.length - ts.length) (cs - ts.length) else .slice Au lu.length cu) (if u = true then .slice Ad ld.length cd else .slice (QBJ As cs ts.length) (ls.length - ts.length) (cs - ts.length)) (.slice Ar' (rs.length + 1) cr') (tkS s ts u), .bool true]) ∧ w'.ownsRow w.heap.size 49 2 (.slice Ar' (rs.length + 1) cr') (rs.length + 1) (rnsC rs ++ [.int .i64 (runT s ts u).start, .int .i64 (runT s ts u).stop])) ∧
   (fitB l.length ts = false → e = .returned (.tuple #[.agg #[.slice Au lu.length cu, .slice Ad ld.length cd, .int .i64 s.fr, .bool s.lk.high, .slice Ar rs.length cr, .int .i64 s.cost, .int .i64 s.mv, .int .i64 s.up, .int .i64 s.lo, .int .i64 s.ch, .int .i64 s.ba], .bool false]))) ∧ Below w.heap.size w w' := by
 obtain ⟨bA, oA, rfl, _⟩ := hr.at_ (by omega)
 have hcs : ls.length ≤ cs := by
  obtain ⟨_, _, e, he⟩ := hr.shape
  injection e with _ _ e
  omega
 have hrt : Rd w B 5 (.slice (some ⟨bA, oA, none⟩) ts.length cs) ts.length (twsC ts) := by
  have := Y7 hr hn;rw [← YM, hpre] at this
  exact this
 have h8n : ts.length ≤ 8 := by omega
 have hbw := Below.refl w.heap.size w;refine EC.enter 185 Try.func44 rfl rfl rfl (EC.seq (EC.region (EL.newP (QAD rfl) rfl ?_)));intro g1 w1 q1 hb1 hg1 hl1;have bhbw_1 := Nat.le_trans hbw.size hg1;replace hbw := bo_ hbw hb1;clear hb1 hg1 hl1;refine EL.newP (QDO rfl) rfl ?_;intro g2 w2 q2 hb2 hg2 hl2;have n1_2 := q1.na hg2;have bhbw_2 := Nat.le_trans hbw.size hg2;replace q1 := q1.bl hb2;replace hbw := bo_ hbw hb2;clear hb2 hg2 hl2;refine EL.newP (QLC rfl) rfl ?_;intro g3 w3 q3 hb3 hg3 hl3;have n1_3 := q1.na hg3;have n2_3 := q2.na hg3;have bhbw_3 := Nat.le_trans hbw.size hg3;replace q1 := q1.bl hb3;replace q2 := q2.bl hb3;replace hbw := bo_ hbw hb3;clear hb3 hg3 hl3;refine EL.newP QE_ rfl ?_;intro g4 w4 q4 hb4 hg4 hl4;have n1_4 := q1.na hg4;have n2_4 := q2.na hg4;have n3_4 := q3.na hg4;have bhbw_4 := Nat.le_trans hbw.size hg4;replace q1 := q1.bl hb4;replace q2 := q2.bl hb4;replace q3 := q3.bl hb4;replace hbw := bo_ hbw hb4;clear hb4 hg4 hl4;refine EL.as rfl rfl (EL.nil (EX.seq (EC.seq (EC.region (EL.val (QDA rfl) rfl (EL.val (Yf rfl (q2.at (j := 1) rfl)) rfl (EL.as rfl rfl (EL.nil (EX.seq ?_)))))))));refine EC.cutD [8, 20, 21, 22, 23] (fun _ : Unit => [(8, .slice (some ⟨bA, oA, none⟩) ls.length cs)]) (fun _ W => Blk W g1 23 #[.int .i64 l.length, .int .i64 l.cycle, .int .i64 l.turn, .int .i64 l.fill, .int .i64 l.save, .bool l.high] ∧ Blk W g2 45 #[.slice Au lu.length cu, .slice Ad ld.length cd, .int .i64 s.fr, .bool s.lk.high, .slice Ar rs.length cr, .int .i64 s.cost, .int .i64 s.mv, .int .i64 s.up, .int .i64 s.lo, .int .i64 s.ch, .int .i64 s.ba] ∧ Blk W g3 87 #[.bool u, .int .i64 (ts.length : Nat)] ∧ Blk W g4 45 #[.slice none 0 0, .slice none 0 0, .int .i64 0, .bool false, .slice none 0 0, .int .i64 0, .int .i64 0, .int .i64 0, .int .i64 0, .int .i64 0, .int .i64 0] ∧ Below w.heap.size w W) ?_ ?_
 ·
  refine EC.seq (EC.region (EL.val (QA0 rfl) rfl (EL.val (ld_4 rfl (q3.at (j := 0) rfl)) rfl (EL.nil (EX.seq ?_)))))
  cases u
  ·
   have esel := hds rfl
   simp only [Prod.mk.injEq] at esel
   obtain ⟨rfl, rfl, rfl⟩ := esel;refine EC.no rfl (EC.skip ?_)
   exact EX.cutE () ⟨rfl, trivial⟩ (by repeat first | with_reducible exact (Sub.refl _).del _ | refine sp_ rfl ?_ | exact (Sub.refl _).del _ | refine sd_ rfl ?_ | refine sn_ ?_) ⟨q1, q2, q3, q4, hbw⟩
  ·
   have esel := hus rfl
   simp only [Prod.mk.injEq] at esel
   obtain ⟨rfl, rfl, rfl⟩ := esel;refine EC.yes rfl (EC.region (EL.val (QDB rfl) rfl (EL.val (Yf rfl (q2.at (j := 0) rfl)) rfl (EL.as rfl rfl (EL.nil ?_)))))
   exact EX.cutE () ⟨rfl, trivial⟩ (by repeat first | with_reducible exact (Sub.refl _).del _ | refine sp_ rfl ?_ | exact (Sub.refl _).del _ | refine sd_ rfl ?_ | refine sn_ ?_) ⟨q1, q2, q3, q4, hbw⟩
 ·
  clear q1 q2 q3 q4 hbw
  rintro ⟨⟩ W1 ⟨q1, q2, q3, q4, hbw⟩
  refine EC.seq (EC.region (EL.mv rfl rfl (EL.val (Ym rfl) rfl (EL.val (ld_3 rfl (q3.at (j := 1) rfl)) rfl (EL.val (QCT (hi := ts.length) rfl rfl (Nat.le_trans hn hcs)) rfl (EL.as rfl rfl (EL.nil (EX.seq (EC.seq ?_)))))))));refine EC.region (EL.as rfl rfl (EL.as rfl rfl (EL.nil (EX.seq (EC.seq (EC.seq (EC.region (EL.as rfl rfl (EL.nil ?_)))))))));refine EX.seq (EC.block ?_);refine EC.loopD [9, 10, 11, 28, 29, 30, 31, 32, 33, 34, 35, 36, 37, 38, 39, 40, 41, 42, 43, 44, 45, 46, 47] (fun k : Nat => [(11, .int .i64 (k : Nat)), (9, .int .i64 (ZW (ts.take k))), (10, .int .i64 (arrT (ts.take k)))]) (fun k W => k ≤ ts.length ∧ Blk W g1 23 #[.int .i64 l.length, .int .i64 l.cycle, .int .i64 l.turn, .int .i64 l.fill, .int .i64 l.save, .bool l.high] ∧ Blk W g2 45 #[.slice Au lu.length cu, .slice Ad ld.length cd, .int .i64 s.fr, .bool s.lk.high, .slice Ar rs.length cr, .int .i64 s.cost, .int .i64 s.mv, .int .i64 s.up, .int .i64 s.lo, .int .i64 s.ch, .int .i64 s.ba] ∧ Blk W g3 87 #[.bool u, .int .i64 (ts.length : Nat)] ∧ Blk W g4 45 #[.slice none 0 0, .slice none 0 0, .int .i64 0, .bool false, .slice none 0 0, .int .i64 0, .int .i64 0, .int .i64 0, .int .i64 0, .int .i64 0, .int .i64 0] ∧ Below w.heap.size w W) (fun k => ts.length - k) 0 ⟨Nat.zero_le _, q1, q2, q3, q4, hbw⟩ ⟨rfl, rfl, rfl, trivial⟩ ?_
  clear q1 q2 q3 q4 hbw
  rintro k wk ⟨hk, q1, q2, q3, q4, hbw⟩
  by_cases hltk : k < ts.length
  ·
   obtain ⟨b, o, eb_, _, cc⟩ := Zy ts k hltk w B _ _ _ hrt
   injection eb_ with eb_
   injection eb_ with eb1_ eb2_
   subst eb1_ eb2_;have hy := htw _ (Z1 hltk tw0);have hs1 : ZW (ts.take (k + 1)) = ZW (ts.take k) + (ts.getD k tw0).length := QFO (f := (·.length)) hltk;have hs2 := QFn hltk
   generalize ts.getD k tw0 = y at cc hy hs1 hs2
   obtain ⟨y1, y2, _, _⟩ := QAg hy;have hlb0 := Y_ h.ok;have hk2 := QF2 htw h8n h.ok k;refine EC.seq (EC.seq (EC.region (EL.mv rfl rfl (EL.mv rfl rfl (EL.val (Zs rfl) rfl ?_)))));refine EL.val (ZS (r := true) rfl rfl (decide_eq_true (by omega))) rfl ?_
   refine EL.nil (EX.seq (EC.yes rfl (EC.skip (EX.seq (EC.seq (EC.block ?_))))));refine EC.regionQ (by kernel_rfl) (by kernel_rfl) ?_
   refine EQ.mv rfl rfl (EQ.mv rfl rfl (EQ.mv rfl rfl ?_));refine EQ.val (fun _ hw => (YR rfl rfl hltk)) rfl ?_
   refine EQ.val (fun _ hw => (QD7 rfl)) rfl ?_
   refine EQ.val (fun _ hw => (ld_3 rfl (ZB hw (ZB hbw cc.c2)))) rfl ?_
   refine EQ.val (fun _ hw => (ZP rfl rfl (c := ZW (ts.take (k + 1))) ((IntWalk.i64_in _ ⟨by omega, by omega⟩).trans hs1.symm))) rfl ?_
   refine EQ.mv rfl rfl (EQ.mv rfl rfl (EQ.mv rfl rfl ?_));refine EQ.val (fun _ hw => (YR rfl rfl hltk)) rfl ?_
   refine EQ.val (fun _ hw => (Yn rfl)) rfl ?_
   refine EQ.val (fun _ hw => (ld_3 rfl (ZB hw (ZB hbw cc.c1)))) rfl ?_
   refine EQ.val (fun _ hw => (QEi rfl rfl hs2.symm)) rfl ?_
   refine EQ.val (fun _ hw => (ZZ rfl)) rfl ?_
   refine EQ.val (fun _ hw => (ZZ rfl)) rfl ?_
   refine EQ.fin (fun w5 hw_ => ?_)
   replace q1 := q1.bl hw_;replace q2 := q2.bl hw_;replace q3 := q3.bl hw_;replace q4 := q4.bl hw_;replace hbw := bo_ hbw hw_;clear hw_;refine EX.blk (EX.seq (EC.region (EL.mv rfl rfl ?_)));refine EL.val (ZP rfl rfl (c := ((k + 1 : Nat) : Int)) ((IntWalk.i64_in _ ⟨by first | omega | (simp only; omega), by first | omega | (simp only; omega)⟩).trans (by first | omega | (simp only; omega)))) rfl ?_
   refine EL.as rfl rfl (EL.nil ?_);refine EX.roundD (k + 1) ⟨rfl, rfl, rfl, trivial⟩ (by repeat first | with_reducible exact .refl _ | refine sp_ rfl ?_ | exact .refl _ | refine sd_ rfl ?_ | refine sn_ ?_) ⟨hltk, q1, q2, q3, q4, hbw⟩ (by omega)
  ·
   obtain rfl : k = ts.length := by omega
   rw [List.take_length];have hlg := QF2 htw h8n h.ok ts.length;rw [List.take_length] at hlg;refine EC.seq (EC.seq (EC.region (EL.mv rfl rfl (EL.mv rfl rfl (EL.val (Zs rfl) rfl ?_)))));refine EL.val (ZS (r := false) rfl rfl (decide_eq_false (by omega))) rfl ?_
   refine EL.nil (EX.seq (EC.no rfl (EC.exit (EX.seq_exit (EX.seq_exit (EX.blk_here (EX.seq ?_)))))));refine EC.cutD [7, 48, 49, 50, 51, 52, 53, 54, 55, 56, 57] (fun _ : Unit => []) (fun _ W => fitB l.length ts = true ∧ Blk W g1 23 #[.int .i64 l.length, .int .i64 l.cycle, .int .i64 l.turn, .int .i64 l.fill, .int .i64 l.save, .bool l.high] ∧ Blk W g2 45 #[.slice Au lu.length cu, .slice Ad ld.length cd, .int .i64 s.fr, .bool s.lk.high, .slice Ar rs.length cr, .int .i64 s.cost, .int .i64 s.mv, .int .i64 s.up, .int .i64 s.lo, .int .i64 s.ch, .int .i64 s.ba] ∧ Blk W g3 87 #[.bool u, .int .i64 (ts.length : Nat)] ∧ Blk W g4 45 #[.slice none 0 0, .slice none 0 0, .int .i64 0, .bool false, .slice none 0 0, .int .i64 0, .int .i64 0, .int .i64 0, .int .i64 0, .int .i64 0, .int .i64 0] ∧ Below w.heap.size w W) ?_ ?_
   ·
    refine EC.seq (EC.region (EL.mv rfl rfl (EL.val (Zs rfl) rfl ?_)))
    by_cases h1 : 1 < ts.length
    ·
     refine EL.val (Zm (r := true) rfl rfl (decide_eq_true (by omega))) rfl ?_
     refine EL.mv rfl rfl (EL.mg rfl rfl rfl rfl (EL.valg rfl rfl (Yx rfl) rfl (EL.valg rfl rfl (ld_3 rfl (q1.at (j := 0) rfl)) rfl ?_)))
     by_cases h2 : l.length < ZW ts
     ·
      refine EL.valg rfl rfl (Zm (r := true) rfl rfl (decide_eq_true h2)) rfl (EL.pt rfl rfl rfl (EL.nil (EX.seq (EC.yes rfl (EC.seq (EC.region (EL.val (Yp rfl (q2.at (j := 0) rfl) (q2.at (j := 1) rfl) (q2.at (j := 2) rfl) (q2.at (j := 3) rfl) (q2.at (j := 4) rfl) (q2.at (j := 5) rfl) (q2.at (j := 6) rfl) (q2.at (j := 7) rfl) (q2.at (j := 8) rfl) (q2.at (j := 9) rfl) (q2.at (j := 10) rfl)) rfl (EL.store rfl rfl q4 QAx rfl rfl rfl rfl ?_))))))));intro w6 hq6 hg6;replace q1 := q1.gr hg6 n1_4;replace q2 := q2.gr hg6 n2_4;replace q3 := q3.gr hg6 n3_4;replace hbw := ZD hbw hg6 bhbw_4;replace q4 := hq6;clear hg6 hq6;refine EL.as rfl rfl (EL.nil (EX.seq (EC.ret (EX.seq_ret ?_))))
      exact EX.done (QGp rfl rfl rfl (QDe (q4.at (j := 0) rfl) (q4.at (j := 1) rfl) (q4.at (j := 2) rfl) (q4.at (j := 3) rfl) (q4.at (j := 4) rfl) (q4.at (j := 5) rfl) (q4.at (j := 6) rfl) (q4.at (j := 7) rfl) (q4.at (j := 8) rfl) (q4.at (j := 9) rfl) (q4.at (j := 10) rfl))) ⟨⟨fun hf => absurd hf (by unfold fitB; simp [h1, h2]), fun _ => rfl⟩, hbw⟩
     ·
      refine EL.valg rfl rfl (Zm (r := false) rfl rfl (decide_eq_false h2)) rfl (EL.pt rfl rfl rfl (EL.nil (EX.seq (EC.no rfl (EC.skip ?_)))));refine EX.cutE () trivial (by repeat first | with_reducible exact (Sub.refl _).del _ | refine sp_ rfl ?_ | exact (Sub.refl _).del _ | refine sd_ rfl ?_ | refine sn_ ?_) ⟨by unfold fitB; simp [h2], q1, q2, q3, q4, hbw⟩
    ·
     refine EL.val (Zm (r := false) rfl rfl (decide_eq_false (by omega))) rfl ?_
     refine EL.mv rfl rfl (EL.skip rfl rfl rfl rfl (EL.skip rfl rfl rfl rfl (EL.skip rfl rfl rfl rfl (EL.skip rfl rfl rfl rfl (EL.pf rfl rfl rfl (EL.nil (EX.seq (EC.no rfl (EC.skip ?_)))))))));refine EX.cutE () trivial (by repeat first | with_reducible exact (Sub.refl _).del _ | refine sp_ rfl ?_ | exact (Sub.refl _).del _ | refine sd_ rfl ?_ | refine sn_ ?_) ⟨by unfold fitB; simp [h1], q1, q2, q3, q4, hbw⟩
   ·
    clear q1 q2 q3 q4 hbw
    rintro ⟨⟩ W4 ⟨hfit, q1, q2, q3, q4, hbw⟩
    refine EC.seq ?_;obtain ⟨hr1, hr2, hr3, hr4, hr5, hr6⟩ := QET (u := u) h htw hfit h8;have hlb := Y_ h.ok;have hp3 := QBv htw h.ok hfit;have hlw := QD3 htw h8n h.ok;have hpq := QJP (long := ZW ts) (L := l.length) (by omega) (by omega)
    have hp0 := QDW (long := ZW ts) (L := l.length) (by omega) (by omega)
    obtain ⟨p, hp⟩ : ∃ p, p = partsN (ZW ts) l.length := ⟨_, rfl⟩;rw [← hp] at hp3 hpq hp0;have hfr := h.fr;refine EC.regionQ (by kernel_rfl) (by kernel_rfl) ?_
    refine EQ.mv rfl rfl ?_;refine EQ.val (fun _ hw => (Yx rfl)) rfl ?_
    refine EQ.val (fun _ hw => (ld_3 rfl (ZB hw (q1.at (j := 0) rfl)))) rfl ?_
    refine EQ.val (fun _ hw => (ZP rfl rfl (c := ZW ts + l.length) (IntWalk.i64_in (ZW ts + l.length) ⟨by omega, by omega⟩))) rfl ?_
    refine EQ.val (fun _ hw => (Zv rfl rfl (c := ZW ts + l.length - 1) (IntWalk.i64_in (ZW ts + l.length - 1) ⟨by omega, by omega⟩))) rfl ?_
    refine EQ.val (fun _ hw => (Yx rfl)) rfl ?_
    refine EQ.val (fun _ hw => (ld_3 rfl (ZB hw (q1.at (j := 0) rfl)))) rfl ?_
    refine EQ.val (fun _ hw => (QII rfl rfl (by omega) (c := ((p : Nat) : Int)) (by rw [hpq]; exact IntWalk.i64_in _ ⟨by omega, by omega⟩))) rfl ?_
    refine EQ.val (fun _ hw => (QIw rfl)) rfl ?_
    refine EQ.val (fun _ hw => (ld_3 rfl (ZB hw (q2.at (j := 2) rfl)))) rfl ?_
    refine EQ.val (fun _ hw => (ZZ rfl)) rfl ?_
    refine EQ.val (fun _ hw => (ZZ rfl)) rfl ?_
    refine EQ.fin (fun w7 hw_ => ?_)
    replace q1 := q1.bl hw_;replace q2 := q2.bl hw_;replace q3 := q3.bl hw_;replace q4 := q4.bl hw_;replace hbw := bo_ hbw hw_;clear hw_;refine EX.seq ?_;have hlt : s.lk.turn = l.turn ∧ s.lk.cycle = l.cycle ∧ s.lk.length = l.length := by rw [h.lk]; exact ⟨rfl, rfl, rfl⟩
    refine EC.cutD [13, 68, 69, 70, 71, 72, 73, 74, 75, 76, 77, 78, 79] (fun _ : Unit => [(13, .int .i64 (Ze s u).fr)]) (fun _ W => Blk W g1 23 #[.int .i64 l.length, .int .i64 l.cycle, .int .i64 l.turn, .int .i64 l.fill, .int .i64 l.save, .bool l.high] ∧ Blk W g2 45 #[.slice Au lu.length cu, .slice Ad ld.length cd, .int .i64 s.fr, .bool (Ze s u).lk.high, .slice Ar rs.length cr, .int .i64 (Ze s u).cost, .int .i64 (Ze s u).mv, .int .i64 (Ze s u).up, .int .i64 (Ze s u).lo, .int .i64 (Ze s u).ch, .int .i64 (Ze s u).ba] ∧ Blk W g3 87 #[.bool u, .int .i64 (ts.length : Nat)] ∧ Blk W g4 45 #[.slice none 0 0, .slice none 0 0, .int .i64 0, .bool false, .slice none 0 0, .int .i64 0, .int .i64 0, .int .i64 0, .int .i64 0, .int .i64 0, .int .i64 0] ∧ Below w.heap.size w W) ?_ ?_
    ·
     refine EC.seq (EC.region (EL.val (QD6 rfl) rfl (EL.val (ld_4 rfl (q2.at (j := 3) rfl)) rfl (EL.val (QA0 rfl) rfl (EL.val (ld_4 rfl (q3.at (j := 0) rfl)) rfl ?_)))))
     by_cases hh : s.lk.high = u
     ·
      refine EL.val (QDT (r := true) rfl rfl (decide_eq_true hh)) rfl (EL.nil (EX.seq (EC.yes rfl ?_)));have lt_1 := q1.lt;have lt_2 := q2.lt;have lt_3 := q3.lt;have lt_4 := q4.lt;refine EC.regionS [[], [], [0, 1], [], [], [4], [3, 4, 5], [0, 1, 2], [0, 1, 2, 3, 4, 5, 6, 7]] 8 [] [7] (fun fl w_ => w7.grownBy w_ (some g2) ∧ (fl 7 = false → Blk w_ g2 45 _)) (phiS (fun i_ r => match i_ with | 0 => r 0 = .agg #[.int .i64 l.length, .int .i64 l.cycle, .int .i64 l.turn, .int .i64 l.fill, .int .i64 l.save, .bool l.high] | 1 => r 1 = .agg #[.slice Au lu.length cu, .slice Ad ld.length cd, .int .i64 s.fr, .bool s.lk.high, .slice Ar rs.length cr, .int .i64 s.cost, .int .i64 s.mv, .int .i64 s.up, .int .i64 s.lo, .int .i64 s.ch, .int .i64 s.ba] | 2 => r 2 = .agg #[.slice Au lu.length cu, .slice Ad ld.length cd, .int .i64 s.fr, .bool (mvS s).lk.high, .slice Ar rs.length cr, .int .i64 (mvS s).cost, .int .i64 (mvS s).mv, .int .i64 (mvS s).up, .int .i64 (mvS s).lo, .int .i64 (mvS s).ch, .int .i64 (mvS s).ba] | 3 => r 3 = .int .i64 s.fr | 4 => r 4 = .pointer (some ⟨g1, 2, none⟩) | 5 => r 5 = .int .i64 l.turn | 6 => r 6 = .int .i64 (s.fr + l.turn) | _ => True) [(7, fun _ r w_ => Blk w_ g2 45 #[.slice Au lu.length cu, .slice Ad ld.length cd, .int .i64 s.fr, .bool (mvS s).lk.high, .slice Ar rs.length cr, .int .i64 (mvS s).cost, .int .i64 (mvS s).mv, .int .i64 (mvS s).up, .int .i64 (mvS s).lo, .int .i64 (mvS s).ch, .int .i64 (mvS s).ba])]) (by kernel_rfl) rfl rfl (by intro i hi; simp at hi; first | (subst hi; exact ⟨by simp, by omega⟩) | (rcases hi with rfl | rfl | rfl <;> exact ⟨by simp, by omega⟩) | (rcases hi with rfl | rfl <;> exact ⟨by simp, by omega⟩)) (QAA q2) (ZK QAH (Zb)) (fun i_ hi_ hs_ => ?_) (fun i_ hi_ => ?_) ?_
      ·match i_, hi_ with
       | 0, _ =>
        intro val fl w1 a hb ha hd hfl;obtain ⟨hb, hg0⟩ := hb;have ha := ha.s0 (d := 3) rfl
        exact ZC ha rfl rfl (YY rfl ((q1.grown hb (fun h => n1_2 (Option.some.inj h))).at (j := 0) rfl) ((q1.grown hb (fun h => n1_2 (Option.some.inj h))).at (j := 1) rfl) ((q1.grown hb (fun h => n1_2 (Option.some.inj h))).at (j := 2) rfl) ((q1.grown hb (fun h => n1_2 (Option.some.inj h))).at (j := 3) rfl) ((q1.grown hb (fun h => n1_2 (Option.some.inj h))).at (j := 4) rfl) ((q1.grown hb (fun h => n1_2 (Option.some.inj h))).at (j := 5) rfl)) rfl rfl
       | 1, _ =>
        intro val fl w1 a hb ha hd hfl;obtain ⟨hb, hg0⟩ := hb;have ha := ha.s0 (d := 4) rfl
        exact ZC ha rfl rfl (Yp rfl ((hg0 (hfl 7 (by simp) (ZA.1 rfl))).at (j := 0) rfl) ((hg0 (hfl 7 (by simp) (ZA.1 rfl))).at (j := 1) rfl) ((hg0 (hfl 7 (by simp) (ZA.1 rfl))).at (j := 2) rfl) ((hg0 (hfl 7 (by simp) (ZA.1 rfl))).at (j := 3) rfl) ((hg0 (hfl 7 (by simp) (ZA.1 rfl))).at (j := 4) rfl) ((hg0 (hfl 7 (by simp) (ZA.1 rfl))).at (j := 5) rfl) ((hg0 (hfl 7 (by simp) (ZA.1 rfl))).at (j := 6) rfl) ((hg0 (hfl 7 (by simp) (ZA.1 rfl))).at (j := 7) rfl) ((hg0 (hfl 7 (by simp) (ZA.1 rfl))).at (j := 8) rfl) ((hg0 (hfl 7 (by simp) (ZA.1 rfl))).at (j := 9) rfl) ((hg0 (hfl 7 (by simp) (ZA.1 rfl))).at (j := 10) rfl)) rfl rfl
       | 2, _ =>
        intro val fl w1 a hb ha hd hfl;obtain ⟨hb, hg0⟩ := hb;have e0 : val 0 = _ := hd 0 (ZA.1 rfl);have e1 : val 1 = _ := hd 1 (ZA.1 rfl);have ha := ha.s2 (d := 74) (e := 73) rfl e1 rfl e0;refine Yc ha rfl rfl (cA2 cF58 rfl rfl) (QBU (s := s) (f := s.fr) ⟨_, h.lk⟩ h.ok h.wt (by omega) _) rfl ?_
        rintro e w' ⟨rfl, hb'⟩
        exact ⟨_, rfl, hb', rfl⟩
       | 3, _ =>
        intro val fl w1 a hb ha hd hfl;obtain ⟨hb, hg0⟩ := hb;have ha := ha.s0 (d := 13) rfl
        exact ZC ha rfl rfl (x_move rfl) rfl rfl
       | 4, _ =>
        intro val fl w1 a hb ha hd hfl;obtain ⟨hb, hg0⟩ := hb;have ha := ha.s0 (d := 3) rfl
        exact ZC ha rfl rfl (Yw rfl) rfl rfl
       | 5, _ =>
        intro val fl w1 a hb ha hd hfl;obtain ⟨hb, hg0⟩ := hb;have e4 : val 4 = _ := hd 4 (ZA.1 rfl);have ha := ha.s1 (d := 77) rfl e4
        exact ZC ha rfl rfl (ld_3 rfl ((q1.grown hb (fun h => n1_2 (Option.some.inj h))).at (j := 2) rfl)) rfl rfl
       | 6, _ =>
        intro val fl w1 a hb ha hd hfl;obtain ⟨hb, hg0⟩ := hb;have e3 : val 3 = _ := hd 3 (ZA.1 rfl);have e5 : val 5 = _ := hd 5 (ZA.1 rfl);have ha := ha.s2 (d := 78) (e := 76) rfl e5 rfl e3
        exact ZC ha rfl rfl (ZP rfl rfl (c := s.fr + l.turn) (IntWalk.i64_in (s.fr + l.turn) ⟨by omega, by omega⟩)) rfl rfl
       | 7, _ =>
        exact absurd (by simp) hs_
       | k + 8, h => exact absurd h (by omega)
      ·simp only [List.mem_singleton] at hi_; subst hi_
       intro val fl w1 a hb hfi ha hd hfl;obtain ⟨hb, hg0⟩ := hb;have e2 : val 2 = _ := hd 2 (ZA.1 rfl);have ha := ha.sub (Sub.ins (d := 75) (Sub.ins (d := 4) (Sub.nil _) rfl) (ZO rfl e2));refine Zc ha rfl rfl rfl (hg0 hfi) QAx rfl rfl rfl rfl ?_;intro w' hq hgr;refine ⟨undef, rfl, hgr.size, ⟨Z3 hb hgr, fun h => by rw [ZQ] at h; cases h⟩, hq, fun j _ hj hn hA => ?_⟩
       exact ZF (C := fun j => j ≠ 7 ∧ 7 ∉ clsAt [[], [], [0, 1], [], [], [4], [3, 4, 5], [0, 1, 2], [0, 1, 2, 3, 4, 5, 6, 7]] j ∧ ∀ p ∈ [], (p = j ∨ p ∈ clsAt [[], [], [0, 1], [], [], [4], [3, 4, 5], [0, 1, 2], [0, 1, 2, 3, 4, 5, 6, 7]] j) → ∀ q ∈ [], (q = 7 ∨ q ∈ clsAt [[], [], [0, 1], [], [], [4], [3, 4, 5], [0, 1, 2], [0, 1, 2, 3, 4, 5, 6, 7]] 7) → p ≠ q → val p ≠ val q) (fun hc => absurd rfl hc.1) (fun _ _ h => h) j ⟨hj, hn, hA⟩
      ·intro val fl wR14 hfl hb halc hd
       obtain ⟨hb, _⟩ := hb;have e0 : val 0 = _ := hd 0 (by omega)
       have e1 : val 1 = _ := hd 1 (by omega)
       have e2 : val 2 = _ := hd 2 (by omega)
       have e3 : val 3 = _ := hd 3 (by omega)
       have e4 : val 4 = _ := hd 4 (by omega)
       have e5 : val 5 = _ := hd 5 (by omega)
       have e6 : val 6 = _ := hd 6 (by omega)
       refine EL.ends (cs := [_, _, _, _, _, _, _, val 7]) ⟨e0, e1, e2, e3, e4, e5, e6, rfl, trivial⟩ rfl ?_;replace q1 := q1.gr hb n1_2;have q2 : Blk wR14 g2 45 #[.slice Au lu.length cu, .slice Ad ld.length cd, .int .i64 s.fr, .bool (mvS s).lk.high, .slice Ar rs.length cr, .int .i64 (mvS s).cost, .int .i64 (mvS s).mv, .int .i64 (mvS s).up, .int .i64 (mvS s).lo, .int .i64 (mvS s).ch, .int .i64 (mvS s).ba] := hd 7 (by omega)
       replace q3 := q3.gr hb n2_3.symm;replace q4 := q4.gr hb n2_4.symm;replace hbw := ZD hbw hb bhbw_2;refine EL.as rfl rfl (EL.nil ?_)
       exact EX.cutE () ⟨QCJ (by rw [QEH, if_pos hh, hlt.1]) rfl, trivial⟩ (by repeat first | with_reducible exact (Sub.refl _).del _ | refine sp_ rfl ?_ | exact (Sub.refl _).del _ | refine sd_ rfl ?_ | refine sn_ ?_) ⟨q1, by unfold Ze; rw [if_pos hh]; exact q2, q3, q4, hbw⟩
     ·
      refine EL.val (QDT (r := false) rfl rfl (decide_eq_false hh)) rfl (EL.nil (EX.seq (EC.no rfl (EC.skip ?_))))
      exact EX.cutE () ⟨QCJ (by rw [QEH, if_neg hh]) rfl, trivial⟩ (by repeat first | with_reducible exact (Sub.refl _).del _ | refine sp_ rfl ?_ | exact (Sub.refl _).del _ | refine sd_ rfl ?_ | refine sn_ ?_) ⟨q1, by unfold Ze; rw [if_neg hh]; exact q2, q3, q4, hbw⟩
    ·
     clear q1 q2 q3 q4 hbw
     rintro ⟨⟩ W2 ⟨q1, q2, q3, q4, hbw⟩
     have hSk : ∃ hi, (Ze s u).lk = lkW l hi := ⟨!u, by rw [QBF, h.lk]; rfl⟩
     have hSL : lkB (Ze s u).lk = true := by rw [QBF]; exact h.okL
     have hSW := QDv (u := u) h.wt h.okL;have hSr := QBR s u;have hSc := h.cost;have hrd : runT s ts u = ⟨max (Ze s u).fr (arrT ts), max (Ze s u).fr (arrT ts) - s.lk.turn + partsN (ZW ts) s.lk.length * (s.lk.turn + s.lk.cycle)⟩ := rfl;have hmd : midS s ts u = mvN (2 * partsN (ZW ts) s.lk.length - 1) (Ze s u) := rfl;have htk : tkS s ts u = endS (outS (midS s ts u) ts u (runT s ts u).stop) ts.length u (runT s ts u).stop := rfl;rw [hlt.1, hlt.2.1, hlt.2.2, ← hp] at hrd;rw [hlt.2.2, ← hp] at hmd
     generalize Ze s u = S at *
     have hpc : 0 ≤ (p : Int) * l.cycle ∧ (p : Int) * l.cycle ≤ 3 * 500 := ⟨Int.mul_nonneg (by omega) (by omega), Int.mul_le_mul (by omega) (by omega) (by omega) (by omega)⟩
     have hpt : 0 ≤ ((p : Int) - 1) * l.turn ∧ ((p : Int) - 1) * l.turn ≤ 3 * 500 := ⟨Int.mul_nonneg (by omega) (by omega), Int.mul_le_mul (by omega) (by omega) (by omega) (by omega)⟩
     have hstop : max S.fr (arrT ts) + (p : Int) * l.cycle + ((p : Int) - 1) * l.turn = (runT s ts u).stop := by rw [hrd, Int.sub_mul, Int.one_mul, Int.mul_add]; simp only; omega
     refine EC.seq (EC.region (EL.mv rfl rfl (EL.mv rfl rfl ?_)));refine EL.val (QEi rfl rfl (show max S.fr (arrT ts) = max S.fr (arrT ts) from rfl)) rfl ?_;refine EL.val (QMZ rfl) rfl (EL.newP QCQ rfl ?_);intro g8 w8 q8 hb8 hg8 hl8;have n1_8 := q1.na hg8;have n2_8 := q2.na hg8;have n3_8 := q3.na hg8;have n4_8 := q4.na hg8;have bhbw_8 := Nat.le_trans hbw.size hg8;replace q1 := q1.bl hb8;replace q2 := q2.bl hb8;replace q3 := q3.bl hb8;replace q4 := q4.bl hb8;replace hbw := bo_ hbw hb8;clear hb8 hg8 hl8;refine EL.store rfl rfl q8 QAw rfl rfl rfl rfl ?_;intro w9 hq9 hg9;replace q1 := q1.gr hg9 n1_8;replace q2 := q2.gr hg9 n2_8;replace q3 := q3.gr hg9 n3_8;replace q4 := q4.gr hg9 n4_8;replace hbw := ZD hbw hg9 bhbw_8;replace q8 := hq9;clear hg9 hq9;refine EL.nil (EX.seq (EC.seq (EC.region (EL.val (QC_ rfl) rfl (EL.val (ld_3 rfl (q8.at (j := 0) rfl)) rfl (EL.mv rfl rfl (EL.val (QBc rfl) rfl (EL.val (ld_3 rfl (q1.at (j := 1) rfl)) rfl ?_))))))));refine EL.val (QAR rfl rfl (c := (p : Int) * l.cycle) (IntWalk.i64_in ((p : Int) * l.cycle) ⟨by omega, by omega⟩)) rfl ?_
     refine EL.val (ZP rfl rfl (c := max S.fr (arrT ts) + (p : Int) * l.cycle) (IntWalk.i64_in (max S.fr (arrT ts) + (p : Int) * l.cycle) ⟨by omega, by omega⟩)) rfl ?_
     refine EL.mv rfl rfl ?_;refine EL.val (Zv rfl rfl (c := (p : Int) - 1) (IntWalk.i64_in ((p : Int) - 1) ⟨by omega, by omega⟩)) rfl ?_
     refine EL.val (Yw rfl) rfl (EL.val (ld_3 rfl (q1.at (j := 2) rfl)) rfl ?_);refine EL.val (QAR rfl rfl (c := ((p : Int) - 1) * l.turn) (IntWalk.i64_in (((p : Int) - 1) * l.turn) ⟨by omega, by omega⟩)) rfl ?_
     refine EL.val (ZP rfl rfl (c := (runT s ts u).stop) ((IntWalk.i64_in _ ⟨by omega, by omega⟩).trans hstop)) rfl ?_
     refine EL.val (YF rfl) rfl (EL.store rfl rfl q8 sz_3 rfl rfl rfl rfl ?_);intro w10 hq10 hg10;replace q1 := q1.gr hg10 n1_8;replace q2 := q2.gr hg10 n2_8;replace q3 := q3.gr hg10 n3_8;replace q4 := q4.gr hg10 n4_8;replace hbw := ZD hbw hg10 bhbw_8;replace q8 := hq10;clear hg10 hq10;refine EL.nil (EX.seq (EC.seq (EC.seq (EC.region (EL.as rfl rfl (EL.nil (EX.seq (EC.block ?_))))))));refine EC.loopD [15, 98, 99, 100, 101, 102, 103, 104, 105, 106, 107, 108, 109, 110] (fun j : Nat => [(15, .int .i64 (j : Nat))]) (fun j W => j ≤ p ∧ Blk W g1 23 #[.int .i64 l.length, .int .i64 l.cycle, .int .i64 l.turn, .int .i64 l.fill, .int .i64 l.save, .bool l.high] ∧ Blk W g2 45 #[.slice Au lu.length cu, .slice Ad ld.length cd, .int .i64 s.fr, .bool (mvN (2 * j - 1) S).lk.high, .slice Ar rs.length cr, .int .i64 (mvN (2 * j - 1) S).cost, .int .i64 (mvN (2 * j - 1) S).mv, .int .i64 (mvN (2 * j - 1) S).up, .int .i64 (mvN (2 * j - 1) S).lo, .int .i64 (mvN (2 * j - 1) S).ch, .int .i64 (mvN (2 * j - 1) S).ba] ∧ Blk W g3 87 #[.bool u, .int .i64 (ts.length : Nat)] ∧ Blk W g4 45 #[.slice none 0 0, .slice none 0 0, .int .i64 0, .bool false, .slice none 0 0, .int .i64 0, .int .i64 0, .int .i64 0, .int .i64 0, .int .i64 0, .int .i64 0] ∧ Blk W g8 49 #[.int .i64 (max S.fr (arrT ts)), .int .i64 (runT s ts u).stop] ∧ Below w.heap.size w W) (fun j => p - j) 0 ⟨Nat.zero_le _, q1, q2, q3, q4, q8, hbw⟩ ⟨rfl, trivial⟩ ?_
     clear q1 q2 q3 q4 q8 hbw
     rintro j wj ⟨hj, q1, q2, q3, q4, q8, hbw⟩
     by_cases hltj : j < p
     ·
      have hXk := QL0 (n := 2 * j - 1) hSk;have hXW := QEh hSW hSL (2 * j - 1);refine EC.seq (EC.seq (EC.region (EL.mv rfl rfl (EL.mv rfl rfl ?_))));refine EL.val (ZS (r := true) rfl rfl (decide_eq_true (by omega))) rfl ?_
      refine EL.nil (EX.seq (EC.yes rfl (EC.skip (EX.seq (EC.seq (EC.block (EC.seq (EC.seq (EC.region ?_)))))))));refine EL.mv rfl rfl ?_
      by_cases hj0 : 0 < j
      ·
       have hXe : (mvS (mvS (mvN (2 * j - 1) S))) = (mvN (2 * (j + 1) - 1) S) := by rw [show 2 * (j + 1) - 1 = (2 * j - 1) + 1 + 1 by omega]; rfl
       refine EL.val (Zm (r := true) rfl rfl (decide_eq_true (by omega))) rfl ?_
       refine EL.nil (EX.seq (EC.yes rfl (EC.region (EL.val (YY rfl (q1.at (j := 0) rfl) (q1.at (j := 1) rfl) (q1.at (j := 2) rfl) (q1.at (j := 3) rfl) (q1.at (j := 4) rfl) (q1.at (j := 5) rfl)) rfl (EL.val (Yp rfl (q2.at (j := 0) rfl) (q2.at (j := 1) rfl) (q2.at (j := 2) rfl) (q2.at (j := 3) rfl) (q2.at (j := 4) rfl) (q2.at (j := 5) rfl) (q2.at (j := 6) rfl) (q2.at (j := 7) rfl) (q2.at (j := 8) rfl) (q2.at (j := 9) rfl) (q2.at (j := 10) rfl)) rfl ?_)))));refine EL.call (cA2 cF58 rfl rfl) rfl (QBU (s := (mvN (2 * j - 1) S)) (f := s.fr) hXk h.ok hXW (by omega) _) ?_
       rintro e w11 ⟨rfl, hc11⟩
       refine ⟨_, rfl, ?_⟩;replace q1 := q1.bl hc11;replace q2 := q2.bl hc11;replace q3 := q3.bl hc11;replace q4 := q4.bl hc11;replace q8 := q8.bl hc11;replace hbw := bo_ hbw hc11;clear hc11;refine EL.store rfl rfl q2 QAx rfl rfl rfl rfl ?_;intro w12 hq12 hg12;replace q1 := q1.gr hg12 n1_2;replace q3 := q3.gr hg12 n2_3.symm;replace q4 := q4.gr hg12 n2_4.symm;replace q8 := q8.gr hg12 n2_8.symm;replace hbw := ZD hbw hg12 bhbw_2;replace q2 := hq12;clear hg12 hq12;refine EL.nil (EX.seq (EC.region (EL.val (YY rfl (q1.at (j := 0) rfl) (q1.at (j := 1) rfl) (q1.at (j := 2) rfl) (q1.at (j := 3) rfl) (q1.at (j := 4) rfl) (q1.at (j := 5) rfl)) rfl (EL.val (Yp rfl (q2.at (j := 0) rfl) (q2.at (j := 1) rfl) (q2.at (j := 2) rfl) (q2.at (j := 3) rfl) (q2.at (j := 4) rfl) (q2.at (j := 5) rfl) (q2.at (j := 6) rfl) (q2.at (j := 7) rfl) (q2.at (j := 8) rfl) (q2.at (j := 9) rfl) (q2.at (j := 10) rfl)) rfl ?_))));refine EL.call (cA2 cF58 rfl rfl) rfl (QBU (s := (mvS (mvN (2 * j - 1) S))) (f := s.fr) (QNg hXk) h.ok (QG2 hXW (QNk hXk h.ok)) (by omega) _) ?_
       rintro e w13 ⟨rfl, hc13⟩
       refine ⟨_, rfl, ?_⟩;replace q1 := q1.bl hc13;replace q2 := q2.bl hc13;replace q3 := q3.bl hc13;replace q4 := q4.bl hc13;replace q8 := q8.bl hc13;replace hbw := bo_ hbw hc13;clear hc13;refine EL.store rfl rfl q2 QAx rfl rfl rfl rfl ?_;intro w14 hq14 hg14;replace q1 := q1.gr hg14 n1_2;replace q3 := q3.gr hg14 n2_3.symm;replace q4 := q4.gr hg14 n2_4.symm;replace q8 := q8.gr hg14 n2_8.symm;replace hbw := ZD hbw hg14 bhbw_2;replace q2 := hq14;clear hg14 hq14;refine EL.nil (EX.blk (EX.seq (EC.region (EL.mv rfl rfl ?_))));refine EL.val (ZP rfl rfl (c := ((j + 1 : Nat) : Int)) ((IntWalk.i64_in _ ⟨by first | omega | (simp only; omega), by first | omega | (simp only; omega)⟩).trans (by first | omega | (simp only; omega)))) rfl ?_
       refine EL.as rfl rfl (EL.nil ?_);refine EX.roundD (j + 1) ⟨rfl, trivial⟩ (by repeat first | with_reducible exact .refl _ | refine sp_ rfl ?_ | exact .refl _ | refine sd_ rfl ?_ | refine sn_ ?_) ⟨hltj, q1, (by rw [← hXe]; exact q2), q3, q4, q8, hbw⟩ (by omega)
      ·
       have hXe : (mvS (mvN (2 * j - 1) S)) = (mvN (2 * (j + 1) - 1) S) := by rw [show j = 0 by omega]; rfl
       refine EL.val (Zm (r := false) rfl rfl (decide_eq_false (by omega))) rfl ?_
       refine EL.nil (EX.seq (EC.no rfl (EC.skip (EX.seq (EC.region (EL.val (YY rfl (q1.at (j := 0) rfl) (q1.at (j := 1) rfl) (q1.at (j := 2) rfl) (q1.at (j := 3) rfl) (q1.at (j := 4) rfl) (q1.at (j := 5) rfl)) rfl (EL.val (Yp rfl (q2.at (j := 0) rfl) (q2.at (j := 1) rfl) (q2.at (j := 2) rfl) (q2.at (j := 3) rfl) (q2.at (j := 4) rfl) (q2.at (j := 5) rfl) (q2.at (j := 6) rfl) (q2.at (j := 7) rfl) (q2.at (j := 8) rfl) (q2.at (j := 9) rfl) (q2.at (j := 10) rfl)) rfl ?_)))))));refine EL.call (cA2 cF58 rfl rfl) rfl (QBU (s := (mvN (2 * j - 1) S)) (f := s.fr) hXk h.ok hXW (by omega) _) ?_
       rintro e w15 ⟨rfl, hc15⟩
       refine ⟨_, rfl, ?_⟩;replace q1 := q1.bl hc15;replace q2 := q2.bl hc15;replace q3 := q3.bl hc15;replace q4 := q4.bl hc15;replace q8 := q8.bl hc15;replace hbw := bo_ hbw hc15;clear hc15;refine EL.store rfl rfl q2 QAx rfl rfl rfl rfl ?_;intro w16 hq16 hg16;replace q1 := q1.gr hg16 n1_2;replace q3 := q3.gr hg16 n2_3.symm;replace q4 := q4.gr hg16 n2_4.symm;replace q8 := q8.gr hg16 n2_8.symm;replace hbw := ZD hbw hg16 bhbw_2;replace q2 := hq16;clear hg16 hq16;refine EL.nil (EX.blk (EX.seq (EC.region (EL.mv rfl rfl ?_))));refine EL.val (ZP rfl rfl (c := ((j + 1 : Nat) : Int)) ((IntWalk.i64_in _ ⟨by first | omega | (simp only; omega), by first | omega | (simp only; omega)⟩).trans (by first | omega | (simp only; omega)))) rfl ?_
       refine EL.as rfl rfl (EL.nil ?_);refine EX.roundD (j + 1) ⟨rfl, trivial⟩ (by repeat first | with_reducible exact .refl _ | refine sp_ rfl ?_ | exact .refl _ | refine sd_ rfl ?_ | refine sn_ ?_) ⟨hltj, q1, (by rw [← hXe]; exact q2), q3, q4, q8, hbw⟩ (by omega)
     ·
      obtain rfl : j = p := by omega
      rw [← hmd] at q2;have hMB := QEh hSW hSL (2 * j - 1);have hMr := QCw (2 * j - 1) S;rw [← hmd] at hMB hMr;have hRs : max S.fr (arrT ts) = (runT s ts u).start := by rw [hrd]
      rw [hRs] at q8;clear hrd hstop
      generalize runT s ts u = Rn at *
      generalize midS s ts u = M at *
      have hMB2 := hMB.mono (M := 100000000) (by omega)
      refine EC.seq (EC.seq (EC.region (EL.mv rfl rfl (EL.mv rfl rfl ?_))));refine EL.val (ZS (r := false) rfl rfl (decide_eq_false (by omega))) rfl ?_
      refine EL.nil (EX.seq (EC.no rfl (EC.exit (EX.seq_exit (EX.seq_exit (EX.blk_here (EX.seq (EC.seq (EC.seq ?_)))))))));refine EC.region (EL.as rfl rfl (EL.nil (EX.seq (EC.block ?_))));have hO0 : outS M (ts.take 0) u Rn.stop = M := QEc M u Rn.stop;rw [← hO0] at q2;refine EC.loopD [16, 17, 111, 112, 113, 114, 115, 116, 117, 118, 119, 120, 121, 122, 123, 124, 125, 126, 127, 128, 129, 130, 131, 132, 133, 134, 135, 136, 137, 138, 139, 140, 141, 142, 143, 144, 145, 146, 147, 148, 149, 150, 151, 152, 153, 154, 155, 156, 157, 158] (fun k : Nat => [(16, .int .i64 (k : Nat))]) (fun k W => k ≤ ts.length ∧ Blk W g1 23 #[.int .i64 l.length, .int .i64 l.cycle, .int .i64 l.turn, .int .i64 l.fill, .int .i64 l.save, .bool l.high] ∧ Blk W g2 45 #[.slice Au lu.length cu, .slice Ad ld.length cd, .int .i64 s.fr, .bool (outS M (ts.take k) u Rn.stop).lk.high, .slice Ar rs.length cr, .int .i64 (outS M (ts.take k) u Rn.stop).cost, .int .i64 (outS M (ts.take k) u Rn.stop).mv, .int .i64 (outS M (ts.take k) u Rn.stop).up, .int .i64 (outS M (ts.take k) u Rn.stop).lo, .int .i64 (outS M (ts.take k) u Rn.stop).ch, .int .i64 (outS M (ts.take k) u Rn.stop).ba] ∧ Blk W g3 87 #[.bool u, .int .i64 (ts.length : Nat)] ∧ Blk W g4 45 #[.slice none 0 0, .slice none 0 0, .int .i64 0, .bool false, .slice none 0 0, .int .i64 0, .int .i64 0, .int .i64 0, .int .i64 0, .int .i64 0, .int .i64 0] ∧ Blk W g8 49 #[.int .i64 Rn.start, .int .i64 Rn.stop] ∧ Below w.heap.size w W) (fun k => ts.length - k) 0 ⟨Nat.zero_le _, q1, q2, q3, q4, q8, hbw⟩ ⟨rfl, trivial⟩ ?_
      clear q1 q2 q3 q4 q8 hbw
      rintro k wk ⟨hk, q1, q2, q3, q4, q8, hbw⟩
      by_cases hltk : k < ts.length
      ·
       obtain ⟨b, o, eb_, _, cc⟩ := Zy ts k hltk w B _ _ _ hrt
       injection eb_ with eb_
       injection eb_ with eb1_ eb2_
       subst eb1_ eb2_;have hy := htw _ (Z1 hltk tw0);have hos := QDX M (ts.take k) (ts.getD k tw0) u Rn.stop;rw [← Zz hltk] at hos;obtain ⟨ob1, ob2, ob3⟩ := QHv (e := Rn.stop) u hMB2 htw h8n ⟨by omega, by omega⟩ k
       generalize ts.getD k tw0 = y at cc hy hos
       obtain ⟨y1, y2, y3, y4⟩ := QAg hy;have hcb := QD9 (e := Rn.stop) hy ⟨by omega, by omega⟩
       have hpb := QF1 u hy;refine EC.seq (EC.seq (EC.region (EL.mv rfl rfl (EL.mv rfl rfl (EL.val (Zs rfl) rfl ?_)))));refine EL.val (ZS (r := true) rfl rfl (decide_eq_true (by omega))) rfl ?_
       refine EL.nil (EX.seq (EC.yes rfl (EC.skip (EX.seq (EC.seq (EC.block (EC.seq ?_)))))));have lt_1 := q1.lt;have lt_2 := q2.lt;have lt_3 := q3.lt;have lt_4 := q4.lt;have lt_8 := q8.lt;refine EC.regionP [[], [0], [], [], [2, 3], [2, 3, 4], [2, 3, 4, 5], [], [7], [], [], [9, 10], [9, 10, 11], [9, 10, 11, 12], [7, 8, 9, 10, 11, 12, 13], [2, 3, 4, 5, 6, 7, 8, 9, 10, 11, 12, 13, 14], [0, 1, 2, 3, 4, 5, 6, 7, 8, 9, 10, 11, 12, 13, 14, 15], [0, 1, 2, 3, 4, 5, 6, 7, 8, 9, 10, 11, 12, 13, 14, 15, 16], [0, 1, 2, 3, 4, 5, 6, 7, 8, 9, 10, 11, 12, 13, 14, 15, 16, 17]] 18 [] (phi (fun i_ r => match i_ with | 0 => r 0 = .pointer (some ⟨g2, 5, none⟩) | 1 => r 1 = .int .i64 (outS M (ts.take k) u Rn.stop).cost | 2 => r 2 = .slice (some ⟨bA, oA, none⟩) ts.length cs | 3 => r 3 = .int .i64 (k : Nat) | 4 => r 4 = .pointer (some ⟨bA, oA + k * 5, none⟩) | 5 => r 5 = .pointer (some ⟨bA, oA + k * 5 + 3, none⟩) | 6 => r 6 = .int .i64 y.weight | 7 => r 7 = .pointer (some ⟨g8, 1, none⟩) | 8 => r 8 = .int .i64 Rn.stop | 9 => r 9 = .slice (some ⟨bA, oA, none⟩) ts.length cs | 10 => r 10 = .int .i64 (k : Nat) | 11 => r 11 = .pointer (some ⟨bA, oA + k * 5, none⟩) | 12 => r 12 = .pointer (some ⟨bA, oA + k * 5 + 1, none⟩) | 13 => r 13 = .int .i64 y.arrive | 14 => r 14 = .int .i64 (Rn.stop - y.arrive) | 15 => r 15 = .int .i64 (y.weight * (Rn.stop - y.arrive)) | 16 => r 16 = .int .i64 ((outS M (ts.take k) u Rn.stop).cost + y.weight * (Rn.stop - y.arrive)) | 17 => r 17 = .pointer (some ⟨g2, 5, none⟩) | _ => True) []) (by kernel_rfl) rfl rfl (YT) (fun i_ hi_ => ?_) ?_
       ·match i_, hi_ with
        | 0, _ =>
         intro val w1 a hb ha hd;have ha := ha.s0 (d := 4) rfl
         exact ZH ha rfl rfl (YV rfl) rfl rfl
        | 1, _ =>
         intro val w1 a hb ha hd;have e0 : val 0 = _ := hd 0 (ZA.1 rfl);have ha := ha.s1 (d := 117) rfl e0
         exact ZH ha rfl rfl (ld_3 rfl ((q2.below hb q2.lt).at (j := 5) rfl)) rfl rfl
        | 2, _ =>
         intro val w1 a hb ha hd;have ha := ha.s0 (d := 8) rfl
         exact ZH ha rfl rfl (x_move rfl) rfl rfl
        | 3, _ =>
         intro val w1 a hb ha hd;have ha := ha.s0 (d := 16) rfl
         exact ZH ha rfl rfl (x_move rfl) rfl rfl
        | 4, _ =>
         intro val w1 a hb ha hd;have e2 : val 2 = _ := hd 2 (ZA.1 rfl);have e3 : val 3 = _ := hd 3 (ZA.1 rfl);have ha := ha.s2 (d := 120) (e := 119) rfl e3 rfl e2
         exact ZH ha rfl rfl (YR rfl rfl hltk) rfl rfl
        | 5, _ =>
         intro val w1 a hb ha hd;have e4 : val 4 = _ := hd 4 (ZA.1 rfl);have ha := ha.s1 (d := 121) rfl e4
         exact ZH ha rfl rfl (QDD rfl) rfl rfl
        | 6, _ =>
         intro val w1 a hb ha hd;have e5 : val 5 = _ := hd 5 (ZA.1 rfl);have ha := ha.s1 (d := 122) rfl e5
         exact ZH ha rfl rfl (ld_3 rfl (ZB (hbw.trans (hb.mono hbw.size)) cc.c3)) rfl rfl
        | 7, _ =>
         intro val w1 a hb ha hd;have ha := ha.s0 (d := 14) rfl
         exact ZH ha rfl rfl (YF rfl) rfl rfl
        | 8, _ =>
         intro val w1 a hb ha hd;have e7 : val 7 = _ := hd 7 (ZA.1 rfl);have ha := ha.s1 (d := 124) rfl e7
         exact ZH ha rfl rfl (ld_3 rfl ((q8.below hb q8.lt).at (j := 1) rfl)) rfl rfl
        | 9, _ =>
         intro val w1 a hb ha hd;have ha := ha.s0 (d := 8) rfl
         exact ZH ha rfl rfl (x_move rfl) rfl rfl
        | 10, _ =>
         intro val w1 a hb ha hd;have ha := ha.s0 (d := 16) rfl
         exact ZH ha rfl rfl (x_move rfl) rfl rfl
        | 11, _ =>
         intro val w1 a hb ha hd;have e9 : val 9 = _ := hd 9 (ZA.1 rfl);have e10 : val 10 = _ := hd 10 (ZA.1 rfl);have ha := ha.s2 (d := 127) (e := 126) rfl e10 rfl e9
         exact ZH ha rfl rfl (YR rfl rfl hltk) rfl rfl
        | 12, _ =>
         intro val w1 a hb ha hd;have e11 : val 11 = _ := hd 11 (ZA.1 rfl);have ha := ha.s1 (d := 128) rfl e11
         exact ZH ha rfl rfl (Yn rfl) rfl rfl
        | 13, _ =>
         intro val w1 a hb ha hd;have e12 : val 12 = _ := hd 12 (ZA.1 rfl);have ha := ha.s1 (d := 129) rfl e12
         exact ZH ha rfl rfl (ld_3 rfl (ZB (hbw.trans (hb.mono hbw.size)) cc.c1)) rfl rfl
        | 14, _ =>
         intro val w1 a hb ha hd;have e8 : val 8 = _ := hd 8 (ZA.1 rfl);have e13 : val 13 = _ := hd 13 (ZA.1 rfl);have ha := ha.s2 (d := 130) (e := 125) rfl e13 rfl e8
         exact ZH ha rfl rfl (Zv rfl rfl (c := Rn.stop - y.arrive) (IntWalk.i64_in (Rn.stop - y.arrive) ⟨by omega, by omega⟩)) rfl rfl
        | 15, _ =>
         intro val w1 a hb ha hd;have e6 : val 6 = _ := hd 6 (ZA.1 rfl);have e14 : val 14 = _ := hd 14 (ZA.1 rfl);have ha := ha.s2 (d := 131) (e := 123) rfl e14 rfl e6
         exact ZH ha rfl rfl (QAR rfl rfl (c := y.weight * (Rn.stop - y.arrive)) (IntWalk.i64_in (y.weight * (Rn.stop - y.arrive)) ⟨by omega, by omega⟩)) rfl rfl
        | 16, _ =>
         intro val w1 a hb ha hd;have e1 : val 1 = _ := hd 1 (ZA.1 rfl);have e15 : val 15 = _ := hd 15 (ZA.1 rfl);have ha := ha.s2 (d := 132) (e := 118) rfl e15 rfl e1
         exact ZH ha rfl rfl (ZP rfl rfl (c := (outS M (ts.take k) u Rn.stop).cost + y.weight * (Rn.stop - y.arrive)) (IntWalk.i64_in ((outS M (ts.take k) u Rn.stop).cost + y.weight * (Rn.stop - y.arrive)) ⟨by omega, by omega⟩)) rfl rfl
        | 17, _ =>
         intro val w1 a hb ha hd;have ha := ha.s0 (d := 4) rfl
         exact ZH ha rfl rfl (YV rfl) rfl rfl
        | k + 18, h => exact absurd h (by omega)
       ·intro val wR26 hb halc hd
        have e0 : val 0 = _ := hd 0 (by omega)
        have e1 : val 1 = _ := hd 1 (by omega)
        have e2 : val 2 = _ := hd 2 (by omega)
        have e3 : val 3 = _ := hd 3 (by omega)
        have e4 : val 4 = _ := hd 4 (by omega)
        have e5 : val 5 = _ := hd 5 (by omega)
        have e6 : val 6 = _ := hd 6 (by omega)
        have e7 : val 7 = _ := hd 7 (by omega)
        have e8 : val 8 = _ := hd 8 (by omega)
        have e9 : val 9 = _ := hd 9 (by omega)
        have e10 : val 10 = _ := hd 10 (by omega)
        have e11 : val 11 = _ := hd 11 (by omega)
        have e12 : val 12 = _ := hd 12 (by omega)
        have e13 : val 13 = _ := hd 13 (by omega)
        have e14 : val 14 = _ := hd 14 (by omega)
        have e15 : val 15 = _ := hd 15 (by omega)
        have e16 : val 16 = _ := hd 16 (by omega)
        have e17 : val 17 = _ := hd 17 (by omega)
        refine EL.ends (cs := [_, _, _, _, _, _, _, _, _, _, _, _, _, _, _, _, _, _]) ⟨e0, e1, e2, e3, e4, e5, e6, e7, e8, e9, e10, e11, e12, e13, e14, e15, e16, e17, trivial⟩ rfl ?_;replace q1 := q1.bl hb;replace q2 := q2.bl hb;replace q3 := q3.bl hb;replace q4 := q4.bl hb;replace q8 := q8.bl hb;replace hbw := bo_ hbw hb;clear hb;refine EL.store rfl rfl q2 sz_3 rfl rfl rfl rfl ?_;intro w17 hq17 hg17;replace q1 := q1.gr hg17 n1_2;replace q3 := q3.gr hg17 n2_3.symm;replace q4 := q4.gr hg17 n2_4.symm;replace q8 := q8.gr hg17 n2_8.symm;replace hbw := ZD hbw hg17 bhbw_2;replace q2 := hq17;clear hg17 hq17;refine EL.nil (EX.seq (EC.seq (EC.region (EL.mv rfl rfl (EL.mv rfl rfl (EL.val (YR rfl rfl hltk) rfl (EL.val (QDC rfl) rfl (EL.val (ld_3 rfl (ZB hbw cc.c4)) rfl (EL.as rfl rfl ?_)))))))));refine EL.nil (EX.seq ?_);refine EC.cutD [17, 140, 141, 142, 143, 144] (fun _ : Unit => [(17, .int .i64 (y.push * (2 * wyB u - 1)))]) (fun _ W => Blk W g1 23 #[.int .i64 l.length, .int .i64 l.cycle, .int .i64 l.turn, .int .i64 l.fill, .int .i64 l.save, .bool l.high] ∧ Blk W g2 45 #[.slice Au lu.length cu, .slice Ad ld.length cd, .int .i64 s.fr, .bool (outS M (ts.take k) u Rn.stop).lk.high, .slice Ar rs.length cr, .int .i64 ((outS M (ts.take k) u Rn.stop).cost + y.weight * (Rn.stop - y.arrive)), .int .i64 (outS M (ts.take k) u Rn.stop).mv, .int .i64 (outS M (ts.take k) u Rn.stop).up, .int .i64 (outS M (ts.take k) u Rn.stop).lo, .int .i64 (outS M (ts.take k) u Rn.stop).ch, .int .i64 (outS M (ts.take k) u Rn.stop).ba] ∧ Blk W g3 87 #[.bool u, .int .i64 (ts.length : Nat)] ∧ Blk W g4 45 #[.slice none 0 0, .slice none 0 0, .int .i64 0, .bool false, .slice none 0 0, .int .i64 0, .int .i64 0, .int .i64 0, .int .i64 0, .int .i64 0, .int .i64 0] ∧ Blk W g8 49 #[.int .i64 Rn.start, .int .i64 Rn.stop] ∧ Below w.heap.size w W) ?_ ?_
        ·
         refine EC.seq (EC.region (EL.val (QA0 rfl) rfl (EL.val (ld_4 rfl (q3.at (j := 0) rfl)) rfl (EL.val (ZT rfl) rfl (EL.nil (EX.seq ?_))))))
         cases u
         ·
          refine EC.yes rfl (EC.region (EL.mv rfl rfl ?_));refine EL.val (QJt rfl (by first | assumption | exact IntWalk.i64_in _ ⟨by omega, by omega⟩)) rfl ?_
          refine EL.as rfl rfl (EL.nil ?_)
          exact EX.cutE () ⟨QCJ (by show _ = y.push * (2 * 0 - 1); omega) rfl, trivial⟩ (by repeat first | with_reducible exact (Sub.refl _).del _ | refine sp_ rfl ?_ | exact (Sub.refl _).del _ | refine sd_ rfl ?_ | refine sn_ ?_) ⟨q1, q2, q3, q4, q8, hbw⟩
         ·
          refine EC.no rfl (EC.skip ?_)
          exact EX.cutE () ⟨QCJ (by show _ = y.push * (2 * 1 - 1); omega) rfl, trivial⟩ (by repeat first | with_reducible exact (Sub.refl _).del _ | refine sp_ rfl ?_ | exact (Sub.refl _).del _ | refine sd_ rfl ?_ | refine sn_ ?_) ⟨q1, q2, q3, q4, q8, hbw⟩
        ·
         clear q1 q2 q3 q4 q8 hbw
         rintro ⟨⟩ W3 ⟨q1, q2, q3, q4, q8, hbw⟩
         refine EC.region (EL.val (Z5 rfl) rfl (EL.val (YD rfl) rfl (EL.val (ld_3 rfl (q2.at (j := 7) rfl)) rfl (EL.mv rfl rfl ?_))));refine EL.val (Zv rfl rfl (by first | assumption | exact IntWalk.i64_in _ ⟨by omega, by omega⟩)) rfl ?_
         refine EL.val (Z5 rfl) rfl (EL.val (QAI rfl) rfl (EL.val (ld_3 rfl (q2.at (j := 8) rfl)) rfl (EL.mv rfl rfl ?_)));refine EL.val (ZP rfl rfl (by first | assumption | exact IntWalk.i64_in _ ⟨by omega, by omega⟩)) rfl ?_
         refine EL.val (Z5 rfl) rfl (EL.val (YD rfl) rfl (EL.store rfl rfl q2 sz_3 rfl rfl rfl rfl ?_));intro w18 hq18 hg18;replace q1 := q1.gr hg18 n1_2;replace q3 := q3.gr hg18 n2_3.symm;replace q4 := q4.gr hg18 n2_4.symm;replace q8 := q8.gr hg18 n2_8.symm;replace hbw := ZD hbw hg18 bhbw_2;replace q2 := hq18;clear hg18 hq18;refine EL.val (Z5 rfl) rfl (EL.val (QAI rfl) rfl (EL.store rfl rfl q2 sz_3 rfl rfl rfl rfl ?_));intro w19 hq19 hg19;replace q1 := q1.gr hg19 n1_2;replace q3 := q3.gr hg19 n2_3.symm;replace q4 := q4.gr hg19 n2_4.symm;replace q8 := q8.gr hg19 n2_8.symm;replace hbw := ZD hbw hg19 bhbw_2;replace q2 := hq19;clear hg19 hq19;refine EL.nil (EX.blk (EX.seq (EC.region (EL.mv rfl rfl ?_))));refine EL.val (ZP rfl rfl (c := ((k + 1 : Nat) : Int)) ((IntWalk.i64_in _ ⟨by first | omega | (simp only; omega), by first | omega | (simp only; omega)⟩).trans (by first | omega | (simp only; omega)))) rfl ?_
         refine EL.as rfl rfl (EL.nil ?_);refine EX.roundD (k + 1) ⟨rfl, trivial⟩ (by repeat first | with_reducible exact .refl _ | refine sp_ rfl ?_ | exact .refl _ | refine sd_ rfl ?_ | refine sn_ ?_) ⟨hltk, q1, (by rw [hos]; exact q2), q3, q4, q8, hbw⟩ (by omega)
      ·
       obtain rfl : k = ts.length := by omega
       rw [List.take_length] at q2;refine EC.seq (EC.seq (EC.region (EL.mv rfl rfl (EL.mv rfl rfl (EL.val (Zs rfl) rfl ?_)))));refine EL.val (ZS (r := false) rfl rfl (decide_eq_false (by omega))) rfl ?_
       refine EL.nil (EX.seq (EC.no rfl (EC.exit (EX.seq_exit (EX.seq_exit (EX.blk_here (EX.seq (EC.seq ?_))))))));have hszR := hbw.size;have lt_1 := q1.lt;have lt_2 := q2.lt;have lt_3 := q3.lt;have lt_4 := q4.lt;have lt_8 := q8.lt;refine EC.regionS [[], [0], [], [], [3], [2, 3, 4], [], [6], [2, 3, 4, 5, 6, 7], [0, 1, 3, 4], [0, 1, 2, 3, 4, 5, 6, 7, 8, 9], [0, 1, 2, 3, 4, 5, 6, 7, 8, 9, 10], [0, 1, 2, 3, 4, 5, 6, 7, 8, 9, 10, 11]] 10 [] [8] (fun _ w_ => Below wk.heap.size wk w_) (phiS (fun i_ r => match i_ with | 0 => r 0 = .pointer (some ⟨g8, 1, none⟩) | 1 => r 1 = .int .i64 Rn.stop | 3 => r 3 = .pointer (some ⟨g2, 4, none⟩) | 4 => r 4 = .slice Ar rs.length cr | 6 => r 6 = .agg #[.int .i64 Rn.start, .int .i64 Rn.stop] | 9 => r 9 = .pointer (some ⟨g2, 2, none⟩) | _ => True) [(2, fun fl r w_ => fl 8 = false → (∃ g_, r 2 = .slice (some ⟨g_, 0, none⟩) 0 0 ∧ Blk w_ g_ 49 #[] ∧ wk.heap.size ≤ g_)), (5, fun fl r w_ => fl 8 = false → (∃ A_ c_, r 5 = .slice A_ rs.length c_ ∧ w_.ownsRow wk.heap.size 49 2 (.slice A_ rs.length c_) rs.length (rnsC rs))), (7, fun fl r w_ => fl 8 = false → (∃ g_, r 7 = .slice (some ⟨g_, 0, none⟩) 1 1 ∧ Blk w_ g_ 49 #[.int .i64 Rn.start, .int .i64 Rn.stop] ∧ wk.heap.size ≤ g_)), (8, fun _ r w_ => ∃ A_ c_, r 8 = .slice A_ (rs.length + 1) c_ ∧ w_.ownsRow wk.heap.size 49 2 (.slice A_ (rs.length + 1) c_) (rs.length + 1) (rnsC rs ++ [.int .i64 Rn.start, .int .i64 Rn.stop]))]) (by kernel_rfl) rfl rfl (by intro i hi; simp at hi; subst hi; exact ⟨by simp, by omega⟩) (YG wk) (ZK (Z0 Yj) (ZK (Z0 YU) (ZK (Z0 Yj) (ZK QG3 (Zb))))) (fun i_ hi_ hs_ => ?_) (fun i_ hi_ => ?_) ?_
       ·match i_, hi_ with
        | 0, _ =>
         intro val fl w1 a hb ha hd hfl;have ha := ha.s0 (d := 14) rfl
         exact ZC ha rfl rfl (YF rfl) rfl rfl
        | 1, _ =>
         intro val fl w1 a hb ha hd hfl;have e0 : val 0 = _ := hd 0 (ZA.1 rfl);have ha := ha.s1 (d := 159) rfl e0
         exact ZC ha rfl rfl (ld_3 rfl ((q8.below hb q8.lt).at (j := 1) rfl)) rfl rfl
        | 2, _ =>
         intro val fl w1 a hb ha hd hfl;have ha := ha.sub (Sub.nil _)
         exact Y4 ha rfl rfl (QMQ) rfl (fun g w' hq _ hge => fun _ => ⟨g, rfl, hq, Nat.le_trans hb.size hge⟩)
        | 3, _ =>
         intro val fl w1 a hb ha hd hfl;have ha := ha.s0 (d := 4) rfl
         exact ZC ha rfl rfl (QIv rfl) rfl rfl
        | 4, _ =>
         intro val fl w1 a hb ha hd hfl;have e3 : val 3 = _ := hd 3 (ZA.1 rfl);have ha := ha.s1 (d := 162) rfl e3
         exact ZC ha rfl rfl (QNm rfl ((q2.below hb q2.lt).at (j := 4) rfl)) rfl rfl
        | 5, _ =>
         intro val fl w1 a hb ha hd hfl;obtain ⟨g2_, e2, q2_, h2_⟩ := hd 2 (ZA.1 rfl) (hfl 8 (by simp) (ZA.1 rfl))
         change val 2 = _ at e2;have e4 : val 4 = _ := hd 4 (ZA.1 rfl);have ha := ha.s2 (d := 163) (e := 161) rfl e4 rfl e2;refine QIS QD0 ha rfl rfl rfl q2_ h2_ (hrr.below ((hbw.trans (hb.mono hbw.size)).mono hB)) (rnsC_one _) (by omega) rfl hb.size rfl (fun v' w' ho => fun _ => ?_)
         obtain ⟨A, c9, rfl, _⟩ := (Rd.of_own ho).shape
         exact ⟨A, c9, rfl, ho⟩
        | 6, _ =>
         intro val fl w1 a hb ha hd hfl;have ha := ha.s0 (d := 14) rfl
         exact ZC ha rfl rfl (QC2 rfl ((q8.below hb q8.lt).at (j := 0) rfl) ((q8.below hb q8.lt).at (j := 1) rfl)) rfl rfl
        | 7, _ =>
         intro val fl w1 a hb ha hd hfl;have e6 : val 6 = _ := hd 6 (ZA.1 rfl);have ha := ha.s1 (d := 165) rfl e6
         exact Y4 ha rfl rfl (QGT rfl) rfl (fun g w' hq _ hge => fun _ => ⟨g, rfl, hq, Nat.le_trans hb.size hge⟩)
        | 8, _ =>
         exact absurd (by simp) hs_
        | 9, _ =>
         intro val fl w1 a hb ha hd hfl;have ha := ha.s0 (d := 4) rfl
         exact ZC ha rfl rfl (QIw rfl) rfl rfl
        | k + 10, h => exact absurd h (by omega)
       ·simp only [List.mem_singleton] at hi_; subst hi_
        intro val fl w1 a hb hfi ha hd hfl;obtain ⟨A5_, c5_, e5, o5_⟩ := hd 5 (ZA.1 rfl) hfi;change val 5 = _ at e5;obtain ⟨g7_, e7, q7_, h7_⟩ := hd 7 (ZA.1 rfl) hfi;change val 7 = _ at e7;have ha := ha.s2 (d := 166) (e := 164) rfl e7 rfl e5;refine QAW QD0 ha rfl rfl rfl o5_ (QA9 (l := [.int .i64 Rn.start, .int .i64 Rn.stop]) q7_ rfl) (by intro u hu; simp only [List.mem_cons, List.not_mem_nil, or_false] at hu; rcases hu with rfl | rfl <;> rfl) (by omega) rfl hb.size ?_
        intro v' w' ho' hgr hat;obtain ⟨A9, c9, rfl, _⟩ := (Rd.of_own ho').shape;refine ⟨_, rfl, hgr.size, hb.trans (ZI (YW o5_ (Nat.le_refl _)) hgr hb.size), ⟨A9, c9, rfl, ho'⟩, fun j _ hj hn hA => ?_⟩
        exact ZF (C := fun j => j ≠ 8 ∧ 8 ∉ clsAt [[], [0], [], [], [3], [2, 3, 4], [], [6], [2, 3, 4, 5, 6, 7], [0, 1, 3, 4], [0, 1, 2, 3, 4, 5, 6, 7, 8, 9], [0, 1, 2, 3, 4, 5, 6, 7, 8, 9, 10], [0, 1, 2, 3, 4, 5, 6, 7, 8, 9, 10, 11]] j) (fun _ _ h => by rw [ZQ] at h; cases h) (ZF (fun _ _ h => by rw [ZQ] at h; cases h) (ZF (fun _ _ h => by rw [ZQ] at h; cases h) (ZF (fun hc => absurd rfl hc.1) (fun _ _ h => h)))) j ⟨hj, hn⟩
       ·intro val fl wR31 hfl hb halc hd
        have e0 : val 0 = _ := hd 0 (by omega)
        have e1 : val 1 = _ := hd 1 (by omega)
        have e3 : val 3 = _ := hd 3 (by omega)
        have e4 : val 4 = _ := hd 4 (by omega)
        have e6 : val 6 = _ := hd 6 (by omega)
        obtain ⟨A8_, c8_, e8, o8_⟩ := hd 8 (by omega)
        change val 8 = _ at e8;have e9 : val 9 = _ := hd 9 (by omega)
        refine EL.ends (cs := [_, _, val 2, _, _, val 5, _, val 7, _, _]) ⟨e0, e1, rfl, e3, e4, rfl, e6, rfl, e8, e9, trivial⟩ rfl ?_;replace q1 := q1.bl hb;replace q2 := q2.bl hb;replace q3 := q3.bl hb;replace q4 := q4.bl hb;replace q8 := q8.bl hb;replace hbw := bo_ hbw hb;clear hb;replace o8_ := YW o8_ hszR;refine EL.store rfl rfl q2 sz_3 rfl rfl rfl rfl ?_;intro w20 hq20 hg20;replace q1 := q1.gr hg20 n1_2;replace q3 := q3.gr hg20 n2_3.symm;replace q4 := q4.gr hg20 n2_4.symm;replace q8 := q8.gr hg20 n2_8.symm;replace o8_ := ZL o8_ q2 rfl hg20;replace hbw := ZD hbw hg20 bhbw_2;replace q2 := hq20;clear hg20 hq20;refine EL.val (QIv rfl) rfl (EL.store rfl rfl q2 QNa rfl rfl rfl rfl ?_);intro w21 hq21 hg21;replace q1 := q1.gr hg21 n1_2;replace q3 := q3.gr hg21 n2_3.symm;replace q4 := q4.gr hg21 n2_4.symm;replace q8 := q8.gr hg21 n2_8.symm;replace o8_ := ZL o8_ q2 rfl hg21;replace hbw := ZD hbw hg21 bhbw_2;replace q2 := hq21;clear hg21 hq21;refine EL.nil (EX.seq (EC.seq (EC.seq (EC.region (EL.val (QA0 rfl) rfl (EL.val (ld_4 rfl (q3.at (j := 0) rfl)) rfl (EL.nil (EX.seq ?_))))))))
        cases u
        ·
         have esel := hds rfl
         simp only [Prod.mk.injEq] at esel
         obtain ⟨rfl, rfl, rfl⟩ := esel;refine EC.no rfl (EC.region (EL.val (QDA rfl) rfl (EL.val (Yf rfl (q2.at (j := 1) rfl)) rfl (EL.val (Ym rfl) rfl (EL.val (ld_3 rfl (q3.at (j := 1) rfl)) rfl (EL.val (QHm (lo := ts.length) rfl rfl hn rfl) rfl (EL.val (QDA rfl) rfl (EL.store rfl rfl q2 QIP rfl rfl rfl rfl ?_))))))));intro w22 hq22 hg22;replace q1 := q1.gr hg22 n1_2;replace q3 := q3.gr hg22 n2_3.symm;replace q4 := q4.gr hg22 n2_4.symm;replace q8 := q8.gr hg22 n2_8.symm;replace o8_ := ZL o8_ q2 rfl hg22;replace hbw := ZD hbw hg22 bhbw_2;replace q2 := hq22;clear hg22 hq22;refine EL.nil (EX.seq (EC.seq (EC.region (EL.val (Yp rfl (q2.at (j := 0) rfl) (q2.at (j := 1) rfl) (q2.at (j := 2) rfl) (q2.at (j := 3) rfl) (q2.at (j := 4) rfl) (q2.at (j := 5) rfl) (q2.at (j := 6) rfl) (q2.at (j := 7) rfl) (q2.at (j := 8) rfl) (q2.at (j := 9) rfl) (q2.at (j := 10) rfl)) rfl (EL.store rfl rfl q4 QAx rfl rfl rfl rfl ?_)))));intro w23 hq23 hg23;replace q1 := q1.gr hg23 n1_4;replace q2 := q2.gr hg23 n2_4;replace q3 := q3.gr hg23 n3_4;replace q8 := q8.gr hg23 n4_8.symm;replace o8_ := ZL o8_ q4 rfl hg23;replace hbw := ZD hbw hg23 bhbw_4;replace q4 := hq23;clear hg23 hq23;refine EL.as rfl rfl (EL.nil (EX.seq (EC.ret ?_)))
         exact EX.done (QGp rfl rfl rfl (QDe (q4.at (j := 0) rfl) (q4.at (j := 1) rfl) (q4.at (j := 2) rfl) (q4.at (j := 3) rfl) (q4.at (j := 4) rfl) (q4.at (j := 5) rfl) (q4.at (j := 6) rfl) (q4.at (j := 7) rfl) (q4.at (j := 8) rfl) (q4.at (j := 9) rfl) (q4.at (j := 10) rfl))) ⟨⟨fun _ => ⟨A8_, c8_, by rw [htk]; rfl, o8_⟩, fun hf => absurd (hfit.symm.trans hf) (by decide)⟩, hbw⟩
        ·
         have esel := hus rfl
         simp only [Prod.mk.injEq] at esel
         obtain ⟨rfl, rfl, rfl⟩ := esel;refine EC.yes rfl (EC.region (EL.val (QDB rfl) rfl (EL.val (Yf rfl (q2.at (j := 0) rfl)) rfl (EL.val (Ym rfl) rfl (EL.val (ld_3 rfl (q3.at (j := 1) rfl)) rfl (EL.val (QHm (lo := ts.length) rfl rfl hn rfl) rfl (EL.val (QDB rfl) rfl (EL.store rfl rfl q2 QIP rfl rfl rfl rfl ?_))))))));intro w24 hq24 hg24;replace q1 := q1.gr hg24 n1_2;replace q3 := q3.gr hg24 n2_3.symm;replace q4 := q4.gr hg24 n2_4.symm;replace q8 := q8.gr hg24 n2_8.symm;replace o8_ := ZL o8_ q2 rfl hg24;replace hbw := ZD hbw hg24 bhbw_2;replace q2 := hq24;clear hg24 hq24;refine EL.nil (EX.seq (EC.seq (EC.region (EL.val (Yp rfl (q2.at (j := 0) rfl) (q2.at (j := 1) rfl) (q2.at (j := 2) rfl) (q2.at (j := 3) rfl) (q2.at (j := 4) rfl) (q2.at (j := 5) rfl) (q2.at (j := 6) rfl) (q2.at (j := 7) rfl) (q2.at (j := 8) rfl) (q2.at (j := 9) rfl) (q2.at (j := 10) rfl)) rfl (EL.store rfl rfl q4 QAx rfl rfl rfl rfl ?_)))));intro w25 hq25 hg25;replace q1 := q1.gr hg25 n1_4;replace q2 := q2.gr hg25 n2_4;replace q3 := q3.gr hg25 n3_4;replace q8 := q8.gr hg25 n4_8.symm;replace o8_ := ZL o8_ q4 rfl hg25;replace hbw := ZD hbw hg25 bhbw_4;replace q4 := hq25;clear hg25 hq25;refine EL.as rfl rfl (EL.nil (EX.seq (EC.ret ?_)))
         exact EX.done (QGp rfl rfl rfl (QDe (q4.at (j := 0) rfl) (q4.at (j := 1) rfl) (q4.at (j := 2) rfl) (q4.at (j := 3) rfl) (q4.at (j := 4) rfl) (q4.at (j := 5) rfl) (q4.at (j := 6) rfl) (q4.at (j := 7) rfl) (q4.at (j := 8) rfl) (q4.at (j := 9) rfl) (q4.at (j := 10) rfl))) ⟨⟨fun _ => ⟨A8_, c8_, by rw [htk]; rfl, o8_⟩, fun hf => absurd (hfit.symm.trans hf) (by decide)⟩, hbw⟩
/-- a slice that is read, in a block behind g -/
def RdX (w : World) (g size : Nat) (v : Value) (n : Nat) (xs : List Value) : Prop :=
 xs.length = n * size ∧ ∃ A c, v = .slice A n c ∧ n ≤ c ∧ (0 < n → ∃ b off, A = some ⟨b, off, none⟩ ∧ b < w.heap.size ∧ g < b ∧ ∀ j u, xs[j]? = some u → w.cell? ⟨b, off + j, none⟩ = some u)
section
variable {w w' : World} {B g size n : Nat} {v : Value} {xs : List Value}
theorem RdX.rd (h : RdX w g size v n xs) : Rd w w.heap.size size v n xs := by
 obtain ⟨hl, A, c, e, hc, h⟩ := h;refine ⟨hl, A, c, e, hc, fun h0 => ?_⟩
 obtain ⟨b, o, e, hb, _, h⟩ := h h0
 exact ⟨b, o, e, hb, h⟩
theorem RdX.grown (h : RdX w g size v n xs) (hg : w.grownBy w' (some g)) : RdX w' g size v n xs := by
 obtain ⟨hl, A, c, e, hc, h⟩ := h;refine ⟨hl, A, c, e, hc, fun h0 => ?_⟩
 obtain ⟨b, o, e, hb, hn, h⟩ := h h0
 exact ⟨b, o, e, Nat.lt_of_lt_of_le hb hg.size, hn, fun j u hu => (World.cell?_of_block (hg.block b hb fun e => by injection e with e; omega)).trans (h j u hu)⟩
theorem RdX.nil_ (w : World) (g size c : Nat) (A : Option Addr) : RdX w g size (.slice A 0 c) 0 [] := ⟨by simp, A, c, rfl, Nat.zero_le _, fun h => absurd h (by omega)⟩
theorem RdX.grown2 {g2 : Nat} (h : RdX w g size v n xs) (hg : w.grownBy w' (some g2)) (h2 : g2 ≤ g) : RdX w' g size v n xs := by
 obtain ⟨hl, A, c, e, hc, h⟩ := h;refine ⟨hl, A, c, e, hc, fun h0 => ?_⟩
 obtain ⟨b, o, e, hb, hn, h⟩ := h h0
 exact ⟨b, o, e, Nat.lt_of_lt_of_le hb hg.size, hn, fun j u hu => (World.cell?_of_block (hg.block b hb fun e => by injection e with e; omega)).trans (h j u hu)⟩
theorem RdX.of_own {base : Nat} {e : TypeId} (h : w.ownsRow base e size v n xs) (hg : g < base) : RdX w g size v n xs := by
 have hr := Rd.of_own h;obtain ⟨hl, ⟨rfl, rfl⟩ | ⟨b, cap, cur, rfl, hbg, _⟩⟩ := h
 ·exact ⟨hl, none, 0, rfl, Nat.le_refl _, fun h => absurd h (by omega)⟩
 ·obtain ⟨hl2, A, c, e1, hc, h2⟩ := hr
  injection e1 with e1 e2 e3
  subst e1 e3;refine ⟨hl, _, _, rfl, hc, fun h0 => ?_⟩
  obtain ⟨b2, o, e4, hb, h⟩ := h2 h0
  injection e4 with e4
  injection e4 with e5 e6
  subst e5 e6
  exact ⟨_, _, rfl, hb, by omega, h⟩
theorem RdX.rest {A : Option Addr} {m c lo : Nat} {ts : List TW} (hr : RdX w g 5 (.slice A m c) m (twsC ts)) (hlo : lo ≤ m) : RdX w g 5 (.slice (QBJ A c lo) (m - lo) (c - lo)) (m - lo) (twsC (ts.drop lo)) := by
 obtain ⟨hl, A2, c2, e, hc2, hrr⟩ := hr
 injection e with e1 _ e3
 subst e1 e3;have hd : twsC (ts.drop lo) = (twsC ts).drop (lo * 5) := QCa QAu ts lo;refine ⟨by rw [hd, List.length_drop, hl]; omega, _, _, rfl, by omega, fun h0 => ?_⟩
 obtain ⟨b, off, e2, hb2, hn, hcell⟩ := hrr (by omega)
 subst e2;refine ⟨b, _, rfl, hb2, hn, fun j u hu => ?_⟩
 rw [if_neg (by omega)]
 rw [hd, List.getElem?_drop] at hu;have := hcell (lo * 5 + j) u hu;rw [← Nat.add_assoc] at this
 exact this
theorem QD5 (w : World) (g : Nat) : w.grownBy w (some g) := ⟨rfl, rfl, rfl, Nat.le_refl _, fun _ _ _ => rfl⟩
theorem Zw {W W' : World} (h : w.grownBy W (some g)) (hb : Below W.heap.size W W') : w.grownBy W' (some g) := Yi h hb
theorem QC6 {W W' : World} {k : Nat} (h : w.grownBy W (some g)) (hg : W.grownBy W' (some k)) (hk : w.heap.size ≤ k) : w.grownBy W' (some g) := World.grownBy.andThen h hg fun j e => by
 injection e with e
 exact .inl (e ▸ hk)
end
theorem QLX (q : QS) (s : ST) (ts : List TW) (u v : Bool) : waitL q (tkS s ts u) v = if v = u then (waitL q s u).drop ts.length else waitL q s v := by
 unfold waitL
 rw [QFr]
 by_cases h : v = u
 ·rw [if_pos h, if_pos h, List.drop_drop, h]
 ·rw [if_neg h, if_neg h]
/-! ### What was found -/
def fO (b : Option Dr) : Dr := b.getD dr0
def fndC (b : Option Dr) (vp vu vd vr : Value) : Array Value := #[.bool b.isSome, vp, vu, vd, .int .i64 (fO b).s.fr, .bool (fO b).s.lk.high, vr, .int .i64 (fO b).s.cost, .int .i64 (fO b).s.mv, .int .i64 (fO b).s.up, .int .i64 (fO b).s.lo, .int .i64 (fO b).s.ch, .int .i64 (fO b).s.ba]
def FndM (w : World) (g : Nat) (b : Option Dr) : Prop := ∃ Ap cp Au nu cu Ad nd cd Ar nr cr, Blk w g 54 (fndC b (.slice Ap (fO b).plan.length cp) (.slice Au nu cu) (.slice Ad nd cd) (.slice Ar nr cr)) ∧ RdX w g 2 (.slice Ap (fO b).plan.length cp) (fO b).plan.length (spsC (fO b).plan)
/-! ### The loops of the search -/
section
variable {q : QS} {d : Dr} {u : Bool} {n k : Nat} {th : Bool} {most : Int} {b : Option Dr}
theorem QDZ (t : TW) (ts : List TW) : ZW (t :: ts) = t.length + ZW ts := by simp [ZW, sumF]
theorem QFb : ∀ {ts : List TW} {n : Nat}, (∀ t ∈ ts, 0 ≤ t.length) → ZW (ts.take n) ≤ ZW (ts.take (n + 1))
 | [], _, _ => by simp
 | t :: ts, 0, h => by
  rw [List.take_zero, List.take_succ_cons, List.take_zero, QDZ];have := h t (List.mem_cons_self ..);have e : ZW [] = 0 := rfl
  omega
 | t :: ts, n + 1, h => by
  rw [List.take_succ_cons, List.take_succ_cons, QDZ, QDZ];have := QFb (ts := ts) (n := n) fun x hx => h x (List.mem_cons_of_mem _ hx)
  omega
theorem QK3 {l : LK} (hq : QOk l q) (hn : n + 2 ≤ (waitL q d.s u).length) (h : fitN q d.s u (n + 2) = true) : fitN q d.s u (n + 1) = true := by
 unfold fitN fitB at *
 have hl : ∀ t ∈ waitL q d.s u, 0 ≤ t.length := fun t ht => by
  have := (QAg (hq.tw u t (List.mem_of_mem_drop ht))).2.1
  omega
 have h1 : ZW ((waitL q d.s u).take (n + 1)) ≤ ZW ((waitL q d.s u).take (n + 2)) := QFb (n := n + 1) hl;have e : ((waitL q d.s u).take (n + 2)).length = n + 2 := Zd (by omega)
 have e1 : ((waitL q d.s u).take (n + 1)).length = n + 1 := Zd (by omega)
 rw [e] at h;rw [e1];have a : decide (1 < n + 2) = true := decide_eq_true (by omega)
 rw [a, Bool.true_and] at h;have h2 : ¬d.s.lk.length < ZW ((waitL q d.s u).take (n + 2)) := by simpa using h
 have h3 : ¬d.s.lk.length < ZW ((waitL q d.s u).take (n + 1)) := by omega
 rw [decide_eq_false h3, Bool.and_false]
 rfl
theorem QME {l : LK} (hq : QOk l q) (hn : n < (waitL q d.s u).length) : fitN q d.s u (n + 1) = true ↔ n < (cntU q d.s u).length := by
 refine ⟨fun h => ?_, QGN⟩
 rcases Nat.lt_or_ge n (cntU q d.s u).length with h1 | h1
 ·exact h1
 ·exfalso
  have hx : fitN q d.s u ((cntU q d.s u).length + 1) = false := by
   have := QB2 (q := q) (s := d.s) (u := u) (Nat.le_refl (cntU q d.s u).length) (by omega)
   cases e : fitN q d.s u ((cntU q d.s u).length + 1)
   ·rfl
   ·exact absurd (this.1 e) (Nat.lt_irrefl _)
  have : ∀ j, (cntU q d.s u).length + j ≤ n → fitN q d.s u (n - j + 1) = true := by
   intro j
   induction j with
   | zero => intro _; exact h
   | succ j ih =>
    intro hj;have h2 := ih (by omega)
    have e : n - j + 1 = (n - (j + 1)) + 2 := by omega
    rw [e] at h2
    exact QK3 hq (by omega) h2
  have h3 := this (n - (cntU q d.s u).length) (by omega)
  rw [show n - (n - (cntU q d.s u).length) = (cntU q d.s u).length by omega, hx] at h3
  cases h3
/-- what is found before, and while, the steps of a way are tried -/
def accI (th : Bool) (most : Int) (q : QS) (k : Nat) (b : Option Dr) (d : Dr) (u : Bool) : Option Dr := if u = true then (YN q d false).foldl (tryR th most q k) b else b
def accN (th : Bool) (most : Int) (q : QS) (k : Nat) (b : Option Dr) (d : Dr) (u : Bool) (n : Nat) : Option Dr := ((YN q d u).take n).foldl (tryR th most q k) (accI th most q k b d u)
theorem QLQ (h : n < (cntU q d.s u).length) : accN th most q k b d u (n + 1) = tryR th most q k (accN th most q k b d u n) (oneD q d u (n + 1)) := by
 unfold accN
 have hl : n < (YN q d u).length := by unfold YN; rw [List.length_map]; exact h
 rw [Zz (d := dr0) hl, List.foldl_append];have e : (YN q d u).getD n dr0 = oneD q d u (n + 1) := by
  unfold YN
  rw [QKa (a := 0) h, QH7 h]
 rw [e]
 rfl
theorem QMe (h : ¬n < (cntU q d.s u).length) : accN th most q k b d u (n + 1) = accN th most q k b d u n := by
 unfold accN
 have hl : (YN q d u).length = (cntU q d.s u).length := by unfold YN; rw [List.length_map]
 rw [List.take_of_length_le (by omega), List.take_of_length_le (by omega)]
theorem QHc (h : (waitL q d.s u).length ≤ n) : accN th most q k b d u n = (YN q d u).foldl (tryR th most q k) (accI th most q k b d u) := by
 unfold accN
 have hl : (YN q d u).length = (cntU q d.s u).length := by unfold YN; rw [List.length_map]
 have := QD_ (q := q) (s := d.s) (u := u);rw [List.take_of_length_le (by omega)]
theorem QJl (h : (waitL q d.s false).length ≤ n) : accN th most q k b d false n = accI th most q k b d true := by
 rw [QHc h]
 rfl
theorem QLP (h : (waitL q d.s true).length ≤ n) (hc : YJ q d.s = false) : accN th most q k b d true n = tryR th most q (k + 1) b d := by
 rw [QHc h, tryR, if_neg (by rw [hc]; decide)]
 unfold nextL
 rw [List.foldl_append]
 rfl
theorem QFi {l : LK} (h : DrOk l q d) : YJ q d.s = true ↔ (waitL q d.s true).length + (waitL q d.s false).length = 0 := by
 rw [QDH h, YL, YL]
 unfold remD
 show _ ↔ ((q true).length - d.s.t1) + ((q false).length - d.s.t0) = 0
 omega
theorem QFM (hc : YJ q d.s = true) : tryR th most q k b d = updR th most b d := by
 cases k <;> rw [tryR, if_pos hc]
/-! ### A draft that is complete -/
theorem QJv (h : th = true) (hc : ¬d.s.cost ≤ most) : updR th most b d = b := if_pos ⟨h, by omega⟩
theorem QIK (h : th = false ∨ d.s.cost ≤ most) (hb : b = none) : updR th most b d = some d := by
 subst hb
 unfold updR
 rw [if_neg (by rintro ⟨h1, h2⟩; rcases h with h | h; rw [h1] at h; cases h; omega)]
 rfl
theorem QDu {e : Dr} (h : th = false ∨ d.s.cost ≤ most) : updR th most (some e) d = if betR th d.s e.s = true then some d else some e := by
 unfold updR
 rw [if_neg (by rintro ⟨h1, h2⟩; rcases h with h | h; rw [h1] at h; cases h; omega)]
 rfl
end
section
variable {n : Nat} {σ : Sg} {w : World} {dst : Option Tmp} {ty : TypeId} {pos : String} {af : Array Edge} {g : Option (Nat × Bool)} {x y z : Operand} {at' : Array TypeId}
theorem cF13 : cF 13 := fun _ _ => by simp [go_sem]
theorem cF18 : cF 18 := fun _ _ => by simp [go_sem]
theorem cF20 : cF 20 := fun _ _ => by simp [go_sem]
end
set_option maxRecDepth 100000 in
theorem QH9 (th : Bool) (s s' : ST) (Au Ad Ar : Option Addr) (nu cu nd cd nr cr : Nat) (Bu Bd Br : Option Addr) (mu du md dd mr dr : Nat) (w : World) : Calls Try.prog 66 #[.agg #[.slice Au nu cu, .slice Ad nd cd, .int .i64 s.fr, .bool s.lk.high, .slice Ar nr cr, .int .i64 s.cost, .int .i64 s.mv, .int .i64 s.up, .int .i64 s.lo, .int .i64 s.ch, .int .i64 s.ba], .agg #[.slice Bu mu du, .slice Bd md dd, .int .i64 s'.fr, .bool s'.lk.high, .slice Br mr dr, .int .i64 s'.cost, .int .i64 s'.mv, .int .i64 s'.up, .int .i64 s'.lo, .int .i64 s'.ch, .int .i64 s'.ba], .bool th] w fun e w' => e = .returned (.bool (betR th s s')) ∧ Below w.heap.size w w' := by
 have hbw := Below.refl w.heap.size w;refine EC.enter 39 Try.func66 rfl rfl rfl ?_
 cases th
 ·
  refine EC.seq (EC.region (EL.newP (QDO rfl) rfl ?_));intro g1 w1 q1 hb1 hg1 hl1;have bhbw_1 := Nat.le_trans hbw.size hg1;replace hbw := bo_ hbw hb1;clear hb1 hg1 hl1;refine EL.newP (QDO rfl) rfl ?_;intro g2 w2 q2 hb2 hg2 hl2;have n1_2 := q1.na hg2;have bhbw_2 := Nat.le_trans hbw.size hg2;replace q1 := q1.bl hb2;replace hbw := bo_ hbw hb2;clear hb2 hg2 hl2;refine EL.as rfl rfl (EL.nil (EX.seq (EC.seq (EC.seq (EC.region (EL.mv rfl rfl (EL.mv rfl rfl (EL.skip rfl rfl rfl rfl (EL.skip rfl rfl rfl rfl ?_)))))))));refine EL.skip rfl rfl rfl rfl (EL.skip rfl rfl rfl rfl (EL.skip rfl rfl rfl rfl (EL.skip rfl rfl rfl rfl (EL.skip rfl rfl rfl rfl (EL.pf rfl rfl rfl (EL.nil (EX.seq (EC.no rfl (EC.skip ?_)))))))));refine EX.seq (EC.seq (EC.seq (EC.region (EL.val (YV rfl) rfl (EL.val (ld_3 rfl (q1.at (j := 5) rfl)) rfl (EL.val (YV rfl) rfl (EL.val (ld_3 rfl (q2.at (j := 5) rfl)) rfl ?_)))))))
  by_cases hc : s.cost = s'.cost
  ·
   refine EL.val (Zp (r := false) rfl rfl (decide_eq_false (by simpa using hc))) rfl ?_
   refine EL.nil (EX.seq (EC.no rfl (EC.skip (EX.seq (EC.seq (EC.region (EL.val (QA2 rfl) rfl (EL.val (ld_3 rfl (q1.at (j := 6) rfl)) rfl (EL.val (QA2 rfl) rfl ?_)))))))));refine EL.val (ld_3 rfl (q2.at (j := 6) rfl)) rfl (EL.val (ZS (r := decide (s.mv < s'.mv)) rfl rfl rfl) rfl (EL.as rfl rfl (EL.nil (EX.seq (EC.ret ?_)))))
   exact EX.done (res1 rfl rfl) ⟨by unfold betR; simp [*], hbw⟩
  ·
   refine EL.val (Zp (r := true) rfl rfl (decide_eq_true hc)) rfl (EL.nil (EX.seq (EC.yes rfl (EC.seq (EC.region (EL.val (YV rfl) rfl (EL.val (ld_3 rfl (q1.at (j := 5) rfl)) rfl (EL.val (YV rfl) rfl (EL.val (ld_3 rfl (q2.at (j := 5) rfl)) rfl ?_)))))))));refine EL.val (ZS (r := decide (s.cost < s'.cost)) rfl rfl rfl) rfl (EL.as rfl rfl (EL.nil (EX.seq (EC.ret (EX.seq_ret ?_)))))
   exact EX.done (res1 rfl rfl) ⟨by unfold betR; simp [*], hbw⟩
 ·
  refine EC.seq (EC.region (EL.newP (QDO rfl) rfl ?_));intro g3 w3 q3 hb3 hg3 hl3;have bhbw_3 := Nat.le_trans hbw.size hg3;replace hbw := bo_ hbw hb3;clear hb3 hg3 hl3;refine EL.newP (QDO rfl) rfl ?_;intro g4 w4 q4 hb4 hg4 hl4;have n3_4 := q3.na hg4;have bhbw_4 := Nat.le_trans hbw.size hg4;replace q3 := q3.bl hb4;replace hbw := bo_ hbw hb4;clear hb4 hg4 hl4;refine EL.as rfl rfl (EL.nil (EX.seq (EC.seq (EC.seq (EC.region (EL.mv rfl rfl (EL.mv rfl rfl (EL.valg rfl rfl (Z5 rfl) rfl (EL.valg rfl rfl (YD rfl) rfl ?_)))))))));refine EL.valg rfl rfl (ld_3 rfl (q3.at (j := 7) rfl)) rfl (EL.valg rfl rfl (Z5 rfl) rfl (EL.valg rfl rfl (YD rfl) rfl (EL.valg rfl rfl (ld_3 rfl (q4.at (j := 7) rfl)) rfl ?_)))
  by_cases hu : s.up = s'.up
  ·
   refine EL.valg rfl rfl (Zp (r := false) rfl rfl (decide_eq_false (by simpa using hu))) rfl ?_
   refine EL.pt rfl rfl rfl (EL.nil (EX.seq (EC.no rfl (EC.skip (EX.seq (EC.seq (EC.seq (EC.region (EL.val (YV rfl) rfl ?_)))))))));refine EL.val (ld_3 rfl (q3.at (j := 5) rfl)) rfl (EL.val (YV rfl) rfl (EL.val (ld_3 rfl (q4.at (j := 5) rfl)) rfl ?_))
   by_cases hc : s.cost = s'.cost
   ·
    refine EL.val (Zp (r := false) rfl rfl (decide_eq_false (by simpa using hc))) rfl ?_
    refine EL.nil (EX.seq (EC.no rfl (EC.skip (EX.seq (EC.seq (EC.region (EL.val (QA2 rfl) rfl (EL.val (ld_3 rfl (q3.at (j := 6) rfl)) rfl (EL.val (QA2 rfl) rfl ?_)))))))));refine EL.val (ld_3 rfl (q4.at (j := 6) rfl)) rfl (EL.val (ZS (r := decide (s.mv < s'.mv)) rfl rfl rfl) rfl (EL.as rfl rfl (EL.nil (EX.seq (EC.ret ?_)))))
    exact EX.done (res1 rfl rfl) ⟨by unfold betR; simp [*], hbw⟩
   ·
    refine EL.val (Zp (r := true) rfl rfl (decide_eq_true hc)) rfl (EL.nil (EX.seq (EC.yes rfl (EC.seq (EC.region (EL.val (YV rfl) rfl (EL.val (ld_3 rfl (q3.at (j := 5) rfl)) rfl (EL.val (YV rfl) rfl (EL.val (ld_3 rfl (q4.at (j := 5) rfl)) rfl ?_)))))))));refine EL.val (ZS (r := decide (s.cost < s'.cost)) rfl rfl rfl) rfl (EL.as rfl rfl (EL.nil (EX.seq (EC.ret (EX.seq_ret ?_)))))
    exact EX.done (res1 rfl rfl) ⟨by unfold betR; simp [*], hbw⟩
  ·
   refine EL.valg rfl rfl (Zp (r := true) rfl rfl (decide_eq_true hu)) rfl (EL.pt rfl rfl rfl (EL.nil (EX.seq (EC.yes rfl (EC.seq (EC.region (EL.val (Z5 rfl) rfl (EL.val (YD rfl) rfl (EL.val (ld_3 rfl (q3.at (j := 7) rfl)) rfl ?_)))))))));refine EL.val (Z5 rfl) rfl (EL.val (YD rfl) rfl (EL.val (ld_3 rfl (q4.at (j := 7) rfl)) rfl (EL.val (Zm (r := decide (s'.up < s.up)) rfl rfl rfl) rfl (EL.as rfl rfl (EL.nil (EX.seq (EC.ret (EX.seq_ret ?_))))))))
   exact EX.done (res1 rfl rfl) ⟨by unfold betR; simp [*], hbw⟩
section
variable {n : Nat} {σ : Sg} {w : World} {dst : Option Tmp} {ty : TypeId} {pos : String} {af : Array Edge} {g : Option (Nat × Bool)} {x y z : Operand} {at' : Array TypeId}
theorem QA1 {b o : Nat} (hx : evS σ x = some (.pointer (some ⟨b, o, none⟩))) : ZJ Try.prog n σ w ⟨dst, .fieldAddr 54 x 0, ty, pos, af, g⟩ (.pointer (some ⟨b, o, none⟩)) := fun a ha => by
 simp only [execOp, ha.eval hx]
 simp [go_sem]
theorem QC9 {b o : Nat} (hx : evS σ x = some (.pointer (some ⟨b, o, none⟩))) : ZJ Try.prog n σ w ⟨dst, .fieldAddr 54 x 2, ty, pos, af, g⟩ (.pointer (some ⟨b, o + 2, none⟩)) := fun a ha => by
 simp only [execOp, ha.eval hx]
 simp [go_sem]
theorem cF66 : cF 66 := fun _ _ => by simp [go_sem]
theorem QHU {x0 x1 x2 : Operand} {b0 : Bool} {A1 : Option Addr} {m1 : Nat} {c1 : Nat} {v2_0 : Value} {v2_1 : Value} {v2_2 : Value} {v2_3 : Value} {v2_4 : Value} {v2_5 : Value} {v2_6 : Value} {v2_7 : Value} {v2_8 : Value} {v2_9 : Value} {v2_10 : Value} (h0 : evS σ x0 = some (.bool b0)) (h1 : evS σ x1 = some (.slice A1 m1 c1)) (h2 : evS σ x2 = some (.agg #[v2_0, v2_1, v2_2, v2_3, v2_4, v2_5, v2_6, v2_7, v2_8, v2_9, v2_10])) : ZJ Try.prog n σ w ⟨dst, .build 54 #[(0, x0), (1, x1), (2, x2)], ty, pos, af, g⟩ (.agg #[.bool b0, .slice A1 m1 c1, v2_0, v2_1, v2_2, v2_3, v2_4, v2_5, v2_6, v2_7, v2_8, v2_9, v2_10]) := fun a ha => by
 simp only [execOp, List.map_toArray, List.map_cons, List.map_nil, ha.eval h0, ha.eval h1, ha.eval h2]
 go_simp
theorem QGg : (Try.prog.info? 54).map (·.size) = some 13 := by kernel_rfl
theorem cA6 {F : FuncId} (hF : cF F) {x0 x1 x2 x3 x4 x5 : Operand} {v0 v1 v2 v3 v4 v5 : Value} (h0 : evS σ x0 = some v0) (h1 : evS σ x1 = some v1) (h2 : evS σ x2 = some v2) (h3 : evS σ x3 = some v3) (h4 : evS σ x4 = some v4) (h5 : evS σ x5 = some v5) (a : Act) (ha : Env n σ a) : (execOp a.eval ⟨dst, .call { callee := .value (.func F), args := #[x0, x1, x2, x3, x4, x5], argTypes := at' }, ty, pos, af, g⟩).run Try.prog w = .ok (.enter F #[v0, v1, v2, v3, v4, v5]) w := by
 simp only [execOp, resolve, List.map_toArray, List.map_cons, List.map_nil, ha.eval h0, ha.eval h1, ha.eval h2, ha.eval h3, ha.eval h4, ha.eval h5]
 simp [go_sem, Act.eval, hF _ _]
theorem cF47 : cF 47 := fun _ _ => by simp [go_sem]
end
end Go.Proofs.Ytlbfnimilcnihaa
